/- Joined texts of this session: PaJ, PaLines, Awake15, Evx, XEq60, Xhucksterref15One, Xhucksterref15Same. -/
import Derived.Deep.LoopGhost
import Derived.Test.YtmhenlilcikgmaaJE1
import Derived.Test.YtmhenlilcikgmaaJE2
import Derived.Test.YtmhenlilcikgmaaJE3
/- parse.Lines, walked. -/
set_option linter.unusedSimpArgs false
set_option linter.unusedVariables false
namespace Go.Proofs.Ytmhenlilcikgmaa.X
open Go.RowKit Go.Proofs.YtmhenlilcikgmaaW.PrintWords Go.Proofs.YtmhenlilcikgmaaW.PrintLast Go.Proofs.YtmhenlilcikgmaaW.PrintMore

/-- What is told of a text's lines. -/
def LinesPost (w : World) (x : List Dl × Int × Int) (e : Ending) (w' : World) : Prop :=
  ∃ v : Value, e = .returned (.tuple #[v, .int .i64 x.2.1, .int .i64 x.2.2]) ∧ Kd.R k29 29 w' w.heap.size (fun _ => True) v x.1 ∧ Below w.heap.size w w'
theorem leaves_congr {P : Program} {fn : Func} {t t' : Array Value} {R : Ending → World → Prop} (ht : results fn t = results fn t') : ∀ {ds : List Deferred} {u : FrameMode} {w : World}, Leaves P fn t R ds u w → Leaves P fn t' R ds u w
  | [], .returning, w, h => by
    obtain ⟨v, h1, h2⟩ := h
    exact ⟨v, by rw [← ht]; exact h1, h2⟩
  | [], .panicking c, w, h => h
  | [], .run, w, h => h
  | d :: ds, u, w, h => by
    obtain ⟨h1, fv, cap, f, args, h2, h3, h4⟩ := h
    refine ⟨h1, fv, cap, f, args, h2, h3, ?_⟩
    refine h4.mono ?_
    rintro (v | c | _) u' w' h
    · exact leaves_congr ht h
    · exact leaves_congr ht h
    · exact h
/-- What the deferred literal makes of a fault. -/
theorem door_fault {w W : World} {s : ByteArray} {tmps : Array Value} {gl gn ge : Nat} {vl : Value} {n0 e0 : Int} {x : Int × Int}
    (hres : ∀ (W : World) (v n e : Value), W.cell? ⟨gl, 0, none⟩ = some v → W.cell? ⟨gn, 0, none⟩ = some n → W.cell? ⟨ge, 0, none⟩ = some e → (results Try.f6 tmps).run Try.prog W = .ok (.tuple #[v, n, e]) W)
    (hl : W.heap[gl]? = some (.cells #[vl] 23 (0, 0))) (hn : W.heap[gn]? = some (.cells #[.int .i64 n0] 3 (0, 0))) (he : W.heap[ge]? = some (.cells #[.int .i64 e0] 24 (0, 0))) (hb : Below w.heap.size w W) (hg : w.heap.size ≤ gl ∧ w.heap.size ≤ gn ∧ w.heap.size ≤ ge) (hR : parseLines s = ([], x.1, x.2)) :
    Leaves Try.prog Try.f6 tmps (fun e w' => LinesPost w (parseLines s) e w') [{ target := Target.fn (Fn.func 12) #[.pointer (some ⟨gl, 0, none⟩), .pointer (some ⟨gn, 0, none⟩), .pointer (some ⟨ge, 0, none⟩)], args := #[] }] (.panicking [{ v := faultV x, recovered := false }]) W := by
  refine leaves_cons (f := 12) (args := #[.pointer (some ⟨gl, 0, none⟩), .pointer (some ⟨gn, 0, none⟩), .pointer (some ⟨ge, 0, none⟩)]) (by simp) (by simp [go_sem]) ?_
  refine (catch_fault gl gn ge vl n0 e0 x W hl hn he).mono ?_
  rintro e u' w' ⟨rfl, rfl, h1, h2, h3, h4⟩
  refine ⟨_, hres w' _ _ _ ((blk_cell h1 0).trans rfl) ((blk_cell h2 0).trans rfl) ((blk_cell h3 0).trans rfl), ?_⟩
  show LinesPost w (parseLines s) _ _
  rw [hR]
  exact ⟨_, rfl, Kd.R_nil _ _ _ _ _, h4 w hb hg.1 hg.2.1 hg.2.2⟩
/-- .. and where there is none. -/
theorem door_idle {w W : World} {s : ByteArray} {tmps : Array Value} {gl gn ge : Nat} {vl : Value} {n0 e0 : Int} {ds : List Dl}
    (hres : ∀ (W : World) (v n e : Value), W.cell? ⟨gl, 0, none⟩ = some v → W.cell? ⟨gn, 0, none⟩ = some n → W.cell? ⟨ge, 0, none⟩ = some e → (results Try.f6 tmps).run Try.prog W = .ok (.tuple #[v, n, e]) W)
    (hl : W.heap[gl]? = some (.cells #[vl] 23 (0, 0))) (hn : W.heap[gn]? = some (.cells #[.int .i64 n0] 3 (0, 0))) (he : W.heap[ge]? = some (.cells #[.int .i64 e0] 24 (0, 0))) (hb : Below w.heap.size w W) (hv : Kd.R k29 29 W w.heap.size (fun _ => True) vl ds) (hR : parseLines s = (ds, n0, e0)) :
    Leaves Try.prog Try.f6 tmps (fun e w' => LinesPost w (parseLines s) e w') [{ target := Target.fn (Fn.func 12) #[.pointer (some ⟨gl, 0, none⟩), .pointer (some ⟨gn, 0, none⟩), .pointer (some ⟨ge, 0, none⟩)], args := #[] }] .returning W := by
  refine leaves_cons (f := 12) (args := #[.pointer (some ⟨gl, 0, none⟩), .pointer (some ⟨gn, 0, none⟩), .pointer (some ⟨ge, 0, none⟩)]) (by simp) (by simp [go_sem]) ?_
  refine (catch_idle gl gn ge W).mono ?_
  rintro e u' w' ⟨rfl, rfl, h4⟩
  refine ⟨_, hres w' _ _ _ ((blk_cell (blk_below hl h4) 0).trans rfl) ((blk_cell (blk_below hn h4) 0).trans rfl) ((blk_cell (blk_below he h4) 0).trans rfl), ?_⟩
  show LinesPost w (parseLines s) _ _
  rw [hR]
  exact ⟨_, rfl, Kd.R_below hv h4, below_step hb h4⟩
theorem below_keep0 {w0 w W W' : World} {p : Nat} (hb : Below w.heap.size w W) (hk : KeepBut W W' p none) (hp : w.heap.size ≤ p) (h1 : KB w0 W p) (h0 : KB w0 W' p) : Below w.heap.size w W' :=
  ⟨h0.1.trans (h1.1.symm.trans hb.os), h0.2.1.trans (h1.2.1.symm.trans hb.tape), h0.2.2.1.trans (h1.2.2.1.symm.trans hb.output), Nat.le_trans hb.size hk.1, fun k hk' => (hk.2 k (Nat.lt_of_lt_of_le hk' hb.size) (by omega) (by simp)).trans (hb.block k hk')⟩
theorem below_keep {w0 w W W' : World} {p : Nat} {ts ts' : List Tk} (hb : Below w.heap.size w W) (hk : KeepBut W W' p none) (hp : w.heap.size ≤ p) (h1 : PS w0 W p ts') (h0 : PS w0 W' p ts) : Below w.heap.size w W' := below_keep0 hb hk hp h1.2.1 h0.2.1
theorem R_pskD {w0 w w1 : World} {p base : Nat} {ts : List Tk} {v : Value} {xs : List Dl} (h : Kd.R k29 29 w base (fun _ => True) v xs) (hp : PS w0 w p ts) (hk : KeepBut w w1 p none) : Kd.R k29 29 w1 base (fun _ => True) v xs := by
  obtain ⟨cs, hb⟩ := hp.pblk
  exact Kd.R_mono (Kd.R_keep (Kd.R_types h hb (by decide)) hk (fun _ hk => hk.2)) (fun _ _ => trivial)
theorem res65 (t : Array Value) (N : Nat) (v : Value) (hN : (4 < N) = true) : results Try.f6 (t.setIfInBounds N v) = results Try.f6 t := by
  have h : 4 < N := by simpa using hN
  have h2 : ∀ j, j < 5 → (t.setIfInBounds N v)[j]? = t[j]? := fun j hj => Array.getElem?_setIfInBounds_ne (by omega)
  simp [results, Try.results6, Array.getD_eq_getD_getElem?, h2]
theorem lq65 {R : Ending → World → Prop} {N : Nat} (hN : (4 < N) = true) {v : Value} {c : List PanicEntry} {a : Act} {w : World} (h : bodyPostD Try.prog Try.f6 R (.panic c) (a.put (some N) v) w) : bodyPostD Try.prog Try.f6 R (.panic c) a w :=
  leaves_congr (res65 a.tmps N v hN) h
set_option maxHeartbeats 16000000 in
set_option maxRecDepth 1000000 in
theorem lines_call (s : ByteArray) (w : World) : Calls Try.prog 6 #[.string s] w fun e w' => LinesPost w (parseLines s) e w' := by
  have hmf : ∀ (fn : Fn) (first cap : Array Value) (w : World), (Instr.makeFunc fn first cap).run Try.prog w = .ok (.func fn first cap) w := fun _ _ _ _ => rfl
  go_enter_defers Try.func6, Try.ntmps6
  go_upto_region 1 with (first | ((with_reducible refine gate_dst (N := 2) rfl ?_); refine box_event ?hg (N := 2) ?hd (cs := #[.slice none 0 0]) (t := 23) ?hr ?_; (case hd => rfl); (case hg => rfl); (case hr => first | (go_simp; done) | (go_simp; rfl)); intro gl hg_ w1 hbox hb; have HB1 := Aside0.mk hb; have BK1 := Aside0.mk hbox; have HG1 := Aside0.mk hg_; clear hb hbox hg_) | ((with_reducible refine gate_dst (N := 3) rfl ?_); refine box_event ?hg (N := 3) ?hd (cs := #[.int .i64 0]) (t := 3) ?hr ?_; (case hd => rfl); (case hg => rfl); (case hr => first | (go_simp; done) | (go_simp; rfl)); intro gn hg_ w2 hbox hb; have HB2 := Aside0.mk hb; have BK2 := Aside0.mk hbox; have HG2 := Aside0.mk hg_; clear hb hbox hg_) | ((with_reducible refine gate_dst (N := 4) rfl ?_); refine box_event ?hg (N := 4) ?hd (cs := #[.int .i64 0]) (t := 24) ?hr ?_; (case hd => rfl); (case hg => rfl); (case hr => first | (go_simp; done) | (go_simp; rfl)); intro ge hg_ w3 hbox hb; have HB3 := Aside0.mk hb; have BK3 := Aside0.mk hbox; have HG3 := Aside0.mk hg_; clear hb hbox hg_))
  have HB : Aside0 (Below w.heap.size w w3) := ⟨below_step (below_step HB1.out HB2.out) HB3.out⟩
  have HG : Aside0 (w.heap.size ≤ gl ∧ w.heap.size ≤ gn ∧ w.heap.size ≤ ge) := ⟨by have a := below_size HB1.out; have b := below_size HB2.out; rw [HG1.out, HG2.out, HG3.out]; omega⟩
  have HL := Aside0.mk (blk_below (blk_below BK1.out HB2.out) HB3.out)
  have HN := Aside0.mk (blk_below BK2.out HB3.out)
  have HE := BK3
  have HNE : Aside0 (gl ≠ gn ∧ gl ≠ ge ∧ gn ≠ ge) := ⟨blk_ne HL.out HN.out (by decide), blk_ne HL.out HE.out (by decide), blk_ne HN.out HE.out (by decide)⟩
  clear HB1 HB2 HB3 BK1 BK2 BK3 HG1 HG2 HG3
  go_wp2_with fail
  refine (lex_Read.calls s (lexR s).1 (lexR s).2.1 (lexR s).2.2 _ rfl).mono ?_
  rintro e w4 ⟨vt, rfl, hot, hb4⟩
  have HB4 := Aside0.mk (below_step HB.out hb4)
  have HB4w := HB
  have HOT := Aside0.mk hot
  have HL4 := Aside0.mk (blk_below HL.out hb4)
  have HN4 := Aside0.mk (blk_below HN.out hb4)
  have HE4 := Aside0.mk (blk_below HE.out hb4)
  have HSZ := Aside0.mk (below_size hb4)
  clear hot hb4 HL HN HE HB
  have HLEN := Aside0.mk (lexR_len s)
  have HGD := Aside0.mk (lexR_good s)
  have HSP : Aside0 (parseLines s = if (lexR s).2.2 = 0 then (match linesT (lexR s).1 with
    | .error x => ([], x.1, x.2)
    | .ok ds => (ds, 0, 0)) else ([], (lexR s).2.1, (lexR s).2.2)) := ⟨rfl⟩
  generalize (lexR s).1 = toks at *
  generalize (lexR s).2.1 = ln at *
  generalize (lexR s).2.2 = er at *
  have hn0 : w4.cell? ⟨gn, 0, none⟩ = some (.int .i64 0) := (blk_cell HN4.out 0).trans rfl
  have he0 : (w4.setCell ⟨gn, 0, none⟩ (.int .i64 ln)).cell? ⟨ge, 0, none⟩ = some (.int .i64 0) := ((Onto.refl _ gn).set 0 _).cell ((blk_cell HE4.out 0).trans rfl) HNE.out.2.2.symm
  have fn0 := blk_frozen HN4.out 0
  have fe0 : (w4.setCell ⟨gn, 0, none⟩ (.int .i64 ln)).frozen? ⟨ge, 0, none⟩ = false := blk_frozen (((Onto.refl _ gn).set 0 _).blk HE4.out HNE.out.2.2.symm) 0
  obtain ⟨At, ct, hvt⟩ := Kd.R_slice HOT.out
  subst hvt
  go_upto_region 2 with (fail)
  have HO5 := Aside0.mk ((Onto.refl w4 gn).set 0 (.int .i64 ln))
  have HO6 := Aside0.mk ((Onto.refl (w4.setCell ⟨gn, 0, none⟩ (.int .i64 ln)) ge).set 0 (.int .i64 er))
  have HL6 := Aside0.mk (HO6.out.blk (HO5.out.blk HL4.out HNE.out.1) HNE.out.2.1)
  have HN6 : Aside0 (((w4.setCell ⟨gn, 0, none⟩ (.int .i64 ln)).setCell ⟨ge, 0, none⟩ (.int .i64 er)).heap[gn]? = some (.cells #[.int .i64 ln] 3 (0, 0))) := ⟨HO6.out.blk (blk_put HN4.out 0 _ rfl) HNE.out.2.2⟩
  have HE6 : Aside0 (((w4.setCell ⟨gn, 0, none⟩ (.int .i64 ln)).setCell ⟨ge, 0, none⟩ (.int .i64 er)).heap[ge]? = some (.cells #[.int .i64 er] 24 (0, 0))) := ⟨blk_put (HO5.out.blk HE4.out HNE.out.2.2.symm) 0 _ rfl⟩
  have HB6 := Aside0.mk (HO6.out.below (HO5.out.below HB4.out HG.out.2.1) HG.out.2.2)
  have HOT6 : Aside0 (Kd.R k45 45 ((w4.setCell ⟨gn, 0, none⟩ (.int .i64 ln)).setCell ⟨ge, 0, none⟩ (.int .i64 er)) w.heap.size (fun _ => True) (.slice At toks.length ct) toks) := ⟨by
    refine Kd.R_mono (Kd.R_far (p := ⟨ge, 0, none⟩) (Kd.R_types (Kd.R_far (p := ⟨gn, 0, none⟩) (Kd.R_types (Kd.R_lower HOT.out (below_size HB4w.out)) HN4.out (by decide)) (fun _ hk => hk.2) _) (HO5.out.blk HE4.out HNE.out.2.2.symm) (by decide)) (fun _ hk => hk.2) _) (fun _ _ => trivial)⟩
  clear hn0 he0 fn0 fe0 HOT HL4 HN4 HE4 HB4 HO5 HO6
  generalize ((w4.setCell ⟨gn, 0, none⟩ (.int .i64 ln)).setCell ⟨ge, 0, none⟩ (.int .i64 er)) = w6 at *
  have he0 : w6.cell? ⟨ge, 0, none⟩ = some (.int .i64 er) := (blk_cell HE6.out 0).trans rfl
  cases hz : (er == 0) with
  | false =>
    have hz1 : (er != 0) = true := by rw [bne, hz]; rfl
    have HR : Aside0 (parseLines s = ([], ln, er)) := ⟨by rw [HSP.out, if_neg (by simpa using hz)]⟩
    clear HSP
    go_wp2_with fail
    have HL7 := Aside0.mk (blk_drew HL6.out)
    have HN7 := Aside0.mk (blk_drew HN6.out)
    have HE7 := Aside0.mk (blk_drew HE6.out)
    have HB7 := Aside0.mk (below_drew1 HB6.out)
    have hx0 : w6.drew.cell? ⟨gn, 0, none⟩ = some (.int .i64 ln) := (blk_cell HN7.out 0).trans rfl
    have hx1 : w6.drew.cell? ⟨ge, 0, none⟩ = some (.int .i64 er) := he0
    clear he0
    have hl0 : w6.cell? ⟨gl, 0, none⟩ = some (.slice none 0 0) := (blk_cell HL6.out 0).trans rfl
    have hn0 : w6.cell? ⟨gn, 0, none⟩ = some (.int .i64 ln) := (blk_cell HN6.out 0).trans rfl
    have he0 : w6.cell? ⟨ge, 0, none⟩ = some (.int .i64 er) := (blk_cell HE6.out 0).trans rfl
    have fl0 := blk_frozen HL6.out 0
    have fn0 := blk_frozen HN6.out 0
    have fe0 := blk_frozen HE6.out 0
    have HNz := Aside0.mk (((Onto.refl w6 gl).set 0 (.slice none 0 0)).blk HN6.out HNE.out.1.symm)
    have HEz := Aside0.mk (((Onto.refl w6 gl).set 0 (.slice none 0 0)).blk HE6.out HNE.out.2.1.symm)
    have HEy := Aside0.mk (((Onto.refl (w6.setCell ⟨gl, 0, none⟩ (.slice none 0 0)) gn).set 0 (.int .i64 ln)).blk HEz.out HNE.out.2.2.symm)
    have hn1 : (w6.setCell ⟨gl, 0, none⟩ (.slice none 0 0)).cell? ⟨gn, 0, none⟩ = some (.int .i64 ln) := (blk_cell HNz.out 0).trans rfl
    have he1 : (w6.setCell ⟨gl, 0, none⟩ (.slice none 0 0)).cell? ⟨ge, 0, none⟩ = some (.int .i64 er) := (blk_cell HEz.out 0).trans rfl
    have he2 : ((w6.setCell ⟨gl, 0, none⟩ (.slice none 0 0)).setCell ⟨gn, 0, none⟩ (.int .i64 ln)).cell? ⟨ge, 0, none⟩ = some (.int .i64 er) := (blk_cell HEy.out 0).trans rfl
    have fn1 := blk_frozen HNz.out 0
    have fe1 := blk_frozen HEz.out 0
    have fe2 := blk_frozen HEy.out 0
    go_region
    have HL9 : Aside0 ((((w6.setCell ⟨gl, 0, none⟩ (.slice none 0 0)).setCell ⟨gn, 0, none⟩ (.int .i64 ln)).setCell ⟨ge, 0, none⟩ (.int .i64 er)).drew.heap[gl]? = some (.cells #[.slice none 0 0] 23 (0, 0))) := ⟨blk_drew (((Onto.refl _ ge).set 0 _).blk (((Onto.refl _ gn).set 0 _).blk (blk_put HL6.out 0 _ rfl) HNE.out.1) HNE.out.2.1)⟩
    have HN9 : Aside0 ((((w6.setCell ⟨gl, 0, none⟩ (.slice none 0 0)).setCell ⟨gn, 0, none⟩ (.int .i64 ln)).setCell ⟨ge, 0, none⟩ (.int .i64 er)).drew.heap[gn]? = some (.cells #[.int .i64 ln] 3 (0, 0))) := ⟨blk_drew (((Onto.refl _ ge).set 0 _).blk (blk_put HNz.out 0 _ rfl) HNE.out.2.2)⟩
    have HE9 : Aside0 ((((w6.setCell ⟨gl, 0, none⟩ (.slice none 0 0)).setCell ⟨gn, 0, none⟩ (.int .i64 ln)).setCell ⟨ge, 0, none⟩ (.int .i64 er)).drew.heap[ge]? = some (.cells #[.int .i64 er] 24 (0, 0))) := ⟨blk_drew (blk_put HEy.out 0 _ rfl)⟩
    have HB9 : Aside0 (Below w.heap.size w (((w6.setCell ⟨gl, 0, none⟩ (.slice none 0 0)).setCell ⟨gn, 0, none⟩ (.int .i64 ln)).setCell ⟨ge, 0, none⟩ (.int .i64 er)).drew) := ⟨below_drew1 (below_set (below_set (below_set HB6.out HG.out.1) HG.out.2.1) HG.out.2.2)⟩
    clear hl0 hn0 he0 fl0 fn0 fe0 hn1 he1 he2 fn1 fe1 fe2 HNz HEz HEy hx0 hx1 HL7 HN7 HE7 HB7
    generalize (((w6.setCell ⟨gl, 0, none⟩ (.slice none 0 0)).setCell ⟨gn, 0, none⟩ (.int .i64 ln)).setCell ⟨ge, 0, none⟩ (.int .i64 er)).drew = w9 at *
    have hl0 : w9.cell? ⟨gl, 0, none⟩ = some (.slice none 0 0) := (blk_cell HL9.out 0).trans rfl
    have hn0 : w9.cell? ⟨gn, 0, none⟩ = some (.int .i64 ln) := (blk_cell HN9.out 0).trans rfl
    have he0 : w9.cell? ⟨ge, 0, none⟩ = some (.int .i64 er) := (blk_cell HE9.out 0).trans rfl
    go_wp2_with fail
    refine ⟨.tuple #[.slice none 0 0, .int .i64 ln, .int .i64 er], by simp [results, Try.results6, go_sem, hl0, hn0, he0], ?_⟩
    show LinesPost w (parseLines s) _ _
    rw [HR.out]
    exact ⟨_, rfl, Kd.R_nil _ _ _ _ _, HB9.out⟩
  | true =>
    have hz1 : (er != 0) = false := by rw [bne, hz]; rfl
    have HE0 : Aside0 (er = 0) := ⟨by simpa using hz⟩
    have HR : Aside0 (parseLines s = (match linesT toks with | .error x => ([], x.1, x.2) | .ok ds => (ds, 0, 0))) := ⟨by rw [HSP.out, if_pos HE0.out]⟩
    have HGT : Aside0 (GoodT toks) := ⟨HGD.out HE0.out⟩
    clear HSP HGD
    go_upto_region 5 with (((with_reducible refine gate_dst (N := 19) rfl ?_); refine box_event ?hg (N := 19) ?hd (cs := #[.slice At toks.length ct]) (t := 40) ?hr ?_; (case hd => rfl); (case hg => rfl); (case hr => first | (go_simp; done) | (go_simp; rfl)); intro p hg_ w7 hbox hb; have HBp := Aside0.mk hb; have BKp := Aside0.mk hbox; have HGp := Aside0.mk hg_; clear hb hbox hg_))
    have HP0 : Aside0 (PS w6 w7 p toks) := ⟨by
      obtain ⟨_, hc, hC⟩ := Kd.R_reads' HOT6.out
      exact ⟨blk_lt BKp.out, (KB.refl w6 p).step HBp.out, HGT.out, by have := HLEN.out; omega, At, ct, BKp.out, hc, hC, fun ad e => Kd.R_typed HOT6.out ad.block (by subst e; rfl)⟩⟩
    have HPN : Aside0 (p ≠ gl ∧ p ≠ gn ∧ p ≠ ge ∧ w.heap.size ≤ p) := ⟨by have a := blk_lt HL6.out; have b := blk_lt HN6.out; have c := blk_lt HE6.out; have d := below_size HB6.out; rw [HGp.out]; omega⟩
    have HL7 := Aside0.mk (blk_below HL6.out HBp.out)
    have HN7 := Aside0.mk (blk_below HN6.out HBp.out)
    have HE7 := Aside0.mk (blk_below HE6.out HBp.out)
    have HB7 := Aside0.mk (below_step HB6.out HBp.out)
    clear HL6 HN6 HE6 HB6 HOT6 HBp BKp HGp he0
    go_wp2_with fail
    go_loopg [] (toks.length) (fun k wr => ∃ (tz : List Tk) (ds : List Dl) (vl : Value), Aside0 (tz.length ≤ k ∧ ds.length ≤ 60 ∧ linesT toks = pLinesL k ds tz) ∧ Aside0 (PS w6 wr p tz) ∧ Aside0 (Below w.heap.size w wr) ∧ Aside0 (wr.heap[gl]? = some (.cells #[vl] 23 (0, 0))) ∧ Aside0 (wr.heap[gn]? = some (.cells #[.int .i64 ln] 3 (0, 0))) ∧ Aside0 (wr.heap[ge]? = some (.cells #[.int .i64 er] 24 (0, 0))) ∧ Aside0 (Kd.R k29 29 wr w.heap.size (fun _ => True) vl ds))
    case atStart => exact ⟨toks, [], .slice none 0 0, ⟨Nat.le_refl _, Nat.zero_le _, rfl⟩, HP0, HB7, HL7, HN7, HE7, ⟨Kd.R_nil _ _ _ _ _⟩⟩
    case round =>
      clear HL7 HN7 HE7 HB7 HP0
      obtain ⟨tz, ds, vl, HQ, HPr, HBr, HLr, HNr, HEr, HRr⟩ := hrel
      obtain ⟨Al, Ll, cl, hRl, hvl⟩ : ∃ Al Ll cl, Ll = ds.length ∧ vl = .slice Al Ll cl := by obtain ⟨A, c, h⟩ := Kd.R_slice HRr.out; exact ⟨A, _, c, rfl, h⟩
      subst hvl
      have HLl := Aside0.mk hRl
      clear hRl
      obtain ⟨ad, n, cc, hnl, hn, hnc, hn4, hb, hx0, hx1, hx2, hx3⟩ := HPr.out.head
      have hp0 : wr.cell? ⟨p, 0, none⟩ = some (.slice (some ad) n cc) := (blk_cell hb 0).trans rfl
      have q0 : (0 : Int) < (n : Int) := by omega
      have hl0 : wr.cell? ⟨gl, 0, none⟩ = some (.slice Al Ll cl) := (blk_cell HLr.out 0).trans rfl
      have HKpos : Aside0 (∃ m, gk = m + 1) := ⟨⟨gk - 1, by have := HQ.out.1; omega⟩⟩
      clear hnl hb hx1 hx2 hx3
      obtain ⟨m, hm⟩ := HKpos.out
      subst hm
      cases hk0 : ((hdT tz).f0 == 0) with
      | true =>
        have hk0n : ((hdT tz).f0 != 0) = false := by rw [bne, hk0]; rfl
        have HX : Aside0 (linesT toks = .ok ds) := ⟨by rw [HQ.out.2.2, pLinesL, if_pos (by simpa using hk0)]⟩
        have fl0 := blk_frozen HLr.out 0
        have HLa : Aside0 ((wr.setCell ⟨gl, 0, none⟩ (.slice Al Ll cl)).heap[gl]? = some (.cells #[.slice Al Ll cl] 23 (0, 0))) := ⟨blk_put HLr.out 0 _ rfl⟩
        have HNa := Aside0.mk (((Onto.refl wr gl).set 0 (.slice Al Ll cl)).blk HNr.out HNE.out.1.symm)
        have HEa := Aside0.mk (((Onto.refl wr gl).set 0 (.slice Al Ll cl)).blk HEr.out HNE.out.2.1.symm)
        have HLb := Aside0.mk (((Onto.refl (wr.setCell ⟨gl, 0, none⟩ (.slice Al Ll cl)) gn).set 0 (.int .i64 0)).blk HLa.out HNE.out.1)
        have HNb : Aside0 (((wr.setCell ⟨gl, 0, none⟩ (.slice Al Ll cl)).setCell ⟨gn, 0, none⟩ (.int .i64 0)).heap[gn]? = some (.cells #[.int .i64 0] 3 (0, 0))) := ⟨blk_put HNa.out 0 _ rfl⟩
        have HEb := Aside0.mk (((Onto.refl (wr.setCell ⟨gl, 0, none⟩ (.slice Al Ll cl)) gn).set 0 (.int .i64 0)).blk HEa.out HNE.out.2.2.symm)
        have HLc := Aside0.mk (((Onto.refl ((wr.setCell ⟨gl, 0, none⟩ (.slice Al Ll cl)).setCell ⟨gn, 0, none⟩ (.int .i64 0)) ge).set 0 (.int .i64 0)).blk HLb.out HNE.out.2.1)
        have HNc := Aside0.mk (((Onto.refl ((wr.setCell ⟨gl, 0, none⟩ (.slice Al Ll cl)).setCell ⟨gn, 0, none⟩ (.int .i64 0)) ge).set 0 (.int .i64 0)).blk HNb.out HNE.out.2.2)
        have HEc : Aside0 ((((wr.setCell ⟨gl, 0, none⟩ (.slice Al Ll cl)).setCell ⟨gn, 0, none⟩ (.int .i64 0)).setCell ⟨ge, 0, none⟩ (.int .i64 0)).heap[ge]? = some (.cells #[.int .i64 0] 24 (0, 0))) := ⟨blk_put HEb.out 0 _ rfl⟩
        have HBc : Aside0 (Below w.heap.size w (((wr.setCell ⟨gl, 0, none⟩ (.slice Al Ll cl)).setCell ⟨gn, 0, none⟩ (.int .i64 0)).setCell ⟨ge, 0, none⟩ (.int .i64 0))) := ⟨below_set (below_set (below_set HBr.out HG.out.1) HG.out.2.1) HG.out.2.2⟩
        have HRc : Aside0 (Kd.R k29 29 (((wr.setCell ⟨gl, 0, none⟩ (.slice Al Ll cl)).setCell ⟨gn, 0, none⟩ (.int .i64 0)).setCell ⟨ge, 0, none⟩ (.int .i64 0)) w.heap.size (fun _ => True) (.slice Al Ll cl) ds) := ⟨by
          refine Kd.R_mono (Kd.R_far (p := ⟨ge, 0, none⟩) (Kd.R_types (Kd.R_far (p := ⟨gn, 0, none⟩) (Kd.R_types (Kd.R_far (p := ⟨gl, 0, none⟩) (Kd.R_types HRr.out HLr.out (by decide)) (fun _ hk => hk.2) _) HNa.out (by decide)) (fun _ hk => hk.2) _) HEb.out (by decide)) (fun _ hk => hk.2) _) (fun _ _ => trivial)⟩
        have hn0 : (wr.setCell ⟨gl, 0, none⟩ (.slice Al Ll cl)).cell? ⟨gn, 0, none⟩ = some (.int .i64 ln) := (blk_cell HNa.out 0).trans rfl
        have fn0 := blk_frozen HNa.out 0
        have he0 : ((wr.setCell ⟨gl, 0, none⟩ (.slice Al Ll cl)).setCell ⟨gn, 0, none⟩ (.int .i64 0)).cell? ⟨ge, 0, none⟩ = some (.int .i64 er) := (blk_cell HEb.out 0).trans rfl
        have fe0 := blk_frozen HEb.out 0
        go_wp2_with fail
        refine door_idle ?_ HLc.out HNc.out HEc.out HBc.out HRc.out (by rw [HR.out, HX.out])
        intro W v n e h1 h2 h3
        simp [results, Try.results6, go_sem, h1, h2, h3]
      | false =>
        have hk0n : ((hdT tz).f0 != 0) = true := by rw [bne, hk0]; rfl
        have HK0 : Aside0 (¬ (hdT tz).f0 = 0) := ⟨by simpa using hk0⟩
        cases hk5 : ((hdT tz).f0 == 5) with
        | true =>
          have HK5 : Aside0 ((hdT tz).f0 = 5) := ⟨by simpa using hk5⟩
          have HX : Aside0 (linesT toks = pLinesL m ds tz.tail) := ⟨by rw [HQ.out.2.2, pLinesL, if_neg HK0.out, if_pos HK5.out]⟩
          have HNX : Aside0 (pNext 5 tz = .ok (hdT tz, tz.tail)) := ⟨by unfold pNext; rw [if_pos HK5.out]⟩
          go_wp2_with fail
          refine (next_call w6 _ p tz 5 (by decide) HPr.out).mono ?_
          rintro e w8 hq
          rw [HNX.out] at hq
          obtain ⟨v, rfl, hv, h1, h2⟩ := hq
          have HP8 := Aside0.mk h1
          have HL8 := Aside0.mk (h2.blk HLr.out HPN.out.1.symm (by simp))
          have HN8 := Aside0.mk (h2.blk HNr.out HPN.out.2.1.symm (by simp))
          have HE8 := Aside0.mk (h2.blk HEr.out HPN.out.2.2.1.symm (by simp))
          have HR8 := Aside0.mk (R_pskD HRr.out HPr.out h2)
          have HB8 := Aside0.mk (below_keep HBr.out h2 HPN.out.2.2.2 HPr.out HP8.out)
          clear h1 h2 hv
          go_wp2_with fail
          go_roundg m
          case measure => omega
          case rel => exact ⟨tz.tail, ds, .slice Al Ll cl, ⟨by have a := HQ.out.1; have b := congrArg List.length HPr.out.2.2.1.cons; simp only [List.length_cons] at b; omega, HQ.out.2.1, HX.out⟩, HP8, HB8, HL8, HN8, HE8, HR8⟩
        | false =>
          have HK5 : Aside0 (¬ (hdT tz).f0 = 5) := ⟨by simpa using hk5⟩
          cases hk6 : ((Ll : Int) == 60) with
          | true =>
            have HX : Aside0 (linesT toks = .error ((hdT tz).f3, 7)) := ⟨by
              have h1 : ds.length = 60 := by (have := HLl.out; have h2 : (Ll : Int) = 60 := (by simpa using hk6); omega)
              rw [HQ.out.2.2, pLinesL, if_neg HK0.out, if_neg HK5.out, if_pos h1]⟩
            go_wp2_with fail
            refine (fail_call w6 _ p tz 7 HPr.out).mono ?_
            rintro e w8 ⟨rfl, rfl⟩
            refine door_fault ?_ HLr.out HNr.out HEr.out HBr.out HG.out (by rw [HR.out, HX.out])
            intro W v n e h1 h2 h3
            simp [results, Try.results6, go_sem, h1, h2, h3]
          | false =>
            have HD60 : Aside0 (¬ ds.length = 60) := ⟨by (have := HLl.out; have h2 : ¬ (Ll : Int) = 60 := (by simpa using hk6); omega)⟩
            have HX : Aside0 (linesT toks = match pDecl tz with | .error x => .error x | .ok x => pLinesL m (ds ++ [x.1]) x.2) := ⟨by rw [HQ.out.2.2, pLinesL, if_neg HK0.out, if_neg HK5.out, if_neg HD60.out]; cases pDecl tz <;> rfl⟩
            go_wp2_with fail
            have HP9 : Aside0 (PS w6 wr.drew p tz) := ⟨HPr.out.step (below_drew1 (Below.refl _ _))⟩
            have HL9 := Aside0.mk (blk_drew HLr.out)
            have HN9 := Aside0.mk (blk_drew HNr.out)
            have HE9 := Aside0.mk (blk_drew HEr.out)
            have HB9 := Aside0.mk (below_drew1 HBr.out)
            have HR9 := Aside0.mk (Kd.R_drew HRr.out)
            have hl9 : wr.drew.cell? ⟨gl, 0, none⟩ = some (.slice Al Ll cl) := hl0
            have huT := Try.underlying23
            clear hp0 hx0 hl0
            refine start_ (n := 6) (S := fun w' => w'.cell? ⟨gl, 0, none⟩ = some (.slice Al Ll cl)) (ds := [4, 5]) #[false, false, false, false, false, false] (by kernel_rfl) rfl rfl (hl9) (fun hHeld => ?_)
            generalize wr.drew = w8 at *
            refine pure_ (i := 1) (N := some 45) (v := ?_) (a' := ?_) #[false, true, false, false, false, false] rfl rfl (by kernel_rfl) (fun c a w' h => lq65 (by decide) h) (Or.inl ⟨by rfl, ?_⟩) ?_ ?_
            rotate_left
            · intro w'
              go_simp
              with_reducible rfl
            rotate_left
            · simp only [Act.put, List.setIfInBounds_toArray, List.set_cons_zero, List.set_cons_succ, i64_w, i32_w]
              rfl
            refine take_ (i := 0) (N := some 44) (v := ?_) (a' := ?_) #[true, true, false, false, false, false] rfl rfl (by kernel_rfl) (fun c a w' h => lq65 (by decide) h) (Or.inl ⟨by rfl, ?_⟩) hHeld ?_ ?_
            rotate_left
            · intro w' s0
              go_simp
              with_reducible rfl
            rotate_left
            · simp only [Act.put, List.setIfInBounds_toArray, List.set_cons_zero, List.set_cons_succ, i64_w, i32_w]
              rfl
            refine one_ (i := 2) (N := some 46) #[true, true, true, false, false, false] rfl rfl (by kernel_rfl) (by decide) (fun K hK => ?_)
            refine goesP_ Try.func15 (by kernel_rfl) rfl #[.pointer (some ⟨p, 0, none⟩)] (by rfl) rfl rfl (by simp only [List.map_toArray, List.map_cons, List.map_nil]; rfl) ?_
            refine (decl_call w6 _ p tz HP9.out).mono ?_
            rintro e w9 hq
            rcases hx : pDecl tz with x | ⟨x, ts9⟩
            · rw [hx] at hq
              obtain ⟨rfl, h1, h2⟩ := hq
              have HX' : Aside0 (linesT toks = .error x) := ⟨by rw [HX.out, hx]⟩
              refine Or.inr ⟨_, rfl, ?_⟩
              refine door_fault ?_ (h2.blk HL9.out HPN.out.1.symm (by simp)) (h2.blk HN9.out HPN.out.2.1.symm (by simp)) (h2.blk HE9.out HPN.out.2.2.1.symm (by simp)) (below_keep0 HB9.out h2 HPN.out.2.2.2 HP9.out.2.1 h1) HG.out (by rw [HR.out, HX'.out])
              intro W v n e h1 h2 h3
              simp [results, Try.results6, go_sem, h1, h2, h3]
            rw [hx] at hq
            obtain ⟨v, rfl, ⟨vd, hv, hRd⟩, h1, h2⟩ := hq
            obtain ⟨Ad, cd, hvd⟩ := Kd.R_slice hRd
            subst hvd
            replace hv : v = .agg #[.int .i64 x.f0, .bool x.f1, .string x.f2, .string x.f3, .int .i64 x.f4, .slice Ad x.f5.length cd, .int .i64 x.f6] := hv
            subst hv
            have HXn : Aside0 (linesT toks = pLinesL m (ds ++ [x]) ts9) := ⟨by rw [HX.out, hx]⟩
            have HLT : Aside0 (ts9.length < tz.length) := ⟨pDecl_len HP9.out.2.2.1.ne hx⟩
            clear hx
            have HPa := Aside0.mk h1
            have HLa := Aside0.mk (h2.blk HL9.out HPN.out.1.symm (by simp))
            have HNa := Aside0.mk (h2.blk HN9.out HPN.out.2.1.symm (by simp))
            have HEa := Aside0.mk (h2.blk HE9.out HPN.out.2.2.1.symm (by simp))
            have HRa := Aside0.mk (R_pskD HR9.out HP9.out h2)
            have HBa := Aside0.mk (below_keep HB9.out h2 HPN.out.2.2.2 HP9.out h1)
            have HRd := Aside0.mk hRd
            have HS9 := Aside0.mk h2.1
            have HLo : Aside0 (∀ k, (Value.slice Al Ll cl).ownBlock = some k → k < w8.heap.size) := ⟨Kd.R_lt HR9.out⟩
            clear h1 h2 hRd
            have hl0 : w9.cell? ⟨gl, 0, none⟩ = some (.slice Al Ll cl) := (blk_cell HLa.out 0).trans rfl
            have hla : (w9.alloc (.cells #[.int .i64 x.f0, .bool x.f1, .string x.f2, .string x.f3, .int .i64 x.f4, .slice Ad x.f5.length cd, .int .i64 x.f6] 29)).cell? ⟨gl, 0, none⟩ = some (.slice Al Ll cl) := pw_cell_below (below_alloc (Below.refl _ _) _) hl0
            refine Or.inl ⟨_, rfl, ?_⟩
            refine hK.out _ _ (hl0) (fun hHeld => ?_)
            clear hK K
            refine norm_ (a' := ?_) ?_ ?_
            rotate_left
            · show Act.put _ (some 46) _ = _
              simp only [Act.put, List.setIfInBounds_toArray, List.set_cons_zero, List.set_cons_succ, i64_w, i32_w]
              rfl
            refine one_ (i := 3) (N := some 47) #[true, true, true, true, false, false] rfl rfl (by kernel_rfl) (by decide) (fun K hK => ?_)
            refine value_ (w1 := ?_) (v := ?_) (by rfl) rfl ?_ ?_
            rotate_left 2
            · go_simp
              constructor
              · rfl
              · rfl
            refine hK.out _ _ (hla) (fun hHeld => ?_)
            clear hK K
            refine norm_ (a' := ?_) ?_ ?_
            rotate_left
            · show Act.put _ (some 47) _ = _
              simp only [Act.put, List.setIfInBounds_toArray, List.set_cons_zero, List.set_cons_succ, i64_w, i32_w]
              rfl
            refine last_ (i := 4) (N := some 48) #[true, true, true, true, true, false] rfl rfl (by kernel_rfl) (by decide) (fun K hK => ?_)
            refine Kd.R_append_step k29 (w0 := w) w.heap.size (by rfl) (.tmp 44) (.tmp 47) 23 29 (.agg #[(.int .i64 0), (.bool false), (.string ⟨#[]⟩), (.string ⟨#[]⟩), (.int .i64 0), (.slice none 0 0), (.int .i64 0)]) 88 rfl huT info29 rfl (by decide) (by decide) (.slice Al Ll cl) ds x [.int .i64 x.f0, .bool x.f1, .string x.f2, .string x.f3, .int .i64 x.f4, .slice Ad x.f5.length cd, .int .i64 x.f6] (fun _ => True) (fun k => w8.heap.size ≤ k) rfl (by simp [Act.eval]) (k29_mkM _ _ _ x (Kd.R_lower (Kd.R_mono (Kd.R_bound HRd.out) (fun k hk => hk.2.1)) (below_size HB9.out))) (fun k hk => ⟨trivial, fun e => Nat.not_lt.2 hk (HLo.out k e.symm)⟩) (fun _ _ => trivial) HRa.out HBa.out (below_size HBa.out) (by have := HQ.out.2.1; have := HLl.out; omega) ?_
            intro v1 wa hO1 hB1 hG1 hA1
            refine hK.out _ _ ?_
            clear hK K
            refine norm_ (a' := ?_) ?_ ?_
            rotate_left
            · show Act.put _ (some 48) _ = _
              simp only [Act.put, List.setIfInBounds_toArray, List.set_cons_zero, List.set_cons_succ, i64_w, i32_w]
              rfl
            refine last_ (i := 5) (N := none) #[true, true, true, true, true, true] rfl rfl (by kernel_rfl) (by decide) (fun K hK => ?_)
            obtain ⟨A1, p1, ev1⟩ := Kd.R_slice hO1
            obtain ⟨L1, hL1⟩ : ∃ L1, L1 = (ds ++ [x]).length := ⟨_, rfl⟩
            rw [← hL1] at ev1
            subst ev1
            have HL1 := Aside0.mk hL1
            clear hL1
            have BA := Aside0.mk (blk_grown HLa.out hG1 (Kd.R_ne HRa.out HLa.out (by decide)))
            have f1 := blk_frozen BA.out 0
            have e1 := blk_cell BA.out 0
            refine skip_ (w1 := ?_) (by rfl) rfl ?_ ?_
            rotate_left
            · go_simp
              rfl
            refine hK.out _ _ ?_
            clear hK K
            refine done_ (by kernel_rfl) ?_
            have HOf := Aside0.mk ((Onto.refl wa gl).set 0 (.slice A1 L1 p1))
            have HLf : Aside0 ((wa.setCell ⟨gl, 0, none⟩ (.slice A1 L1 p1)).heap[gl]? = some (.cells #[.slice A1 L1 p1] 23 (0, 0))) := ⟨blk_put BA.out 0 _ rfl⟩
            have HNf := Aside0.mk (HOf.out.blk (blk_grown HNa.out hG1 (Kd.R_ne HRa.out HNa.out (by decide))) HNE.out.1.symm)
            have HEf := Aside0.mk (HOf.out.blk (blk_grown HEa.out hG1 (Kd.R_ne HRa.out HEa.out (by decide))) HNE.out.2.1.symm)
            have HPb : Aside0 (PS w6 wa p ts9) := ⟨HPa.out.grownT hG1 (fun k hk => by obtain ⟨cells, hcl⟩ := Kd.R_typed HRa.out k hk; exact ⟨_, _, hcl, by decide⟩) (by obtain ⟨cs, hb⟩ := HPa.out.pblk; exact Kd.R_ne HRa.out hb (by decide))⟩
            have HPf := Aside0.mk (HPb.out.setT BA.out (by decide) HPN.out.1 0 (.slice A1 L1 p1))
            have HBf := Aside0.mk (HOf.out.below hB1 HG.out.1)
            have HRf : Aside0 (Kd.R k29 29 (wa.setCell ⟨gl, 0, none⟩ (.slice A1 L1 p1)) w.heap.size (fun _ => True) (.slice A1 L1 p1) (ds ++ [x])) := ⟨Kd.R_mono (Kd.R_far (p := ⟨gl, 0, none⟩) (Kd.R_types hO1 BA.out (by decide)) (fun _ hk => hk.2) _) (fun _ _ => trivial)⟩
            have HBf2 : Aside0 (Below w.heap.size w (wa.setCell ⟨gl, 0, none⟩ (.slice A1 L1 p1))) := ⟨HBf.out⟩
            clear hl0 hl9 hla e1 f1 hO1 hB1 hG1 hA1 HPb BA HOf HBf
            generalize (wa.setCell ⟨gl, 0, none⟩ (.slice A1 L1 p1)) = wf at *
            go_wp2_with fail
            go_roundg m
            case measure => omega
            case rel => exact ⟨ts9, ds ++ [x], .slice A1 L1 p1, ⟨by have a := HQ.out.1; have b := HLT.out; omega, by have a := HQ.out.2.1; have b := HD60.out; simp; omega, HXn.out⟩, HPf, HBf2, HLf, HNf, HEf, HRf⟩
end Go.Proofs.Ytmhenlilcikgmaa.X

/- parse.Lines, in the form that printed texts ask of a call. -/
namespace Go.Proofs.Ytmhenlilcikgmaa.X
open Go.RowKit Go.Proofs.YtmhenlilcikgmaaW.PrintWords
def parse_Lines.f (a0 : ByteArray) : Option (List S29 × Int × Int) := some (parseLines a0)
theorem parse_Lines.calls (a0 : ByteArray) (r1 : List S29) (r2 : Int) (r3 : Int) (w : World) (h : parse_Lines.f a0 = some (r1, r2, r3)) :
    Calls Try.prog 6 #[.string a0] w fun e w' => ∃ v0_ : Value, e = .returned (.tuple #[v0_, .int .i64 r2, .int .i64 r3]) ∧ Kd.R k29 29 w' w.heap.size (fun _ => True) v0_ r1 ∧ Below w.heap.size w w' := by
  have h' : parseLines a0 = (r1, r2, r3) := Option.some.inj h
  have := lines_call a0 w
  unfold LinesPost at this
  rw [h'] at this
  exact this
end Go.Proofs.Ytmhenlilcikgmaa.X

/- hucksterlaw15.awake: it tells true. -/
set_option linter.unusedSimpArgs false
set_option linter.unusedVariables false
namespace Go.Proofs.Ytmhenlilcikgmaa.X
open Go.RowKit Go.Proofs.YtmhenlilcikgmaaW.PrintWords Go.Proofs.YtmhenlilcikgmaaW.PrintLast Go.Proofs.YtmhenlilcikgmaaW.PrintMore

def hucksterlaw15_awake.f : Option Bool := some true
theorem aw15_lines : parse_Lines.f (⟨#[114, 117, 108, 101, 32, 115, 116, 114, 105, 99, 116, 32, 114, 101, 102, 32, 97, 32, 98]⟩ : ByteArray) = some ([⟨4, true, (⟨#[97]⟩ : ByteArray), (⟨#[98]⟩ : ByteArray), 0, [], 1⟩], 0, 0) := by kernel_rfl
theorem aw15_kept : parse_Kept.f 30 (⟨#[114, 117, 108, 101]⟩ : ByteArray) = some true := by kernel_rfl
set_option maxHeartbeats 4000000 in
set_option maxRecDepth 100000 in
theorem aw15_call (w : World) : Calls Try.prog 5 #[] w fun e w' => e = .returned (.bool true) ∧ Below w.heap.size w w' := by
  go_enter Try.func5, Try.ntmps5
  have hz0 : (0 : Int) < ([(⟨4, true, (⟨#[97]⟩ : ByteArray), (⟨#[98]⟩ : ByteArray), 0, [], 1⟩ : S29)].length : Int) := by decide
  have hba : ((⟨#[97]⟩ : ByteArray).toList == ([97] : List UInt8)) = true := by decide +kernel
  have hbb : ((⟨#[98]⟩ : ByteArray).toList == ([98] : List UInt8)) = true := by decide +kernel
  go_wp2_with (first
    | (go_at_call 6
       refine (parse_Lines.calls _ _ _ _ w aw15_lines).mono ?_
       rintro e w1 ⟨v, rfl, hR, hB⟩
       have HR := Aside0.mk hR
       have HB := Aside0.mk hB
       clear hR hB
       obtain ⟨A, c, rfl⟩ := Kd.R_slice HR.out
       obtain ⟨ad, A5, c5, rfl, x0, x1, x2, x3, x4, x5, x6, l5, g5⟩ := at_T29 (Kd.R_reads' HR.out).2.2 0 (by decide) (by decide)
       have ea : ad.add ((0 : Int).toNat * 7) = ad := by simp [Addr.add]
       rw [ea] at x0 x1 x2 x3 x4 x5 x6
       replace x0 : w1.cell? ad = some (.int .i64 4) := x0
       replace x1 : w1.cell? ⟨ad.block, ad.off + 1, none⟩ = some (.bool true) := x1
       replace x2 : w1.cell? ⟨ad.block, ad.off + 2, none⟩ = some (.string (⟨#[97]⟩ : ByteArray)) := x2
       replace x3 : w1.cell? ⟨ad.block, ad.off + 3, none⟩ = some (.string (⟨#[98]⟩ : ByteArray)) := x3
       clear l5 g5 x5 x6 x4)
    | (go_at_call 10
       refine (parse_Kept.calls 30 _ _ _ aw15_kept).mono ?_
       rintro e w2 ⟨rfl, hB2⟩
       have HB2 := Aside0.mk (below_step HB.out hB2)
       clear hB2))
  refine bodyPost_ret (v := .bool true) (by simp [results, Try.results5, go_sem]) rfl ?_
  exact ⟨rfl, HB2.out⟩
theorem hucksterlaw15_awake.calls (r : Bool) (w : World) (h : hucksterlaw15_awake.f = some r) : Calls Try.prog 5 #[] w fun e w' => e = .returned (.bool r) ∧ Below w.heap.size w w' := by
  cases h
  exact aw15_call w
end Go.Proofs.Ytmhenlilcikgmaa.X

/- Small helpers for rounds. -/
set_option linter.unusedSimpArgs false
set_option linter.unusedVariables false
namespace Go.Proofs.Ytmhenlilcikgmaa.X
open Go.RowKit Go.Proofs.YtmhenlilcikgmaaW.PrintWords Go.Proofs.YtmhenlilcikgmaaW.PrintLast Go.Proofs.YtmhenlilcikgmaaW.PrintMore

theorem Ev.succ {α : Type} {g : Nat → Option α} {r : α} (h : Ev (fun k => g (k + 1)) r) : Ev g r := Ev.step (fun _ => rfl) h
theorem Ev.bind1 {α β : Type} {g : Option α} {f : Nat → α → Option β} {a : α} {r : β} (h : g = some a) (k : Ev (fun n => f n a) r) : Ev (fun n => g.bind (f n)) r := by
  subst h
  exact k
theorem Ev.yes {α : Type} {c : Prop} [Decidable c] {g f : Nat → Option α} {r : α} (h : c) (k : Ev g r) : Ev (fun n => if c then g n else f n) r := Ev.congr (fun _ => if_pos h) k
theorem Ev.no {α : Type} {c : Prop} [Decidable c] {g f : Nat → Option α} {r : α} (h : ¬ c) (k : Ev f r) : Ev (fun n => if c then g n else f n) r := Ev.congr (fun _ => if_neg h) k
theorem Ev.is {α : Type} {r r' : α} (h : r = r') : Ev (fun _ => some r) r' := h ▸ Ev.now r
theorem wrap_up (i : Nat) (h : (i : Int) < 9223372036854775807) : wrap64 ((i : Int) + 1) = ((i + 1 : Nat) : Int) := by
  unfold wrap64; omega
theorem wrap_dn (i : Nat) (h0 : 0 < i) (h : (i : Int) < 9223372036854775807) : wrap64 ((i : Int) - 1) = ((i - 1 : Nat) : Int) := by
  unfold wrap64; omega
end Go.Proofs.Ytmhenlilcikgmaa.X

/- Functions of the seat as Lean functions, and that the calls come to them: written by this session's own program xprint.py over the kit's printer. -/
namespace Go.Proofs.Ytmhenlilcikgmaa.X
open Go.RowKit Go.Proofs.YtmhenlilcikgmaaW.PrintWords Go.Proofs.YtmhenlilcikgmaaW.PrintLast Go.Proofs.YtmhenlilcikgmaaW.PrintMore
attribute [local go_sem] max2_int min2_int max_two min_two max_three min_three max_four min_four   -- for this text's walks alone
set_option linter.unusedVariables false
set_option linter.unusedSimpArgs false

theorem eqA60 (d : Nat) (w : World) (x0 y0 : Int) (x1 y1 : ByteArray) (x2 y2 : Int) :
    (Op.equalIn (d + 2) 60 (.agg #[.int .i64 x0, .string x1, .int .i64 x2]) (.agg #[.int .i64 y0, .string y1, .int .i64 y2])).run Try.prog w = .ok (x0 == y0 && (x1.toList == y1.toList && (x2 == y2))) w := by
  refine eqA_of Try.underlying60 (by kernel_rfl) ?_
  refine eqf_cons (by rfl) (by go_simp; rfl) (by go_simp; rfl) (by go_simp) ?_
  refine eqf_cons (by rfl) (by go_simp; rfl) (by go_simp; rfl) (by go_simp) ?_
  exact eqf_last (by rfl) (by go_simp; rfl) (by go_simp; rfl) (by go_simp)
end Go.Proofs.Ytmhenlilcikgmaa.X

/- Functions of the seat as Lean functions, and that the calls come to them: written by this session's own program xprint.py over the kit's printer. -/
namespace Go.Proofs.Ytmhenlilcikgmaa.X
open Go.RowKit Go.Proofs.YtmhenlilcikgmaaW.PrintWords Go.Proofs.YtmhenlilcikgmaaW.PrintLast Go.Proofs.YtmhenlilcikgmaaW.PrintMore
attribute [local go_sem] max2_int min2_int max_two min_two max_three min_three max_four min_four   -- for this text's walks alone
set_option linter.unusedVariables false
set_option linter.unusedSimpArgs false

attribute [local go_sem high] eqA60
/-! ### hucksterref15_One: function 16 -/
mutual
def hucksterref15_One.j0 : Nat → Bool → Int → Bool → ByteArray → ByteArray → Int → List (S60) → Int → Int → Bool → ByteArray → ByteArray → Int → List (S60) → Int → Option (Bool)
  | 0, _, _, _, _, _, _, _, _, _, _, _, _, _, _, _ => none
  | k + 1, x54, x102000, x102001, x102002, x102003, x102004, x102005, x102006, x103000, x103001, x103002, x103003, x103004, x103005, x103006 => if x54 = true then (some false) else (hucksterref15_One.l0 k 0 x102000 x102001 x102002 x102003 x102004 x102005 x102006 x103000 x103001 x103002 x103003 x103004 x103005 x103006)
def hucksterref15_One.l0 : Nat → Int → Int → Bool → ByteArray → ByteArray → Int → List (S60) → Int → Int → Bool → ByteArray → ByteArray → Int → List (S60) → Int → Option (Bool)
  | 0, _, _, _, _, _, _, _, _, _, _, _, _, _, _, _ => none
  | k + 1, x5, x102000, x102001, x102002, x102003, x102004, x102005, x102006, x103000, x103001, x103002, x103003, x103004, x103005, x103006 => if x5 < (x102005.length : Int) then (if 0 ≤ x5 then (if x5 < (x103005.length : Int) then (if (!(((rd_T60 x102005 x5).f0) == ((rd_T60 x103005 x5).f0)) || (!((((rd_T60 x102005 x5).f1).toList) == (((rd_T60 x103005 x5).f1).toList)) || (!(((rd_T60 x102005 x5).f2) == ((rd_T60 x103005 x5).f2))))) = true then (some false) else (hucksterref15_One.l0 k (wrap64 (x5 + 1)) x102000 x102001 x102002 x102003 x102004 x102005 x102006 x103000 x103001 x103002 x103003 x103004 x103005 x103006)) else (none)) else (none)) else (some true)
end
def hucksterref15_One.f (k : Nat) (a0_0 : Int) (a0_1 : Bool) (a0_2 : ByteArray) (a0_3 : ByteArray) (a0_4 : Int) (l0_5 : List (S60)) (a0_6 : Int) (a1_0 : Int) (a1_1 : Bool) (a1_2 : ByteArray) (a1_3 : ByteArray) (a1_4 : Int) (l1_5 : List (S60)) (a1_6 : Int) : Option (Bool) := if a0_0 = a1_0 then (if (a0_1 != a1_1) = true then (hucksterref15_One.j0 k true a0_0 a0_1 a0_2 a0_3 a0_4 l0_5 a0_6 a1_0 a1_1 a1_2 a1_3 a1_4 l1_5 a1_6) else (if a0_2.toList = a1_2.toList then (if a0_3.toList = a1_3.toList then (if a0_4 = a1_4 then (if a0_6 = a1_6 then (hucksterref15_One.j0 k ((l0_5.length : Int) != (l1_5.length : Int)) a0_0 a0_1 a0_2 a0_3 a0_4 l0_5 a0_6 a1_0 a1_1 a1_2 a1_3 a1_4 l1_5 a1_6) else (hucksterref15_One.j0 k true a0_0 a0_1 a0_2 a0_3 a0_4 l0_5 a0_6 a1_0 a1_1 a1_2 a1_3 a1_4 l1_5 a1_6)) else (hucksterref15_One.j0 k true a0_0 a0_1 a0_2 a0_3 a0_4 l0_5 a0_6 a1_0 a1_1 a1_2 a1_3 a1_4 l1_5 a1_6)) else (hucksterref15_One.j0 k true a0_0 a0_1 a0_2 a0_3 a0_4 l0_5 a0_6 a1_0 a1_1 a1_2 a1_3 a1_4 l1_5 a1_6)) else (hucksterref15_One.j0 k true a0_0 a0_1 a0_2 a0_3 a0_4 l0_5 a0_6 a1_0 a1_1 a1_2 a1_3 a1_4 l1_5 a1_6))) else (hucksterref15_One.j0 k true a0_0 a0_1 a0_2 a0_3 a0_4 l0_5 a0_6 a1_0 a1_1 a1_2 a1_3 a1_4 l1_5 a1_6)
theorem hucksterref15_One.mono_l : ∀ k, (∀ y0 y1 y2 y3 y4 y5 y6 y7 y8 y9 y10 y11 y12 y13 y14, LeO (hucksterref15_One.j0 k y0 y1 y2 y3 y4 y5 y6 y7 y8 y9 y10 y11 y12 y13 y14) (hucksterref15_One.j0 (k + 1) y0 y1 y2 y3 y4 y5 y6 y7 y8 y9 y10 y11 y12 y13 y14)) ∧ (∀ y0 y1 y2 y3 y4 y5 y6 y7 y8 y9 y10 y11 y12 y13 y14, LeO (hucksterref15_One.l0 k y0 y1 y2 y3 y4 y5 y6 y7 y8 y9 y10 y11 y12 y13 y14) (hucksterref15_One.l0 (k + 1) y0 y1 y2 y3 y4 y5 y6 y7 y8 y9 y10 y11 y12 y13 y14))
  | 0 => ⟨fun _ _ _ _ _ _ _ _ _ _ _ _ _ _ _ r h => by simp [hucksterref15_One.j0] at h, fun _ _ _ _ _ _ _ _ _ _ _ _ _ _ _ r h => by simp [hucksterref15_One.l0] at h⟩
  | k + 1 => by
    obtain ⟨ih0, ih1⟩ := hucksterref15_One.mono_l k
    refine ⟨?_, ?_⟩
    · intro y0 y1 y2 y3 y4 y5 y6 y7 y8 y9 y10 y11 y12 y13 y14
      unfold hucksterref15_One.j0
      repeat' first
      | (with_reducible exact ih0 _ _ _ _ _ _ _ _ _ _ _ _ _ _ _)
      | (with_reducible exact ih1 _ _ _ _ _ _ _ _ _ _ _ _ _ _ _)
      | (with_reducible exact LeO.refl _)
      | (with_reducible exact LeO.none _)
      | (with_reducible refine LeO.ite ?_ ?_)
      | (with_reducible refine LeO.bind ?_ (fun _ => ?_))
      | exact ih0 _ _ _ _ _ _ _ _ _ _ _ _ _ _ _
      | exact ih1 _ _ _ _ _ _ _ _ _ _ _ _ _ _ _
      | exact LeO.none _
      | refine LeO.ite ?_ ?_
      | refine LeO.bind ?_ (fun _ => ?_)
    · intro y0 y1 y2 y3 y4 y5 y6 y7 y8 y9 y10 y11 y12 y13 y14
      unfold hucksterref15_One.l0
      repeat' first
      | (with_reducible exact ih0 _ _ _ _ _ _ _ _ _ _ _ _ _ _ _)
      | (with_reducible exact ih1 _ _ _ _ _ _ _ _ _ _ _ _ _ _ _)
      | (with_reducible exact LeO.refl _)
      | (with_reducible exact LeO.none _)
      | (with_reducible refine LeO.ite ?_ ?_)
      | (with_reducible refine LeO.bind ?_ (fun _ => ?_))
      | exact ih0 _ _ _ _ _ _ _ _ _ _ _ _ _ _ _
      | exact ih1 _ _ _ _ _ _ _ _ _ _ _ _ _ _ _
      | exact LeO.none _
      | refine LeO.ite ?_ ?_
      | refine LeO.bind ?_ (fun _ => ?_)
theorem hucksterref15_One.mono : ∀ a0 a1 a2 a3 a4 a5 a6 a7 a8 a9 a10 a11 a12 a13 k, LeO (hucksterref15_One.f k a0 a1 a2 a3 a4 a5 a6 a7 a8 a9 a10 a11 a12 a13) (hucksterref15_One.f (k + 1) a0 a1 a2 a3 a4 a5 a6 a7 a8 a9 a10 a11 a12 a13) := by
  intro a0 a1 a2 a3 a4 a5 a6 a7 a8 a9 a10 a11 a12 a13 k
  obtain ⟨ih0, ih1⟩ := hucksterref15_One.mono_l k
  unfold hucksterref15_One.f
  repeat' first
      | (with_reducible exact ih0 _ _ _ _ _ _ _ _ _ _ _ _ _ _ _)
      | (with_reducible exact ih1 _ _ _ _ _ _ _ _ _ _ _ _ _ _ _)
      | (with_reducible exact LeO.refl _)
      | (with_reducible exact LeO.none _)
      | (with_reducible refine LeO.ite ?_ ?_)
      | (with_reducible refine LeO.bind ?_ (fun _ => ?_))
      | exact ih0 _ _ _ _ _ _ _ _ _ _ _ _ _ _ _
      | exact ih1 _ _ _ _ _ _ _ _ _ _ _ _ _ _ _
      | exact LeO.none _
      | refine LeO.ite ?_ ?_
      | refine LeO.bind ?_ (fun _ => ?_)
set_option maxHeartbeats 8000000 in
set_option maxRecDepth 100000 in
theorem hucksterref15_One.calls (k : Nat) (a0_0 : Int) (a0_1 : Bool) (a0_2 : ByteArray) (a0_3 : ByteArray) (a0_4 : Int) (A0_5 : Option Addr) (c0_5 : Nat) (l0_5 : List (S60)) (a0_6 : Int) (a1_0 : Int) (a1_1 : Bool) (a1_2 : ByteArray) (a1_3 : ByteArray) (a1_4 : Int) (A1_5 : Option Addr) (c1_5 : Nat) (l1_5 : List (S60)) (a1_6 : Int) (r : Bool) (w : World) (hr0_5 : Kd.C k60 w A0_5 l0_5.length l0_5) (hc0_5 : l0_5.length ≤ c0_5) (hr1_5 : Kd.C k60 w A1_5 l1_5.length l1_5) (hc1_5 : l1_5.length ≤ c1_5) (h : hucksterref15_One.f k a0_0 a0_1 a0_2 a0_3 a0_4 l0_5 a0_6 a1_0 a1_1 a1_2 a1_3 a1_4 l1_5 a1_6 = some r) :
    Calls Try.prog 16 #[.agg #[.int .i64 a0_0, .bool a0_1, .string a0_2, .string a0_3, .int .i64 a0_4, .slice A0_5 l0_5.length c0_5, .int .i64 a0_6], .agg #[.int .i64 a1_0, .bool a1_1, .string a1_2, .string a1_3, .int .i64 a1_4, .slice A1_5 l1_5.length c1_5, .int .i64 a1_6]] w fun e w' => e = .returned (.bool r) ∧ Below w.heap.size w w' := by
  have hu29 := Try.underlying29
  have hu60 := Try.underlying60
  have HR0_5 := Aside0.mk hr0_5
  have HC0_5 := Aside0.mk hc0_5
  clear hr0_5 hc0_5
  have HR1_5 := Aside0.mk hr1_5
  have HC1_5 := Aside0.mk hc1_5
  clear hr1_5 hc1_5
  have HB := Aside0.mk (Below.refl w.heap.size w)
  have H : (if a0_0 = a1_0 then (if (a0_1 != a1_1) = true then (hucksterref15_One.j0 k true a0_0 a0_1 a0_2 a0_3 a0_4 l0_5 a0_6 a1_0 a1_1 a1_2 a1_3 a1_4 l1_5 a1_6) else (if a0_2.toList = a1_2.toList then (if a0_3.toList = a1_3.toList then (if a0_4 = a1_4 then (if a0_6 = a1_6 then (hucksterref15_One.j0 k ((l0_5.length : Int) != (l1_5.length : Int)) a0_0 a0_1 a0_2 a0_3 a0_4 l0_5 a0_6 a1_0 a1_1 a1_2 a1_3 a1_4 l1_5 a1_6) else (hucksterref15_One.j0 k true a0_0 a0_1 a0_2 a0_3 a0_4 l0_5 a0_6 a1_0 a1_1 a1_2 a1_3 a1_4 l1_5 a1_6)) else (hucksterref15_One.j0 k true a0_0 a0_1 a0_2 a0_3 a0_4 l0_5 a0_6 a1_0 a1_1 a1_2 a1_3 a1_4 l1_5 a1_6)) else (hucksterref15_One.j0 k true a0_0 a0_1 a0_2 a0_3 a0_4 l0_5 a0_6 a1_0 a1_1 a1_2 a1_3 a1_4 l1_5 a1_6)) else (hucksterref15_One.j0 k true a0_0 a0_1 a0_2 a0_3 a0_4 l0_5 a0_6 a1_0 a1_1 a1_2 a1_3 a1_4 l1_5 a1_6))) else (hucksterref15_One.j0 k true a0_0 a0_1 a0_2 a0_3 a0_4 l0_5 a0_6 a1_0 a1_1 a1_2 a1_3 a1_4 l1_5 a1_6)) = some r := h
  clear h
  have HC3 := Aside0.mk H
  clear H
  go_enter Try.func16, Try.ntmps16
  go_upto_region 1 with (first | ((with_reducible refine gate_dst (N := 2) rfl ?_); (try (refine gate_guard (by rfl) ?_; dsimp only)); refine box_event ?hg (N := 2) ?hd (cs := #[.int .i64 a0_0, .bool a0_1, .string a0_2, .string a0_3, .int .i64 a0_4, .slice A0_5 l0_5.length c0_5, .int .i64 a0_6]) (t := 29) ?hr ?_; (case hd => rfl); (case hg => rfl); (case hr => first | (go_simp; done) | (go_simp; rfl)); intro gb101 hg w4 hbox hb; have n0_ := Aside0.mk (below_step (by repeat (first | (with_reducible first | exact HB.out | apply below_alloc | apply pw_below_drewN | apply below_drew1) | exact HB.out)) hb); have n1_ := Aside0.mk (hbox); have n2_ := Aside0.mk ((by rw [hg]; exact (below_size (by repeat (first | (with_reducible first | exact HB.out | apply below_alloc | apply pw_below_drewN | apply below_drew1) | exact HB.out))) : w.heap.size ≤ gb101)); have n3_ := Aside0.mk ((by rw [hg]; exact (below_size (by repeat (first | (with_reducible first | exact HB.out | apply below_alloc | apply pw_below_drewN | apply below_drew1) | exact HB.out))) : w.heap.size ≤ gb101)); clear HB; have HB := n0_; have BK101 := n1_; have GW101 := n2_; have GE101 := n3_; clear n0_ n1_ n2_ n3_; clear hb hbox hg) | ((with_reducible refine gate_dst (N := 3) rfl ?_); (try (refine gate_guard (by rfl) ?_; dsimp only)); refine box_event ?hg (N := 3) ?hd (cs := #[.int .i64 a1_0, .bool a1_1, .string a1_2, .string a1_3, .int .i64 a1_4, .slice A1_5 l1_5.length c1_5, .int .i64 a1_6]) (t := 29) ?hr ?_; (case hd => rfl); (case hg => rfl); (case hr => first | (go_simp; done) | (go_simp; rfl)); intro gb102 hg w5 hbox hb; have n0_ := Aside0.mk (blk_below (g := gb101) (o := .cells #[.int .i64 a0_0, .bool a0_1, .string a0_2, .string a0_3, .int .i64 a0_4, .slice A0_5 l0_5.length c0_5, .int .i64 a0_6] 29 (0, 0)) (by (with_reducible repeat (first | refine blk_drewN ?_ _ | refine blk_drew ?_ | refine blk_alloc ?_ _)); exact BK101.out) hb); have n1_ := Aside0.mk (below_step (by repeat (first | (with_reducible first | exact HB.out | apply below_alloc | apply pw_below_drewN | apply below_drew1 | refine below_set ?_ GE101.out) | exact HB.out)) hb); have n2_ := Aside0.mk (hbox); have n3_ := Aside0.mk ((by rw [hg]; exact (below_size (by repeat (first | (with_reducible first | exact HB.out | apply below_alloc | apply pw_below_drewN | apply below_drew1 | refine below_set ?_ GE101.out) | exact HB.out))) : w.heap.size ≤ gb102)); have n4_ := Aside0.mk ((by rw [hg]; exact (below_size (by repeat (first | (with_reducible first | exact HB.out | apply below_alloc | apply pw_below_drewN | apply below_drew1 | refine below_set ?_ GE101.out) | exact HB.out))) : w.heap.size ≤ gb102)); have n5_ := Aside0.mk ((by rw [hg]; exact Nat.ne_of_lt (blk_lt (g := gb101) (o := .cells #[.int .i64 a0_0, .bool a0_1, .string a0_2, .string a0_3, .int .i64 a0_4, .slice A0_5 l0_5.length c0_5, .int .i64 a0_6] 29 (0, 0)) (by (with_reducible repeat (first | refine blk_drewN ?_ _ | refine blk_drew ?_ | refine blk_alloc ?_ _)); exact BK101.out)) : gb101 ≠ gb102)); have n6_ := Aside0.mk ((by rw [hg]; exact Nat.ne_of_gt (blk_lt (g := gb101) (o := .cells #[.int .i64 a0_0, .bool a0_1, .string a0_2, .string a0_3, .int .i64 a0_4, .slice A0_5 l0_5.length c0_5, .int .i64 a0_6] 29 (0, 0)) (by (with_reducible repeat (first | refine blk_drewN ?_ _ | refine blk_drew ?_ | refine blk_alloc ?_ _)); exact BK101.out)) : gb102 ≠ gb101)); clear BK101; clear HB; have BK101 := n0_; have HB := n1_; have BK102 := n2_; have GW102 := n3_; have GE102 := n4_; have NB101_102 := n5_; have NB102_101 := n6_; clear n0_ n1_ n2_ n3_ n4_ n5_ n6_; clear hb hbox hg))
  repeat (go_quiet (first | ((with_reducible refine gate_dst (N := 2) rfl ?_); (try (refine gate_guard (by rfl) ?_; dsimp only)); refine box_event ?hg (N := 2) ?hd (cs := #[.int .i64 a0_0, .bool a0_1, .string a0_2, .string a0_3, .int .i64 a0_4, .slice A0_5 l0_5.length c0_5, .int .i64 a0_6]) (t := 29) ?hr ?_; (case hd => rfl); (case hg => rfl); (case hr => first | (go_simp; done) | (go_simp; rfl)); intro gb101 hg w4 hbox hb; have n0_ := Aside0.mk (below_step (by repeat (first | (with_reducible first | exact HB.out | apply below_alloc | apply pw_below_drewN | apply below_drew1) | exact HB.out)) hb); have n1_ := Aside0.mk (hbox); have n2_ := Aside0.mk ((by rw [hg]; exact (below_size (by repeat (first | (with_reducible first | exact HB.out | apply below_alloc | apply pw_below_drewN | apply below_drew1) | exact HB.out))) : w.heap.size ≤ gb101)); have n3_ := Aside0.mk ((by rw [hg]; exact (below_size (by repeat (first | (with_reducible first | exact HB.out | apply below_alloc | apply pw_below_drewN | apply below_drew1) | exact HB.out))) : w.heap.size ≤ gb101)); clear HB; have HB := n0_; have BK101 := n1_; have GW101 := n2_; have GE101 := n3_; clear n0_ n1_ n2_ n3_; clear hb hbox hg) | ((with_reducible refine gate_dst (N := 3) rfl ?_); (try (refine gate_guard (by rfl) ?_; dsimp only)); refine box_event ?hg (N := 3) ?hd (cs := #[.int .i64 a1_0, .bool a1_1, .string a1_2, .string a1_3, .int .i64 a1_4, .slice A1_5 l1_5.length c1_5, .int .i64 a1_6]) (t := 29) ?hr ?_; (case hd => rfl); (case hg => rfl); (case hr => first | (go_simp; done) | (go_simp; rfl)); intro gb102 hg w5 hbox hb; have n0_ := Aside0.mk (blk_below (g := gb101) (o := .cells #[.int .i64 a0_0, .bool a0_1, .string a0_2, .string a0_3, .int .i64 a0_4, .slice A0_5 l0_5.length c0_5, .int .i64 a0_6] 29 (0, 0)) (by (with_reducible repeat (first | refine blk_drewN ?_ _ | refine blk_drew ?_ | refine blk_alloc ?_ _)); exact BK101.out) hb); have n1_ := Aside0.mk (below_step (by repeat (first | (with_reducible first | exact HB.out | apply below_alloc | apply pw_below_drewN | apply below_drew1 | refine below_set ?_ GE101.out) | exact HB.out)) hb); have n2_ := Aside0.mk (hbox); have n3_ := Aside0.mk ((by rw [hg]; exact (below_size (by repeat (first | (with_reducible first | exact HB.out | apply below_alloc | apply pw_below_drewN | apply below_drew1 | refine below_set ?_ GE101.out) | exact HB.out))) : w.heap.size ≤ gb102)); have n4_ := Aside0.mk ((by rw [hg]; exact (below_size (by repeat (first | (with_reducible first | exact HB.out | apply below_alloc | apply pw_below_drewN | apply below_drew1 | refine below_set ?_ GE101.out) | exact HB.out))) : w.heap.size ≤ gb102)); have n5_ := Aside0.mk ((by rw [hg]; exact Nat.ne_of_lt (blk_lt (g := gb101) (o := .cells #[.int .i64 a0_0, .bool a0_1, .string a0_2, .string a0_3, .int .i64 a0_4, .slice A0_5 l0_5.length c0_5, .int .i64 a0_6] 29 (0, 0)) (by (with_reducible repeat (first | refine blk_drewN ?_ _ | refine blk_drew ?_ | refine blk_alloc ?_ _)); exact BK101.out)) : gb101 ≠ gb102)); have n6_ := Aside0.mk ((by rw [hg]; exact Nat.ne_of_gt (blk_lt (g := gb101) (o := .cells #[.int .i64 a0_0, .bool a0_1, .string a0_2, .string a0_3, .int .i64 a0_4, .slice A0_5 l0_5.length c0_5, .int .i64 a0_6] 29 (0, 0)) (by (with_reducible repeat (first | refine blk_drewN ?_ _ | refine blk_drew ?_ | refine blk_alloc ?_ _)); exact BK101.out)) : gb102 ≠ gb101)); clear BK101; clear HB; have BK101 := n0_; have HB := n1_; have BK102 := n2_; have GW102 := n3_; have GE102 := n4_; have NB101_102 := n5_; have NB102_101 := n6_; clear n0_ n1_ n2_ n3_ n4_ n5_ n6_; clear hb hbox hg)); go_upto_region 1 with (first | ((with_reducible refine gate_dst (N := 2) rfl ?_); (try (refine gate_guard (by rfl) ?_; dsimp only)); refine box_event ?hg (N := 2) ?hd (cs := #[.int .i64 a0_0, .bool a0_1, .string a0_2, .string a0_3, .int .i64 a0_4, .slice A0_5 l0_5.length c0_5, .int .i64 a0_6]) (t := 29) ?hr ?_; (case hd => rfl); (case hg => rfl); (case hr => first | (go_simp; done) | (go_simp; rfl)); intro gb101 hg w4 hbox hb; have n0_ := Aside0.mk (below_step (by repeat (first | (with_reducible first | exact HB.out | apply below_alloc | apply pw_below_drewN | apply below_drew1) | exact HB.out)) hb); have n1_ := Aside0.mk (hbox); have n2_ := Aside0.mk ((by rw [hg]; exact (below_size (by repeat (first | (with_reducible first | exact HB.out | apply below_alloc | apply pw_below_drewN | apply below_drew1) | exact HB.out))) : w.heap.size ≤ gb101)); have n3_ := Aside0.mk ((by rw [hg]; exact (below_size (by repeat (first | (with_reducible first | exact HB.out | apply below_alloc | apply pw_below_drewN | apply below_drew1) | exact HB.out))) : w.heap.size ≤ gb101)); clear HB; have HB := n0_; have BK101 := n1_; have GW101 := n2_; have GE101 := n3_; clear n0_ n1_ n2_ n3_; clear hb hbox hg) | ((with_reducible refine gate_dst (N := 3) rfl ?_); (try (refine gate_guard (by rfl) ?_; dsimp only)); refine box_event ?hg (N := 3) ?hd (cs := #[.int .i64 a1_0, .bool a1_1, .string a1_2, .string a1_3, .int .i64 a1_4, .slice A1_5 l1_5.length c1_5, .int .i64 a1_6]) (t := 29) ?hr ?_; (case hd => rfl); (case hg => rfl); (case hr => first | (go_simp; done) | (go_simp; rfl)); intro gb102 hg w5 hbox hb; have n0_ := Aside0.mk (blk_below (g := gb101) (o := .cells #[.int .i64 a0_0, .bool a0_1, .string a0_2, .string a0_3, .int .i64 a0_4, .slice A0_5 l0_5.length c0_5, .int .i64 a0_6] 29 (0, 0)) (by (with_reducible repeat (first | refine blk_drewN ?_ _ | refine blk_drew ?_ | refine blk_alloc ?_ _)); exact BK101.out) hb); have n1_ := Aside0.mk (below_step (by repeat (first | (with_reducible first | exact HB.out | apply below_alloc | apply pw_below_drewN | apply below_drew1 | refine below_set ?_ GE101.out) | exact HB.out)) hb); have n2_ := Aside0.mk (hbox); have n3_ := Aside0.mk ((by rw [hg]; exact (below_size (by repeat (first | (with_reducible first | exact HB.out | apply below_alloc | apply pw_below_drewN | apply below_drew1 | refine below_set ?_ GE101.out) | exact HB.out))) : w.heap.size ≤ gb102)); have n4_ := Aside0.mk ((by rw [hg]; exact (below_size (by repeat (first | (with_reducible first | exact HB.out | apply below_alloc | apply pw_below_drewN | apply below_drew1 | refine below_set ?_ GE101.out) | exact HB.out))) : w.heap.size ≤ gb102)); have n5_ := Aside0.mk ((by rw [hg]; exact Nat.ne_of_lt (blk_lt (g := gb101) (o := .cells #[.int .i64 a0_0, .bool a0_1, .string a0_2, .string a0_3, .int .i64 a0_4, .slice A0_5 l0_5.length c0_5, .int .i64 a0_6] 29 (0, 0)) (by (with_reducible repeat (first | refine blk_drewN ?_ _ | refine blk_drew ?_ | refine blk_alloc ?_ _)); exact BK101.out)) : gb101 ≠ gb102)); have n6_ := Aside0.mk ((by rw [hg]; exact Nat.ne_of_gt (blk_lt (g := gb101) (o := .cells #[.int .i64 a0_0, .bool a0_1, .string a0_2, .string a0_3, .int .i64 a0_4, .slice A0_5 l0_5.length c0_5, .int .i64 a0_6] 29 (0, 0)) (by (with_reducible repeat (first | refine blk_drewN ?_ _ | refine blk_drew ?_ | refine blk_alloc ?_ _)); exact BK101.out)) : gb102 ≠ gb101)); clear BK101; clear HB; have BK101 := n0_; have HB := n1_; have BK102 := n2_; have GW102 := n3_; have GE102 := n4_; have NB101_102 := n5_; have NB102_101 := n6_; clear n0_ n1_ n2_ n3_ n4_ n5_ n6_; clear hb hbox hg)))
  (try simp only [Act.put, List.setIfInBounds_toArray, List.set_cons_zero, List.set_cons_succ])
  go_cut [54] (fun v54 wc => ∃ (kq : Nat) (x54_2 : Bool), v54 = .bool x54_2 ∧ Aside0 (hucksterref15_One.j0 kq x54_2 a0_0 a0_1 a0_2 a0_3 a0_4 l0_5 a0_6 a1_0 a1_1 a1_2 a1_3 a1_4 l1_5 a1_6 = some r) ∧ Aside0 (kq ≤ k) ∧ Aside0 (wc.heap[gb101]? = some (.cells #[.int .i64 a0_0, .bool a0_1, .string a0_2, .string a0_3, .int .i64 a0_4, (.slice A0_5 l0_5.length c0_5), .int .i64 a0_6] 29 (0, 0))) ∧ Aside0 (wc.heap[gb102]? = some (.cells #[.int .i64 a1_0, .bool a1_1, .string a1_2, .string a1_3, .int .i64 a1_4, (.slice A1_5 l1_5.length c1_5), .int .i64 a1_6] 29 (0, 0))) ∧ Aside0 (Below w.heap.size w wc))
  case first =>
    have H := HC3.out
    clear HC3
    by_cases c6 : a0_0 = a1_0
    · rw [if_pos c6] at H
      have c6b0 : (a0_0 == a1_0) = true := beq_iff_eq.mpr c6
      have c6b1 : (a0_0 != a1_0) = false := bne_eq_false_iff_eq.mpr c6
      clear c6
      (first | rw [c6b0] | (simp only [i64_w, i32_w]; rw [c6b0]) | skip)
      by_cases c7 : (a0_1 != a1_1) = true
      · rw [if_pos c7] at H
        have c7b0 : (a0_1 != a1_1) = true := c7
        (try (have c7b1 : decide (a0_1 = a1_1) = false := by simpa using c7))
        (try (have c7b2 : (a0_1 == a1_1) = false := by simpa using c7))
        (try (have c7b3 : ¬ (a0_1 = a1_1) := by simpa using c7))
        clear c7
        have H' := Aside0.mk H
        clear H
        have hnb8 := NB101_102.out
        have hnc8 := NB102_101.out
        have hcz9_0 : w5.cell? ⟨gb101, 0, none⟩ = some (.int .i64 a0_0) := (blk_cell BK101.out 0).trans rfl
        have hcz9_1 : w5.cell? ⟨gb101, 1, none⟩ = some (.bool a0_1) := (blk_cell BK101.out 1).trans rfl
        have hcz9_2 : w5.cell? ⟨gb101, 2, none⟩ = some (.string a0_2) := (blk_cell BK101.out 2).trans rfl
        have hcz9_3 : w5.cell? ⟨gb101, 3, none⟩ = some (.string a0_3) := (blk_cell BK101.out 3).trans rfl
        have hcz9_4 : w5.cell? ⟨gb101, 4, none⟩ = some (.int .i64 a0_4) := (blk_cell BK101.out 4).trans rfl
        have hcz9_5 : w5.cell? ⟨gb101, 5, none⟩ = some (.slice A0_5 l0_5.length c0_5) := (blk_cell BK101.out 5).trans rfl
        have hcz9_6 : w5.cell? ⟨gb101, 6, none⟩ = some (.int .i64 a0_6) := (blk_cell BK101.out 6).trans rfl
        have hfz9_0 := blk_frozen BK101.out 0
        have hfz9_1 := blk_frozen BK101.out 1
        have hfz9_2 := blk_frozen BK101.out 2
        have hfz9_3 := blk_frozen BK101.out 3
        have hfz9_4 := blk_frozen BK101.out 4
        have hfz9_5 := blk_frozen BK101.out 5
        have hfz9_6 := blk_frozen BK101.out 6
        have hcz10_0 : w5.cell? ⟨gb102, 0, none⟩ = some (.int .i64 a1_0) := (blk_cell BK102.out 0).trans rfl
        have hcz10_1 : w5.cell? ⟨gb102, 1, none⟩ = some (.bool a1_1) := (blk_cell BK102.out 1).trans rfl
        have hcz10_2 : w5.cell? ⟨gb102, 2, none⟩ = some (.string a1_2) := (blk_cell BK102.out 2).trans rfl
        have hcz10_3 : w5.cell? ⟨gb102, 3, none⟩ = some (.string a1_3) := (blk_cell BK102.out 3).trans rfl
        have hcz10_4 : w5.cell? ⟨gb102, 4, none⟩ = some (.int .i64 a1_4) := (blk_cell BK102.out 4).trans rfl
        have hcz10_5 : w5.cell? ⟨gb102, 5, none⟩ = some (.slice A1_5 l1_5.length c1_5) := (blk_cell BK102.out 5).trans rfl
        have hcz10_6 : w5.cell? ⟨gb102, 6, none⟩ = some (.int .i64 a1_6) := (blk_cell BK102.out 6).trans rfl
        have hfz10_0 := blk_frozen BK102.out 0
        have hfz10_1 := blk_frozen BK102.out 1
        have hfz10_2 := blk_frozen BK102.out 2
        have hfz10_3 := blk_frozen BK102.out 3
        have hfz10_4 := blk_frozen BK102.out 4
        have hfz10_5 := blk_frozen BK102.out 5
        have hfz10_6 := blk_frozen BK102.out 6
        go_wp2
        repeat (go_quiet (fail); try go_wp2)
        go_meet
        case rel => exact ⟨_, (true), (by first | rfl | (simp; done) | (simp [*]; done)), H', ⟨by first | omega | exact Nat.le_refl _⟩, ⟨by (with_reducible repeat (first | refine blk_drewN ?_ _ | refine blk_drew ?_ | refine blk_alloc ?_ _)); exact BK101.out⟩, ⟨by (with_reducible repeat (first | refine blk_drewN ?_ _ | refine blk_drew ?_ | refine blk_alloc ?_ _)); exact BK102.out⟩, ⟨by repeat (first | (with_reducible first | exact HB.out | apply below_alloc | apply pw_below_drewN | apply below_drew1 | refine below_set ?_ GE101.out | refine below_set ?_ GE102.out) | exact HB.out)⟩⟩
      · rw [if_neg c7] at H
        have c7b0 : (a0_1 != a1_1) = false := by simpa using c7
        (try (have c7b1 : decide (a0_1 = a1_1) = true := by simpa using c7))
        (try (have c7b2 : (a0_1 == a1_1) = true := by simpa using c7))
        clear c7
        by_cases c11 : a0_2.toList = a1_2.toList
        · rw [if_pos c11] at H
          have c11b0 : (a0_2.toList == a1_2.toList) = true := beq_iff_eq.mpr c11
          have c11b1 : (a0_2.toList != a1_2.toList) = false := bne_eq_false_iff_eq.mpr c11
          clear c11
          by_cases c12 : a0_3.toList = a1_3.toList
          · rw [if_pos c12] at H
            have c12b0 : (a0_3.toList == a1_3.toList) = true := beq_iff_eq.mpr c12
            have c12b1 : (a0_3.toList != a1_3.toList) = false := bne_eq_false_iff_eq.mpr c12
            clear c12
            by_cases c13 : a0_4 = a1_4
            · rw [if_pos c13] at H
              have c13b0 : (a0_4 == a1_4) = true := beq_iff_eq.mpr c13
              have c13b1 : (a0_4 != a1_4) = false := bne_eq_false_iff_eq.mpr c13
              clear c13
              by_cases c14 : a0_6 = a1_6
              · rw [if_pos c14] at H
                have c14b0 : (a0_6 == a1_6) = true := beq_iff_eq.mpr c14
                have c14b1 : (a0_6 != a1_6) = false := bne_eq_false_iff_eq.mpr c14
                clear c14
                have H' := Aside0.mk H
                clear H
                have hnb15 := NB101_102.out
                have hnc15 := NB102_101.out
                have hcz16_0 : w5.cell? ⟨gb101, 0, none⟩ = some (.int .i64 a0_0) := (blk_cell BK101.out 0).trans rfl
                have hcz16_1 : w5.cell? ⟨gb101, 1, none⟩ = some (.bool a0_1) := (blk_cell BK101.out 1).trans rfl
                have hcz16_2 : w5.cell? ⟨gb101, 2, none⟩ = some (.string a0_2) := (blk_cell BK101.out 2).trans rfl
                have hcz16_3 : w5.cell? ⟨gb101, 3, none⟩ = some (.string a0_3) := (blk_cell BK101.out 3).trans rfl
                have hcz16_4 : w5.cell? ⟨gb101, 4, none⟩ = some (.int .i64 a0_4) := (blk_cell BK101.out 4).trans rfl
                have hcz16_5 : w5.cell? ⟨gb101, 5, none⟩ = some (.slice A0_5 l0_5.length c0_5) := (blk_cell BK101.out 5).trans rfl
                have hcz16_6 : w5.cell? ⟨gb101, 6, none⟩ = some (.int .i64 a0_6) := (blk_cell BK101.out 6).trans rfl
                have hfz16_0 := blk_frozen BK101.out 0
                have hfz16_1 := blk_frozen BK101.out 1
                have hfz16_2 := blk_frozen BK101.out 2
                have hfz16_3 := blk_frozen BK101.out 3
                have hfz16_4 := blk_frozen BK101.out 4
                have hfz16_5 := blk_frozen BK101.out 5
                have hfz16_6 := blk_frozen BK101.out 6
                have hcz17_0 : w5.cell? ⟨gb102, 0, none⟩ = some (.int .i64 a1_0) := (blk_cell BK102.out 0).trans rfl
                have hcz17_1 : w5.cell? ⟨gb102, 1, none⟩ = some (.bool a1_1) := (blk_cell BK102.out 1).trans rfl
                have hcz17_2 : w5.cell? ⟨gb102, 2, none⟩ = some (.string a1_2) := (blk_cell BK102.out 2).trans rfl
                have hcz17_3 : w5.cell? ⟨gb102, 3, none⟩ = some (.string a1_3) := (blk_cell BK102.out 3).trans rfl
                have hcz17_4 : w5.cell? ⟨gb102, 4, none⟩ = some (.int .i64 a1_4) := (blk_cell BK102.out 4).trans rfl
                have hcz17_5 : w5.cell? ⟨gb102, 5, none⟩ = some (.slice A1_5 l1_5.length c1_5) := (blk_cell BK102.out 5).trans rfl
                have hcz17_6 : w5.cell? ⟨gb102, 6, none⟩ = some (.int .i64 a1_6) := (blk_cell BK102.out 6).trans rfl
                have hfz17_0 := blk_frozen BK102.out 0
                have hfz17_1 := blk_frozen BK102.out 1
                have hfz17_2 := blk_frozen BK102.out 2
                have hfz17_3 := blk_frozen BK102.out 3
                have hfz17_4 := blk_frozen BK102.out 4
                have hfz17_5 := blk_frozen BK102.out 5
                have hfz17_6 := blk_frozen BK102.out 6
                go_wp2
                repeat (go_quiet (fail); try go_wp2)
                go_meet
                case rel => exact ⟨_, (((l0_5.length : Int) != (l1_5.length : Int))), (by first | rfl | (simp; done) | (simp [*]; done)), H', ⟨by first | omega | exact Nat.le_refl _⟩, ⟨by (with_reducible repeat (first | refine blk_drewN ?_ _ | refine blk_drew ?_ | refine blk_alloc ?_ _)); exact BK101.out⟩, ⟨by (with_reducible repeat (first | refine blk_drewN ?_ _ | refine blk_drew ?_ | refine blk_alloc ?_ _)); exact BK102.out⟩, ⟨by repeat (first | (with_reducible first | exact HB.out | apply below_alloc | apply pw_below_drewN | apply below_drew1 | refine below_set ?_ GE101.out | refine below_set ?_ GE102.out) | exact HB.out)⟩⟩
              · rw [if_neg c14] at H
                have c14b0 : (a0_6 == a1_6) = false := beq_eq_false_iff_ne.mpr c14
                have c14b1 : (a0_6 != a1_6) = true := bne_iff_ne.mpr c14
                have H' := Aside0.mk H
                clear H
                have hnb18 := NB101_102.out
                have hnc18 := NB102_101.out
                have hcz19_0 : w5.cell? ⟨gb101, 0, none⟩ = some (.int .i64 a0_0) := (blk_cell BK101.out 0).trans rfl
                have hcz19_1 : w5.cell? ⟨gb101, 1, none⟩ = some (.bool a0_1) := (blk_cell BK101.out 1).trans rfl
                have hcz19_2 : w5.cell? ⟨gb101, 2, none⟩ = some (.string a0_2) := (blk_cell BK101.out 2).trans rfl
                have hcz19_3 : w5.cell? ⟨gb101, 3, none⟩ = some (.string a0_3) := (blk_cell BK101.out 3).trans rfl
                have hcz19_4 : w5.cell? ⟨gb101, 4, none⟩ = some (.int .i64 a0_4) := (blk_cell BK101.out 4).trans rfl
                have hcz19_5 : w5.cell? ⟨gb101, 5, none⟩ = some (.slice A0_5 l0_5.length c0_5) := (blk_cell BK101.out 5).trans rfl
                have hcz19_6 : w5.cell? ⟨gb101, 6, none⟩ = some (.int .i64 a0_6) := (blk_cell BK101.out 6).trans rfl
                have hfz19_0 := blk_frozen BK101.out 0
                have hfz19_1 := blk_frozen BK101.out 1
                have hfz19_2 := blk_frozen BK101.out 2
                have hfz19_3 := blk_frozen BK101.out 3
                have hfz19_4 := blk_frozen BK101.out 4
                have hfz19_5 := blk_frozen BK101.out 5
                have hfz19_6 := blk_frozen BK101.out 6
                have hcz20_0 : w5.cell? ⟨gb102, 0, none⟩ = some (.int .i64 a1_0) := (blk_cell BK102.out 0).trans rfl
                have hcz20_1 : w5.cell? ⟨gb102, 1, none⟩ = some (.bool a1_1) := (blk_cell BK102.out 1).trans rfl
                have hcz20_2 : w5.cell? ⟨gb102, 2, none⟩ = some (.string a1_2) := (blk_cell BK102.out 2).trans rfl
                have hcz20_3 : w5.cell? ⟨gb102, 3, none⟩ = some (.string a1_3) := (blk_cell BK102.out 3).trans rfl
                have hcz20_4 : w5.cell? ⟨gb102, 4, none⟩ = some (.int .i64 a1_4) := (blk_cell BK102.out 4).trans rfl
                have hcz20_5 : w5.cell? ⟨gb102, 5, none⟩ = some (.slice A1_5 l1_5.length c1_5) := (blk_cell BK102.out 5).trans rfl
                have hcz20_6 : w5.cell? ⟨gb102, 6, none⟩ = some (.int .i64 a1_6) := (blk_cell BK102.out 6).trans rfl
                have hfz20_0 := blk_frozen BK102.out 0
                have hfz20_1 := blk_frozen BK102.out 1
                have hfz20_2 := blk_frozen BK102.out 2
                have hfz20_3 := blk_frozen BK102.out 3
                have hfz20_4 := blk_frozen BK102.out 4
                have hfz20_5 := blk_frozen BK102.out 5
                have hfz20_6 := blk_frozen BK102.out 6
                go_wp2
                repeat (go_quiet (fail); try go_wp2)
                go_meet
                case rel => exact ⟨_, (true), (by first | rfl | (simp; done) | (simp [*]; done)), H', ⟨by first | omega | exact Nat.le_refl _⟩, ⟨by (with_reducible repeat (first | refine blk_drewN ?_ _ | refine blk_drew ?_ | refine blk_alloc ?_ _)); exact BK101.out⟩, ⟨by (with_reducible repeat (first | refine blk_drewN ?_ _ | refine blk_drew ?_ | refine blk_alloc ?_ _)); exact BK102.out⟩, ⟨by repeat (first | (with_reducible first | exact HB.out | apply below_alloc | apply pw_below_drewN | apply below_drew1 | refine below_set ?_ GE101.out | refine below_set ?_ GE102.out) | exact HB.out)⟩⟩
            · rw [if_neg c13] at H
              have c13b0 : (a0_4 == a1_4) = false := beq_eq_false_iff_ne.mpr c13
              have c13b1 : (a0_4 != a1_4) = true := bne_iff_ne.mpr c13
              have H' := Aside0.mk H
              clear H
              have hnb21 := NB101_102.out
              have hnc21 := NB102_101.out
              have hcz22_0 : w5.cell? ⟨gb101, 0, none⟩ = some (.int .i64 a0_0) := (blk_cell BK101.out 0).trans rfl
              have hcz22_1 : w5.cell? ⟨gb101, 1, none⟩ = some (.bool a0_1) := (blk_cell BK101.out 1).trans rfl
              have hcz22_2 : w5.cell? ⟨gb101, 2, none⟩ = some (.string a0_2) := (blk_cell BK101.out 2).trans rfl
              have hcz22_3 : w5.cell? ⟨gb101, 3, none⟩ = some (.string a0_3) := (blk_cell BK101.out 3).trans rfl
              have hcz22_4 : w5.cell? ⟨gb101, 4, none⟩ = some (.int .i64 a0_4) := (blk_cell BK101.out 4).trans rfl
              have hcz22_5 : w5.cell? ⟨gb101, 5, none⟩ = some (.slice A0_5 l0_5.length c0_5) := (blk_cell BK101.out 5).trans rfl
              have hcz22_6 : w5.cell? ⟨gb101, 6, none⟩ = some (.int .i64 a0_6) := (blk_cell BK101.out 6).trans rfl
              have hfz22_0 := blk_frozen BK101.out 0
              have hfz22_1 := blk_frozen BK101.out 1
              have hfz22_2 := blk_frozen BK101.out 2
              have hfz22_3 := blk_frozen BK101.out 3
              have hfz22_4 := blk_frozen BK101.out 4
              have hfz22_5 := blk_frozen BK101.out 5
              have hfz22_6 := blk_frozen BK101.out 6
              have hcz23_0 : w5.cell? ⟨gb102, 0, none⟩ = some (.int .i64 a1_0) := (blk_cell BK102.out 0).trans rfl
              have hcz23_1 : w5.cell? ⟨gb102, 1, none⟩ = some (.bool a1_1) := (blk_cell BK102.out 1).trans rfl
              have hcz23_2 : w5.cell? ⟨gb102, 2, none⟩ = some (.string a1_2) := (blk_cell BK102.out 2).trans rfl
              have hcz23_3 : w5.cell? ⟨gb102, 3, none⟩ = some (.string a1_3) := (blk_cell BK102.out 3).trans rfl
              have hcz23_4 : w5.cell? ⟨gb102, 4, none⟩ = some (.int .i64 a1_4) := (blk_cell BK102.out 4).trans rfl
              have hcz23_5 : w5.cell? ⟨gb102, 5, none⟩ = some (.slice A1_5 l1_5.length c1_5) := (blk_cell BK102.out 5).trans rfl
              have hcz23_6 : w5.cell? ⟨gb102, 6, none⟩ = some (.int .i64 a1_6) := (blk_cell BK102.out 6).trans rfl
              have hfz23_0 := blk_frozen BK102.out 0
              have hfz23_1 := blk_frozen BK102.out 1
              have hfz23_2 := blk_frozen BK102.out 2
              have hfz23_3 := blk_frozen BK102.out 3
              have hfz23_4 := blk_frozen BK102.out 4
              have hfz23_5 := blk_frozen BK102.out 5
              have hfz23_6 := blk_frozen BK102.out 6
              go_wp2
              repeat (go_quiet (fail); try go_wp2)
              go_meet
              case rel => exact ⟨_, (true), (by first | rfl | (simp; done) | (simp [*]; done)), H', ⟨by first | omega | exact Nat.le_refl _⟩, ⟨by (with_reducible repeat (first | refine blk_drewN ?_ _ | refine blk_drew ?_ | refine blk_alloc ?_ _)); exact BK101.out⟩, ⟨by (with_reducible repeat (first | refine blk_drewN ?_ _ | refine blk_drew ?_ | refine blk_alloc ?_ _)); exact BK102.out⟩, ⟨by repeat (first | (with_reducible first | exact HB.out | apply below_alloc | apply pw_below_drewN | apply below_drew1 | refine below_set ?_ GE101.out | refine below_set ?_ GE102.out) | exact HB.out)⟩⟩
          · rw [if_neg c12] at H
            have c12b0 : (a0_3.toList == a1_3.toList) = false := beq_eq_false_iff_ne.mpr c12
            have c12b1 : (a0_3.toList != a1_3.toList) = true := bne_iff_ne.mpr c12
            have H' := Aside0.mk H
            clear H
            have hnb24 := NB101_102.out
            have hnc24 := NB102_101.out
            have hcz25_0 : w5.cell? ⟨gb101, 0, none⟩ = some (.int .i64 a0_0) := (blk_cell BK101.out 0).trans rfl
            have hcz25_1 : w5.cell? ⟨gb101, 1, none⟩ = some (.bool a0_1) := (blk_cell BK101.out 1).trans rfl
            have hcz25_2 : w5.cell? ⟨gb101, 2, none⟩ = some (.string a0_2) := (blk_cell BK101.out 2).trans rfl
            have hcz25_3 : w5.cell? ⟨gb101, 3, none⟩ = some (.string a0_3) := (blk_cell BK101.out 3).trans rfl
            have hcz25_4 : w5.cell? ⟨gb101, 4, none⟩ = some (.int .i64 a0_4) := (blk_cell BK101.out 4).trans rfl
            have hcz25_5 : w5.cell? ⟨gb101, 5, none⟩ = some (.slice A0_5 l0_5.length c0_5) := (blk_cell BK101.out 5).trans rfl
            have hcz25_6 : w5.cell? ⟨gb101, 6, none⟩ = some (.int .i64 a0_6) := (blk_cell BK101.out 6).trans rfl
            have hfz25_0 := blk_frozen BK101.out 0
            have hfz25_1 := blk_frozen BK101.out 1
            have hfz25_2 := blk_frozen BK101.out 2
            have hfz25_3 := blk_frozen BK101.out 3
            have hfz25_4 := blk_frozen BK101.out 4
            have hfz25_5 := blk_frozen BK101.out 5
            have hfz25_6 := blk_frozen BK101.out 6
            have hcz26_0 : w5.cell? ⟨gb102, 0, none⟩ = some (.int .i64 a1_0) := (blk_cell BK102.out 0).trans rfl
            have hcz26_1 : w5.cell? ⟨gb102, 1, none⟩ = some (.bool a1_1) := (blk_cell BK102.out 1).trans rfl
            have hcz26_2 : w5.cell? ⟨gb102, 2, none⟩ = some (.string a1_2) := (blk_cell BK102.out 2).trans rfl
            have hcz26_3 : w5.cell? ⟨gb102, 3, none⟩ = some (.string a1_3) := (blk_cell BK102.out 3).trans rfl
            have hcz26_4 : w5.cell? ⟨gb102, 4, none⟩ = some (.int .i64 a1_4) := (blk_cell BK102.out 4).trans rfl
            have hcz26_5 : w5.cell? ⟨gb102, 5, none⟩ = some (.slice A1_5 l1_5.length c1_5) := (blk_cell BK102.out 5).trans rfl
            have hcz26_6 : w5.cell? ⟨gb102, 6, none⟩ = some (.int .i64 a1_6) := (blk_cell BK102.out 6).trans rfl
            have hfz26_0 := blk_frozen BK102.out 0
            have hfz26_1 := blk_frozen BK102.out 1
            have hfz26_2 := blk_frozen BK102.out 2
            have hfz26_3 := blk_frozen BK102.out 3
            have hfz26_4 := blk_frozen BK102.out 4
            have hfz26_5 := blk_frozen BK102.out 5
            have hfz26_6 := blk_frozen BK102.out 6
            go_wp2
            repeat (go_quiet (fail); try go_wp2)
            go_meet
            case rel => exact ⟨_, (true), (by first | rfl | (simp; done) | (simp [*]; done)), H', ⟨by first | omega | exact Nat.le_refl _⟩, ⟨by (with_reducible repeat (first | refine blk_drewN ?_ _ | refine blk_drew ?_ | refine blk_alloc ?_ _)); exact BK101.out⟩, ⟨by (with_reducible repeat (first | refine blk_drewN ?_ _ | refine blk_drew ?_ | refine blk_alloc ?_ _)); exact BK102.out⟩, ⟨by repeat (first | (with_reducible first | exact HB.out | apply below_alloc | apply pw_below_drewN | apply below_drew1 | refine below_set ?_ GE101.out | refine below_set ?_ GE102.out) | exact HB.out)⟩⟩
        · rw [if_neg c11] at H
          have c11b0 : (a0_2.toList == a1_2.toList) = false := beq_eq_false_iff_ne.mpr c11
          have c11b1 : (a0_2.toList != a1_2.toList) = true := bne_iff_ne.mpr c11
          have H' := Aside0.mk H
          clear H
          have hnb27 := NB101_102.out
          have hnc27 := NB102_101.out
          have hcz28_0 : w5.cell? ⟨gb101, 0, none⟩ = some (.int .i64 a0_0) := (blk_cell BK101.out 0).trans rfl
          have hcz28_1 : w5.cell? ⟨gb101, 1, none⟩ = some (.bool a0_1) := (blk_cell BK101.out 1).trans rfl
          have hcz28_2 : w5.cell? ⟨gb101, 2, none⟩ = some (.string a0_2) := (blk_cell BK101.out 2).trans rfl
          have hcz28_3 : w5.cell? ⟨gb101, 3, none⟩ = some (.string a0_3) := (blk_cell BK101.out 3).trans rfl
          have hcz28_4 : w5.cell? ⟨gb101, 4, none⟩ = some (.int .i64 a0_4) := (blk_cell BK101.out 4).trans rfl
          have hcz28_5 : w5.cell? ⟨gb101, 5, none⟩ = some (.slice A0_5 l0_5.length c0_5) := (blk_cell BK101.out 5).trans rfl
          have hcz28_6 : w5.cell? ⟨gb101, 6, none⟩ = some (.int .i64 a0_6) := (blk_cell BK101.out 6).trans rfl
          have hfz28_0 := blk_frozen BK101.out 0
          have hfz28_1 := blk_frozen BK101.out 1
          have hfz28_2 := blk_frozen BK101.out 2
          have hfz28_3 := blk_frozen BK101.out 3
          have hfz28_4 := blk_frozen BK101.out 4
          have hfz28_5 := blk_frozen BK101.out 5
          have hfz28_6 := blk_frozen BK101.out 6
          have hcz29_0 : w5.cell? ⟨gb102, 0, none⟩ = some (.int .i64 a1_0) := (blk_cell BK102.out 0).trans rfl
          have hcz29_1 : w5.cell? ⟨gb102, 1, none⟩ = some (.bool a1_1) := (blk_cell BK102.out 1).trans rfl
          have hcz29_2 : w5.cell? ⟨gb102, 2, none⟩ = some (.string a1_2) := (blk_cell BK102.out 2).trans rfl
          have hcz29_3 : w5.cell? ⟨gb102, 3, none⟩ = some (.string a1_3) := (blk_cell BK102.out 3).trans rfl
          have hcz29_4 : w5.cell? ⟨gb102, 4, none⟩ = some (.int .i64 a1_4) := (blk_cell BK102.out 4).trans rfl
          have hcz29_5 : w5.cell? ⟨gb102, 5, none⟩ = some (.slice A1_5 l1_5.length c1_5) := (blk_cell BK102.out 5).trans rfl
          have hcz29_6 : w5.cell? ⟨gb102, 6, none⟩ = some (.int .i64 a1_6) := (blk_cell BK102.out 6).trans rfl
          have hfz29_0 := blk_frozen BK102.out 0
          have hfz29_1 := blk_frozen BK102.out 1
          have hfz29_2 := blk_frozen BK102.out 2
          have hfz29_3 := blk_frozen BK102.out 3
          have hfz29_4 := blk_frozen BK102.out 4
          have hfz29_5 := blk_frozen BK102.out 5
          have hfz29_6 := blk_frozen BK102.out 6
          go_wp2
          repeat (go_quiet (fail); try go_wp2)
          go_meet
          case rel => exact ⟨_, (true), (by first | rfl | (simp; done) | (simp [*]; done)), H', ⟨by first | omega | exact Nat.le_refl _⟩, ⟨by (with_reducible repeat (first | refine blk_drewN ?_ _ | refine blk_drew ?_ | refine blk_alloc ?_ _)); exact BK101.out⟩, ⟨by (with_reducible repeat (first | refine blk_drewN ?_ _ | refine blk_drew ?_ | refine blk_alloc ?_ _)); exact BK102.out⟩, ⟨by repeat (first | (with_reducible first | exact HB.out | apply below_alloc | apply pw_below_drewN | apply below_drew1 | refine below_set ?_ GE101.out | refine below_set ?_ GE102.out) | exact HB.out)⟩⟩
    · rw [if_neg c6] at H
      have c6b0 : (a0_0 == a1_0) = false := beq_eq_false_iff_ne.mpr c6
      have c6b1 : (a0_0 != a1_0) = true := bne_iff_ne.mpr c6
      (first | rw [c6b0] | (simp only [i64_w, i32_w]; rw [c6b0]) | skip)
      have H' := Aside0.mk H
      clear H
      have hnb30 := NB101_102.out
      have hnc30 := NB102_101.out
      have hcz31_0 : w5.cell? ⟨gb101, 0, none⟩ = some (.int .i64 a0_0) := (blk_cell BK101.out 0).trans rfl
      have hcz31_1 : w5.cell? ⟨gb101, 1, none⟩ = some (.bool a0_1) := (blk_cell BK101.out 1).trans rfl
      have hcz31_2 : w5.cell? ⟨gb101, 2, none⟩ = some (.string a0_2) := (blk_cell BK101.out 2).trans rfl
      have hcz31_3 : w5.cell? ⟨gb101, 3, none⟩ = some (.string a0_3) := (blk_cell BK101.out 3).trans rfl
      have hcz31_4 : w5.cell? ⟨gb101, 4, none⟩ = some (.int .i64 a0_4) := (blk_cell BK101.out 4).trans rfl
      have hcz31_5 : w5.cell? ⟨gb101, 5, none⟩ = some (.slice A0_5 l0_5.length c0_5) := (blk_cell BK101.out 5).trans rfl
      have hcz31_6 : w5.cell? ⟨gb101, 6, none⟩ = some (.int .i64 a0_6) := (blk_cell BK101.out 6).trans rfl
      have hfz31_0 := blk_frozen BK101.out 0
      have hfz31_1 := blk_frozen BK101.out 1
      have hfz31_2 := blk_frozen BK101.out 2
      have hfz31_3 := blk_frozen BK101.out 3
      have hfz31_4 := blk_frozen BK101.out 4
      have hfz31_5 := blk_frozen BK101.out 5
      have hfz31_6 := blk_frozen BK101.out 6
      have hcz32_0 : w5.cell? ⟨gb102, 0, none⟩ = some (.int .i64 a1_0) := (blk_cell BK102.out 0).trans rfl
      have hcz32_1 : w5.cell? ⟨gb102, 1, none⟩ = some (.bool a1_1) := (blk_cell BK102.out 1).trans rfl
      have hcz32_2 : w5.cell? ⟨gb102, 2, none⟩ = some (.string a1_2) := (blk_cell BK102.out 2).trans rfl
      have hcz32_3 : w5.cell? ⟨gb102, 3, none⟩ = some (.string a1_3) := (blk_cell BK102.out 3).trans rfl
      have hcz32_4 : w5.cell? ⟨gb102, 4, none⟩ = some (.int .i64 a1_4) := (blk_cell BK102.out 4).trans rfl
      have hcz32_5 : w5.cell? ⟨gb102, 5, none⟩ = some (.slice A1_5 l1_5.length c1_5) := (blk_cell BK102.out 5).trans rfl
      have hcz32_6 : w5.cell? ⟨gb102, 6, none⟩ = some (.int .i64 a1_6) := (blk_cell BK102.out 6).trans rfl
      have hfz32_0 := blk_frozen BK102.out 0
      have hfz32_1 := blk_frozen BK102.out 1
      have hfz32_2 := blk_frozen BK102.out 2
      have hfz32_3 := blk_frozen BK102.out 3
      have hfz32_4 := blk_frozen BK102.out 4
      have hfz32_5 := blk_frozen BK102.out 5
      have hfz32_6 := blk_frozen BK102.out 6
      go_wp2
      repeat (go_quiet (fail); try go_wp2)
      go_meet
      case rel => exact ⟨_, (true), (by first | rfl | (simp; done) | (simp [*]; done)), H', ⟨by first | omega | exact Nat.le_refl _⟩, ⟨by (with_reducible repeat (first | refine blk_drewN ?_ _ | refine blk_drew ?_ | refine blk_alloc ?_ _)); exact BK101.out⟩, ⟨by (with_reducible repeat (first | refine blk_drewN ?_ _ | refine blk_drew ?_ | refine blk_alloc ?_ _)); exact BK102.out⟩, ⟨by repeat (first | (with_reducible first | exact HB.out | apply below_alloc | apply pw_below_drewN | apply below_drew1 | refine below_set ?_ GE101.out | refine below_set ?_ GE102.out) | exact HB.out)⟩⟩
  case rest =>
    clear HC3
    try clear c1
    try clear c2
    try clear p2
    try clear c3
    try clear c6
    try clear c6b0
    try clear c6b1
    try clear c7
    try clear c7b0
    try clear c7b1
    try clear c7b2
    try clear c8
    try clear c11
    try clear c11b0
    try clear c11b1
    try clear c12
    try clear c12b0
    try clear c12b1
    try clear c13
    try clear c13b0
    try clear c13b1
    try clear c14
    try clear c14b0
    try clear c14b1
    try clear c15
    try clear c16
    try clear c18
    try clear c21
    try clear c24
    try clear c27
    try clear c30
    try clear hcz10_0
    try clear hcz10_1
    try clear hcz10_2
    try clear hcz10_3
    try clear hcz10_4
    try clear hcz10_5
    try clear hcz10_6
    try clear hcz16_0
    try clear hcz16_1
    try clear hcz16_2
    try clear hcz16_3
    try clear hcz16_4
    try clear hcz16_5
    try clear hcz16_6
    try clear hcz17_0
    try clear hcz17_1
    try clear hcz17_2
    try clear hcz17_3
    try clear hcz17_4
    try clear hcz17_5
    try clear hcz17_6
    try clear hcz19_0
    try clear hcz19_1
    try clear hcz19_2
    try clear hcz19_3
    try clear hcz19_4
    try clear hcz19_5
    try clear hcz19_6
    try clear hcz20_0
    try clear hcz20_1
    try clear hcz20_2
    try clear hcz20_3
    try clear hcz20_4
    try clear hcz20_5
    try clear hcz20_6
    try clear hcz22_0
    try clear hcz22_1
    try clear hcz22_2
    try clear hcz22_3
    try clear hcz22_4
    try clear hcz22_5
    try clear hcz22_6
    try clear hcz23_0
    try clear hcz23_1
    try clear hcz23_2
    try clear hcz23_3
    try clear hcz23_4
    try clear hcz23_5
    try clear hcz23_6
    try clear hcz25_0
    try clear hcz25_1
    try clear hcz25_2
    try clear hcz25_3
    try clear hcz25_4
    try clear hcz25_5
    try clear hcz25_6
    try clear hcz26_0
    try clear hcz26_1
    try clear hcz26_2
    try clear hcz26_3
    try clear hcz26_4
    try clear hcz26_5
    try clear hcz26_6
    try clear hcz28_0
    try clear hcz28_1
    try clear hcz28_2
    try clear hcz28_3
    try clear hcz28_4
    try clear hcz28_5
    try clear hcz28_6
    try clear hcz29_0
    try clear hcz29_1
    try clear hcz29_2
    try clear hcz29_3
    try clear hcz29_4
    try clear hcz29_5
    try clear hcz29_6
    try clear hcz31_0
    try clear hcz31_1
    try clear hcz31_2
    try clear hcz31_3
    try clear hcz31_4
    try clear hcz31_5
    try clear hcz31_6
    try clear hcz32_0
    try clear hcz32_1
    try clear hcz32_2
    try clear hcz32_3
    try clear hcz32_4
    try clear hcz32_5
    try clear hcz32_6
    try clear hcz9_0
    try clear hcz9_1
    try clear hcz9_2
    try clear hcz9_3
    try clear hcz9_4
    try clear hcz9_5
    try clear hcz9_6
    try clear hfz10_0
    try clear hfz10_1
    try clear hfz10_2
    try clear hfz10_3
    try clear hfz10_4
    try clear hfz10_5
    try clear hfz10_6
    try clear hfz16_0
    try clear hfz16_1
    try clear hfz16_2
    try clear hfz16_3
    try clear hfz16_4
    try clear hfz16_5
    try clear hfz16_6
    try clear hfz17_0
    try clear hfz17_1
    try clear hfz17_2
    try clear hfz17_3
    try clear hfz17_4
    try clear hfz17_5
    try clear hfz17_6
    try clear hfz19_0
    try clear hfz19_1
    try clear hfz19_2
    try clear hfz19_3
    try clear hfz19_4
    try clear hfz19_5
    try clear hfz19_6
    try clear hfz20_0
    try clear hfz20_1
    try clear hfz20_2
    try clear hfz20_3
    try clear hfz20_4
    try clear hfz20_5
    try clear hfz20_6
    try clear hfz22_0
    try clear hfz22_1
    try clear hfz22_2
    try clear hfz22_3
    try clear hfz22_4
    try clear hfz22_5
    try clear hfz22_6
    try clear hfz23_0
    try clear hfz23_1
    try clear hfz23_2
    try clear hfz23_3
    try clear hfz23_4
    try clear hfz23_5
    try clear hfz23_6
    try clear hfz25_0
    try clear hfz25_1
    try clear hfz25_2
    try clear hfz25_3
    try clear hfz25_4
    try clear hfz25_5
    try clear hfz25_6
    try clear hfz26_0
    try clear hfz26_1
    try clear hfz26_2
    try clear hfz26_3
    try clear hfz26_4
    try clear hfz26_5
    try clear hfz26_6
    try clear hfz28_0
    try clear hfz28_1
    try clear hfz28_2
    try clear hfz28_3
    try clear hfz28_4
    try clear hfz28_5
    try clear hfz28_6
    try clear hfz29_0
    try clear hfz29_1
    try clear hfz29_2
    try clear hfz29_3
    try clear hfz29_4
    try clear hfz29_5
    try clear hfz29_6
    try clear hfz31_0
    try clear hfz31_1
    try clear hfz31_2
    try clear hfz31_3
    try clear hfz31_4
    try clear hfz31_5
    try clear hfz31_6
    try clear hfz32_0
    try clear hfz32_1
    try clear hfz32_2
    try clear hfz32_3
    try clear hfz32_4
    try clear hfz32_5
    try clear hfz32_6
    try clear hfz9_0
    try clear hfz9_1
    try clear hfz9_2
    try clear hfz9_3
    try clear hfz9_4
    try clear hfz9_5
    try clear hfz9_6
    obtain ⟨kq, x54_2, rfl, HA, HJ2, BK101, BK102, HB⟩ := hcut
    cases kq with
    | zero => exact absurd HA.out (by simp [hucksterref15_One.j0])
    | succ kj2 =>
      have H := HA.out
      clear HA
      simp only [hucksterref15_One.j0] at H
      by_cases c33 : x54_2 = true
      · subst c33
        have H1 : (some false) = some r := by rw [if_pos rfl] at H; exact H
        clear H
        have H := H1
        clear H1
        obtain rfl := Option.some.inj H
        go_wp2
        repeat (go_quiet (fail); try go_wp2)
        go_ret
        exact ⟨by first | rfl | (simp [errW_none, errW_some] <;> rfl) | (simp [*, errW_none, errW_some] <;> rfl), by repeat (first | (with_reducible first | exact HB.out | apply below_alloc | apply pw_below_drewN | apply below_drew1 | refine below_set ?_ GE101.out | refine below_set ?_ GE102.out) | exact HB.out)⟩
      · replace c33 := Bool.eq_false_iff.mpr c33
        subst c33
        have H1 : (hucksterref15_One.l0 kj2 0 a0_0 a0_1 a0_2 a0_3 a0_4 l0_5 a0_6 a1_0 a1_1 a1_2 a1_3 a1_4 l1_5 a1_6) = some r := by rw [if_neg (show ¬ (false = true) by decide)] at H; exact H
        clear H
        have H := H1
        clear H1
        have H' := Aside0.mk H
        clear H
        go_wp2
        repeat (go_quiet (fail); try go_wp2)
        go_loopg [5] kj2 (fun kq v5 w' => ∃ (x5_2 : Int), v5 = .int .i64 x5_2 ∧ Aside0 (hucksterref15_One.l0 kq x5_2 a0_0 a0_1 a0_2 a0_3 a0_4 l0_5 a0_6 a1_0 a1_1 a1_2 a1_3 a1_4 l1_5 a1_6 = some r) ∧ Aside0 (kq ≤ kj2) ∧ Aside0 (w'.heap[gb101]? = some (.cells #[.int .i64 a0_0, .bool a0_1, .string a0_2, .string a0_3, .int .i64 a0_4, (.slice A0_5 l0_5.length c0_5), .int .i64 a0_6] 29 (0, 0))) ∧ Aside0 (w'.heap[gb102]? = some (.cells #[.int .i64 a1_0, .bool a1_1, .string a1_2, .string a1_3, .int .i64 a1_4, (.slice A1_5 l1_5.length c1_5), .int .i64 a1_6] 29 (0, 0))) ∧ Aside0 (Below w.heap.size w w'))
        case atStart => exact ⟨(0), (by first | rfl | (simp; done) | (simp [*]; done)), H', ⟨Nat.le_refl _⟩, ⟨by (with_reducible repeat (first | refine blk_drewN ?_ _ | refine blk_drew ?_ | refine blk_alloc ?_ _)); exact BK101.out⟩, ⟨by (with_reducible repeat (first | refine blk_drewN ?_ _ | refine blk_drew ?_ | refine blk_alloc ?_ _)); exact BK102.out⟩, ⟨by repeat (first | (with_reducible first | exact HB.out | apply below_alloc | apply pw_below_drewN | apply below_drew1 | refine below_set ?_ GE101.out | refine below_set ?_ GE102.out) | exact HB.out)⟩⟩
        case round =>
          clear H'
          try clear c1
          try clear c2
          try clear p2
          try clear c3
          try clear c6
          try clear c6b0
          try clear c6b1
          try clear c7
          try clear c7b0
          try clear c7b1
          try clear c7b2
          try clear c8
          try clear c11
          try clear c11b0
          try clear c11b1
          try clear c12
          try clear c12b0
          try clear c12b1
          try clear c13
          try clear c13b0
          try clear c13b1
          try clear c14
          try clear c14b0
          try clear c14b1
          try clear c15
          try clear c16
          try clear c18
          try clear c21
          try clear c24
          try clear c27
          try clear c30
          try clear c33
          try clear hcz10_0
          try clear hcz10_1
          try clear hcz10_2
          try clear hcz10_3
          try clear hcz10_4
          try clear hcz10_5
          try clear hcz10_6
          try clear hcz16_0
          try clear hcz16_1
          try clear hcz16_2
          try clear hcz16_3
          try clear hcz16_4
          try clear hcz16_5
          try clear hcz16_6
          try clear hcz17_0
          try clear hcz17_1
          try clear hcz17_2
          try clear hcz17_3
          try clear hcz17_4
          try clear hcz17_5
          try clear hcz17_6
          try clear hcz19_0
          try clear hcz19_1
          try clear hcz19_2
          try clear hcz19_3
          try clear hcz19_4
          try clear hcz19_5
          try clear hcz19_6
          try clear hcz20_0
          try clear hcz20_1
          try clear hcz20_2
          try clear hcz20_3
          try clear hcz20_4
          try clear hcz20_5
          try clear hcz20_6
          try clear hcz22_0
          try clear hcz22_1
          try clear hcz22_2
          try clear hcz22_3
          try clear hcz22_4
          try clear hcz22_5
          try clear hcz22_6
          try clear hcz23_0
          try clear hcz23_1
          try clear hcz23_2
          try clear hcz23_3
          try clear hcz23_4
          try clear hcz23_5
          try clear hcz23_6
          try clear hcz25_0
          try clear hcz25_1
          try clear hcz25_2
          try clear hcz25_3
          try clear hcz25_4
          try clear hcz25_5
          try clear hcz25_6
          try clear hcz26_0
          try clear hcz26_1
          try clear hcz26_2
          try clear hcz26_3
          try clear hcz26_4
          try clear hcz26_5
          try clear hcz26_6
          try clear hcz28_0
          try clear hcz28_1
          try clear hcz28_2
          try clear hcz28_3
          try clear hcz28_4
          try clear hcz28_5
          try clear hcz28_6
          try clear hcz29_0
          try clear hcz29_1
          try clear hcz29_2
          try clear hcz29_3
          try clear hcz29_4
          try clear hcz29_5
          try clear hcz29_6
          try clear hcz31_0
          try clear hcz31_1
          try clear hcz31_2
          try clear hcz31_3
          try clear hcz31_4
          try clear hcz31_5
          try clear hcz31_6
          try clear hcz32_0
          try clear hcz32_1
          try clear hcz32_2
          try clear hcz32_3
          try clear hcz32_4
          try clear hcz32_5
          try clear hcz32_6
          try clear hcz9_0
          try clear hcz9_1
          try clear hcz9_2
          try clear hcz9_3
          try clear hcz9_4
          try clear hcz9_5
          try clear hcz9_6
          try clear hfz10_0
          try clear hfz10_1
          try clear hfz10_2
          try clear hfz10_3
          try clear hfz10_4
          try clear hfz10_5
          try clear hfz10_6
          try clear hfz16_0
          try clear hfz16_1
          try clear hfz16_2
          try clear hfz16_3
          try clear hfz16_4
          try clear hfz16_5
          try clear hfz16_6
          try clear hfz17_0
          try clear hfz17_1
          try clear hfz17_2
          try clear hfz17_3
          try clear hfz17_4
          try clear hfz17_5
          try clear hfz17_6
          try clear hfz19_0
          try clear hfz19_1
          try clear hfz19_2
          try clear hfz19_3
          try clear hfz19_4
          try clear hfz19_5
          try clear hfz19_6
          try clear hfz20_0
          try clear hfz20_1
          try clear hfz20_2
          try clear hfz20_3
          try clear hfz20_4
          try clear hfz20_5
          try clear hfz20_6
          try clear hfz22_0
          try clear hfz22_1
          try clear hfz22_2
          try clear hfz22_3
          try clear hfz22_4
          try clear hfz22_5
          try clear hfz22_6
          try clear hfz23_0
          try clear hfz23_1
          try clear hfz23_2
          try clear hfz23_3
          try clear hfz23_4
          try clear hfz23_5
          try clear hfz23_6
          try clear hfz25_0
          try clear hfz25_1
          try clear hfz25_2
          try clear hfz25_3
          try clear hfz25_4
          try clear hfz25_5
          try clear hfz25_6
          try clear hfz26_0
          try clear hfz26_1
          try clear hfz26_2
          try clear hfz26_3
          try clear hfz26_4
          try clear hfz26_5
          try clear hfz26_6
          try clear hfz28_0
          try clear hfz28_1
          try clear hfz28_2
          try clear hfz28_3
          try clear hfz28_4
          try clear hfz28_5
          try clear hfz28_6
          try clear hfz29_0
          try clear hfz29_1
          try clear hfz29_2
          try clear hfz29_3
          try clear hfz29_4
          try clear hfz29_5
          try clear hfz29_6
          try clear hfz31_0
          try clear hfz31_1
          try clear hfz31_2
          try clear hfz31_3
          try clear hfz31_4
          try clear hfz31_5
          try clear hfz31_6
          try clear hfz32_0
          try clear hfz32_1
          try clear hfz32_2
          try clear hfz32_3
          try clear hfz32_4
          try clear hfz32_5
          try clear hfz32_6
          try clear hfz9_0
          try clear hfz9_1
          try clear hfz9_2
          try clear hfz9_3
          try clear hfz9_4
          try clear hfz9_5
          try clear hfz9_6
          try clear p2
          obtain ⟨x5_2, rfl, HA, HK2, BK101, BK102, HB⟩ := hrel
          cases gk with
          | zero => exact absurd HA.out (by simp [hucksterref15_One.l0])
          | succ k2 =>
            have H := HA.out
            clear HA
            simp only [hucksterref15_One.l0] at H
            by_cases c34 : x5_2 < (l0_5.length : Int)
            · rw [if_pos c34] at H
              have c34b0 : decide (x5_2 < (l0_5.length : Int)) = true := decide_eq_true c34
              clear c34
              by_cases c35 : 0 ≤ x5_2
              · rw [if_pos c35] at H
                have c35b0 : decide (0 ≤ x5_2) = true := decide_eq_true c35
                clear c35
                by_cases c36 : x5_2 < (l1_5.length : Int)
                · rw [if_pos c36] at H
                  have c36b0 : decide (x5_2 < (l1_5.length : Int)) = true := decide_eq_true c36
                  clear c36
                  by_cases c37 : (!(((rd_T60 l0_5 x5_2).f0) == ((rd_T60 l1_5 x5_2).f0)) || (!((((rd_T60 l0_5 x5_2).f1).toList) == (((rd_T60 l1_5 x5_2).f1).toList)) || (!(((rd_T60 l0_5 x5_2).f2) == ((rd_T60 l1_5 x5_2).f2))))) = true
                  · rw [if_pos c37] at H
                    have c37b0 : (!(((rd_T60 l0_5 x5_2).f0) == ((rd_T60 l1_5 x5_2).f0)) || (!((((rd_T60 l0_5 x5_2).f1).toList) == (((rd_T60 l1_5 x5_2).f1).toList)) || (!(((rd_T60 l0_5 x5_2).f2) == ((rd_T60 l1_5 x5_2).f2))))) = true := c37
                    clear c37
                    obtain rfl := Option.some.inj H
                    have hnb38 := NB101_102.out
                    have hnc38 := NB102_101.out
                    have hcz39_0 : wr.cell? ⟨gb101, 0, none⟩ = some (.int .i64 a0_0) := (blk_cell BK101.out 0).trans rfl
                    have hcz39_1 : wr.cell? ⟨gb101, 1, none⟩ = some (.bool a0_1) := (blk_cell BK101.out 1).trans rfl
                    have hcz39_2 : wr.cell? ⟨gb101, 2, none⟩ = some (.string a0_2) := (blk_cell BK101.out 2).trans rfl
                    have hcz39_3 : wr.cell? ⟨gb101, 3, none⟩ = some (.string a0_3) := (blk_cell BK101.out 3).trans rfl
                    have hcz39_4 : wr.cell? ⟨gb101, 4, none⟩ = some (.int .i64 a0_4) := (blk_cell BK101.out 4).trans rfl
                    have hcz39_5 : wr.cell? ⟨gb101, 5, none⟩ = some (.slice A0_5 l0_5.length c0_5) := (blk_cell BK101.out 5).trans rfl
                    have hcz39_6 : wr.cell? ⟨gb101, 6, none⟩ = some (.int .i64 a0_6) := (blk_cell BK101.out 6).trans rfl
                    have hfz39_0 := blk_frozen BK101.out 0
                    have hfz39_1 := blk_frozen BK101.out 1
                    have hfz39_2 := blk_frozen BK101.out 2
                    have hfz39_3 := blk_frozen BK101.out 3
                    have hfz39_4 := blk_frozen BK101.out 4
                    have hfz39_5 := blk_frozen BK101.out 5
                    have hfz39_6 := blk_frozen BK101.out 6
                    have p103 : 0 ≤ (x5_2 : Int) := of_decide_eq_true (by first | (with_reducible assumption) | assumption)
                    have q103 : x5_2 < (l0_5.length : Int) := of_decide_eq_true (by first | (with_reducible assumption) | assumption)
                    obtain ⟨ad103, e103, hx103_0, hx103_1, hx103_2⟩ := at_T60 HR0_5.out x5_2 p103 q103
                    cases e103
                    replace hx103_0 := (HB.out.cell (World.block_lt_of_cell? w _ hx103_0)).trans hx103_0
                    replace hx103_1 := (HB.out.cell (World.block_lt_of_cell? w _ hx103_1)).trans hx103_1
                    replace hx103_2 := (HB.out.cell (World.block_lt_of_cell? w _ hx103_2)).trans hx103_2
                    replace p103 := eq_true p103
                    replace q103 := eq_true q103
                    have hcz40_0 : wr.cell? ⟨gb102, 0, none⟩ = some (.int .i64 a1_0) := (blk_cell BK102.out 0).trans rfl
                    have hcz40_1 : wr.cell? ⟨gb102, 1, none⟩ = some (.bool a1_1) := (blk_cell BK102.out 1).trans rfl
                    have hcz40_2 : wr.cell? ⟨gb102, 2, none⟩ = some (.string a1_2) := (blk_cell BK102.out 2).trans rfl
                    have hcz40_3 : wr.cell? ⟨gb102, 3, none⟩ = some (.string a1_3) := (blk_cell BK102.out 3).trans rfl
                    have hcz40_4 : wr.cell? ⟨gb102, 4, none⟩ = some (.int .i64 a1_4) := (blk_cell BK102.out 4).trans rfl
                    have hcz40_5 : wr.cell? ⟨gb102, 5, none⟩ = some (.slice A1_5 l1_5.length c1_5) := (blk_cell BK102.out 5).trans rfl
                    have hcz40_6 : wr.cell? ⟨gb102, 6, none⟩ = some (.int .i64 a1_6) := (blk_cell BK102.out 6).trans rfl
                    have hfz40_0 := blk_frozen BK102.out 0
                    have hfz40_1 := blk_frozen BK102.out 1
                    have hfz40_2 := blk_frozen BK102.out 2
                    have hfz40_3 := blk_frozen BK102.out 3
                    have hfz40_4 := blk_frozen BK102.out 4
                    have hfz40_5 := blk_frozen BK102.out 5
                    have hfz40_6 := blk_frozen BK102.out 6
                    have p104 : 0 ≤ (x5_2 : Int) := of_decide_eq_true (by first | (with_reducible assumption) | assumption)
                    have q104 : x5_2 < (l1_5.length : Int) := of_decide_eq_true (by first | (with_reducible assumption) | assumption)
                    obtain ⟨ad104, e104, hx104_0, hx104_1, hx104_2⟩ := at_T60 HR1_5.out x5_2 p104 q104
                    cases e104
                    replace hx104_0 := (HB.out.cell (World.block_lt_of_cell? w _ hx104_0)).trans hx104_0
                    replace hx104_1 := (HB.out.cell (World.block_lt_of_cell? w _ hx104_1)).trans hx104_1
                    replace hx104_2 := (HB.out.cell (World.block_lt_of_cell? w _ hx104_2)).trans hx104_2
                    replace p104 := eq_true p104
                    replace q104 := eq_true q104
                    go_wp2
                    repeat (go_quiet (fail); try go_wp2)
                    go_ret
                    exact ⟨by first | rfl | (simp [errW_none, errW_some] <;> rfl) | (simp [*, errW_none, errW_some] <;> rfl), by repeat (first | (with_reducible first | exact HB.out | apply below_alloc | apply pw_below_drewN | apply below_drew1 | refine below_set ?_ GE101.out | refine below_set ?_ GE102.out) | exact HB.out)⟩
                  · rw [if_neg c37] at H
                    have c37b0 : (!(((rd_T60 l0_5 x5_2).f0) == ((rd_T60 l1_5 x5_2).f0)) || (!((((rd_T60 l0_5 x5_2).f1).toList) == (((rd_T60 l1_5 x5_2).f1).toList)) || (!(((rd_T60 l0_5 x5_2).f2) == ((rd_T60 l1_5 x5_2).f2))))) = false := by simpa using c37
                    clear c37
                    have H' := Aside0.mk H
                    clear H
                    have hnb41 := NB101_102.out
                    have hnc41 := NB102_101.out
                    have hcz42_0 : wr.cell? ⟨gb101, 0, none⟩ = some (.int .i64 a0_0) := (blk_cell BK101.out 0).trans rfl
                    have hcz42_1 : wr.cell? ⟨gb101, 1, none⟩ = some (.bool a0_1) := (blk_cell BK101.out 1).trans rfl
                    have hcz42_2 : wr.cell? ⟨gb101, 2, none⟩ = some (.string a0_2) := (blk_cell BK101.out 2).trans rfl
                    have hcz42_3 : wr.cell? ⟨gb101, 3, none⟩ = some (.string a0_3) := (blk_cell BK101.out 3).trans rfl
                    have hcz42_4 : wr.cell? ⟨gb101, 4, none⟩ = some (.int .i64 a0_4) := (blk_cell BK101.out 4).trans rfl
                    have hcz42_5 : wr.cell? ⟨gb101, 5, none⟩ = some (.slice A0_5 l0_5.length c0_5) := (blk_cell BK101.out 5).trans rfl
                    have hcz42_6 : wr.cell? ⟨gb101, 6, none⟩ = some (.int .i64 a0_6) := (blk_cell BK101.out 6).trans rfl
                    have hfz42_0 := blk_frozen BK101.out 0
                    have hfz42_1 := blk_frozen BK101.out 1
                    have hfz42_2 := blk_frozen BK101.out 2
                    have hfz42_3 := blk_frozen BK101.out 3
                    have hfz42_4 := blk_frozen BK101.out 4
                    have hfz42_5 := blk_frozen BK101.out 5
                    have hfz42_6 := blk_frozen BK101.out 6
                    have p103 : 0 ≤ (x5_2 : Int) := of_decide_eq_true (by first | (with_reducible assumption) | assumption)
                    have q103 : x5_2 < (l0_5.length : Int) := of_decide_eq_true (by first | (with_reducible assumption) | assumption)
                    obtain ⟨ad103, e103, hx103_0, hx103_1, hx103_2⟩ := at_T60 HR0_5.out x5_2 p103 q103
                    cases e103
                    replace hx103_0 := (HB.out.cell (World.block_lt_of_cell? w _ hx103_0)).trans hx103_0
                    replace hx103_1 := (HB.out.cell (World.block_lt_of_cell? w _ hx103_1)).trans hx103_1
                    replace hx103_2 := (HB.out.cell (World.block_lt_of_cell? w _ hx103_2)).trans hx103_2
                    replace p103 := eq_true p103
                    replace q103 := eq_true q103
                    have hcz43_0 : wr.cell? ⟨gb102, 0, none⟩ = some (.int .i64 a1_0) := (blk_cell BK102.out 0).trans rfl
                    have hcz43_1 : wr.cell? ⟨gb102, 1, none⟩ = some (.bool a1_1) := (blk_cell BK102.out 1).trans rfl
                    have hcz43_2 : wr.cell? ⟨gb102, 2, none⟩ = some (.string a1_2) := (blk_cell BK102.out 2).trans rfl
                    have hcz43_3 : wr.cell? ⟨gb102, 3, none⟩ = some (.string a1_3) := (blk_cell BK102.out 3).trans rfl
                    have hcz43_4 : wr.cell? ⟨gb102, 4, none⟩ = some (.int .i64 a1_4) := (blk_cell BK102.out 4).trans rfl
                    have hcz43_5 : wr.cell? ⟨gb102, 5, none⟩ = some (.slice A1_5 l1_5.length c1_5) := (blk_cell BK102.out 5).trans rfl
                    have hcz43_6 : wr.cell? ⟨gb102, 6, none⟩ = some (.int .i64 a1_6) := (blk_cell BK102.out 6).trans rfl
                    have hfz43_0 := blk_frozen BK102.out 0
                    have hfz43_1 := blk_frozen BK102.out 1
                    have hfz43_2 := blk_frozen BK102.out 2
                    have hfz43_3 := blk_frozen BK102.out 3
                    have hfz43_4 := blk_frozen BK102.out 4
                    have hfz43_5 := blk_frozen BK102.out 5
                    have hfz43_6 := blk_frozen BK102.out 6
                    have p104 : 0 ≤ (x5_2 : Int) := of_decide_eq_true (by first | (with_reducible assumption) | assumption)
                    have q104 : x5_2 < (l1_5.length : Int) := of_decide_eq_true (by first | (with_reducible assumption) | assumption)
                    obtain ⟨ad104, e104, hx104_0, hx104_1, hx104_2⟩ := at_T60 HR1_5.out x5_2 p104 q104
                    cases e104
                    replace hx104_0 := (HB.out.cell (World.block_lt_of_cell? w _ hx104_0)).trans hx104_0
                    replace hx104_1 := (HB.out.cell (World.block_lt_of_cell? w _ hx104_1)).trans hx104_1
                    replace hx104_2 := (HB.out.cell (World.block_lt_of_cell? w _ hx104_2)).trans hx104_2
                    replace p104 := eq_true p104
                    replace q104 := eq_true q104
                    go_wp2
                    repeat (go_quiet (fail); try go_wp2)
                    go_roundg k2
                    case measure => have := HJ2.out; have := HK2.out; omega
                    case rel => exact ⟨(wrap64 (x5_2 + 1)), (by first | rfl | (simp; done) | (simp [*]; done)), H', ⟨by have := HJ2.out; have := HK2.out; omega⟩, ⟨by (with_reducible repeat (first | refine blk_drewN ?_ _ | refine blk_drew ?_ | refine blk_alloc ?_ _)); exact BK101.out⟩, ⟨by (with_reducible repeat (first | refine blk_drewN ?_ _ | refine blk_drew ?_ | refine blk_alloc ?_ _)); exact BK102.out⟩, ⟨by repeat (first | (with_reducible first | exact HB.out | apply below_alloc | apply pw_below_drewN | apply below_drew1 | refine below_set ?_ GE101.out | refine below_set ?_ GE102.out) | exact HB.out)⟩⟩
                · rw [if_neg c36] at H
                  exact absurd H (by simp)
              · rw [if_neg c35] at H
                exact absurd H (by simp)
            · rw [if_neg c34] at H
              have c34b0 : decide (x5_2 < (l0_5.length : Int)) = false := decide_eq_false c34
              clear c34
              obtain rfl := Option.some.inj H
              have hnb44 := NB101_102.out
              have hnc44 := NB102_101.out
              have hcz45_0 : wr.cell? ⟨gb101, 0, none⟩ = some (.int .i64 a0_0) := (blk_cell BK101.out 0).trans rfl
              have hcz45_1 : wr.cell? ⟨gb101, 1, none⟩ = some (.bool a0_1) := (blk_cell BK101.out 1).trans rfl
              have hcz45_2 : wr.cell? ⟨gb101, 2, none⟩ = some (.string a0_2) := (blk_cell BK101.out 2).trans rfl
              have hcz45_3 : wr.cell? ⟨gb101, 3, none⟩ = some (.string a0_3) := (blk_cell BK101.out 3).trans rfl
              have hcz45_4 : wr.cell? ⟨gb101, 4, none⟩ = some (.int .i64 a0_4) := (blk_cell BK101.out 4).trans rfl
              have hcz45_5 : wr.cell? ⟨gb101, 5, none⟩ = some (.slice A0_5 l0_5.length c0_5) := (blk_cell BK101.out 5).trans rfl
              have hcz45_6 : wr.cell? ⟨gb101, 6, none⟩ = some (.int .i64 a0_6) := (blk_cell BK101.out 6).trans rfl
              have hfz45_0 := blk_frozen BK101.out 0
              have hfz45_1 := blk_frozen BK101.out 1
              have hfz45_2 := blk_frozen BK101.out 2
              have hfz45_3 := blk_frozen BK101.out 3
              have hfz45_4 := blk_frozen BK101.out 4
              have hfz45_5 := blk_frozen BK101.out 5
              have hfz45_6 := blk_frozen BK101.out 6
              go_wp2
              repeat (go_quiet (fail); try go_wp2)
              go_ret
              exact ⟨by first | rfl | (simp [errW_none, errW_some] <;> rfl) | (simp [*, errW_none, errW_some] <;> rfl), by repeat (first | (with_reducible first | exact HB.out | apply below_alloc | apply pw_below_drewN | apply below_drew1 | refine below_set ?_ GE101.out | refine below_set ?_ GE102.out) | exact HB.out)⟩

end Go.Proofs.Ytmhenlilcikgmaa.X

/- Functions of the seat as Lean functions, and that the calls come to them: written by this session's own program xprint.py over the kit's printer. -/
namespace Go.Proofs.Ytmhenlilcikgmaa.X
open Go.RowKit Go.Proofs.YtmhenlilcikgmaaW.PrintWords Go.Proofs.YtmhenlilcikgmaaW.PrintLast Go.Proofs.YtmhenlilcikgmaaW.PrintMore
attribute [local go_sem] max2_int min2_int max_two min_two max_three min_three max_four min_four   -- for this text's walks alone
set_option linter.unusedVariables false
set_option linter.unusedSimpArgs false

/-! ### hucksterref15_Same: function 7 -/
def hucksterref15_Same.l0 : Nat → List (S29) → List (S29) → Int → Option (Bool)
  | 0, _, _, _ => none
  | k + 1, x0, x1, x5 => if x5 < (x0.length : Int) then (if 0 ≤ x5 then (if x5 < (x1.length : Int) then ((hucksterref15_One.f k ((rd_T29 x0 x5).f0) ((rd_T29 x0 x5).f1) ((rd_T29 x0 x5).f2) ((rd_T29 x0 x5).f3) ((rd_T29 x0 x5).f4) ((rd_T29 x0 x5).f5) ((rd_T29 x0 x5).f6) ((rd_T29 x1 x5).f0) ((rd_T29 x1 x5).f1) ((rd_T29 x1 x5).f2) ((rd_T29 x1 x5).f3) ((rd_T29 x1 x5).f4) ((rd_T29 x1 x5).f5) ((rd_T29 x1 x5).f6)).bind fun t107 => (if t107 = true then (hucksterref15_Same.l0 k x0 x1 (wrap64 (x5 + 1))) else (some false))) else (none)) else (none)) else (some true)
def hucksterref15_Same.f (k : Nat) (l0 : List (S29)) (l1 : List (S29)) : Option (Bool) := if (l0.length : Int) = (l1.length : Int) then (hucksterref15_Same.l0 k l0 l1 0) else (some false)
theorem hucksterref15_Same.mono_l : ∀ k, (∀ y0 y1 y2, LeO (hucksterref15_Same.l0 k y0 y1 y2) (hucksterref15_Same.l0 (k + 1) y0 y1 y2))
  | 0 => fun _ _ _ r h => by simp [hucksterref15_Same.l0] at h
  | k + 1 => by
    have ih0 := hucksterref15_Same.mono_l k
    · intro y0 y1 y2
      unfold hucksterref15_Same.l0
      repeat' first
      | (with_reducible exact ih0 _ _ _)
      | (with_reducible exact hucksterref15_One.mono _ _ _ _ _ _ _ _ _ _ _ _ _ _ _)
      | (with_reducible exact LeO.refl _)
      | (with_reducible exact LeO.none _)
      | (with_reducible refine LeO.ite ?_ ?_)
      | (with_reducible refine LeO.bind ?_ (fun _ => ?_))
      | exact ih0 _ _ _
      | exact hucksterref15_One.mono _ _ _ _ _ _ _ _ _ _ _ _ _ _ _
      | exact LeO.none _
      | refine LeO.ite ?_ ?_
      | refine LeO.bind ?_ (fun _ => ?_)
theorem hucksterref15_Same.mono : ∀ a0 a1 k, LeO (hucksterref15_Same.f k a0 a1) (hucksterref15_Same.f (k + 1) a0 a1) := by
  intro a0 a1 k
  have ih0 := hucksterref15_Same.mono_l k
  unfold hucksterref15_Same.f
  repeat' first
      | (with_reducible exact ih0 _ _ _)
      | (with_reducible exact hucksterref15_One.mono _ _ _ _ _ _ _ _ _ _ _ _ _ _ _)
      | (with_reducible exact LeO.refl _)
      | (with_reducible exact LeO.none _)
      | (with_reducible refine LeO.ite ?_ ?_)
      | (with_reducible refine LeO.bind ?_ (fun _ => ?_))
      | exact ih0 _ _ _
      | exact hucksterref15_One.mono _ _ _ _ _ _ _ _ _ _ _ _ _ _ _
      | exact LeO.none _
      | refine LeO.ite ?_ ?_
      | refine LeO.bind ?_ (fun _ => ?_)
def hucksterref15_Same.T6 : Bool × List (List Nat × List Nat) := (true, [([], []), ([], []), ([0, 1], [0, 1]), ([2], [2]), ([], []), ([], []), ([4, 5], [4, 5]), ([6], [6]), ([3, 7], [3, 7]), ([8], [8])])
def hucksterref15_Same.B6 : List Nat := [0, 0, 3, 7, 0, 0, 48, 112, 255, 511]
theorem hucksterref15_Same.tab6 : rtab .any (opsOf Try.f7 6) = hucksterref15_Same.T6 := by kernel_rfl
theorem hucksterref15_Same.bits6 : waitsOk hucksterref15_Same.T6.2 hucksterref15_Same.B6 = true := by kernel_rfl
set_option maxHeartbeats 8000000 in
set_option maxRecDepth 100000 in
theorem hucksterref15_Same.calls (k : Nat) (A0 : Option Addr) (c0 : Nat) (l0 : List (S29)) (A1 : Option Addr) (c1 : Nat) (l1 : List (S29)) (r : Bool) (w : World) (hr0 : Kd.C k29 w A0 l0.length l0) (hc0 : l0.length ≤ c0) (hr1 : Kd.C k29 w A1 l1.length l1) (hc1 : l1.length ≤ c1) (h : hucksterref15_Same.f k l0 l1 = some r) :
    Calls Try.prog 7 #[.slice A0 l0.length c0, .slice A1 l1.length c1] w fun e w' => e = .returned (.bool r) ∧ Below w.heap.size w w' := by
  have hu29 := Try.underlying29
  have HR0 := Aside0.mk hr0
  have HC0 := Aside0.mk hc0
  clear hr0 hc0
  have HR1 := Aside0.mk hr1
  have HC1 := Aside0.mk hc1
  clear hr1 hc1
  have HB := Aside0.mk (Below.refl w.heap.size w)
  have H : (if (l0.length : Int) = (l1.length : Int) then (hucksterref15_Same.l0 k l0 l1 0) else (some false)) = some r := h
  clear h
  by_cases c3 : (l0.length : Int) = (l1.length : Int)
  · rw [if_pos c3] at H
    have c3b0 : ((l0.length : Int) == (l1.length : Int)) = true := beq_iff_eq.mpr c3
    have c3b1 : ((l0.length : Int) != (l1.length : Int)) = false := bne_eq_false_iff_eq.mpr c3
    have c3b2 : (l0.length == l1.length) = true := by first | simpa using c3 | (simp at c3 ⊢; omega)
    clear c3
    have H' := Aside0.mk H
    clear H
    go_enter Try.func7, Try.ntmps7
    go_wp2
    go_loopg [5] k (fun kq v5 w' => ∃ (x5_1 : Int), v5 = .int .i64 x5_1 ∧ Aside0 (hucksterref15_Same.l0 kq l0 l1 x5_1 = some r) ∧ Aside0 (kq ≤ k) ∧ Aside0 (Below w.heap.size w w'))
    case atStart => exact ⟨(0), (by first | rfl | (simp; done) | (simp [*]; done)), H', ⟨Nat.le_refl _⟩, ⟨by repeat (first | (with_reducible first | exact HB.out | apply below_alloc | apply pw_below_drewN | apply below_drew1) | exact HB.out)⟩⟩
    case round =>
      clear H'
      try clear c1
      try clear p2
      try clear c3
      try clear c3b0
      try clear c3b1
      try clear c3b2
      obtain ⟨x5_1, rfl, HA, HK1, HB⟩ := hrel
      cases gk with
      | zero => exact absurd HA.out (by simp [hucksterref15_Same.l0])
      | succ k1 =>
        have H := HA.out
        clear HA
        simp only [hucksterref15_Same.l0] at H
        by_cases c4 : x5_1 < (l0.length : Int)
        · rw [if_pos c4] at H
          have c4b0 : decide (x5_1 < (l0.length : Int)) = true := decide_eq_true c4
          clear c4
          by_cases c5 : 0 ≤ x5_1
          · rw [if_pos c5] at H
            have c5b0 : decide (0 ≤ x5_1) = true := decide_eq_true c5
            clear c5
            by_cases c6 : x5_1 < (l1.length : Int)
            · rw [if_pos c6] at H
              have c6b0 : decide (x5_1 < (l1.length : Int)) = true := decide_eq_true c6
              clear c6
              replace H := Option.bind_eq_some_iff.mp H
              obtain ⟨t107, A70, H⟩ := H
              replace H : (if t107 = true then (hucksterref15_Same.l0 k1 l0 l1 (wrap64 (x5_1 + 1))) else (some false)) = some r := H
              have A7 := Aside0.mk A70
              clear A70
              by_cases c8 : t107 = true
              · subst c8
                have H1 : (hucksterref15_Same.l0 k1 l0 l1 (wrap64 (x5_1 + 1))) = some r := by rw [if_pos rfl] at H; exact H
                clear H
                have H := H1
                clear H1
                have H' := Aside0.mk H
                clear H
                try go_wp2
                have n0_ := Aside0.mk (below_drew1 HB.out)
                clear HB
                have HB := n0_
                clear n0_
                have p105 : 0 ≤ (x5_1 : Int) := of_decide_eq_true (by first | (with_reducible assumption) | assumption)
                have q105 : x5_1 < (l0.length : Int) := of_decide_eq_true (by first | (with_reducible assumption) | assumption)
                obtain ⟨ad105, A105_5, c105_5, e105, hx105_0, hx105_1, hx105_2, hx105_3, hx105_4, hx105_5, hx105_6, hl105_5, hi105_5⟩ := at_T29 HR0.out x5_1 p105 q105
                have hw105_6 := hx105_6
                have hw105_5 := hx105_5
                have hw105_4 := hx105_4
                have hw105_3 := hx105_3
                have hw105_2 := hx105_2
                have hw105_1 := hx105_1
                have hw105_0 := hx105_0
                cases e105
                replace hx105_0 := (HB.out.cell (World.block_lt_of_cell? w _ hx105_0)).trans hx105_0
                replace hx105_1 := (HB.out.cell (World.block_lt_of_cell? w _ hx105_1)).trans hx105_1
                replace hx105_2 := (HB.out.cell (World.block_lt_of_cell? w _ hx105_2)).trans hx105_2
                replace hx105_3 := (HB.out.cell (World.block_lt_of_cell? w _ hx105_3)).trans hx105_3
                replace hx105_4 := (HB.out.cell (World.block_lt_of_cell? w _ hx105_4)).trans hx105_4
                replace hx105_5 := (HB.out.cell (World.block_lt_of_cell? w _ hx105_5)).trans hx105_5
                replace hx105_6 := (HB.out.cell (World.block_lt_of_cell? w _ hx105_6)).trans hx105_6
                have HR105_5 := Aside0.mk hi105_5
                have HC105_5 := Aside0.mk hl105_5
                clear hi105_5 hl105_5
                replace p105 := eq_true p105
                replace q105 := eq_true q105
                have p106 : 0 ≤ (x5_1 : Int) := of_decide_eq_true (by first | (with_reducible assumption) | assumption)
                have q106 : x5_1 < (l1.length : Int) := of_decide_eq_true (by first | (with_reducible assumption) | assumption)
                obtain ⟨ad106, A106_5, c106_5, e106, hx106_0, hx106_1, hx106_2, hx106_3, hx106_4, hx106_5, hx106_6, hl106_5, hi106_5⟩ := at_T29 HR1.out x5_1 p106 q106
                have hw106_6 := hx106_6
                have hw106_5 := hx106_5
                have hw106_4 := hx106_4
                have hw106_3 := hx106_3
                have hw106_2 := hx106_2
                have hw106_1 := hx106_1
                have hw106_0 := hx106_0
                cases e106
                replace hx106_0 := (HB.out.cell (World.block_lt_of_cell? w _ hx106_0)).trans hx106_0
                replace hx106_1 := (HB.out.cell (World.block_lt_of_cell? w _ hx106_1)).trans hx106_1
                replace hx106_2 := (HB.out.cell (World.block_lt_of_cell? w _ hx106_2)).trans hx106_2
                replace hx106_3 := (HB.out.cell (World.block_lt_of_cell? w _ hx106_3)).trans hx106_3
                replace hx106_4 := (HB.out.cell (World.block_lt_of_cell? w _ hx106_4)).trans hx106_4
                replace hx106_5 := (HB.out.cell (World.block_lt_of_cell? w _ hx106_5)).trans hx106_5
                replace hx106_6 := (HB.out.cell (World.block_lt_of_cell? w _ hx106_6)).trans hx106_6
                have HR106_5 := Aside0.mk hi106_5
                have HC106_5 := Aside0.mk hl106_5
                clear hi106_5 hl106_5
                replace p106 := eq_true p106
                replace q106 := eq_true q106
                refine start_ (n := 10) (S := fun w' => w'.cell? (ad105.add ((x5_1).toNat * 7)) = some (.int .i64 ((rd_T29 l0 x5_1).f0)) ∧ w'.cell? ⟨(ad105.add ((x5_1).toNat * 7)).block, (ad105.add ((x5_1).toNat * 7)).off + 1, none⟩ = some (.bool ((rd_T29 l0 x5_1).f1)) ∧ w'.cell? ⟨(ad105.add ((x5_1).toNat * 7)).block, (ad105.add ((x5_1).toNat * 7)).off + 2, none⟩ = some (.string ((rd_T29 l0 x5_1).f2)) ∧ w'.cell? ⟨(ad105.add ((x5_1).toNat * 7)).block, (ad105.add ((x5_1).toNat * 7)).off + 3, none⟩ = some (.string ((rd_T29 l0 x5_1).f3)) ∧ w'.cell? ⟨(ad105.add ((x5_1).toNat * 7)).block, (ad105.add ((x5_1).toNat * 7)).off + 4, none⟩ = some (.int .i64 ((rd_T29 l0 x5_1).f4)) ∧ w'.cell? ⟨(ad105.add ((x5_1).toNat * 7)).block, (ad105.add ((x5_1).toNat * 7)).off + 5, none⟩ = some (.slice A105_5 ((rd_T29 l0 x5_1).f5).length c105_5) ∧ w'.cell? ⟨(ad105.add ((x5_1).toNat * 7)).block, (ad105.add ((x5_1).toNat * 7)).off + 6, none⟩ = some (.int .i64 ((rd_T29 l0 x5_1).f6)) ∧ w'.cell? (ad106.add ((x5_1).toNat * 7)) = some (.int .i64 ((rd_T29 l1 x5_1).f0)) ∧ w'.cell? ⟨(ad106.add ((x5_1).toNat * 7)).block, (ad106.add ((x5_1).toNat * 7)).off + 1, none⟩ = some (.bool ((rd_T29 l1 x5_1).f1)) ∧ w'.cell? ⟨(ad106.add ((x5_1).toNat * 7)).block, (ad106.add ((x5_1).toNat * 7)).off + 2, none⟩ = some (.string ((rd_T29 l1 x5_1).f2)) ∧ w'.cell? ⟨(ad106.add ((x5_1).toNat * 7)).block, (ad106.add ((x5_1).toNat * 7)).off + 3, none⟩ = some (.string ((rd_T29 l1 x5_1).f3)) ∧ w'.cell? ⟨(ad106.add ((x5_1).toNat * 7)).block, (ad106.add ((x5_1).toNat * 7)).off + 4, none⟩ = some (.int .i64 ((rd_T29 l1 x5_1).f4)) ∧ w'.cell? ⟨(ad106.add ((x5_1).toNat * 7)).block, (ad106.add ((x5_1).toNat * 7)).off + 5, none⟩ = some (.slice A106_5 ((rd_T29 l1 x5_1).f5).length c106_5) ∧ w'.cell? ⟨(ad106.add ((x5_1).toNat * 7)).block, (ad106.add ((x5_1).toNat * 7)).off + 6, none⟩ = some (.int .i64 ((rd_T29 l1 x5_1).f6))) (ds := []) #[false, false, false, false, false, false, false, false, false, false] (by kernel_rfl) rfl rfl ⟨((HB.out.cell (World.block_lt_of_cell? w _ hw105_0)).trans hw105_0), ((HB.out.cell (World.block_lt_of_cell? w _ hw105_1)).trans hw105_1), ((HB.out.cell (World.block_lt_of_cell? w _ hw105_2)).trans hw105_2), ((HB.out.cell (World.block_lt_of_cell? w _ hw105_3)).trans hw105_3), ((HB.out.cell (World.block_lt_of_cell? w _ hw105_4)).trans hw105_4), ((HB.out.cell (World.block_lt_of_cell? w _ hw105_5)).trans hw105_5), ((HB.out.cell (World.block_lt_of_cell? w _ hw105_6)).trans hw105_6), ((HB.out.cell (World.block_lt_of_cell? w _ hw106_0)).trans hw106_0), ((HB.out.cell (World.block_lt_of_cell? w _ hw106_1)).trans hw106_1), ((HB.out.cell (World.block_lt_of_cell? w _ hw106_2)).trans hw106_2), ((HB.out.cell (World.block_lt_of_cell? w _ hw106_3)).trans hw106_3), ((HB.out.cell (World.block_lt_of_cell? w _ hw106_4)).trans hw106_4), ((HB.out.cell (World.block_lt_of_cell? w _ hw106_5)).trans hw106_5), ((HB.out.cell (World.block_lt_of_cell? w _ hw106_6)).trans hw106_6)⟩ (fun hHeld => ?_); refine with_tabW hucksterref15_Same.tab6 hucksterref15_Same.bits6 (fun HT_ HW_ => ?_)
                generalize wr.drew = w9 at HB HR105_5 HR106_5 hx105_0 hx105_1 hx105_2 hx105_3 hx105_4 hx105_5 hx105_6 hx106_0 hx106_1 hx106_2 hx106_3 hx106_4 hx106_5 hx106_6 hHeld ⊢
                refine pure_ (i := 0) (N := some 17) (v := ?_) (a' := ?_) #[true, false, false, false, false, false, false, false, false, false] rfl rfl (any_of HT_.out (by kernel_rfl)) (fun _ _ _ h => h) (Or.inl ⟨by rfl, ?_⟩) ?_ ?_
                rotate_left
                · intro w'
                  go_simp
                  with_reducible rfl
                rotate_left
                · simp only [Act.put, List.setIfInBounds_toArray, List.set_cons_zero, List.set_cons_succ, i64_w, i32_w]
                  rfl
                refine pure_ (i := 1) (N := some 18) (v := ?_) (a' := ?_) #[true, true, false, false, false, false, false, false, false, false] rfl rfl (any_of HT_.out (by kernel_rfl)) (fun _ _ _ h => h) (Or.inl ⟨by rfl, ?_⟩) ?_ ?_
                rotate_left
                · intro w'
                  go_simp
                  with_reducible rfl
                rotate_left
                · simp only [Act.put, List.setIfInBounds_toArray, List.set_cons_zero, List.set_cons_succ, i64_w, i32_w]
                  rfl
                refine pure_ (i := 2) (N := some 19) (v := ?_) (a' := ?_) #[true, true, true, false, false, false, false, false, false, false] rfl rfl (any_of HT_.out (by kernel_rfl)) (fun _ _ _ h => h) (Or.inl ⟨by rfl, ?_⟩) ?_ ?_
                rotate_left
                · intro w'
                  go_simp
                  with_reducible rfl
                rotate_left
                · simp only [Act.put, List.setIfInBounds_toArray, List.set_cons_zero, List.set_cons_succ, i64_w, i32_w]
                  rfl
                refine pure_ (i := 4) (N := some 21) (v := ?_) (a' := ?_) #[true, true, true, false, true, false, false, false, false, false] rfl rfl (any_of HT_.out (by kernel_rfl)) (fun _ _ _ h => h) (Or.inl ⟨by rfl, ?_⟩) ?_ ?_
                rotate_left
                · intro w'
                  go_simp
                  with_reducible rfl
                rotate_left
                · simp only [Act.put, List.setIfInBounds_toArray, List.set_cons_zero, List.set_cons_succ, i64_w, i32_w]
                  rfl
                refine pure_ (i := 5) (N := some 22) (v := ?_) (a' := ?_) #[true, true, true, false, true, true, false, false, false, false] rfl rfl (any_of HT_.out (by kernel_rfl)) (fun _ _ _ h => h) (Or.inl ⟨by rfl, ?_⟩) ?_ ?_
                rotate_left
                · intro w'
                  go_simp
                  with_reducible rfl
                rotate_left
                · simp only [Act.put, List.setIfInBounds_toArray, List.set_cons_zero, List.set_cons_succ, i64_w, i32_w]
                  rfl
                refine pure_ (i := 6) (N := some 23) (v := ?_) (a' := ?_) #[true, true, true, false, true, true, true, false, false, false] rfl rfl (any_of HT_.out (by kernel_rfl)) (fun _ _ _ h => h) (Or.inl ⟨by rfl, ?_⟩) ?_ ?_
                rotate_left
                · intro w'
                  go_simp
                  with_reducible rfl
                rotate_left
                · simp only [Act.put, List.setIfInBounds_toArray, List.set_cons_zero, List.set_cons_succ, i64_w, i32_w]
                  rfl
                refine take_ (i := 3) (N := some 20) (v := ?_) (a' := ?_) #[true, true, true, true, true, true, true, false, false, false] rfl rfl (take_ofW HT_.out HW_.out (by kernel_rfl)) (fun _ _ _ h => h) (Or.inl ⟨by rfl, ?_⟩) hHeld ?_ ?_
                rotate_left
                · rintro w' ⟨s0, s1, s2, s3, s4, s5, s6, s7, s8, s9, s10, s11, s12, s13⟩
                  go_simp
                  with_reducible rfl
                rotate_left
                · simp only [Act.put, List.setIfInBounds_toArray, List.set_cons_zero, List.set_cons_succ, i64_w, i32_w]
                  rfl
                refine take_ (i := 7) (N := some 24) (v := ?_) (a' := ?_) #[true, true, true, true, true, true, true, true, false, false] rfl rfl (take_ofW HT_.out HW_.out (by kernel_rfl)) (fun _ _ _ h => h) (Or.inl ⟨by rfl, ?_⟩) hHeld ?_ ?_
                rotate_left
                · rintro w' ⟨s0, s1, s2, s3, s4, s5, s6, s7, s8, s9, s10, s11, s12, s13⟩
                  go_simp
                  with_reducible rfl
                rotate_left
                · simp only [Act.put, List.setIfInBounds_toArray, List.set_cons_zero, List.set_cons_succ, i64_w, i32_w]
                  rfl
                refine one_ (i := 8) (N := some 25) #[true, true, true, true, true, true, true, true, true, false] rfl rfl (one_of HT_.out (by kernel_rfl)) (by decide) (fun K hK => ?_)
                refine goes_ Try.func16 (by kernel_rfl) rfl #[.agg #[.int .i64 ((rd_T29 l0 x5_1).f0), .bool ((rd_T29 l0 x5_1).f1), .string ((rd_T29 l0 x5_1).f2), .string ((rd_T29 l0 x5_1).f3), .int .i64 ((rd_T29 l0 x5_1).f4), .slice A105_5 ((rd_T29 l0 x5_1).f5).length c105_5, .int .i64 ((rd_T29 l0 x5_1).f6)], .agg #[.int .i64 ((rd_T29 l1 x5_1).f0), .bool ((rd_T29 l1 x5_1).f1), .string ((rd_T29 l1 x5_1).f2), .string ((rd_T29 l1 x5_1).f3), .int .i64 ((rd_T29 l1 x5_1).f4), .slice A106_5 ((rd_T29 l1 x5_1).f5).length c106_5, .int .i64 ((rd_T29 l1 x5_1).f6)]] (by rfl) rfl rfl (by (try simp only [List.map_toArray, List.map_cons, List.map_nil]); first | done | rfl | (simp only [List.length_drop, List.length_take]; rfl)) ?_
                with_reducible refine (hucksterref15_One.calls k1 ((rd_T29 l0 x5_1).f0) ((rd_T29 l0 x5_1).f1) ((rd_T29 l0 x5_1).f2) ((rd_T29 l0 x5_1).f3) ((rd_T29 l0 x5_1).f4) _ _ ((rd_T29 l0 x5_1).f5) ((rd_T29 l0 x5_1).f6) ((rd_T29 l1 x5_1).f0) ((rd_T29 l1 x5_1).f1) ((rd_T29 l1 x5_1).f2) ((rd_T29 l1 x5_1).f3) ((rd_T29 l1 x5_1).f4) _ _ ((rd_T29 l1 x5_1).f5) ((rd_T29 l1 x5_1).f6) true _ ?side1 ?side2 ?side3 ?side4 A7.out).mono ?_
                (case side1 => repeat (first | exact (Kd.C_below HR105_5.out HB.out) | (with_reducible refine Kd.C_alloc ?_ _) | (with_reducible refine Kd.C_drewN ?_ _) | (with_reducible refine Kd.C_drew ?_)))
                (case side2 => exact HC105_5.out)
                (case side3 => repeat (first | exact (Kd.C_below HR106_5.out HB.out) | (with_reducible refine Kd.C_alloc ?_ _) | (with_reducible refine Kd.C_drewN ?_ _) | (with_reducible refine Kd.C_drew ?_)))
                (case side4 => exact HC106_5.out)
                rintro e w10 ⟨rfl, hb⟩
                refine ⟨_, rfl, ?_⟩
                have n0_ := Aside0.mk (below_step (by repeat (first | (with_reducible first | exact HB.out | apply below_alloc | apply pw_below_drewN | apply below_drew1) | exact HB.out)) hb)
                clear HB
                have HB := n0_
                clear n0_
                (try clear hb)
                (try clear hb2)
                (try clear hk)
                (try clear hi)
                refine hK.out _ _ ⟨((HB.out.cell (World.block_lt_of_cell? w _ hw105_0)).trans hw105_0), ((HB.out.cell (World.block_lt_of_cell? w _ hw105_1)).trans hw105_1), ((HB.out.cell (World.block_lt_of_cell? w _ hw105_2)).trans hw105_2), ((HB.out.cell (World.block_lt_of_cell? w _ hw105_3)).trans hw105_3), ((HB.out.cell (World.block_lt_of_cell? w _ hw105_4)).trans hw105_4), ((HB.out.cell (World.block_lt_of_cell? w _ hw105_5)).trans hw105_5), ((HB.out.cell (World.block_lt_of_cell? w _ hw105_6)).trans hw105_6), ((HB.out.cell (World.block_lt_of_cell? w _ hw106_0)).trans hw106_0), ((HB.out.cell (World.block_lt_of_cell? w _ hw106_1)).trans hw106_1), ((HB.out.cell (World.block_lt_of_cell? w _ hw106_2)).trans hw106_2), ((HB.out.cell (World.block_lt_of_cell? w _ hw106_3)).trans hw106_3), ((HB.out.cell (World.block_lt_of_cell? w _ hw106_4)).trans hw106_4), ((HB.out.cell (World.block_lt_of_cell? w _ hw106_5)).trans hw106_5), ((HB.out.cell (World.block_lt_of_cell? w _ hw106_6)).trans hw106_6)⟩ (fun hHeld => ?_)
                clear hK K
                refine norm_ (a' := ?_) ?_ ?_
                rotate_left
                · show Act.put _ (some 25) _ = _
                  simp only [Act.put, List.setIfInBounds_toArray, List.set_cons_zero, List.set_cons_succ, i64_w, i32_w]
                  rfl
                refine pure_ (i := 9) (N := some 26) (v := ?_) (a' := ?_) #[true, true, true, true, true, true, true, true, true, true] rfl rfl (any_of HT_.out (by kernel_rfl)) (fun _ _ _ h => h) (Or.inl ⟨by rfl, ?_⟩) ?_ ?_
                rotate_left
                · intro w'
                  go_simp
                  with_reducible rfl
                rotate_left
                · simp only [Act.put, List.setIfInBounds_toArray, List.set_cons_zero, List.set_cons_succ, i64_w, i32_w]
                  rfl
                refine done_ (done_of HT_.out (by kernel_rfl)) ?_
                try go_wp2
                go_roundg k1
                case measure => have := HK1.out; omega
                case rel => exact ⟨(wrap64 (x5_1 + 1)), (by first | rfl | (simp; done) | (simp [*]; done)), H', ⟨by have := HK1.out; omega⟩, ⟨by repeat (first | (with_reducible first | exact HB.out | apply below_alloc | apply pw_below_drewN | apply below_drew1) | exact HB.out)⟩⟩
              · replace c8 := Bool.eq_false_iff.mpr c8
                subst c8
                have H1 : (some false) = some r := by rw [if_neg (show ¬ (false = true) by decide)] at H; exact H
                clear H
                have H := H1
                clear H1
                obtain rfl := Option.some.inj H
                try go_wp2
                have n0_ := Aside0.mk (below_drew1 HB.out)
                clear HB
                have HB := n0_
                clear n0_
                have p105 : 0 ≤ (x5_1 : Int) := of_decide_eq_true (by first | (with_reducible assumption) | assumption)
                have q105 : x5_1 < (l0.length : Int) := of_decide_eq_true (by first | (with_reducible assumption) | assumption)
                obtain ⟨ad105, A105_5, c105_5, e105, hx105_0, hx105_1, hx105_2, hx105_3, hx105_4, hx105_5, hx105_6, hl105_5, hi105_5⟩ := at_T29 HR0.out x5_1 p105 q105
                have hw105_6 := hx105_6
                have hw105_5 := hx105_5
                have hw105_4 := hx105_4
                have hw105_3 := hx105_3
                have hw105_2 := hx105_2
                have hw105_1 := hx105_1
                have hw105_0 := hx105_0
                cases e105
                replace hx105_0 := (HB.out.cell (World.block_lt_of_cell? w _ hx105_0)).trans hx105_0
                replace hx105_1 := (HB.out.cell (World.block_lt_of_cell? w _ hx105_1)).trans hx105_1
                replace hx105_2 := (HB.out.cell (World.block_lt_of_cell? w _ hx105_2)).trans hx105_2
                replace hx105_3 := (HB.out.cell (World.block_lt_of_cell? w _ hx105_3)).trans hx105_3
                replace hx105_4 := (HB.out.cell (World.block_lt_of_cell? w _ hx105_4)).trans hx105_4
                replace hx105_5 := (HB.out.cell (World.block_lt_of_cell? w _ hx105_5)).trans hx105_5
                replace hx105_6 := (HB.out.cell (World.block_lt_of_cell? w _ hx105_6)).trans hx105_6
                have HR105_5 := Aside0.mk hi105_5
                have HC105_5 := Aside0.mk hl105_5
                clear hi105_5 hl105_5
                replace p105 := eq_true p105
                replace q105 := eq_true q105
                have p106 : 0 ≤ (x5_1 : Int) := of_decide_eq_true (by first | (with_reducible assumption) | assumption)
                have q106 : x5_1 < (l1.length : Int) := of_decide_eq_true (by first | (with_reducible assumption) | assumption)
                obtain ⟨ad106, A106_5, c106_5, e106, hx106_0, hx106_1, hx106_2, hx106_3, hx106_4, hx106_5, hx106_6, hl106_5, hi106_5⟩ := at_T29 HR1.out x5_1 p106 q106
                have hw106_6 := hx106_6
                have hw106_5 := hx106_5
                have hw106_4 := hx106_4
                have hw106_3 := hx106_3
                have hw106_2 := hx106_2
                have hw106_1 := hx106_1
                have hw106_0 := hx106_0
                cases e106
                replace hx106_0 := (HB.out.cell (World.block_lt_of_cell? w _ hx106_0)).trans hx106_0
                replace hx106_1 := (HB.out.cell (World.block_lt_of_cell? w _ hx106_1)).trans hx106_1
                replace hx106_2 := (HB.out.cell (World.block_lt_of_cell? w _ hx106_2)).trans hx106_2
                replace hx106_3 := (HB.out.cell (World.block_lt_of_cell? w _ hx106_3)).trans hx106_3
                replace hx106_4 := (HB.out.cell (World.block_lt_of_cell? w _ hx106_4)).trans hx106_4
                replace hx106_5 := (HB.out.cell (World.block_lt_of_cell? w _ hx106_5)).trans hx106_5
                replace hx106_6 := (HB.out.cell (World.block_lt_of_cell? w _ hx106_6)).trans hx106_6
                have HR106_5 := Aside0.mk hi106_5
                have HC106_5 := Aside0.mk hl106_5
                clear hi106_5 hl106_5
                replace p106 := eq_true p106
                replace q106 := eq_true q106
                refine start_ (n := 10) (S := fun w' => w'.cell? (ad105.add ((x5_1).toNat * 7)) = some (.int .i64 ((rd_T29 l0 x5_1).f0)) ∧ w'.cell? ⟨(ad105.add ((x5_1).toNat * 7)).block, (ad105.add ((x5_1).toNat * 7)).off + 1, none⟩ = some (.bool ((rd_T29 l0 x5_1).f1)) ∧ w'.cell? ⟨(ad105.add ((x5_1).toNat * 7)).block, (ad105.add ((x5_1).toNat * 7)).off + 2, none⟩ = some (.string ((rd_T29 l0 x5_1).f2)) ∧ w'.cell? ⟨(ad105.add ((x5_1).toNat * 7)).block, (ad105.add ((x5_1).toNat * 7)).off + 3, none⟩ = some (.string ((rd_T29 l0 x5_1).f3)) ∧ w'.cell? ⟨(ad105.add ((x5_1).toNat * 7)).block, (ad105.add ((x5_1).toNat * 7)).off + 4, none⟩ = some (.int .i64 ((rd_T29 l0 x5_1).f4)) ∧ w'.cell? ⟨(ad105.add ((x5_1).toNat * 7)).block, (ad105.add ((x5_1).toNat * 7)).off + 5, none⟩ = some (.slice A105_5 ((rd_T29 l0 x5_1).f5).length c105_5) ∧ w'.cell? ⟨(ad105.add ((x5_1).toNat * 7)).block, (ad105.add ((x5_1).toNat * 7)).off + 6, none⟩ = some (.int .i64 ((rd_T29 l0 x5_1).f6)) ∧ w'.cell? (ad106.add ((x5_1).toNat * 7)) = some (.int .i64 ((rd_T29 l1 x5_1).f0)) ∧ w'.cell? ⟨(ad106.add ((x5_1).toNat * 7)).block, (ad106.add ((x5_1).toNat * 7)).off + 1, none⟩ = some (.bool ((rd_T29 l1 x5_1).f1)) ∧ w'.cell? ⟨(ad106.add ((x5_1).toNat * 7)).block, (ad106.add ((x5_1).toNat * 7)).off + 2, none⟩ = some (.string ((rd_T29 l1 x5_1).f2)) ∧ w'.cell? ⟨(ad106.add ((x5_1).toNat * 7)).block, (ad106.add ((x5_1).toNat * 7)).off + 3, none⟩ = some (.string ((rd_T29 l1 x5_1).f3)) ∧ w'.cell? ⟨(ad106.add ((x5_1).toNat * 7)).block, (ad106.add ((x5_1).toNat * 7)).off + 4, none⟩ = some (.int .i64 ((rd_T29 l1 x5_1).f4)) ∧ w'.cell? ⟨(ad106.add ((x5_1).toNat * 7)).block, (ad106.add ((x5_1).toNat * 7)).off + 5, none⟩ = some (.slice A106_5 ((rd_T29 l1 x5_1).f5).length c106_5) ∧ w'.cell? ⟨(ad106.add ((x5_1).toNat * 7)).block, (ad106.add ((x5_1).toNat * 7)).off + 6, none⟩ = some (.int .i64 ((rd_T29 l1 x5_1).f6))) (ds := []) #[false, false, false, false, false, false, false, false, false, false] (by kernel_rfl) rfl rfl ⟨((HB.out.cell (World.block_lt_of_cell? w _ hw105_0)).trans hw105_0), ((HB.out.cell (World.block_lt_of_cell? w _ hw105_1)).trans hw105_1), ((HB.out.cell (World.block_lt_of_cell? w _ hw105_2)).trans hw105_2), ((HB.out.cell (World.block_lt_of_cell? w _ hw105_3)).trans hw105_3), ((HB.out.cell (World.block_lt_of_cell? w _ hw105_4)).trans hw105_4), ((HB.out.cell (World.block_lt_of_cell? w _ hw105_5)).trans hw105_5), ((HB.out.cell (World.block_lt_of_cell? w _ hw105_6)).trans hw105_6), ((HB.out.cell (World.block_lt_of_cell? w _ hw106_0)).trans hw106_0), ((HB.out.cell (World.block_lt_of_cell? w _ hw106_1)).trans hw106_1), ((HB.out.cell (World.block_lt_of_cell? w _ hw106_2)).trans hw106_2), ((HB.out.cell (World.block_lt_of_cell? w _ hw106_3)).trans hw106_3), ((HB.out.cell (World.block_lt_of_cell? w _ hw106_4)).trans hw106_4), ((HB.out.cell (World.block_lt_of_cell? w _ hw106_5)).trans hw106_5), ((HB.out.cell (World.block_lt_of_cell? w _ hw106_6)).trans hw106_6)⟩ (fun hHeld => ?_); refine with_tabW hucksterref15_Same.tab6 hucksterref15_Same.bits6 (fun HT_ HW_ => ?_)
                generalize wr.drew = w11 at HB HR105_5 HR106_5 hx105_0 hx105_1 hx105_2 hx105_3 hx105_4 hx105_5 hx105_6 hx106_0 hx106_1 hx106_2 hx106_3 hx106_4 hx106_5 hx106_6 hHeld ⊢
                refine pure_ (i := 0) (N := some 17) (v := ?_) (a' := ?_) #[true, false, false, false, false, false, false, false, false, false] rfl rfl (any_of HT_.out (by kernel_rfl)) (fun _ _ _ h => h) (Or.inl ⟨by rfl, ?_⟩) ?_ ?_
                rotate_left
                · intro w'
                  go_simp
                  with_reducible rfl
                rotate_left
                · simp only [Act.put, List.setIfInBounds_toArray, List.set_cons_zero, List.set_cons_succ, i64_w, i32_w]
                  rfl
                refine pure_ (i := 1) (N := some 18) (v := ?_) (a' := ?_) #[true, true, false, false, false, false, false, false, false, false] rfl rfl (any_of HT_.out (by kernel_rfl)) (fun _ _ _ h => h) (Or.inl ⟨by rfl, ?_⟩) ?_ ?_
                rotate_left
                · intro w'
                  go_simp
                  with_reducible rfl
                rotate_left
                · simp only [Act.put, List.setIfInBounds_toArray, List.set_cons_zero, List.set_cons_succ, i64_w, i32_w]
                  rfl
                refine pure_ (i := 2) (N := some 19) (v := ?_) (a' := ?_) #[true, true, true, false, false, false, false, false, false, false] rfl rfl (any_of HT_.out (by kernel_rfl)) (fun _ _ _ h => h) (Or.inl ⟨by rfl, ?_⟩) ?_ ?_
                rotate_left
                · intro w'
                  go_simp
                  with_reducible rfl
                rotate_left
                · simp only [Act.put, List.setIfInBounds_toArray, List.set_cons_zero, List.set_cons_succ, i64_w, i32_w]
                  rfl
                refine pure_ (i := 4) (N := some 21) (v := ?_) (a' := ?_) #[true, true, true, false, true, false, false, false, false, false] rfl rfl (any_of HT_.out (by kernel_rfl)) (fun _ _ _ h => h) (Or.inl ⟨by rfl, ?_⟩) ?_ ?_
                rotate_left
                · intro w'
                  go_simp
                  with_reducible rfl
                rotate_left
                · simp only [Act.put, List.setIfInBounds_toArray, List.set_cons_zero, List.set_cons_succ, i64_w, i32_w]
                  rfl
                refine pure_ (i := 5) (N := some 22) (v := ?_) (a' := ?_) #[true, true, true, false, true, true, false, false, false, false] rfl rfl (any_of HT_.out (by kernel_rfl)) (fun _ _ _ h => h) (Or.inl ⟨by rfl, ?_⟩) ?_ ?_
                rotate_left
                · intro w'
                  go_simp
                  with_reducible rfl
                rotate_left
                · simp only [Act.put, List.setIfInBounds_toArray, List.set_cons_zero, List.set_cons_succ, i64_w, i32_w]
                  rfl
                refine pure_ (i := 6) (N := some 23) (v := ?_) (a' := ?_) #[true, true, true, false, true, true, true, false, false, false] rfl rfl (any_of HT_.out (by kernel_rfl)) (fun _ _ _ h => h) (Or.inl ⟨by rfl, ?_⟩) ?_ ?_
                rotate_left
                · intro w'
                  go_simp
                  with_reducible rfl
                rotate_left
                · simp only [Act.put, List.setIfInBounds_toArray, List.set_cons_zero, List.set_cons_succ, i64_w, i32_w]
                  rfl
                refine take_ (i := 3) (N := some 20) (v := ?_) (a' := ?_) #[true, true, true, true, true, true, true, false, false, false] rfl rfl (take_ofW HT_.out HW_.out (by kernel_rfl)) (fun _ _ _ h => h) (Or.inl ⟨by rfl, ?_⟩) hHeld ?_ ?_
                rotate_left
                · rintro w' ⟨s0, s1, s2, s3, s4, s5, s6, s7, s8, s9, s10, s11, s12, s13⟩
                  go_simp
                  with_reducible rfl
                rotate_left
                · simp only [Act.put, List.setIfInBounds_toArray, List.set_cons_zero, List.set_cons_succ, i64_w, i32_w]
                  rfl
                refine take_ (i := 7) (N := some 24) (v := ?_) (a' := ?_) #[true, true, true, true, true, true, true, true, false, false] rfl rfl (take_ofW HT_.out HW_.out (by kernel_rfl)) (fun _ _ _ h => h) (Or.inl ⟨by rfl, ?_⟩) hHeld ?_ ?_
                rotate_left
                · rintro w' ⟨s0, s1, s2, s3, s4, s5, s6, s7, s8, s9, s10, s11, s12, s13⟩
                  go_simp
                  with_reducible rfl
                rotate_left
                · simp only [Act.put, List.setIfInBounds_toArray, List.set_cons_zero, List.set_cons_succ, i64_w, i32_w]
                  rfl
                refine one_ (i := 8) (N := some 25) #[true, true, true, true, true, true, true, true, true, false] rfl rfl (one_of HT_.out (by kernel_rfl)) (by decide) (fun K hK => ?_)
                refine goes_ Try.func16 (by kernel_rfl) rfl #[.agg #[.int .i64 ((rd_T29 l0 x5_1).f0), .bool ((rd_T29 l0 x5_1).f1), .string ((rd_T29 l0 x5_1).f2), .string ((rd_T29 l0 x5_1).f3), .int .i64 ((rd_T29 l0 x5_1).f4), .slice A105_5 ((rd_T29 l0 x5_1).f5).length c105_5, .int .i64 ((rd_T29 l0 x5_1).f6)], .agg #[.int .i64 ((rd_T29 l1 x5_1).f0), .bool ((rd_T29 l1 x5_1).f1), .string ((rd_T29 l1 x5_1).f2), .string ((rd_T29 l1 x5_1).f3), .int .i64 ((rd_T29 l1 x5_1).f4), .slice A106_5 ((rd_T29 l1 x5_1).f5).length c106_5, .int .i64 ((rd_T29 l1 x5_1).f6)]] (by rfl) rfl rfl (by (try simp only [List.map_toArray, List.map_cons, List.map_nil]); first | done | rfl | (simp only [List.length_drop, List.length_take]; rfl)) ?_
                with_reducible refine (hucksterref15_One.calls k1 ((rd_T29 l0 x5_1).f0) ((rd_T29 l0 x5_1).f1) ((rd_T29 l0 x5_1).f2) ((rd_T29 l0 x5_1).f3) ((rd_T29 l0 x5_1).f4) _ _ ((rd_T29 l0 x5_1).f5) ((rd_T29 l0 x5_1).f6) ((rd_T29 l1 x5_1).f0) ((rd_T29 l1 x5_1).f1) ((rd_T29 l1 x5_1).f2) ((rd_T29 l1 x5_1).f3) ((rd_T29 l1 x5_1).f4) _ _ ((rd_T29 l1 x5_1).f5) ((rd_T29 l1 x5_1).f6) false _ ?side1 ?side2 ?side3 ?side4 A7.out).mono ?_
                (case side1 => repeat (first | exact (Kd.C_below HR105_5.out HB.out) | (with_reducible refine Kd.C_alloc ?_ _) | (with_reducible refine Kd.C_drewN ?_ _) | (with_reducible refine Kd.C_drew ?_)))
                (case side2 => exact HC105_5.out)
                (case side3 => repeat (first | exact (Kd.C_below HR106_5.out HB.out) | (with_reducible refine Kd.C_alloc ?_ _) | (with_reducible refine Kd.C_drewN ?_ _) | (with_reducible refine Kd.C_drew ?_)))
                (case side4 => exact HC106_5.out)
                rintro e w12 ⟨rfl, hb⟩
                refine ⟨_, rfl, ?_⟩
                have n0_ := Aside0.mk (below_step (by repeat (first | (with_reducible first | exact HB.out | apply below_alloc | apply pw_below_drewN | apply below_drew1) | exact HB.out)) hb)
                clear HB
                have HB := n0_
                clear n0_
                (try clear hb)
                (try clear hb2)
                (try clear hk)
                (try clear hi)
                refine hK.out _ _ ⟨((HB.out.cell (World.block_lt_of_cell? w _ hw105_0)).trans hw105_0), ((HB.out.cell (World.block_lt_of_cell? w _ hw105_1)).trans hw105_1), ((HB.out.cell (World.block_lt_of_cell? w _ hw105_2)).trans hw105_2), ((HB.out.cell (World.block_lt_of_cell? w _ hw105_3)).trans hw105_3), ((HB.out.cell (World.block_lt_of_cell? w _ hw105_4)).trans hw105_4), ((HB.out.cell (World.block_lt_of_cell? w _ hw105_5)).trans hw105_5), ((HB.out.cell (World.block_lt_of_cell? w _ hw105_6)).trans hw105_6), ((HB.out.cell (World.block_lt_of_cell? w _ hw106_0)).trans hw106_0), ((HB.out.cell (World.block_lt_of_cell? w _ hw106_1)).trans hw106_1), ((HB.out.cell (World.block_lt_of_cell? w _ hw106_2)).trans hw106_2), ((HB.out.cell (World.block_lt_of_cell? w _ hw106_3)).trans hw106_3), ((HB.out.cell (World.block_lt_of_cell? w _ hw106_4)).trans hw106_4), ((HB.out.cell (World.block_lt_of_cell? w _ hw106_5)).trans hw106_5), ((HB.out.cell (World.block_lt_of_cell? w _ hw106_6)).trans hw106_6)⟩ (fun hHeld => ?_)
                clear hK K
                refine norm_ (a' := ?_) ?_ ?_
                rotate_left
                · show Act.put _ (some 25) _ = _
                  simp only [Act.put, List.setIfInBounds_toArray, List.set_cons_zero, List.set_cons_succ, i64_w, i32_w]
                  rfl
                refine pure_ (i := 9) (N := some 26) (v := ?_) (a' := ?_) #[true, true, true, true, true, true, true, true, true, true] rfl rfl (any_of HT_.out (by kernel_rfl)) (fun _ _ _ h => h) (Or.inl ⟨by rfl, ?_⟩) ?_ ?_
                rotate_left
                · intro w'
                  go_simp
                  with_reducible rfl
                rotate_left
                · simp only [Act.put, List.setIfInBounds_toArray, List.set_cons_zero, List.set_cons_succ, i64_w, i32_w]
                  rfl
                refine done_ (done_of HT_.out (by kernel_rfl)) ?_
                try go_wp2
                go_ret
                exact ⟨by first | rfl | (simp [errW_none, errW_some] <;> rfl) | (simp [*, errW_none, errW_some] <;> rfl), by repeat (first | (with_reducible first | exact HB.out | apply below_alloc | apply pw_below_drewN | apply below_drew1) | exact HB.out)⟩
            · rw [if_neg c6] at H
              exact absurd H (by simp)
          · rw [if_neg c5] at H
            exact absurd H (by simp)
        · rw [if_neg c4] at H
          have c4b0 : decide (x5_1 < (l0.length : Int)) = false := decide_eq_false c4
          clear c4
          obtain rfl := Option.some.inj H
          go_wp2
          go_ret
          exact ⟨by first | rfl | (simp [errW_none, errW_some] <;> rfl) | (simp [*, errW_none, errW_some] <;> rfl), by repeat (first | (with_reducible first | exact HB.out | apply below_alloc | apply pw_below_drewN | apply below_drew1) | exact HB.out)⟩
  · rw [if_neg c3] at H
    have c3b0 : ((l0.length : Int) == (l1.length : Int)) = false := beq_eq_false_iff_ne.mpr c3
    have c3b1 : ((l0.length : Int) != (l1.length : Int)) = true := bne_iff_ne.mpr c3
    have c3b2 : (l0.length == l1.length) = false := by first | simpa using c3 | (simp at c3 ⊢; omega)
    obtain rfl := Option.some.inj H
    go_enter Try.func7, Try.ntmps7
    go_wp2
    go_ret
    exact ⟨by first | rfl | (simp [errW_none, errW_some] <;> rfl) | (simp [*, errW_none, errW_some] <;> rfl), by repeat (first | (with_reducible first | exact HB.out | apply below_alloc | apply pw_below_drewN | apply below_drew1) | exact HB.out)⟩

end Go.Proofs.Ytmhenlilcikgmaa.X

/- The law LawEscrowHolds: its walk, its plain law, its row. -/
import Derived.LoopTactic
import Derived.Great.BuildSlice
import Derived.StillTailTactics
import Derived.Deep.Fields
import Derived.Test.YtfnpiclioikjpaaRows
import Derived.Test.YtfnpiclioikjpaaWSized
import Derived.WalkKit
import Derived.ProofKit
import Derived.OpenShut
import Derived.ShutString
import Derived.ChangeOld
import Derived.Below
import Derived.SizedLaws
import Derived.Lib.SmallJoins
import Derived.Test.YtfnpiclioikjpaaJE1
import Derived.Test.YtfnpiclioikjpaaJE2
import Derived.Test.YtfnpiclioikjpaaJE3
/- The theorem of rights, plain: deeds that are done where the rights are there leave none below zero, wherever what is known is closed. No program of its own. -/
set_option linter.unusedSimpArgs false
set_option linter.unusedVariables false
namespace Go.Proofs.Ytfnpiclioikjpaa.X
open Go.RowKit

/-- A deed: whose, to whom (0: up or down), how much, and what its replica knew ahead of it. -/
structure Dd where
  o : Nat
  tp : Nat
  n : Int
  V : Nat → Nat
def Dd.dl (d : Dd) (k : Nat) : Int := if 0 < d.tp then (if k = d.o then -d.n else 0) + (if k = d.tp then d.n else 0) else (if k = d.o then d.n else 0)
/-- How many of a replica (newest first). -/
def cntD : List Dd → Nat → Nat
  | [], _ => 0
  | d :: D, o => cntD D o + (if d.o = o then 1 else 0)
/-- What a replica has, of the deeds that are known. -/
def HD : List Dd → (Nat → Nat) → Nat → Int
  | [], _, _ => 0
  | d :: D, v, k => HD D v k + (if cntD D d.o + 1 ≤ v d.o then d.dl k else 0)
/-- With a deed all is known that was known where it was done. -/
def Clo : List Dd → (Nat → Nat) → Prop
  | [], _ => True
  | d :: D, v => Clo D v ∧ (cntD D d.o + 1 ≤ v d.o → ∀ k, d.V k ≤ v k)
def Val (base : Nat → Int) : List Dd → Prop
  | [] => True
  | d :: D => Val base D ∧ (∀ k, d.V k ≤ cntD D k) ∧ d.V d.o = cntD D d.o ∧ Clo D d.V ∧ ∀ k, d.dl k < 0 → k = d.o ∧ 0 ≤ base k + HD D d.V k + d.dl k
theorem HD_mono {base : Nat → Int} {D : List Dd} (hV : Val base D) {u v : Nat → Nat} (huv : ∀ k, u k ≤ v k) {k : Nat} (hk : cntD D k ≤ u k) : HD D u k ≤ HD D v k := by
  induction D with
  | nil => exact Int.le_refl _
  | cons d D ih =>
    obtain ⟨h1, _, _, _, h5⟩ := hV
    simp only [cntD] at hk
    have hi := ih h1 (by omega)
    simp only [HD]
    by_cases ho : d.o = k
    · rw [if_pos ho] at hk
      rw [ho, if_pos (by omega), if_pos (by have := huv k; omega)]
      omega
    · have hn : ¬ d.dl k < 0 := fun h => ho (h5 k h).1.symm
      by_cases hu : cntD D d.o + 1 ≤ u d.o
      · rw [if_pos hu, if_pos (by have := huv d.o; omega)]
        omega
      · rw [if_neg hu]
        split <;> omega
theorem rights_nn {base : Nat → Int} (hb : ∀ k, 0 ≤ base k) {D : List Dd} (hV : Val base D) {v : Nat → Nat} (hc : Clo D v) (k : Nat) : 0 ≤ base k + HD D v k := by
  induction D generalizing v with
  | nil => have := hb k; simp only [HD]; omega
  | cons d D ih =>
    have hV' := hV
    obtain ⟨h1, h2, h3, h4, h5⟩ := hV
    obtain ⟨c1, c2⟩ := hc
    have hi := ih h1 c1
    simp only [HD]
    by_cases hk : cntD D d.o + 1 ≤ v d.o
    · rw [if_pos hk]
      by_cases hn : d.dl k < 0
      · obtain ⟨rfl, h⟩ := h5 k hn
        have hm := HD_mono h1 (c2 hk) (k := d.o) (by omega)
        omega
      · omega
    · rw [if_neg hk]; omega
theorem clo_max {D : List Dd} {u v : Nat → Nat} (hu : Clo D u) (hv : Clo D v) : Clo D (fun k => max (u k) (v k)) := by
  induction D with
  | nil => trivial
  | cons d D ih =>
    refine ⟨ih hu.1 hv.1, fun h k => ?_⟩
    rcases Nat.le_total (u d.o) (v d.o) with hl | hl
    · have := hv.2 (by simp only [Nat.max_eq_right hl] at h; exact h) k
      exact Nat.le_trans this (Nat.le_max_right ..)
    · have := hu.2 (by simp only [Nat.max_eq_left hl] at h; exact h) k
      exact Nat.le_trans this (Nat.le_max_left ..)
theorem clo_ext {D : List Dd} {u v : Nat → Nat} (h : ∀ k, u k = v k) (hu : Clo D u) : Clo D v := by
  have : u = v := funext h
  exact this ▸ hu
theorem cnt_mono (D : List Dd) (d : Dd) (o : Nat) : cntD D o ≤ cntD (d :: D) o := by simp only [cntD]; omega
/-- Raised where all is known already: nothing turns. -/
theorem clo_raise {D : List Dd} {V v : Nat → Nat} {s : Nat} (hs : V s = cntD D s) (hv : ∀ k, k ≠ s → v k = V k) (hvs : V s ≤ v s) (hc : Clo D V) : Clo D v := by
  have key : ∀ (D : List Dd), cntD D s ≤ V s → Clo D V → Clo D v := by
    intro D
    induction D with
    | nil => intro _ _; trivial
    | cons d D ih =>
      intro hle hc
      have h1 := cnt_mono D d s
      refine ⟨ih (by omega) hc.1, fun h k => ?_⟩
      have hk : ∀ k, V k ≤ v k := fun k => by
        by_cases e : k = s
        · rw [e]; exact hvs
        · rw [hv k e]; exact Nat.le_refl _
      by_cases e : d.o = s
      · have h2 : cntD D d.o + 1 ≤ V d.o := by
          have : cntD (d :: D) s = cntD D s + 1 := by simp only [cntD, if_pos e]
          rw [e]; omega
        exact Nat.le_trans (hc.2 h2 k) (hk k)
      · rw [hv _ e] at h
        exact Nat.le_trans (hc.2 h k) (hk k)
  exact key D (by omega) hc
/-- What a new deed of s leaves closed: its own knowledge with it; that of others, who can't know it. -/
theorem clo_new {D : List Dd} {d : Dd} {v : Nat → Nat} (hs : d.V d.o = cntD D d.o) (hv : ∀ k, k ≠ d.o → v k = d.V k) (hvs : v d.o = d.V d.o + 1) (hc : Clo D d.V) : Clo (d :: D) v := by
  refine ⟨clo_raise hs hv (by omega) hc, fun _ k => ?_⟩
  by_cases e : k = d.o
  · rw [e]; omega
  · rw [hv k e]; exact Nat.le_refl _
theorem clo_other {D : List Dd} {d : Dd} {v : Nat → Nat} (hl : v d.o ≤ cntD D d.o) (hc : Clo D v) : Clo (d :: D) v := ⟨hc, fun h => by omega⟩
end Go.Proofs.Ytfnpiclioikjpaa.X

/- Kinds of deeds and steps (escrow). -/
set_option linter.unusedSimpArgs false
set_option linter.unusedVariables false
namespace Go.Proofs.Ytfnpiclioikjpaa.X
open Go.RowKit Go.Proofs.YtfnpiclioikjpaaW.PrintWords Go.Proofs.YtfnpiclioikjpaaW.PrintLast Go.Proofs.YtfnpiclioikjpaaW.PrintMore
theorem info3 : (Try.prog.info? 3).map (fun i => (i.zero, i.size, i.bytes)) = some (some (.int .i64 0), 1, 8) := by kernel_rfl
theorem info61 : (Try.prog.info? 61).map (fun i => (i.zero, i.size, i.bytes)) = some (some (.agg #[(.string ⟨#[]⟩), (.int .i64 0), (.int .i64 0), (.int .i64 0)]), 4, 40) := by kernel_rfl
theorem info77 : (Try.prog.info? 77).map (fun i => (i.zero, i.size, i.bytes)) = some (some (.agg #[(.int .i64 0), (.int .i64 0), (.int .i64 0), (.int .i64 0), (.int .i64 0)]), 5, 40) := by kernel_rfl
/-! #### struct type 61 -/
structure S61 where
  f0 : ByteArray
  f1 : Int
  f2 : Int
  f3 : Int
def z61 : S61 := ⟨(⟨#[]⟩ : ByteArray), (0 : Int), (0 : Int), (0 : Int)⟩
def k61 : Kd S61 := Kd.iso (Kd.pair Kd.string (Kd.pair (Kd.int .i64) (Kd.pair (Kd.int .i64) (Kd.int .i64)))) (fun x : S61 => (x.f0, x.f1, x.f2, x.f3))
theorem k61_open {w : World} {x : S61} {cs : List Value} (h : k61.K w x cs) : cs = [.string x.f0, .int .i64 x.f1, .int .i64 x.f2, .int .i64 x.f3] := by
  obtain ⟨_, _, rfl, rfl, ⟨_, _, rfl, rfl, ⟨_, _, rfl, rfl, rfl⟩⟩⟩ := h
  exact rfl
theorem k61_openM {w : World} {base : Nat} {ok : Nat → Prop} {x : S61} {cs : List Value} (h : k61.M w base ok x cs) : cs = [.string x.f0, .int .i64 x.f1, .int .i64 x.f2, .int .i64 x.f3] := by
  obtain ⟨_, _, rfl, rfl, ⟨_, _, rfl, rfl, ⟨_, _, rfl, rfl, rfl⟩⟩⟩ := h
  exact rfl
theorem k61_mk (w : World) (x : S61)  : k61.K w x [.string x.f0, .int .i64 x.f1, .int .i64 x.f2, .int .i64 x.f3] := ⟨[.string x.f0], [.int .i64 x.f1, .int .i64 x.f2, .int .i64 x.f3], rfl, rfl, ⟨[.int .i64 x.f1], [.int .i64 x.f2, .int .i64 x.f3], rfl, rfl, ⟨[.int .i64 x.f2], [.int .i64 x.f3], rfl, rfl, rfl⟩⟩⟩
theorem k61_mkM (w : World) (base : Nat) (ok : Nat → Prop) (x : S61)  : k61.M w base ok x [.string x.f0, .int .i64 x.f1, .int .i64 x.f2, .int .i64 x.f3] := ⟨[.string x.f0], [.int .i64 x.f1, .int .i64 x.f2, .int .i64 x.f3], rfl, rfl, ⟨[.int .i64 x.f1], [.int .i64 x.f2, .int .i64 x.f3], rfl, rfl, ⟨[.int .i64 x.f2], [.int .i64 x.f3], rfl, rfl, rfl⟩⟩⟩
def rd_T61 (xs : List S61) (i : Int) : S61 := xs.getD i.toNat z61
theorem at_T61 {w : World} {A : Option Addr} {n : Nat} {xs : List S61} (h : Kd.C k61 w A n xs) (i : Int) (h0 : 0 ≤ i) (h1 : i < n) : ∃ ad , A = some ad ∧ w.cell? (ad.add (i.toNat * 4)) = some (.string (rd_T61 xs i).f0) ∧ w.cell? ⟨(ad.add (i.toNat * 4)).block, (ad.add (i.toNat * 4)).off + 1, none⟩ = some (.int .i64 (rd_T61 xs i).f1) ∧ w.cell? ⟨(ad.add (i.toNat * 4)).block, (ad.add (i.toNat * 4)).off + 2, none⟩ = some (.int .i64 (rd_T61 xs i).f2) ∧ w.cell? ⟨(ad.add (i.toNat * 4)).block, (ad.add (i.toNat * 4)).off + 3, none⟩ = some (.int .i64 (rd_T61 xs i).f3) := by
  obtain ⟨ad, c, e, _, hK, hc0⟩ := Kd.C_get h z61 i h0 h1
  have hc : ∀ j u, c[j]? = some u → w.cell? (ad.add (i.toNat * 4 + j)) = some u := hc0
  obtain rfl := k61_open hK
  exact ⟨ad, e, hc 0 _ rfl, by rw [← add_field _ _ 1 (by omega)]; exact hc 1 _ rfl, by rw [← add_field _ _ 2 (by omega)]; exact hc 2 _ rfl, by rw [← add_field _ _ 3 (by omega)]; exact hc 3 _ rfl⟩
/-! #### struct type 74 -/
structure S74 where
  f0 : Int
  f1 : Int
  f2 : Int
  f3 : Int
  f4 : Int
  f5 : Int
def z74 : S74 := ⟨(0 : Int), (0 : Int), (0 : Int), (0 : Int), (0 : Int), (0 : Int)⟩
def k74 : Kd S74 := Kd.iso (Kd.pair (Kd.int .i64) (Kd.pair (Kd.int .i64) (Kd.pair (Kd.int .i64) (Kd.pair (Kd.int .i64) (Kd.pair (Kd.int .i64) (Kd.int .i64)))))) (fun x : S74 => (x.f0, x.f1, x.f2, x.f3, x.f4, x.f5))
theorem k74_open {w : World} {x : S74} {cs : List Value} (h : k74.K w x cs) : cs = [.int .i64 x.f0, .int .i64 x.f1, .int .i64 x.f2, .int .i64 x.f3, .int .i64 x.f4, .int .i64 x.f5] := by
  obtain ⟨_, _, rfl, rfl, ⟨_, _, rfl, rfl, ⟨_, _, rfl, rfl, ⟨_, _, rfl, rfl, ⟨_, _, rfl, rfl, rfl⟩⟩⟩⟩⟩ := h
  exact rfl
theorem k74_openM {w : World} {base : Nat} {ok : Nat → Prop} {x : S74} {cs : List Value} (h : k74.M w base ok x cs) : cs = [.int .i64 x.f0, .int .i64 x.f1, .int .i64 x.f2, .int .i64 x.f3, .int .i64 x.f4, .int .i64 x.f5] := by
  obtain ⟨_, _, rfl, rfl, ⟨_, _, rfl, rfl, ⟨_, _, rfl, rfl, ⟨_, _, rfl, rfl, ⟨_, _, rfl, rfl, rfl⟩⟩⟩⟩⟩ := h
  exact rfl
theorem k74_mk (w : World) (x : S74)  : k74.K w x [.int .i64 x.f0, .int .i64 x.f1, .int .i64 x.f2, .int .i64 x.f3, .int .i64 x.f4, .int .i64 x.f5] := ⟨[.int .i64 x.f0], [.int .i64 x.f1, .int .i64 x.f2, .int .i64 x.f3, .int .i64 x.f4, .int .i64 x.f5], rfl, rfl, ⟨[.int .i64 x.f1], [.int .i64 x.f2, .int .i64 x.f3, .int .i64 x.f4, .int .i64 x.f5], rfl, rfl, ⟨[.int .i64 x.f2], [.int .i64 x.f3, .int .i64 x.f4, .int .i64 x.f5], rfl, rfl, ⟨[.int .i64 x.f3], [.int .i64 x.f4, .int .i64 x.f5], rfl, rfl, ⟨[.int .i64 x.f4], [.int .i64 x.f5], rfl, rfl, rfl⟩⟩⟩⟩⟩
theorem k74_mkM (w : World) (base : Nat) (ok : Nat → Prop) (x : S74)  : k74.M w base ok x [.int .i64 x.f0, .int .i64 x.f1, .int .i64 x.f2, .int .i64 x.f3, .int .i64 x.f4, .int .i64 x.f5] := ⟨[.int .i64 x.f0], [.int .i64 x.f1, .int .i64 x.f2, .int .i64 x.f3, .int .i64 x.f4, .int .i64 x.f5], rfl, rfl, ⟨[.int .i64 x.f1], [.int .i64 x.f2, .int .i64 x.f3, .int .i64 x.f4, .int .i64 x.f5], rfl, rfl, ⟨[.int .i64 x.f2], [.int .i64 x.f3, .int .i64 x.f4, .int .i64 x.f5], rfl, rfl, ⟨[.int .i64 x.f3], [.int .i64 x.f4, .int .i64 x.f5], rfl, rfl, ⟨[.int .i64 x.f4], [.int .i64 x.f5], rfl, rfl, rfl⟩⟩⟩⟩⟩
def rd_T74 (xs : List S74) (i : Int) : S74 := xs.getD i.toNat z74
theorem at_T74 {w : World} {A : Option Addr} {n : Nat} {xs : List S74} (h : Kd.C k74 w A n xs) (i : Int) (h0 : 0 ≤ i) (h1 : i < n) : ∃ ad , A = some ad ∧ w.cell? (ad.add (i.toNat * 6)) = some (.int .i64 (rd_T74 xs i).f0) ∧ w.cell? ⟨(ad.add (i.toNat * 6)).block, (ad.add (i.toNat * 6)).off + 1, none⟩ = some (.int .i64 (rd_T74 xs i).f1) ∧ w.cell? ⟨(ad.add (i.toNat * 6)).block, (ad.add (i.toNat * 6)).off + 2, none⟩ = some (.int .i64 (rd_T74 xs i).f2) ∧ w.cell? ⟨(ad.add (i.toNat * 6)).block, (ad.add (i.toNat * 6)).off + 3, none⟩ = some (.int .i64 (rd_T74 xs i).f3) ∧ w.cell? ⟨(ad.add (i.toNat * 6)).block, (ad.add (i.toNat * 6)).off + 4, none⟩ = some (.int .i64 (rd_T74 xs i).f4) ∧ w.cell? ⟨(ad.add (i.toNat * 6)).block, (ad.add (i.toNat * 6)).off + 5, none⟩ = some (.int .i64 (rd_T74 xs i).f5) := by
  obtain ⟨ad, c, e, _, hK, hc0⟩ := Kd.C_get h z74 i h0 h1
  have hc : ∀ j u, c[j]? = some u → w.cell? (ad.add (i.toNat * 6 + j)) = some u := hc0
  obtain rfl := k74_open hK
  exact ⟨ad, e, hc 0 _ rfl, by rw [← add_field _ _ 1 (by omega)]; exact hc 1 _ rfl, by rw [← add_field _ _ 2 (by omega)]; exact hc 2 _ rfl, by rw [← add_field _ _ 3 (by omega)]; exact hc 3 _ rfl, by rw [← add_field _ _ 4 (by omega)]; exact hc 4 _ rfl, by rw [← add_field _ _ 5 (by omega)]; exact hc 5 _ rfl⟩
/-! #### struct type 77 -/
structure S77 where
  f0 : Int
  f1 : Int
  f2 : Int
  f3 : Int
  f4 : Int
def z77 : S77 := ⟨(0 : Int), (0 : Int), (0 : Int), (0 : Int), (0 : Int)⟩
def k77 : Kd S77 := Kd.iso (Kd.pair (Kd.int .i64) (Kd.pair (Kd.int .i64) (Kd.pair (Kd.int .i64) (Kd.pair (Kd.int .i64) (Kd.int .i64))))) (fun x : S77 => (x.f0, x.f1, x.f2, x.f3, x.f4))
theorem k77_open {w : World} {x : S77} {cs : List Value} (h : k77.K w x cs) : cs = [.int .i64 x.f0, .int .i64 x.f1, .int .i64 x.f2, .int .i64 x.f3, .int .i64 x.f4] := by
  obtain ⟨_, _, rfl, rfl, ⟨_, _, rfl, rfl, ⟨_, _, rfl, rfl, ⟨_, _, rfl, rfl, rfl⟩⟩⟩⟩ := h
  exact rfl
theorem k77_openM {w : World} {base : Nat} {ok : Nat → Prop} {x : S77} {cs : List Value} (h : k77.M w base ok x cs) : cs = [.int .i64 x.f0, .int .i64 x.f1, .int .i64 x.f2, .int .i64 x.f3, .int .i64 x.f4] := by
  obtain ⟨_, _, rfl, rfl, ⟨_, _, rfl, rfl, ⟨_, _, rfl, rfl, ⟨_, _, rfl, rfl, rfl⟩⟩⟩⟩ := h
  exact rfl
theorem k77_mk (w : World) (x : S77)  : k77.K w x [.int .i64 x.f0, .int .i64 x.f1, .int .i64 x.f2, .int .i64 x.f3, .int .i64 x.f4] := ⟨[.int .i64 x.f0], [.int .i64 x.f1, .int .i64 x.f2, .int .i64 x.f3, .int .i64 x.f4], rfl, rfl, ⟨[.int .i64 x.f1], [.int .i64 x.f2, .int .i64 x.f3, .int .i64 x.f4], rfl, rfl, ⟨[.int .i64 x.f2], [.int .i64 x.f3, .int .i64 x.f4], rfl, rfl, ⟨[.int .i64 x.f3], [.int .i64 x.f4], rfl, rfl, rfl⟩⟩⟩⟩
theorem k77_mkM (w : World) (base : Nat) (ok : Nat → Prop) (x : S77)  : k77.M w base ok x [.int .i64 x.f0, .int .i64 x.f1, .int .i64 x.f2, .int .i64 x.f3, .int .i64 x.f4] := ⟨[.int .i64 x.f0], [.int .i64 x.f1, .int .i64 x.f2, .int .i64 x.f3, .int .i64 x.f4], rfl, rfl, ⟨[.int .i64 x.f1], [.int .i64 x.f2, .int .i64 x.f3, .int .i64 x.f4], rfl, rfl, ⟨[.int .i64 x.f2], [.int .i64 x.f3, .int .i64 x.f4], rfl, rfl, ⟨[.int .i64 x.f3], [.int .i64 x.f4], rfl, rfl, rfl⟩⟩⟩⟩
def rd_T77 (xs : List S77) (i : Int) : S77 := xs.getD i.toNat z77
theorem at_T77 {w : World} {A : Option Addr} {n : Nat} {xs : List S77} (h : Kd.C k77 w A n xs) (i : Int) (h0 : 0 ≤ i) (h1 : i < n) : ∃ ad , A = some ad ∧ w.cell? (ad.add (i.toNat * 5)) = some (.int .i64 (rd_T77 xs i).f0) ∧ w.cell? ⟨(ad.add (i.toNat * 5)).block, (ad.add (i.toNat * 5)).off + 1, none⟩ = some (.int .i64 (rd_T77 xs i).f1) ∧ w.cell? ⟨(ad.add (i.toNat * 5)).block, (ad.add (i.toNat * 5)).off + 2, none⟩ = some (.int .i64 (rd_T77 xs i).f2) ∧ w.cell? ⟨(ad.add (i.toNat * 5)).block, (ad.add (i.toNat * 5)).off + 3, none⟩ = some (.int .i64 (rd_T77 xs i).f3) ∧ w.cell? ⟨(ad.add (i.toNat * 5)).block, (ad.add (i.toNat * 5)).off + 4, none⟩ = some (.int .i64 (rd_T77 xs i).f4) := by
  obtain ⟨ad, c, e, _, hK, hc0⟩ := Kd.C_get h z77 i h0 h1
  have hc : ∀ j u, c[j]? = some u → w.cell? (ad.add (i.toNat * 5 + j)) = some u := hc0
  obtain rfl := k77_open hK
  exact ⟨ad, e, hc 0 _ rfl, by rw [← add_field _ _ 1 (by omega)]; exact hc 1 _ rfl, by rw [← add_field _ _ 2 (by omega)]; exact hc 2 _ rfl, by rw [← add_field _ _ 3 (by omega)]; exact hc 3 _ rfl, by rw [← add_field _ _ 4 (by omega)]; exact hc 4 _ rfl⟩
end Go.Proofs.Ytfnpiclioikjpaa.X

/- What is known of deeds, as accounts. -/
set_option linter.unusedSimpArgs false
set_option linter.unusedVariables false
namespace Go.Proofs.Ytfnpiclioikjpaa.X
open Go.RowKit

def kk : ByteArray := ⟨#[107]⟩
def HvOf (D : List Dd) (v : Nat → Nat) : Hv := ⟨HD D v 1, HD D v 2, HD D v 3, HD D v 4, HD D v 5⟩
def stH (h : Hv) : List Ac := setA [] kk h
structure OkD (d : Dd) : Prop where
  o1 : 1 ≤ d.o
  o5 : d.o ≤ 5
  t5 : d.tp ≤ 5
  n9 : -9 ≤ d.n ∧ d.n ≤ 9
  n1 : 0 < d.tp → 1 ≤ d.n
theorem dl_bd {d : Dd} (h : OkD d) (k : Nat) : -9 ≤ d.dl k ∧ d.dl k ≤ 9 := by
  have := h.n9
  unfold Dd.dl
  split
  · have := h.n1 ‹_›
    split <;> split <;> omega
  · split <;> omega
theorem HD_bd {D : List Dd} (h : ∀ d ∈ D, OkD d) (v : Nat → Nat) (k : Nat) : -9 * (D.length : Int) ≤ HD D v k ∧ HD D v k ≤ 9 * (D.length : Int) := by
  induction D with
  | nil => simp [HD]
  | cons d D ih =>
    have h1 := ih (fun x hx => h x (List.mem_cons_of_mem _ hx))
    have h2 := dl_bd (h d (List.mem_cons_self ..)) k
    simp only [HD, List.length_cons]
    split <;> omega
theorem cnt_le (D : List Dd) (o : Nat) : cntD D o ≤ D.length := by
  induction D with
  | nil => simp [cntD]
  | cons d D ih => simp only [cntD, List.length_cons]; split <;> omega
theorem HvOf_bd {D : List Dd} (h : ∀ d ∈ D, OkD d) (hl : D.length ≤ 24) (v : Nat → Nat) (j : Nat) (hj : j < 5) : -216 ≤ hv (HvOf D v) j ∧ hv (HvOf D v) j ≤ 216 := by
  rcases j with _ | _ | _ | _ | _ | j
  · have := HD_bd h v 1; simp only [HvOf, hv]; omega
  · have := HD_bd h v 2; simp only [HvOf, hv]; omega
  · have := HD_bd h v 3; simp only [HvOf, hv]; omega
  · have := HD_bd h v 4; simp only [HvOf, hv]; omega
  · have := HD_bd h v 5; simp only [HvOf, hv]; omega
  · omega
theorem kk_size : ((kk.size : Nat) : Int) ≤ 32 := by decide
theorem kk_ne : kk.toList ≠ [] := by decide +kernel
theorem kk_key : keyR kk = true := by decide +kernel
theorem ord_nilA : OrdK (ksAcc []) := List.Pairwise.nil
theorem getA_st (h : Hv) : getA (stH h) kk = h := getA_set ord_nilA kk h
theorem setA_st (h h' : Hv) : setA (stH h) kk h' = stH h' := setA_set ord_nilA kk h h'
theorem chk_st {h : Hv} (hb : ∀ j, j < 5 → -1000000 ≤ hv h j ∧ hv h j ≤ 1000000) : chkA (stH h) = true := by
  refine (chkA_iff _).2 ⟨?_, ?_, setA_ord ord_nilA kk h⟩
  · have := setA_len [] kk h
    unfold stH
    simp only [List.length_nil] at this
    omega
  · intro x hx
    rcases (setA_mem ord_nilA kk h x).1 hx with ⟨h1, _⟩ | ⟨h1, rfl⟩
    · cases h1
    · refine ⟨(okA_iff _).2 ⟨kk_size, h1, (okH_iff _).2 (fun j hj => (inB_iff _).2 ?_)⟩, kk_ne⟩
      have := hb j hj
      show -1099511627776 ≤ hv h j ∧ hv h j ≤ 1099511627776
      omega
theorem st_len (h : Hv) : (stH h).length ≤ 1 := by have := setA_len [] kk h; simpa [stH] using this
theorem up_st {h : Hv} (hb : ∀ j, j < 5 → -216 ≤ hv h j ∧ hv h j ≤ 216) {rep n : Int} (hr : repOk rep = true) (h1 : -9 ≤ n) (h2 : n ≤ 9) : escrow_Up.f (stH h) kk rep n = some (stH (upR h rep n), 0) := by
  have hr' := (repOk_iff rep).1 hr
  have hc := chk_st (h := h) (fun j hj => by have := hb j hj; omega)
  have hb' : ∀ j, j < 5 → -1000000 ≤ hv (upR h rep n) j ∧ hv (upR h rep n) j ≤ 1000000 := fun j hj => by
    have := hb j hj
    unfold upR
    rw [setH_get _ _ _ (by omega) hj]
    split
    · have := hb (rep - 1).toNat (by omega); omega
    · omega
  unfold escrow_Up.f upB
  rw [hc, getA_st, setA_st, hr, chk_st hb', kk_key, decide_eq_true (show n ≤ 1000 by omega), decide_eq_true (show -1000 ≤ n by omega)]
  rfl
theorem mv_st {h : Hv} (hb : ∀ j, j < 5 → -216 ≤ hv h j ∧ hv h j ≤ 216) {rep tp n : Int} (hr : repOk rep = true) (ht : repOk tp = true) (h1 : 1 ≤ n) (h2 : n ≤ 9) : escrow_Move.f (stH h) kk rep tp n = some (stH (mvR h rep tp n), 0) := by
  have hr' := (repOk_iff rep).1 hr
  have ht' := (repOk_iff tp).1 ht
  have hc := chk_st (h := h) (fun j hj => by have := hb j hj; omega)
  have hb1 : ∀ j, j < 5 → -1000 ≤ hv (setH h (rep - 1).toNat (hv h (rep - 1).toNat - n)) j ∧ hv (setH h (rep - 1).toNat (hv h (rep - 1).toNat - n)) j ≤ 1000 := fun j hj => by
    have := hb j hj
    rw [setH_get _ _ _ (by omega) hj]
    split
    · have := hb (rep - 1).toNat (by omega); omega
    · omega
  have hb' : ∀ j, j < 5 → -1000000 ≤ hv (mvR h rep tp n) j ∧ hv (mvR h rep tp n) j ≤ 1000000 := fun j hj => by
    have := hb1 j hj
    unfold mvR
    rw [setH_get _ _ _ (by omega) hj]
    split
    · have := hb1 (tp - 1).toNat (by omega); omega
    · omega
  unfold escrow_Move.f mvB
  rw [hc, getA_st, setA_st, hr, ht, chk_st hb', kk_key, decide_eq_true (show 1 ≤ n by omega), decide_eq_true (show n ≤ 1000 by omega)]
  rfl
theorem hv_no {d : Dd} {D : List Dd} {v : Nat → Nat} (h : ¬ cntD D d.o + 1 ≤ v d.o) : HvOf (d :: D) v = HvOf D v := by
  unfold HvOf
  simp only [HD, if_neg h, Int.add_zero]
theorem hv_up {d : Dd} (hd : OkD d) {D : List Dd} {v : Nat → Nat} (h : cntD D d.o + 1 ≤ v d.o) (ht : d.tp = 0) : HvOf (d :: D) v = upR (HvOf D v) (d.o : Int) d.n := by
  obtain ⟨o, tp, n, V⟩ := d
  have h1 := hd.o1; have h5 := hd.o5
  simp only at h ht h1 h5
  subst ht
  unfold HvOf
  simp only [HD, if_pos h, Dd.dl]
  obtain rfl | rfl | rfl | rfl | rfl : o = 1 ∨ o = 2 ∨ o = 3 ∨ o = 4 ∨ o = 5 := by omega
  all_goals simp [upR, setH, hv]
theorem hv_mv {d : Dd} (hd : OkD d) {D : List Dd} {v : Nat → Nat} (h : cntD D d.o + 1 ≤ v d.o) (ht : 0 < d.tp) : HvOf (d :: D) v = mvR (HvOf D v) (d.o : Int) (d.tp : Int) d.n := by
  obtain ⟨o, tp, n, V⟩ := d
  have h1 := hd.o1; have h5 := hd.o5; have t5 := hd.t5
  simp only at h ht h1 h5 t5
  unfold HvOf
  simp only [HD, if_pos h, Dd.dl, if_pos ht]
  obtain rfl | rfl | rfl | rfl | rfl : o = 1 ∨ o = 2 ∨ o = 3 ∨ o = 4 ∨ o = 5 := by omega
  all_goals (obtain rfl | rfl | rfl | rfl | rfl : tp = 1 ∨ tp = 2 ∨ tp = 3 ∨ tp = 4 ∨ tp = 5 := by omega)
  all_goals simp [mvR, setH, hv, Int.sub_eq_add_neg, Int.add_assoc]
/-! #### the rows of deeds, oldest first -/
def dsOf (D : List Dd) : List S61 := D.reverse.map fun d => ⟨kk, (d.o : Int), (d.tp : Int), d.n⟩
def osOf (D : List Dd) : List Int := D.reverse.map fun d => (d.o : Int)
def firstD (D : List Dd) (i : Nat) : List Dd := (D.reverse.take i).reverse
theorem dsOf_len (D : List Dd) : (dsOf D).length = D.length := by simp [dsOf]
theorem osOf_len (D : List Dd) : (osOf D).length = D.length := by simp [osOf]
theorem firstD_all (D : List Dd) : firstD D D.length = D := by
  unfold firstD
  rw [List.take_of_length_le (by simp), List.reverse_reverse]
theorem firstD_succ (D : List Dd) (i : Nat) (h : i < D.length) : ∃ d, d ∈ D ∧ firstD D (i + 1) = d :: firstD D i ∧ rd_T61 (dsOf D) (i : Int) = ⟨kk, (d.o : Int), (d.tp : Int), d.n⟩ ∧ (osOf D).getD i 0 = (d.o : Int) := by
  have hl : i < D.reverse.length := by simpa using h
  refine ⟨D.reverse[i], List.mem_reverse.1 (List.getElem_mem hl), ?_, ?_, ?_⟩
  · unfold firstD
    rw [List.take_succ_eq_append_getElem hl, List.reverse_append]
    rfl
  · unfold rd_T61 dsOf
    simp [List.getD, h]
  · unfold osOf
    simp [List.getD, h]
theorem firstD_len (D : List Dd) (i : Nat) : (firstD D i).length ≤ D.length := by
  unfold firstD
  simp only [List.length_reverse, List.length_take]
  omega
theorem firstD_ok {D : List Dd} (h : ∀ d ∈ D, OkD d) (i : Nat) : ∀ d ∈ firstD D i, OkD d := by
  intro d hd
  unfold firstD at hd
  exact h d (List.mem_reverse.1 (List.mem_of_mem_take (List.mem_reverse.1 hd)))
end Go.Proofs.Ytfnpiclioikjpaa.X

/- What all replicas know, as cells; what stays so from step to step. -/
set_option linter.unusedSimpArgs false
set_option linter.unusedVariables false
namespace Go.Proofs.Ytfnpiclioikjpaa.X
open Go.RowKit

def knL (KN : Nat → Nat → Nat) : Array Value := ((List.range 36).map fun j => Value.int .i64 ((KN (j / 6) (j % 6) : Nat) : Int)).toArray
def updN (KN : Nat → Nat → Nat) (r k x : Nat) : Nat → Nat → Nat := fun a b => if a = r ∧ b = k then x else KN a b
def mrgN (KN : Nat → Nat → Nat) (r f k : Nat) : Nat → Nat → Nat := fun a b => if a = r ∧ b < k then max (KN f b) (KN r b) else KN a b
theorem kn_get (KN : Nat → Nat → Nat) {r k : Nat} (hr : r < 6) (hk : k < 6) : (knL KN)[r * 6 + k]? = some (.int .i64 ((KN r k : Nat) : Int)) := by
  have h : r * 6 + k < 36 := by omega
  unfold knL
  rw [List.getElem?_toArray, List.getElem?_map, List.getElem?_range h, Option.map_some, show (r * 6 + k) / 6 = r by omega, show (r * 6 + k) % 6 = k by omega]
theorem kn_ext {KN KM : Nat → Nat → Nat} (h : ∀ a b, a < 6 → b < 6 → KN a b = KM a b) : knL KN = knL KM := by
  unfold knL
  congr 1
  apply List.map_congr_left
  intro j hj
  rw [h (j / 6) (j % 6) (by have := List.mem_range.1 hj; omega) (by omega)]
theorem kn_set (KN : Nat → Nat → Nat) {r k : Nat} (hr : r < 6) (hk : k < 6) (x : Nat) : (knL KN).setIfInBounds (r * 6 + k) (.int .i64 ((x : Nat) : Int)) = knL (updN KN r k x) := by
  apply Array.ext_getElem?
  intro j
  rw [Array.getElem?_setIfInBounds]
  unfold knL updN
  simp only [List.getElem?_toArray, List.getElem?_map, List.size_toArray, List.length_map, List.length_range]
  by_cases hj : r * 6 + k = j
  · subst hj
    rw [if_pos rfl, if_pos (by omega), List.getElem?_range (by omega), Option.map_some, show (r * 6 + k) / 6 = r by omega, show (r * 6 + k) % 6 = k by omega]
    simp
  · rw [if_neg hj]
    by_cases h36 : j < 36
    · rw [List.getElem?_range h36]
      simp only [Option.map_some]
      rw [if_neg (by omega)]
    · rw [List.getElem?_eq_none (by simp; omega)]
      rfl
structure Inv (base : Nat → Int) (D : List Dd) (KN : Nat → Nat → Nat) : Prop where
  ok : ∀ d ∈ D, OkD d
  val : Val base D
  le : ∀ r k, KN r k ≤ cntD D k
  self : ∀ r, 1 ≤ r → r ≤ 5 → KN r r = cntD D r
  clo : ∀ r, Clo D (KN r)
  z : ∀ k, KN 0 k = 0
theorem cnt_out {D : List Dd} (h : ∀ d ∈ D, OkD d) {k : Nat} (hk : k = 0 ∨ 6 ≤ k) : cntD D k = 0 := by
  induction D with
  | nil => rfl
  | cons d D ih =>
    have h1 := h d (List.mem_cons_self ..)
    have := h1.o1; have := h1.o5
    simp only [cntD]
    rw [ih (fun x hx => h x (List.mem_cons_of_mem _ hx)), if_neg (by omega)]
theorem inv_start (base : Nat → Int) : Inv base [] (fun _ _ => 0) := ⟨fun d hd => (by cases hd), trivial, fun _ _ => Nat.le_refl _, fun _ _ _ => rfl, fun _ => trivial, fun _ => rfl⟩
theorem inv_mrg {base : Nat → Int} {D : List Dd} {KN : Nat → Nat → Nat} (h : Inv base D KN) {r f : Nat} (hr1 : 1 ≤ r) (hr5 : r ≤ 5) : Inv base D (mrgN KN r f 6) := by
  have e : ∀ b, mrgN KN r f 6 r b = max (KN f b) (KN r b) := by
    intro b
    unfold mrgN
    by_cases hb : b < 6
    · rw [if_pos ⟨rfl, hb⟩]
    · rw [if_neg (fun hh => hb hh.2)]
      have h1 := h.le f b; have h2 := h.le r b
      rw [cnt_out h.ok (.inr (by omega))] at h1 h2
      omega
  have e2 : ∀ a b, a ≠ r → mrgN KN r f 6 a b = KN a b := by
    intro a b ha
    unfold mrgN
    rw [if_neg (fun hh => ha hh.1)]
  refine ⟨h.ok, h.val, fun a b => ?_, fun a ha1 ha5 => ?_, fun a => ?_, fun k => ?_⟩
  · by_cases ha : a = r
    · subst ha; rw [e]; have := h.le f b; have := h.le a b; omega
    · rw [e2 a b ha]; exact h.le a b
  · by_cases ha : a = r
    · subst ha; rw [e]; have := h.le f a; have := h.self a ha1 ha5; omega
    · rw [e2 a a ha]; exact h.self a ha1 ha5
  · by_cases ha : a = r
    · subst ha; exact clo_ext (fun k => (e k).symm) (clo_max (h.clo f) (h.clo a))
    · exact clo_ext (fun k => (e2 a k ha).symm) (h.clo a)
  · rw [e2 0 k (by omega)]; exact h.z k
theorem inv_new {base : Nat → Int} {D : List Dd} {KN : Nat → Nat → Nat} (h : Inv base D KN) {d : Dd} (hok : OkD d) (hV : d.V = KN d.o) (hdec : ∀ k, d.dl k < 0 → k = d.o ∧ 0 ≤ base k + HD D d.V k + d.dl k) :
    Inv base (d :: D) (updN KN d.o d.o (KN d.o d.o + 1)) := by
  have hs := h.self d.o hok.o1 hok.o5
  have e2 : ∀ a b, ¬ (a = d.o ∧ b = d.o) → updN KN d.o d.o (KN d.o d.o + 1) a b = KN a b := fun a b hh => by unfold updN; rw [if_neg hh]
  have e1 : updN KN d.o d.o (KN d.o d.o + 1) d.o d.o = KN d.o d.o + 1 := by unfold updN; rw [if_pos ⟨rfl, rfl⟩]
  refine ⟨fun x hx => ?_, ⟨h.val, fun k => by rw [hV]; exact h.le _ k, by rw [hV]; exact hs, by rw [hV]; exact h.clo _, hdec⟩, fun a b => ?_, fun a ha1 ha5 => ?_, fun a => ?_, fun k => ?_⟩
  · rcases List.mem_cons.1 hx with rfl | hx
    · exact hok
    · exact h.ok x hx
  · by_cases hh : a = d.o ∧ b = d.o
    · obtain ⟨rfl, rfl⟩ := hh
      rw [e1, hs]
      simp only [cntD, if_true]
      omega
    · rw [e2 a b hh]
      exact Nat.le_trans (h.le a b) (cnt_mono D d b)
  · by_cases ha : a = d.o
    · subst ha
      rw [e1, hs]
      simp only [cntD, if_true]
    · rw [e2 a a (fun hh => ha hh.1), h.self a ha1 ha5]
      simp only [cntD]
      rw [if_neg (fun e => ha e.symm), Nat.add_zero]
  · by_cases ha : a = d.o
    · subst ha
      refine clo_new (by rw [hV]; exact hs) (fun k hk => ?_) ?_ (by rw [hV]; exact h.clo _)
      · rw [hV]; exact e2 d.o k (fun hh => hk hh.2)
      · rw [hV]; exact e1
    · refine clo_other ?_ ?_
      · rw [e2 a d.o (fun hh => ha hh.1)]; exact h.le a d.o
      · exact clo_ext (fun k => (e2 a k (fun hh => ha hh.1)).symm) (h.clo a)
  · rw [e2 0 k (fun hh => by have := hok.o1; omega)]; exact h.z k
/-! #### the floor -/
def baseF (low : Int) (k : Nat) : Int := if k = 1 then -low else 0
theorem baseF_nn {low : Int} (h : low ≤ 0) (k : Nat) : 0 ≤ baseF low k := by unfold baseF; split <;> omega
theorem rgR_HD (D : List Dd) (v : Nat → Nat) (low : Int) {r : Nat} (h1 : 1 ≤ r) (h5 : r ≤ 5) : rgR (HvOf D v) (r : Int) low = baseF low r + HD D v r := by
  unfold rgR baseF
  obtain rfl | rfl | rfl | rfl | rfl : r = 1 ∨ r = 2 ∨ r = 3 ∨ r = 4 ∨ r = 5 := by omega
  · rw [if_pos (by omega), if_pos rfl]; show HD D v 1 - low = -low + HD D v 1; omega
  · rw [if_neg (by omega), if_neg (by omega), Int.zero_add]; rfl
  · rw [if_neg (by omega), if_neg (by omega), Int.zero_add]; rfl
  · rw [if_neg (by omega), if_neg (by omega), Int.zero_add]; rfl
  · rw [if_neg (by omega), if_neg (by omega), Int.zero_add]; rfl
theorem floor_holds {low : Int} (hl : low ≤ 0) {D : List Dd} {KN : Nat → Nat → Nat} (h : Inv (baseF low) D KN) (r : Nat) : low ≤ numH (HvOf D (KN r)) := by
  have e := fun k => rights_nn (baseF_nn hl) h.val (h.clo r) k
  have e1 := e 1; have e2 := e 2; have e3 := e 3; have e4 := e 4; have e5 := e 5
  unfold numH HvOf
  simp only [baseF, if_true] at e1
  rw [show baseF low 2 = 0 from rfl] at e2
  rw [show baseF low 3 = 0 from rfl] at e3
  rw [show baseF low 4 = 0 from rfl] at e4
  rw [show baseF low 5 = 0 from rfl] at e5
  simp only
  omega
theorem rights_holds {low : Int} (hl : low ≤ 0) {D : List Dd} {KN : Nat → Nat → Nat} (h : Inv (baseF low) D KN) (r : Nat) {k : Nat} (h1 : 1 ≤ k) (h5 : k ≤ 5) : 0 ≤ rgR (HvOf D (KN r)) (k : Int) low := by
  rw [rgR_HD D (KN r) low h1 h5]
  exact rights_nn (baseF_nn hl) h.val (h.clo r) k
/-- The three kinds of deeds. -/
theorem dec_up {D : List Dd} {base : Nat → Int} {d : Dd} (ht : d.tp = 0) (hn : 0 ≤ d.n) : ∀ k, d.dl k < 0 → k = d.o ∧ 0 ≤ base k + HD D d.V k + d.dl k := by
  intro k hk
  unfold Dd.dl at hk
  rw [if_neg (by omega)] at hk
  split at hk <;> omega
theorem dec_down {low : Int} {D : List Dd} {d : Dd} (ht : d.tp = 0) (h1 : 1 ≤ d.o) (h5 : d.o ≤ 5) (hm : -d.n ≤ rgR (HvOf D d.V) (d.o : Int) low) : ∀ k, d.dl k < 0 → k = d.o ∧ 0 ≤ baseF low k + HD D d.V k + d.dl k := by
  intro k hk
  rw [rgR_HD D d.V low h1 h5] at hm
  unfold Dd.dl at hk ⊢
  rw [if_neg (by omega)] at hk ⊢
  by_cases hh : k = d.o
  · subst hh
    rw [if_pos rfl] at hk ⊢
    exact ⟨rfl, by omega⟩
  · rw [if_neg hh] at hk; omega
theorem dec_move {low : Int} {D : List Dd} {d : Dd} (ht : 0 < d.tp) (hn : 0 ≤ d.n) (h1 : 1 ≤ d.o) (h5 : d.o ≤ 5) (hm : d.n ≤ rgR (HvOf D d.V) (d.o : Int) low) : ∀ k, d.dl k < 0 → k = d.o ∧ 0 ≤ baseF low k + HD D d.V k + d.dl k := by
  intro k hk
  rw [rgR_HD D d.V low h1 h5] at hm
  unfold Dd.dl at hk ⊢
  rw [if_pos ht] at hk ⊢
  by_cases hh : k = d.o
  · subst hh
    rw [if_pos rfl] at hk ⊢
    refine ⟨rfl, ?_⟩
    split <;> omega
  · rw [if_neg hh] at hk
    split at hk <;> omega
end Go.Proofs.Ytfnpiclioikjpaa.X

/- hucksterlaw11.known, walked. -/
set_option linter.unusedSimpArgs false
set_option linter.unusedVariables false
namespace Go.Proofs.Ytfnpiclioikjpaa.X
open Go.RowKit Go.Proofs.YtfnpiclioikjpaaW.PrintWords Go.Proofs.YtfnpiclioikjpaaW.PrintLast Go.Proofs.YtfnpiclioikjpaaW.PrintMore

theorem cnt_ne {d : Dd} {D : List Dd} {r : Nat} (h : d.o ≠ r) : cntD (d :: D) r = cntD D r := by simp only [cntD, if_neg h, Nat.add_zero]
theorem cnt_eq {d : Dd} {D : List Dd} {r : Nat} (h : d.o = r) : cntD (d :: D) r = cntD D r + 1 := by simp only [cntD, if_pos h]
set_option maxHeartbeats 16000000 in
set_option maxRecDepth 100000 in
theorem known_call (A0 : Option Addr) (c0 : Nat) (A1 : Option Addr) (c1 : Nat) (D : List Dd) (v : Nat → Nat) (q0 q1 q2 q3 q4 q5 : Int) (w : World) (hD : ∀ d ∈ D, OkD d) (hlen : D.length ≤ 24) (hr0 : Kd.C k61 w A0 (dsOf D).length (dsOf D)) (hc0 : (dsOf D).length ≤ c0)
    (hr1 : Kd.C (Kd.int .i64) w A1 (osOf D).length (osOf D)) (hc1 : (osOf D).length ≤ c1) (hq : q0 = ((v 0 : Nat) : Int) ∧ q1 = ((v 1 : Nat) : Int) ∧ q2 = ((v 2 : Nat) : Int) ∧ q3 = ((v 3 : Nat) : Int) ∧ q4 = ((v 4 : Nat) : Int) ∧ q5 = ((v 5 : Nat) : Int)) :
    Calls Try.prog 48 #[.slice A0 (dsOf D).length c0, .slice A1 (osOf D).length c1, .agg #[.int .i64 q0, .int .i64 q1, .int .i64 q2, .int .i64 q3, .int .i64 q4, .int .i64 q5]] w fun e w' => ∃ v0_ : Value, e = .returned v0_ ∧ Kd.R k94 94 w' w.heap.size (fun _ => True) v0_ (stH (HvOf D v)) ∧ Below w.heap.size w w' := by
  have hfirst := firstD_succ D
  have hall := firstD_all D
  have hflen := firstD_len D
  have hfok := firstD_ok hD
  rw [dsOf_len] at hr0 hc0
  rw [osOf_len] at hr1 hc1
  rw [dsOf_len, osOf_len]
  obtain ⟨R, hRR⟩ : ∃ R, R = stH (HvOf D v) := ⟨_, rfl⟩
  rw [← hRR]
  have HRR := Aside0.mk hRR
  generalize hnl : D.length = n at *
  have HR0 := Aside0.mk hr0
  have HR1 := Aside0.mk hr1
  have HFI := Aside0.mk hfirst
  have HALL := Aside0.mk hall
  have HFL := Aside0.mk hflen
  have HFO := Aside0.mk hfok
  have HDD := Aside0.mk hD
  have HQ := Aside0.mk hq
  clear hr0 hr1 hfirst hall hflen hfok hD hRR hnl hq
  go_enter Try.func48, Try.ntmps48
  go_wp2_with (first | ((with_reducible refine gate_dst (N := 5) rfl ?_); refine box_event ?hg (N := 5) ?hd (cs := #[.int .i64 q0, .int .i64 q1, .int .i64 q2, .int .i64 q3, .int .i64 q4, .int .i64 q5]) (t := 74) ?hr ?_; (case hd => rfl); (case hg => rfl); (case hr => first | (go_simp; done) | (go_simp; rfl)); intro gk hgk w1 hbox hb; have HB0 := Aside0.mk hb; have BK0 := Aside0.mk hbox; have HGK := Aside0.mk hgk; clear hb hbox hgk) | ((with_reducible refine gate_dst (N := 13) rfl ?_); (try (refine gate_guard (by rfl) ?_; dsimp only)); refine Kd.R_lit k94 _ 94 ?hg (N := 13) ?hd (xs := ([] : List Ac)) (inner := []) (ok := fun _ => True) (okp := fun _ => True) ?hr ?hp (fun _ hk => hk) trivial (Below.refl _ _) (Nat.le_refl _) (by simp) ?_; (case hd => rfl); (case hg => rfl); (case hr => first | (go_simp; done) | (go_simp; rfl)); (case hp => exact (Reps.none _ _)); intro v7 w3 ho3 hb3 hg_ hnew_; have HV3 := Aside0.mk ho3; have HB3 := Aside0.mk hb3; clear hg_ hnew_ ho3 hb3) | fail)
  have hgk : gk < w1.heap.size := blk_lt BK0.out
  have hge : w1.heap.size ≤ w3.heap.size := below_size HB3.out
  have hboxk : ∀ W : World, Below w1.heap.size w1 W → W.cell? ⟨gk, 0, none⟩ = some (.int .i64 q0) ∧ W.cell? ⟨gk, 1, none⟩ = some (.int .i64 q1) ∧ W.cell? ⟨gk, 2, none⟩ = some (.int .i64 q2) ∧ W.cell? ⟨gk, 3, none⟩ = some (.int .i64 q3) ∧ W.cell? ⟨gk, 4, none⟩ = some (.int .i64 q4) ∧ W.cell? ⟨gk, 5, none⟩ = some (.int .i64 q5) := fun W hW => by
    have h := blk_below BK0.out hW
    exact ⟨(blk_cell h 0).trans rfl, (blk_cell h 1).trans rfl, (blk_cell h 2).trans rfl, (blk_cell h 3).trans rfl, (blk_cell h 4).trans rfl, (blk_cell h 5).trans rfl⟩
  have HBOX := Aside0.mk hboxk
  clear hboxk
  go_loopw [7, 9] (fun v7 v9 w' => ∃ (i : Nat) (y0 y1 y2 y3 y4 y5 : Int), v9 = .int .i64 (i : Int) ∧ i ≤ n ∧ Aside0 (y0 = ((cntD (firstD D i) 0 : Nat) : Int) ∧ y1 = ((cntD (firstD D i) 1 : Nat) : Int) ∧ y2 = ((cntD (firstD D i) 2 : Nat) : Int) ∧ y3 = ((cntD (firstD D i) 3 : Nat) : Int) ∧ y4 = ((cntD (firstD D i) 4 : Nat) : Int) ∧ y5 = ((cntD (firstD D i) 5 : Nat) : Int)) ∧ Aside0 (w'.heap[w3.heap.size]? = some (.cells #[.int .i64 y0, .int .i64 y1, .int .i64 y2, .int .i64 y3, .int .i64 y4, .int .i64 y5] 74 (0, 0))) ∧ Aside0 (Kd.R k94 94 w' w1.heap.size (fun _ => True) v7 (stH (HvOf (firstD D i) v))) ∧ Aside0 (Below w1.heap.size w1 w')) (fun _ v9 _ => ((n : Int) - intV v9).toNat)
  case atStart => exact ⟨0, 0, 0, 0, 0, 0, 0, rfl, Nat.zero_le _, ⟨rfl, rfl, rfl, rfl, rfl, rfl⟩, ⟨blk_new _ _⟩, ⟨Kd.R_alloc HV3.out _⟩, ⟨below_alloc HB3.out _⟩⟩
  case round =>
    obtain ⟨i, y0, y1, y2, y3, y4, y5, rfl, hin, HY, BKc, HV, HB⟩ := hrel
    by_cases hlt : i < n
    · have hlt' : decide ((i : Int) < (n : Int)) = true := by simp; omega
      obtain ⟨d, hdD, hP, hdrd, hord⟩ := HFI.out i hlt
      have hok := HDD.out d hdD
      have hfl := HFL.out i
      have hcl := fun r => cnt_le (firstD D i) r
      have hbd := HvOf_bd (HFO.out i) (by omega) v
      obtain ⟨o, z, dn, V⟩ := d
      have ho1 := hok.o1; have ho5 := hok.o5; have hz5 := hok.t5; have hn9 := hok.n9; have hn1 := hok.n1
      simp only at ho1 ho5 hz5 hn9 hn1 hdrd hord
      obtain ⟨hn9a, hn9b⟩ := hn9
      have p : 0 ≤ (i : Int) := by omega
      have q : (i : Int) < (n : Int) := by omega
      have hw5 : IntKind.i64.wrap ((i : Int) + 1) = (i : Int) + 1 := by rw [IntKind.wrap_i64]; omega
      obtain ⟨ad1, cx, e1, _, hK, hcc⟩ := Kd.C_get HR1.out (0 : Int) (i : Int) p q
      have hK' : cx = [.int .i64 (o : Int)] := by rw [← hord]; exact hK
      subst hK'
      have hx1 : w.cell? (ad1.add i) = some (.int .i64 (o : Int)) := by
        have h := hcc 0 _ rfl
        rw [Int.toNat_natCast, show (Kd.int .i64).sz = 1 from rfl, Nat.mul_one, Nat.add_zero] at h
        exact h
      obtain ⟨ad0, e0, hx2, hx3, hx4, hx5⟩ := at_T61 HR0.out (i : Int) p q
      rw [hdrd] at hx2 hx3 hx4 hx5
      cases e0
      cases e1
      simp only [Int.toNat_natCast] at hx2 hx3 hx4 hx5
      have hcell : ∀ W : World, Below w1.heap.size w1 W → W.cell? (ad1.add i) = some (.int .i64 (o : Int)) ∧ W.cell? ⟨(ad0.add (i * 4)).block, (ad0.add (i * 4)).off + 2, none⟩ = some (.int .i64 (z : Int)) ∧ W.cell? ⟨(ad0.add (i * 4)).block, (ad0.add (i * 4)).off + 3, none⟩ = some (.int .i64 dn) := fun W hW0 => by
        have hW := below_step HB0.out hW0
        exact ⟨(hW.cell (World.block_lt_of_cell? w _ hx1)).trans hx1, (hW.cell (World.block_lt_of_cell? w _ hx4)).trans hx4, (hW.cell (World.block_lt_of_cell? w _ hx5)).trans hx5⟩
      have HCELL := Aside0.mk hcell
      clear hcell hx1 hx2 hx3 hx4 hx5 hcc hK hdD hdrd hord
      replace p := eq_true p
      replace q := eq_true q
      have HP := Aside0.mk hP
      have HOK := Aside0.mk hok
      have HBD := Aside0.mk hbd
      have HCL := Aside0.mk hcl
      clear hP hok hbd hcl
      obtain ⟨A7, c7, hv7, hc7, _⟩ := Kd.R_reads HV.out
      subst hv7
      obtain rfl | rfl | rfl | rfl | rfl : o = 1 ∨ o = 2 ∨ o = 3 ∨ o = 4 ∨ o = 5 := by omega
      · obtain ⟨hx1, hx4, hx5⟩ := HCELL.out _ HB.out
        have hca : wr.cell? ⟨w3.heap.size, 1, none⟩ = some (.int .i64 y1) := (blk_cell BKc.out 1).trans rfl
        have hfz := blk_frozen BKc.out 1
        have hyj : y1 = ((cntD (firstD D i) 1 : Nat) : Int) := HY.out.2.1
        have hqj : q1 = ((v 1 : Nat) : Int) := HQ.out.2.1
        have hcj := HCL.out 1
        have hy0 : 0 ≤ y1 := by omega
        have hy1 : y1 ≤ 24 := by omega
        have HYJ := Aside0.mk hyj
        have HQJ := Aside0.mk hqj
        clear hyj hqj hcj
        go_wp2
        generalize hw7 : wr.setCell ⟨w3.heap.size, 1, none⟩ (.int .i64 (y1 + 1)) = w7
        have BKc7 : Aside0 (w7.heap[w3.heap.size]? = some (.cells #[.int .i64 y0, .int .i64 (y1 + 1), .int .i64 y2, .int .i64 y3, .int .i64 y4, .int .i64 y5] 74 (0, 0))) := ⟨by rw [← hw7]; exact blk_put BKc.out 1 _ rfl⟩
        have HV7 : Aside0 (Kd.R k94 94 w7 w1.heap.size (fun _ => True) (.slice A7 (stH (HvOf (firstD D i) v)).length c7) (stH (HvOf (firstD D i) v))) := ⟨by rw [← hw7]; exact Kd.R_set HV.out BKc.out (by decide) 1 _⟩
        have HB7 : Aside0 (Below w1.heap.size w1 w7) := ⟨by rw [← hw7]; exact below_set HB.out hge⟩
        clear hx1 hx4 hx5 hca hfz hw7 BKc HV HB
        obtain ⟨hx1, hx4, hx5⟩ := HCELL.out _ HB7.out
        obtain ⟨hk0, hk1, hk2, hk3, hk4, hk5⟩ := HBOX.out _ HB7.out
        have hc7j : w7.cell? ⟨w3.heap.size, 1, none⟩ = some (.int .i64 (y1 + 1)) := (blk_cell BKc7.out 1).trans rfl
        by_cases hkn : y1 + 1 ≤ q1
        · have hdec : decide (q1 < y1 + 1) = false := by simp; omega
          have hknow : cntD (firstD D i) 1 + 1 ≤ v 1 := by have := HYJ.out; have := HQJ.out; omega
          have HKN := Aside0.mk hknow
          clear hknow
          go_quiet (fail)
          go_wp2_with fail
          have HUP := Aside0.mk (up_st (HBD.out) (rep := 1) (by decide) hn9a hn9b)
          refine (escrow_Up.calls A7 c7 (stH (HvOf (firstD D i) v)) kk 1 dn (stH (upR (HvOf (firstD D i) v) 1 dn)) 0 _ (Kd.R_reads' (Kd.R_drewN HV7.out _)).2.2 hc7 HUP.out).mono ?_
          rintro e w9 ⟨v11, rfl, hR9, hb9⟩
          have HB9 := Aside0.mk (below_step (pw_below_drewN HB7.out _) hb9)
          have HV9 := Aside0.mk (Kd.R_lower hR9 (below_size (pw_below_drewN HB7.out _)))
          have HVl9 := Aside0.mk (Kd.R_below (Kd.R_drewN HV7.out _) hb9)
          have BKc9 := Aside0.mk (blk_below (blk_drewN BKc7.out _) hb9)
          clear hx1 hx4 hx5 hk0 hk1 hk2 hk3 hk4 hk5 hc7j hR9 hb9
          obtain ⟨hx1, hx4, hx5⟩ := HCELL.out _ HB9.out
          by_cases hz0 : z = 0
          · subst hz0
            have hst : stH (HvOf (firstD D (i + 1)) v) = stH (upR (HvOf (firstD D i) v) 1 dn) := by
              rw [HP.out, hv_up HOK.out HKN.out rfl]; rfl
            have HST := Aside0.mk hst
            clear hst
            obtain ⟨A11, c11, rfl, hc11, _⟩ := Kd.R_reads HV9.out
            have hx4' : w9.cell? ⟨(ad0.add (i * 4)).block, (ad0.add (i * 4)).off + 2, none⟩ = some (.int .i64 0) := hx4
            clear hx4
            go_wp2_with fail
            go_roundw
            case rel => exact ⟨i + 1, y0, y1 + 1, y2, y3, y4, y5, rfl, by omega, ⟨⟨by rw [HP.out, cnt_ne (show (1 : Nat) ≠ 0 by decide)]; exact HY.out.1, by rw [HP.out, cnt_eq (show (1 : Nat) = 1 from rfl)]; have := HY.out.2.1; omega, by rw [HP.out, cnt_ne (show (1 : Nat) ≠ 2 by decide)]; exact HY.out.2.2.1, by rw [HP.out, cnt_ne (show (1 : Nat) ≠ 3 by decide)]; exact HY.out.2.2.2.1, by rw [HP.out, cnt_ne (show (1 : Nat) ≠ 4 by decide)]; exact HY.out.2.2.2.2.1, by rw [HP.out, cnt_ne (show (1 : Nat) ≠ 5 by decide)]; exact HY.out.2.2.2.2.2⟩⟩, BKc9, ⟨HST.out ▸ HV9.out⟩, HB9⟩
            case measure => simp only [intV]; omega
          · have hst : stH (HvOf (firstD D (i + 1)) v) = stH (mvR (HvOf (firstD D i) v) 1 (z : Int) dn) := by
              rw [HP.out, hv_mv HOK.out HKN.out (Nat.pos_of_ne_zero hz0)]; rfl
            have hmv : escrow_Move.f (stH (HvOf (firstD D i) v)) (⟨#[107]⟩ : ByteArray) 1 (z : Int) dn = some (stH (mvR (HvOf (firstD D i) v) 1 (z : Int) dn), 0) := mv_st HBD.out (rep := 1) (tp := (z : Int)) (n := dn) (by decide) ((repOk_iff _).2 (by omega)) (hn1 (by omega)) hn9b
            obtain ⟨zI, hzI⟩ : ∃ zI : Int, (z : Int) = zI := ⟨_, rfl⟩
            have hzp : decide ((0 : Int) < zI) = true := by simp; omega
            rw [hzI] at hst hmv hx4
            have HST := Aside0.mk hst
            have HMV := Aside0.mk hmv
            clear hst hmv
            go_wp2_with fail
            refine start_ (n := 18) (S := fun w' => w'.cell? ⟨(ad0.add (i * 4)).block, (ad0.add (i * 4)).off + 2, none⟩ = some (.int .i64 zI) ∧ w'.cell? ⟨(ad0.add (i * 4)).block, (ad0.add (i * 4)).off + 3, none⟩ = some (.int .i64 dn)) (ds := []) #[false, false, false, false, false, false, false, false, false, false, false, false, false, false, false, false, false, false] (by kernel_rfl) rfl rfl ⟨hx4, hx5⟩ (fun hHeld => ?_)
            refine pure_ (i := 0) (N := some 55) (v := ?_) (a' := ?_) #[true, false, false, false, false, false, false, false, false, false, false, false, false, false, false, false, false, false] rfl rfl (by kernel_rfl) (fun _ _ _ h => h) (Or.inl ⟨by rfl, ?_⟩) ?_ ?_
            rotate_left
            · intro w'
              go_simp
              with_reducible rfl
            rotate_left
            · simp only [Act.put, List.setIfInBounds_toArray, List.set_cons_zero, List.set_cons_succ, i64_w, i32_w]
              rfl
            refine pure_ (i := 1) (N := some 56) (v := ?_) (a' := ?_) #[true, true, false, false, false, false, false, false, false, false, false, false, false, false, false, false, false, false] rfl rfl (by kernel_rfl) (fun _ _ _ h => h) (Or.inl ⟨by rfl, ?_⟩) ?_ ?_
            rotate_left
            · intro w'
              go_simp
              with_reducible rfl
            rotate_left
            · simp only [Act.put, List.setIfInBounds_toArray, List.set_cons_zero, List.set_cons_succ, i64_w, i32_w]
              rfl
            refine pure_ (i := 2) (N := some 57) (v := ?_) (a' := ?_) #[true, true, true, false, false, false, false, false, false, false, false, false, false, false, false, false, false, false] rfl rfl (by kernel_rfl) (fun _ _ _ h => h) (Or.inl ⟨by rfl, ?_⟩) ?_ ?_
            rotate_left
            · intro w'
              go_simp
              with_reducible rfl
            rotate_left
            · simp only [Act.put, List.setIfInBounds_toArray, List.set_cons_zero, List.set_cons_succ, i64_w, i32_w]
              rfl
            refine pure_ (i := 3) (N := some 58) (v := ?_) (a' := ?_) #[true, true, true, true, false, false, false, false, false, false, false, false, false, false, false, false, false, false] rfl rfl (by kernel_rfl) (fun _ _ _ h => h) (Or.inl ⟨by rfl, ?_⟩) ?_ ?_
            rotate_left
            · intro w'
              go_simp
              with_reducible rfl
            rotate_left
            · simp only [Act.put, List.setIfInBounds_toArray, List.set_cons_zero, List.set_cons_succ, i64_w, i32_w]
              rfl
            refine pure_ (i := 4) (N := some 59) (v := ?_) (a' := ?_) #[true, true, true, true, true, false, false, false, false, false, false, false, false, false, false, false, false, false] rfl rfl (by kernel_rfl) (fun _ _ _ h => h) (Or.inl ⟨by rfl, ?_⟩) ?_ ?_
            rotate_left
            · intro w'
              go_simp
              with_reducible rfl
            rotate_left
            · simp only [Act.put, List.setIfInBounds_toArray, List.set_cons_zero, List.set_cons_succ, i64_w, i32_w]
              rfl
            refine pure_ (i := 5) (N := some 60) (v := ?_) (a' := ?_) #[true, true, true, true, true, true, false, false, false, false, false, false, false, false, false, false, false, false] rfl rfl (by kernel_rfl) (fun _ _ _ h => h) (Or.inl ⟨by rfl, ?_⟩) ?_ ?_
            rotate_left
            · intro w'
              go_simp
              with_reducible rfl
            rotate_left
            · simp only [Act.put, List.setIfInBounds_toArray, List.set_cons_zero, List.set_cons_succ, i64_w, i32_w]
              rfl
            refine pure_ (i := 7) (N := some 62) (v := ?_) (a' := ?_) #[true, true, true, true, true, true, false, true, false, false, false, false, false, false, false, false, false, false] rfl rfl (by kernel_rfl) (fun _ _ _ h => h) (Or.inl ⟨by rfl, ?_⟩) ?_ ?_
            rotate_left
            · intro w'
              go_simp
              with_reducible rfl
            rotate_left
            · simp only [Act.put, List.setIfInBounds_toArray, List.set_cons_zero, List.set_cons_succ, i64_w, i32_w]
              rfl
            refine pure_ (i := 8) (N := some 63) (v := ?_) (a' := ?_) #[true, true, true, true, true, true, false, true, true, false, false, false, false, false, false, false, false, false] rfl rfl (by kernel_rfl) (fun _ _ _ h => h) (Or.inl ⟨by rfl, ?_⟩) ?_ ?_
            rotate_left
            · intro w'
              go_simp
              with_reducible rfl
            rotate_left
            · simp only [Act.put, List.setIfInBounds_toArray, List.set_cons_zero, List.set_cons_succ, i64_w, i32_w]
              rfl
            refine pure_ (i := 9) (N := some 64) (v := ?_) (a' := ?_) #[true, true, true, true, true, true, false, true, true, true, false, false, false, false, false, false, false, false] rfl rfl (by kernel_rfl) (fun _ _ _ h => h) (Or.inl ⟨by rfl, ?_⟩) ?_ ?_
            rotate_left
            · intro w'
              go_simp
              with_reducible rfl
            rotate_left
            · simp only [Act.put, List.setIfInBounds_toArray, List.set_cons_zero, List.set_cons_succ, i64_w, i32_w]
              rfl
            refine pure_ (i := 10) (N := some 65) (v := ?_) (a' := ?_) #[true, true, true, true, true, true, false, true, true, true, true, false, false, false, false, false, false, false] rfl rfl (by kernel_rfl) (fun _ _ _ h => h) (Or.inl ⟨by rfl, ?_⟩) ?_ ?_
            rotate_left
            · intro w'
              go_simp
              with_reducible rfl
            rotate_left
            · simp only [Act.put, List.setIfInBounds_toArray, List.set_cons_zero, List.set_cons_succ, i64_w, i32_w]
              rfl
            refine take_ (i := 6) (N := some 61) (v := ?_) (a' := ?_) #[true, true, true, true, true, true, true, true, true, true, true, false, false, false, false, false, false, false] rfl rfl (by kernel_rfl) (fun _ _ _ h => h) (Or.inl ⟨by rfl, ?_⟩) hHeld ?_ ?_
            rotate_left
            · rintro w' ⟨s0, s1⟩
              go_simp
              with_reducible rfl
            rotate_left
            · simp only [Act.put, List.setIfInBounds_toArray, List.set_cons_zero, List.set_cons_succ, i64_w, i32_w]
              rfl
            refine take_ (i := 11) (N := some 66) (v := ?_) (a' := ?_) #[true, true, true, true, true, true, true, true, true, true, true, true, false, false, false, false, false, false] rfl rfl (by kernel_rfl) (fun _ _ _ h => h) (Or.inl ⟨by rfl, ?_⟩) hHeld ?_ ?_
            rotate_left
            · rintro w' ⟨s0, s1⟩
              go_simp
              with_reducible rfl
            rotate_left
            · simp only [Act.put, List.setIfInBounds_toArray, List.set_cons_zero, List.set_cons_succ, i64_w, i32_w]
              rfl
            refine one_ (i := 12) (N := some 67) #[true, true, true, true, true, true, true, true, true, true, true, true, true, false, false, false, false, false] rfl rfl (by kernel_rfl) (by decide) (fun K hK => ?_)
            refine goes_ Try.func42 (by kernel_rfl) rfl #[.slice A7 (stH (HvOf (firstD D i) v)).length c7, .string (⟨#[107]⟩ : ByteArray), .int .i64 1, .int .i64 zI, .int .i64 dn] (by rfl) rfl rfl (by simp only [List.map_toArray, List.map_cons, List.map_nil]; rfl) ?_
            with_reducible refine (escrow_Move.calls A7 c7 (stH (HvOf (firstD D i) v)) (⟨#[107]⟩ : ByteArray) 1 zI dn (stH (mvR (HvOf (firstD D i) v) 1 zI dn)) 0 _ (Kd.C_drew (Kd.R_reads' HVl9.out).2.2) hc7 HMV.out).mono ?_
            rintro e wm ⟨vm, rfl, hRm, hbm⟩
            refine ⟨_, rfl, ?_⟩
            have HBm := Aside0.mk (below_step (below_drew HB9.out) hbm)
            have HVm := Aside0.mk (Kd.R_lower hRm (below_size (below_drew HB9.out)))
            have BKm := Aside0.mk (blk_below (blk_drew BKc9.out) hbm)
            obtain ⟨_, hm2, hm3⟩ := HCELL.out _ HBm.out
            rw [hzI] at hm2
            refine hK.out _ _ ⟨hm2, hm3⟩ (fun hHeld => ?_)
            clear hK K
            refine norm_ (a' := ?_) ?_ ?_
            rotate_left
            · show Act.put _ (some 67) _ = _
              simp only [Act.put, List.setIfInBounds_toArray, List.set_cons_zero, List.set_cons_succ, i64_w, i32_w]
              rfl
            refine pure_ (i := 13) (N := some 54) (v := ?_) (a' := ?_) #[true, true, true, true, true, true, true, true, true, true, true, true, true, true, false, false, false, false] rfl rfl (by kernel_rfl) (fun _ _ _ h => h) (Or.inl ⟨by rfl, ?_⟩) ?_ ?_
            rotate_left
            · intro w'
              go_simp
              with_reducible rfl
            rotate_left
            · simp only [Act.put, List.setIfInBounds_toArray, List.set_cons_zero, List.set_cons_succ, i64_w, i32_w]
              rfl
            refine pure_ (i := 14) (N := some 68) (v := ?_) (a' := ?_) #[true, true, true, true, true, true, true, true, true, true, true, true, true, true, true, false, false, false] rfl rfl (by kernel_rfl) (fun _ _ _ h => h) (Or.inl ⟨by rfl, ?_⟩) ?_ ?_
            rotate_left
            · intro w'
              go_simp
              with_reducible rfl
            rotate_left
            · simp only [Act.put, List.setIfInBounds_toArray, List.set_cons_zero, List.set_cons_succ, i64_w, i32_w]
              rfl
            refine pure_ (i := 15) (N := some 69) (v := ?_) (a' := ?_) #[true, true, true, true, true, true, true, true, true, true, true, true, true, true, true, true, false, false] rfl rfl (by kernel_rfl) (fun _ _ _ h => h) (Or.inl ⟨by rfl, ?_⟩) ?_ ?_
            rotate_left
            · intro w'
              go_simp
              with_reducible rfl
            rotate_left
            · simp only [Act.put, List.setIfInBounds_toArray, List.set_cons_zero, List.set_cons_succ, i64_w, i32_w]
              rfl
            refine pure_ (i := 16) (N := some 11) (v := ?_) (a' := ?_) #[true, true, true, true, true, true, true, true, true, true, true, true, true, true, true, true, true, false] rfl rfl (by kernel_rfl) (fun _ _ _ h => h) (Or.inl ⟨by rfl, ?_⟩) ?_ ?_
            rotate_left
            · intro w'
              go_simp
              with_reducible rfl
            rotate_left
            · simp only [Act.put, List.setIfInBounds_toArray, List.set_cons_zero, List.set_cons_succ, i64_w, i32_w]
              rfl
            refine pure_ (i := 17) (N := some 12) (v := ?_) (a' := ?_) #[true, true, true, true, true, true, true, true, true, true, true, true, true, true, true, true, true, true] rfl rfl (by kernel_rfl) (fun _ _ _ h => h) (Or.inl ⟨by rfl, ?_⟩) ?_ ?_
            rotate_left
            · intro w'
              go_simp
              with_reducible rfl
            rotate_left
            · simp only [Act.put, List.setIfInBounds_toArray, List.set_cons_zero, List.set_cons_succ, i64_w, i32_w]
              rfl
            refine done_ (by kernel_rfl) ?_
            obtain ⟨Am, cm, rfl, hcm, _⟩ := Kd.R_reads HVm.out
            go_wp2_with fail
            go_roundw
            case rel => exact ⟨i + 1, y0, y1 + 1, y2, y3, y4, y5, rfl, by omega, ⟨⟨by rw [HP.out, cnt_ne (show (1 : Nat) ≠ 0 by decide)]; exact HY.out.1, by rw [HP.out, cnt_eq (show (1 : Nat) = 1 from rfl)]; have := HY.out.2.1; omega, by rw [HP.out, cnt_ne (show (1 : Nat) ≠ 2 by decide)]; exact HY.out.2.2.1, by rw [HP.out, cnt_ne (show (1 : Nat) ≠ 3 by decide)]; exact HY.out.2.2.2.1, by rw [HP.out, cnt_ne (show (1 : Nat) ≠ 4 by decide)]; exact HY.out.2.2.2.2.1, by rw [HP.out, cnt_ne (show (1 : Nat) ≠ 5 by decide)]; exact HY.out.2.2.2.2.2⟩⟩, BKm, ⟨HST.out ▸ HVm.out⟩, HBm⟩
            case measure => simp only [intV]; omega
        · have hdec : decide (q1 < y1 + 1) = true := by simp; omega
          have hst : stH (HvOf (firstD D (i + 1)) v) = stH (HvOf (firstD D i) v) := by
            rw [HP.out, hv_no (by have := HYJ.out; have := HQJ.out; show ¬ cntD (firstD D i) 1 + 1 ≤ v 1; omega)]
          have HST := Aside0.mk hst
          clear hst
          go_quiet (fail)
          go_wp2_with fail
          go_roundw
          case rel => exact ⟨i + 1, y0, y1 + 1, y2, y3, y4, y5, rfl, by omega, ⟨⟨by rw [HP.out, cnt_ne (show (1 : Nat) ≠ 0 by decide)]; exact HY.out.1, by rw [HP.out, cnt_eq (show (1 : Nat) = 1 from rfl)]; have := HY.out.2.1; omega, by rw [HP.out, cnt_ne (show (1 : Nat) ≠ 2 by decide)]; exact HY.out.2.2.1, by rw [HP.out, cnt_ne (show (1 : Nat) ≠ 3 by decide)]; exact HY.out.2.2.2.1, by rw [HP.out, cnt_ne (show (1 : Nat) ≠ 4 by decide)]; exact HY.out.2.2.2.2.1, by rw [HP.out, cnt_ne (show (1 : Nat) ≠ 5 by decide)]; exact HY.out.2.2.2.2.2⟩⟩, ⟨blk_drewN BKc7.out _⟩, ⟨by rw [HST.out]; exact Kd.R_drewN HV7.out _⟩, ⟨pw_below_drewN HB7.out _⟩⟩
          case measure => simp only [intV]; omega
      · obtain ⟨hx1, hx4, hx5⟩ := HCELL.out _ HB.out
        have hca : wr.cell? ⟨w3.heap.size, 2, none⟩ = some (.int .i64 y2) := (blk_cell BKc.out 2).trans rfl
        have hfz := blk_frozen BKc.out 2
        have hyj : y2 = ((cntD (firstD D i) 2 : Nat) : Int) := HY.out.2.2.1
        have hqj : q2 = ((v 2 : Nat) : Int) := HQ.out.2.2.1
        have hcj := HCL.out 2
        have hy0 : 0 ≤ y2 := by omega
        have hy1 : y2 ≤ 24 := by omega
        have HYJ := Aside0.mk hyj
        have HQJ := Aside0.mk hqj
        clear hyj hqj hcj
        go_wp2
        generalize hw7 : wr.setCell ⟨w3.heap.size, 2, none⟩ (.int .i64 (y2 + 1)) = w7
        have BKc7 : Aside0 (w7.heap[w3.heap.size]? = some (.cells #[.int .i64 y0, .int .i64 y1, .int .i64 (y2 + 1), .int .i64 y3, .int .i64 y4, .int .i64 y5] 74 (0, 0))) := ⟨by rw [← hw7]; exact blk_put BKc.out 2 _ rfl⟩
        have HV7 : Aside0 (Kd.R k94 94 w7 w1.heap.size (fun _ => True) (.slice A7 (stH (HvOf (firstD D i) v)).length c7) (stH (HvOf (firstD D i) v))) := ⟨by rw [← hw7]; exact Kd.R_set HV.out BKc.out (by decide) 2 _⟩
        have HB7 : Aside0 (Below w1.heap.size w1 w7) := ⟨by rw [← hw7]; exact below_set HB.out hge⟩
        clear hx1 hx4 hx5 hca hfz hw7 BKc HV HB
        obtain ⟨hx1, hx4, hx5⟩ := HCELL.out _ HB7.out
        obtain ⟨hk0, hk1, hk2, hk3, hk4, hk5⟩ := HBOX.out _ HB7.out
        have hc7j : w7.cell? ⟨w3.heap.size, 2, none⟩ = some (.int .i64 (y2 + 1)) := (blk_cell BKc7.out 2).trans rfl
        by_cases hkn : y2 + 1 ≤ q2
        · have hdec : decide (q2 < y2 + 1) = false := by simp; omega
          have hknow : cntD (firstD D i) 2 + 1 ≤ v 2 := by have := HYJ.out; have := HQJ.out; omega
          have HKN := Aside0.mk hknow
          clear hknow
          go_quiet (fail)
          go_wp2_with fail
          have HUP := Aside0.mk (up_st (HBD.out) (rep := 2) (by decide) hn9a hn9b)
          refine (escrow_Up.calls A7 c7 (stH (HvOf (firstD D i) v)) kk 2 dn (stH (upR (HvOf (firstD D i) v) 2 dn)) 0 _ (Kd.R_reads' (Kd.R_drewN HV7.out _)).2.2 hc7 HUP.out).mono ?_
          rintro e w9 ⟨v11, rfl, hR9, hb9⟩
          have HB9 := Aside0.mk (below_step (pw_below_drewN HB7.out _) hb9)
          have HV9 := Aside0.mk (Kd.R_lower hR9 (below_size (pw_below_drewN HB7.out _)))
          have HVl9 := Aside0.mk (Kd.R_below (Kd.R_drewN HV7.out _) hb9)
          have BKc9 := Aside0.mk (blk_below (blk_drewN BKc7.out _) hb9)
          clear hx1 hx4 hx5 hk0 hk1 hk2 hk3 hk4 hk5 hc7j hR9 hb9
          obtain ⟨hx1, hx4, hx5⟩ := HCELL.out _ HB9.out
          by_cases hz0 : z = 0
          · subst hz0
            have hst : stH (HvOf (firstD D (i + 1)) v) = stH (upR (HvOf (firstD D i) v) 2 dn) := by
              rw [HP.out, hv_up HOK.out HKN.out rfl]; rfl
            have HST := Aside0.mk hst
            clear hst
            obtain ⟨A11, c11, rfl, hc11, _⟩ := Kd.R_reads HV9.out
            have hx4' : w9.cell? ⟨(ad0.add (i * 4)).block, (ad0.add (i * 4)).off + 2, none⟩ = some (.int .i64 0) := hx4
            clear hx4
            go_wp2_with fail
            go_roundw
            case rel => exact ⟨i + 1, y0, y1, y2 + 1, y3, y4, y5, rfl, by omega, ⟨⟨by rw [HP.out, cnt_ne (show (2 : Nat) ≠ 0 by decide)]; exact HY.out.1, by rw [HP.out, cnt_ne (show (2 : Nat) ≠ 1 by decide)]; exact HY.out.2.1, by rw [HP.out, cnt_eq (show (2 : Nat) = 2 from rfl)]; have := HY.out.2.2.1; omega, by rw [HP.out, cnt_ne (show (2 : Nat) ≠ 3 by decide)]; exact HY.out.2.2.2.1, by rw [HP.out, cnt_ne (show (2 : Nat) ≠ 4 by decide)]; exact HY.out.2.2.2.2.1, by rw [HP.out, cnt_ne (show (2 : Nat) ≠ 5 by decide)]; exact HY.out.2.2.2.2.2⟩⟩, BKc9, ⟨HST.out ▸ HV9.out⟩, HB9⟩
            case measure => simp only [intV]; omega
          · have hst : stH (HvOf (firstD D (i + 1)) v) = stH (mvR (HvOf (firstD D i) v) 2 (z : Int) dn) := by
              rw [HP.out, hv_mv HOK.out HKN.out (Nat.pos_of_ne_zero hz0)]; rfl
            have hmv : escrow_Move.f (stH (HvOf (firstD D i) v)) (⟨#[107]⟩ : ByteArray) 2 (z : Int) dn = some (stH (mvR (HvOf (firstD D i) v) 2 (z : Int) dn), 0) := mv_st HBD.out (rep := 2) (tp := (z : Int)) (n := dn) (by decide) ((repOk_iff _).2 (by omega)) (hn1 (by omega)) hn9b
            obtain ⟨zI, hzI⟩ : ∃ zI : Int, (z : Int) = zI := ⟨_, rfl⟩
            have hzp : decide ((0 : Int) < zI) = true := by simp; omega
            rw [hzI] at hst hmv hx4
            have HST := Aside0.mk hst
            have HMV := Aside0.mk hmv
            clear hst hmv
            go_wp2_with fail
            refine start_ (n := 18) (S := fun w' => w'.cell? ⟨(ad0.add (i * 4)).block, (ad0.add (i * 4)).off + 2, none⟩ = some (.int .i64 zI) ∧ w'.cell? ⟨(ad0.add (i * 4)).block, (ad0.add (i * 4)).off + 3, none⟩ = some (.int .i64 dn)) (ds := []) #[false, false, false, false, false, false, false, false, false, false, false, false, false, false, false, false, false, false] (by kernel_rfl) rfl rfl ⟨hx4, hx5⟩ (fun hHeld => ?_)
            refine pure_ (i := 0) (N := some 55) (v := ?_) (a' := ?_) #[true, false, false, false, false, false, false, false, false, false, false, false, false, false, false, false, false, false] rfl rfl (by kernel_rfl) (fun _ _ _ h => h) (Or.inl ⟨by rfl, ?_⟩) ?_ ?_
            rotate_left
            · intro w'
              go_simp
              with_reducible rfl
            rotate_left
            · simp only [Act.put, List.setIfInBounds_toArray, List.set_cons_zero, List.set_cons_succ, i64_w, i32_w]
              rfl
            refine pure_ (i := 1) (N := some 56) (v := ?_) (a' := ?_) #[true, true, false, false, false, false, false, false, false, false, false, false, false, false, false, false, false, false] rfl rfl (by kernel_rfl) (fun _ _ _ h => h) (Or.inl ⟨by rfl, ?_⟩) ?_ ?_
            rotate_left
            · intro w'
              go_simp
              with_reducible rfl
            rotate_left
            · simp only [Act.put, List.setIfInBounds_toArray, List.set_cons_zero, List.set_cons_succ, i64_w, i32_w]
              rfl
            refine pure_ (i := 2) (N := some 57) (v := ?_) (a' := ?_) #[true, true, true, false, false, false, false, false, false, false, false, false, false, false, false, false, false, false] rfl rfl (by kernel_rfl) (fun _ _ _ h => h) (Or.inl ⟨by rfl, ?_⟩) ?_ ?_
            rotate_left
            · intro w'
              go_simp
              with_reducible rfl
            rotate_left
            · simp only [Act.put, List.setIfInBounds_toArray, List.set_cons_zero, List.set_cons_succ, i64_w, i32_w]
              rfl
            refine pure_ (i := 3) (N := some 58) (v := ?_) (a' := ?_) #[true, true, true, true, false, false, false, false, false, false, false, false, false, false, false, false, false, false] rfl rfl (by kernel_rfl) (fun _ _ _ h => h) (Or.inl ⟨by rfl, ?_⟩) ?_ ?_
            rotate_left
            · intro w'
              go_simp
              with_reducible rfl
            rotate_left
            · simp only [Act.put, List.setIfInBounds_toArray, List.set_cons_zero, List.set_cons_succ, i64_w, i32_w]
              rfl
            refine pure_ (i := 4) (N := some 59) (v := ?_) (a' := ?_) #[true, true, true, true, true, false, false, false, false, false, false, false, false, false, false, false, false, false] rfl rfl (by kernel_rfl) (fun _ _ _ h => h) (Or.inl ⟨by rfl, ?_⟩) ?_ ?_
            rotate_left
            · intro w'
              go_simp
              with_reducible rfl
            rotate_left
            · simp only [Act.put, List.setIfInBounds_toArray, List.set_cons_zero, List.set_cons_succ, i64_w, i32_w]
              rfl
            refine pure_ (i := 5) (N := some 60) (v := ?_) (a' := ?_) #[true, true, true, true, true, true, false, false, false, false, false, false, false, false, false, false, false, false] rfl rfl (by kernel_rfl) (fun _ _ _ h => h) (Or.inl ⟨by rfl, ?_⟩) ?_ ?_
            rotate_left
            · intro w'
              go_simp
              with_reducible rfl
            rotate_left
            · simp only [Act.put, List.setIfInBounds_toArray, List.set_cons_zero, List.set_cons_succ, i64_w, i32_w]
              rfl
            refine pure_ (i := 7) (N := some 62) (v := ?_) (a' := ?_) #[true, true, true, true, true, true, false, true, false, false, false, false, false, false, false, false, false, false] rfl rfl (by kernel_rfl) (fun _ _ _ h => h) (Or.inl ⟨by rfl, ?_⟩) ?_ ?_
            rotate_left
            · intro w'
              go_simp
              with_reducible rfl
            rotate_left
            · simp only [Act.put, List.setIfInBounds_toArray, List.set_cons_zero, List.set_cons_succ, i64_w, i32_w]
              rfl
            refine pure_ (i := 8) (N := some 63) (v := ?_) (a' := ?_) #[true, true, true, true, true, true, false, true, true, false, false, false, false, false, false, false, false, false] rfl rfl (by kernel_rfl) (fun _ _ _ h => h) (Or.inl ⟨by rfl, ?_⟩) ?_ ?_
            rotate_left
            · intro w'
              go_simp
              with_reducible rfl
            rotate_left
            · simp only [Act.put, List.setIfInBounds_toArray, List.set_cons_zero, List.set_cons_succ, i64_w, i32_w]
              rfl
            refine pure_ (i := 9) (N := some 64) (v := ?_) (a' := ?_) #[true, true, true, true, true, true, false, true, true, true, false, false, false, false, false, false, false, false] rfl rfl (by kernel_rfl) (fun _ _ _ h => h) (Or.inl ⟨by rfl, ?_⟩) ?_ ?_
            rotate_left
            · intro w'
              go_simp
              with_reducible rfl
            rotate_left
            · simp only [Act.put, List.setIfInBounds_toArray, List.set_cons_zero, List.set_cons_succ, i64_w, i32_w]
              rfl
            refine pure_ (i := 10) (N := some 65) (v := ?_) (a' := ?_) #[true, true, true, true, true, true, false, true, true, true, true, false, false, false, false, false, false, false] rfl rfl (by kernel_rfl) (fun _ _ _ h => h) (Or.inl ⟨by rfl, ?_⟩) ?_ ?_
            rotate_left
            · intro w'
              go_simp
              with_reducible rfl
            rotate_left
            · simp only [Act.put, List.setIfInBounds_toArray, List.set_cons_zero, List.set_cons_succ, i64_w, i32_w]
              rfl
            refine take_ (i := 6) (N := some 61) (v := ?_) (a' := ?_) #[true, true, true, true, true, true, true, true, true, true, true, false, false, false, false, false, false, false] rfl rfl (by kernel_rfl) (fun _ _ _ h => h) (Or.inl ⟨by rfl, ?_⟩) hHeld ?_ ?_
            rotate_left
            · rintro w' ⟨s0, s1⟩
              go_simp
              with_reducible rfl
            rotate_left
            · simp only [Act.put, List.setIfInBounds_toArray, List.set_cons_zero, List.set_cons_succ, i64_w, i32_w]
              rfl
            refine take_ (i := 11) (N := some 66) (v := ?_) (a' := ?_) #[true, true, true, true, true, true, true, true, true, true, true, true, false, false, false, false, false, false] rfl rfl (by kernel_rfl) (fun _ _ _ h => h) (Or.inl ⟨by rfl, ?_⟩) hHeld ?_ ?_
            rotate_left
            · rintro w' ⟨s0, s1⟩
              go_simp
              with_reducible rfl
            rotate_left
            · simp only [Act.put, List.setIfInBounds_toArray, List.set_cons_zero, List.set_cons_succ, i64_w, i32_w]
              rfl
            refine one_ (i := 12) (N := some 67) #[true, true, true, true, true, true, true, true, true, true, true, true, true, false, false, false, false, false] rfl rfl (by kernel_rfl) (by decide) (fun K hK => ?_)
            refine goes_ Try.func42 (by kernel_rfl) rfl #[.slice A7 (stH (HvOf (firstD D i) v)).length c7, .string (⟨#[107]⟩ : ByteArray), .int .i64 2, .int .i64 zI, .int .i64 dn] (by rfl) rfl rfl (by simp only [List.map_toArray, List.map_cons, List.map_nil]; rfl) ?_
            with_reducible refine (escrow_Move.calls A7 c7 (stH (HvOf (firstD D i) v)) (⟨#[107]⟩ : ByteArray) 2 zI dn (stH (mvR (HvOf (firstD D i) v) 2 zI dn)) 0 _ (Kd.C_drew (Kd.R_reads' HVl9.out).2.2) hc7 HMV.out).mono ?_
            rintro e wm ⟨vm, rfl, hRm, hbm⟩
            refine ⟨_, rfl, ?_⟩
            have HBm := Aside0.mk (below_step (below_drew HB9.out) hbm)
            have HVm := Aside0.mk (Kd.R_lower hRm (below_size (below_drew HB9.out)))
            have BKm := Aside0.mk (blk_below (blk_drew BKc9.out) hbm)
            obtain ⟨_, hm2, hm3⟩ := HCELL.out _ HBm.out
            rw [hzI] at hm2
            refine hK.out _ _ ⟨hm2, hm3⟩ (fun hHeld => ?_)
            clear hK K
            refine norm_ (a' := ?_) ?_ ?_
            rotate_left
            · show Act.put _ (some 67) _ = _
              simp only [Act.put, List.setIfInBounds_toArray, List.set_cons_zero, List.set_cons_succ, i64_w, i32_w]
              rfl
            refine pure_ (i := 13) (N := some 54) (v := ?_) (a' := ?_) #[true, true, true, true, true, true, true, true, true, true, true, true, true, true, false, false, false, false] rfl rfl (by kernel_rfl) (fun _ _ _ h => h) (Or.inl ⟨by rfl, ?_⟩) ?_ ?_
            rotate_left
            · intro w'
              go_simp
              with_reducible rfl
            rotate_left
            · simp only [Act.put, List.setIfInBounds_toArray, List.set_cons_zero, List.set_cons_succ, i64_w, i32_w]
              rfl
            refine pure_ (i := 14) (N := some 68) (v := ?_) (a' := ?_) #[true, true, true, true, true, true, true, true, true, true, true, true, true, true, true, false, false, false] rfl rfl (by kernel_rfl) (fun _ _ _ h => h) (Or.inl ⟨by rfl, ?_⟩) ?_ ?_
            rotate_left
            · intro w'
              go_simp
              with_reducible rfl
            rotate_left
            · simp only [Act.put, List.setIfInBounds_toArray, List.set_cons_zero, List.set_cons_succ, i64_w, i32_w]
              rfl
            refine pure_ (i := 15) (N := some 69) (v := ?_) (a' := ?_) #[true, true, true, true, true, true, true, true, true, true, true, true, true, true, true, true, false, false] rfl rfl (by kernel_rfl) (fun _ _ _ h => h) (Or.inl ⟨by rfl, ?_⟩) ?_ ?_
            rotate_left
            · intro w'
              go_simp
              with_reducible rfl
            rotate_left
            · simp only [Act.put, List.setIfInBounds_toArray, List.set_cons_zero, List.set_cons_succ, i64_w, i32_w]
              rfl
            refine pure_ (i := 16) (N := some 11) (v := ?_) (a' := ?_) #[true, true, true, true, true, true, true, true, true, true, true, true, true, true, true, true, true, false] rfl rfl (by kernel_rfl) (fun _ _ _ h => h) (Or.inl ⟨by rfl, ?_⟩) ?_ ?_
            rotate_left
            · intro w'
              go_simp
              with_reducible rfl
            rotate_left
            · simp only [Act.put, List.setIfInBounds_toArray, List.set_cons_zero, List.set_cons_succ, i64_w, i32_w]
              rfl
            refine pure_ (i := 17) (N := some 12) (v := ?_) (a' := ?_) #[true, true, true, true, true, true, true, true, true, true, true, true, true, true, true, true, true, true] rfl rfl (by kernel_rfl) (fun _ _ _ h => h) (Or.inl ⟨by rfl, ?_⟩) ?_ ?_
            rotate_left
            · intro w'
              go_simp
              with_reducible rfl
            rotate_left
            · simp only [Act.put, List.setIfInBounds_toArray, List.set_cons_zero, List.set_cons_succ, i64_w, i32_w]
              rfl
            refine done_ (by kernel_rfl) ?_
            obtain ⟨Am, cm, rfl, hcm, _⟩ := Kd.R_reads HVm.out
            go_wp2_with fail
            go_roundw
            case rel => exact ⟨i + 1, y0, y1, y2 + 1, y3, y4, y5, rfl, by omega, ⟨⟨by rw [HP.out, cnt_ne (show (2 : Nat) ≠ 0 by decide)]; exact HY.out.1, by rw [HP.out, cnt_ne (show (2 : Nat) ≠ 1 by decide)]; exact HY.out.2.1, by rw [HP.out, cnt_eq (show (2 : Nat) = 2 from rfl)]; have := HY.out.2.2.1; omega, by rw [HP.out, cnt_ne (show (2 : Nat) ≠ 3 by decide)]; exact HY.out.2.2.2.1, by rw [HP.out, cnt_ne (show (2 : Nat) ≠ 4 by decide)]; exact HY.out.2.2.2.2.1, by rw [HP.out, cnt_ne (show (2 : Nat) ≠ 5 by decide)]; exact HY.out.2.2.2.2.2⟩⟩, BKm, ⟨HST.out ▸ HVm.out⟩, HBm⟩
            case measure => simp only [intV]; omega
        · have hdec : decide (q2 < y2 + 1) = true := by simp; omega
          have hst : stH (HvOf (firstD D (i + 1)) v) = stH (HvOf (firstD D i) v) := by
            rw [HP.out, hv_no (by have := HYJ.out; have := HQJ.out; show ¬ cntD (firstD D i) 2 + 1 ≤ v 2; omega)]
          have HST := Aside0.mk hst
          clear hst
          go_quiet (fail)
          go_wp2_with fail
          go_roundw
          case rel => exact ⟨i + 1, y0, y1, y2 + 1, y3, y4, y5, rfl, by omega, ⟨⟨by rw [HP.out, cnt_ne (show (2 : Nat) ≠ 0 by decide)]; exact HY.out.1, by rw [HP.out, cnt_ne (show (2 : Nat) ≠ 1 by decide)]; exact HY.out.2.1, by rw [HP.out, cnt_eq (show (2 : Nat) = 2 from rfl)]; have := HY.out.2.2.1; omega, by rw [HP.out, cnt_ne (show (2 : Nat) ≠ 3 by decide)]; exact HY.out.2.2.2.1, by rw [HP.out, cnt_ne (show (2 : Nat) ≠ 4 by decide)]; exact HY.out.2.2.2.2.1, by rw [HP.out, cnt_ne (show (2 : Nat) ≠ 5 by decide)]; exact HY.out.2.2.2.2.2⟩⟩, ⟨blk_drewN BKc7.out _⟩, ⟨by rw [HST.out]; exact Kd.R_drewN HV7.out _⟩, ⟨pw_below_drewN HB7.out _⟩⟩
          case measure => simp only [intV]; omega
      · obtain ⟨hx1, hx4, hx5⟩ := HCELL.out _ HB.out
        have hca : wr.cell? ⟨w3.heap.size, 3, none⟩ = some (.int .i64 y3) := (blk_cell BKc.out 3).trans rfl
        have hfz := blk_frozen BKc.out 3
        have hyj : y3 = ((cntD (firstD D i) 3 : Nat) : Int) := HY.out.2.2.2.1
        have hqj : q3 = ((v 3 : Nat) : Int) := HQ.out.2.2.2.1
        have hcj := HCL.out 3
        have hy0 : 0 ≤ y3 := by omega
        have hy1 : y3 ≤ 24 := by omega
        have HYJ := Aside0.mk hyj
        have HQJ := Aside0.mk hqj
        clear hyj hqj hcj
        go_wp2
        generalize hw7 : wr.setCell ⟨w3.heap.size, 3, none⟩ (.int .i64 (y3 + 1)) = w7
        have BKc7 : Aside0 (w7.heap[w3.heap.size]? = some (.cells #[.int .i64 y0, .int .i64 y1, .int .i64 y2, .int .i64 (y3 + 1), .int .i64 y4, .int .i64 y5] 74 (0, 0))) := ⟨by rw [← hw7]; exact blk_put BKc.out 3 _ rfl⟩
        have HV7 : Aside0 (Kd.R k94 94 w7 w1.heap.size (fun _ => True) (.slice A7 (stH (HvOf (firstD D i) v)).length c7) (stH (HvOf (firstD D i) v))) := ⟨by rw [← hw7]; exact Kd.R_set HV.out BKc.out (by decide) 3 _⟩
        have HB7 : Aside0 (Below w1.heap.size w1 w7) := ⟨by rw [← hw7]; exact below_set HB.out hge⟩
        clear hx1 hx4 hx5 hca hfz hw7 BKc HV HB
        obtain ⟨hx1, hx4, hx5⟩ := HCELL.out _ HB7.out
        obtain ⟨hk0, hk1, hk2, hk3, hk4, hk5⟩ := HBOX.out _ HB7.out
        have hc7j : w7.cell? ⟨w3.heap.size, 3, none⟩ = some (.int .i64 (y3 + 1)) := (blk_cell BKc7.out 3).trans rfl
        by_cases hkn : y3 + 1 ≤ q3
        · have hdec : decide (q3 < y3 + 1) = false := by simp; omega
          have hknow : cntD (firstD D i) 3 + 1 ≤ v 3 := by have := HYJ.out; have := HQJ.out; omega
          have HKN := Aside0.mk hknow
          clear hknow
          go_quiet (fail)
          go_wp2_with fail
          have HUP := Aside0.mk (up_st (HBD.out) (rep := 3) (by decide) hn9a hn9b)
          refine (escrow_Up.calls A7 c7 (stH (HvOf (firstD D i) v)) kk 3 dn (stH (upR (HvOf (firstD D i) v) 3 dn)) 0 _ (Kd.R_reads' (Kd.R_drewN HV7.out _)).2.2 hc7 HUP.out).mono ?_
          rintro e w9 ⟨v11, rfl, hR9, hb9⟩
          have HB9 := Aside0.mk (below_step (pw_below_drewN HB7.out _) hb9)
          have HV9 := Aside0.mk (Kd.R_lower hR9 (below_size (pw_below_drewN HB7.out _)))
          have HVl9 := Aside0.mk (Kd.R_below (Kd.R_drewN HV7.out _) hb9)
          have BKc9 := Aside0.mk (blk_below (blk_drewN BKc7.out _) hb9)
          clear hx1 hx4 hx5 hk0 hk1 hk2 hk3 hk4 hk5 hc7j hR9 hb9
          obtain ⟨hx1, hx4, hx5⟩ := HCELL.out _ HB9.out
          by_cases hz0 : z = 0
          · subst hz0
            have hst : stH (HvOf (firstD D (i + 1)) v) = stH (upR (HvOf (firstD D i) v) 3 dn) := by
              rw [HP.out, hv_up HOK.out HKN.out rfl]; rfl
            have HST := Aside0.mk hst
            clear hst
            obtain ⟨A11, c11, rfl, hc11, _⟩ := Kd.R_reads HV9.out
            have hx4' : w9.cell? ⟨(ad0.add (i * 4)).block, (ad0.add (i * 4)).off + 2, none⟩ = some (.int .i64 0) := hx4
            clear hx4
            go_wp2_with fail
            go_roundw
            case rel => exact ⟨i + 1, y0, y1, y2, y3 + 1, y4, y5, rfl, by omega, ⟨⟨by rw [HP.out, cnt_ne (show (3 : Nat) ≠ 0 by decide)]; exact HY.out.1, by rw [HP.out, cnt_ne (show (3 : Nat) ≠ 1 by decide)]; exact HY.out.2.1, by rw [HP.out, cnt_ne (show (3 : Nat) ≠ 2 by decide)]; exact HY.out.2.2.1, by rw [HP.out, cnt_eq (show (3 : Nat) = 3 from rfl)]; have := HY.out.2.2.2.1; omega, by rw [HP.out, cnt_ne (show (3 : Nat) ≠ 4 by decide)]; exact HY.out.2.2.2.2.1, by rw [HP.out, cnt_ne (show (3 : Nat) ≠ 5 by decide)]; exact HY.out.2.2.2.2.2⟩⟩, BKc9, ⟨HST.out ▸ HV9.out⟩, HB9⟩
            case measure => simp only [intV]; omega
          · have hst : stH (HvOf (firstD D (i + 1)) v) = stH (mvR (HvOf (firstD D i) v) 3 (z : Int) dn) := by
              rw [HP.out, hv_mv HOK.out HKN.out (Nat.pos_of_ne_zero hz0)]; rfl
            have hmv : escrow_Move.f (stH (HvOf (firstD D i) v)) (⟨#[107]⟩ : ByteArray) 3 (z : Int) dn = some (stH (mvR (HvOf (firstD D i) v) 3 (z : Int) dn), 0) := mv_st HBD.out (rep := 3) (tp := (z : Int)) (n := dn) (by decide) ((repOk_iff _).2 (by omega)) (hn1 (by omega)) hn9b
            obtain ⟨zI, hzI⟩ : ∃ zI : Int, (z : Int) = zI := ⟨_, rfl⟩
            have hzp : decide ((0 : Int) < zI) = true := by simp; omega
            rw [hzI] at hst hmv hx4
            have HST := Aside0.mk hst
            have HMV := Aside0.mk hmv
            clear hst hmv
            go_wp2_with fail
            refine start_ (n := 18) (S := fun w' => w'.cell? ⟨(ad0.add (i * 4)).block, (ad0.add (i * 4)).off + 2, none⟩ = some (.int .i64 zI) ∧ w'.cell? ⟨(ad0.add (i * 4)).block, (ad0.add (i * 4)).off + 3, none⟩ = some (.int .i64 dn)) (ds := []) #[false, false, false, false, false, false, false, false, false, false, false, false, false, false, false, false, false, false] (by kernel_rfl) rfl rfl ⟨hx4, hx5⟩ (fun hHeld => ?_)
            refine pure_ (i := 0) (N := some 55) (v := ?_) (a' := ?_) #[true, false, false, false, false, false, false, false, false, false, false, false, false, false, false, false, false, false] rfl rfl (by kernel_rfl) (fun _ _ _ h => h) (Or.inl ⟨by rfl, ?_⟩) ?_ ?_
            rotate_left
            · intro w'
              go_simp
              with_reducible rfl
            rotate_left
            · simp only [Act.put, List.setIfInBounds_toArray, List.set_cons_zero, List.set_cons_succ, i64_w, i32_w]
              rfl
            refine pure_ (i := 1) (N := some 56) (v := ?_) (a' := ?_) #[true, true, false, false, false, false, false, false, false, false, false, false, false, false, false, false, false, false] rfl rfl (by kernel_rfl) (fun _ _ _ h => h) (Or.inl ⟨by rfl, ?_⟩) ?_ ?_
            rotate_left
            · intro w'
              go_simp
              with_reducible rfl
            rotate_left
            · simp only [Act.put, List.setIfInBounds_toArray, List.set_cons_zero, List.set_cons_succ, i64_w, i32_w]
              rfl
            refine pure_ (i := 2) (N := some 57) (v := ?_) (a' := ?_) #[true, true, true, false, false, false, false, false, false, false, false, false, false, false, false, false, false, false] rfl rfl (by kernel_rfl) (fun _ _ _ h => h) (Or.inl ⟨by rfl, ?_⟩) ?_ ?_
            rotate_left
            · intro w'
              go_simp
              with_reducible rfl
            rotate_left
            · simp only [Act.put, List.setIfInBounds_toArray, List.set_cons_zero, List.set_cons_succ, i64_w, i32_w]
              rfl
            refine pure_ (i := 3) (N := some 58) (v := ?_) (a' := ?_) #[true, true, true, true, false, false, false, false, false, false, false, false, false, false, false, false, false, false] rfl rfl (by kernel_rfl) (fun _ _ _ h => h) (Or.inl ⟨by rfl, ?_⟩) ?_ ?_
            rotate_left
            · intro w'
              go_simp
              with_reducible rfl
            rotate_left
            · simp only [Act.put, List.setIfInBounds_toArray, List.set_cons_zero, List.set_cons_succ, i64_w, i32_w]
              rfl
            refine pure_ (i := 4) (N := some 59) (v := ?_) (a' := ?_) #[true, true, true, true, true, false, false, false, false, false, false, false, false, false, false, false, false, false] rfl rfl (by kernel_rfl) (fun _ _ _ h => h) (Or.inl ⟨by rfl, ?_⟩) ?_ ?_
            rotate_left
            · intro w'
              go_simp
              with_reducible rfl
            rotate_left
            · simp only [Act.put, List.setIfInBounds_toArray, List.set_cons_zero, List.set_cons_succ, i64_w, i32_w]
              rfl
            refine pure_ (i := 5) (N := some 60) (v := ?_) (a' := ?_) #[true, true, true, true, true, true, false, false, false, false, false, false, false, false, false, false, false, false] rfl rfl (by kernel_rfl) (fun _ _ _ h => h) (Or.inl ⟨by rfl, ?_⟩) ?_ ?_
            rotate_left
            · intro w'
              go_simp
              with_reducible rfl
            rotate_left
            · simp only [Act.put, List.setIfInBounds_toArray, List.set_cons_zero, List.set_cons_succ, i64_w, i32_w]
              rfl
            refine pure_ (i := 7) (N := some 62) (v := ?_) (a' := ?_) #[true, true, true, true, true, true, false, true, false, false, false, false, false, false, false, false, false, false] rfl rfl (by kernel_rfl) (fun _ _ _ h => h) (Or.inl ⟨by rfl, ?_⟩) ?_ ?_
            rotate_left
            · intro w'
              go_simp
              with_reducible rfl
            rotate_left
            · simp only [Act.put, List.setIfInBounds_toArray, List.set_cons_zero, List.set_cons_succ, i64_w, i32_w]
              rfl
            refine pure_ (i := 8) (N := some 63) (v := ?_) (a' := ?_) #[true, true, true, true, true, true, false, true, true, false, false, false, false, false, false, false, false, false] rfl rfl (by kernel_rfl) (fun _ _ _ h => h) (Or.inl ⟨by rfl, ?_⟩) ?_ ?_
            rotate_left
            · intro w'
              go_simp
              with_reducible rfl
            rotate_left
            · simp only [Act.put, List.setIfInBounds_toArray, List.set_cons_zero, List.set_cons_succ, i64_w, i32_w]
              rfl
            refine pure_ (i := 9) (N := some 64) (v := ?_) (a' := ?_) #[true, true, true, true, true, true, false, true, true, true, false, false, false, false, false, false, false, false] rfl rfl (by kernel_rfl) (fun _ _ _ h => h) (Or.inl ⟨by rfl, ?_⟩) ?_ ?_
            rotate_left
            · intro w'
              go_simp
              with_reducible rfl
            rotate_left
            · simp only [Act.put, List.setIfInBounds_toArray, List.set_cons_zero, List.set_cons_succ, i64_w, i32_w]
              rfl
            refine pure_ (i := 10) (N := some 65) (v := ?_) (a' := ?_) #[true, true, true, true, true, true, false, true, true, true, true, false, false, false, false, false, false, false] rfl rfl (by kernel_rfl) (fun _ _ _ h => h) (Or.inl ⟨by rfl, ?_⟩) ?_ ?_
            rotate_left
            · intro w'
              go_simp
              with_reducible rfl
            rotate_left
            · simp only [Act.put, List.setIfInBounds_toArray, List.set_cons_zero, List.set_cons_succ, i64_w, i32_w]
              rfl
            refine take_ (i := 6) (N := some 61) (v := ?_) (a' := ?_) #[true, true, true, true, true, true, true, true, true, true, true, false, false, false, false, false, false, false] rfl rfl (by kernel_rfl) (fun _ _ _ h => h) (Or.inl ⟨by rfl, ?_⟩) hHeld ?_ ?_
            rotate_left
            · rintro w' ⟨s0, s1⟩
              go_simp
              with_reducible rfl
            rotate_left
            · simp only [Act.put, List.setIfInBounds_toArray, List.set_cons_zero, List.set_cons_succ, i64_w, i32_w]
              rfl
            refine take_ (i := 11) (N := some 66) (v := ?_) (a' := ?_) #[true, true, true, true, true, true, true, true, true, true, true, true, false, false, false, false, false, false] rfl rfl (by kernel_rfl) (fun _ _ _ h => h) (Or.inl ⟨by rfl, ?_⟩) hHeld ?_ ?_
            rotate_left
            · rintro w' ⟨s0, s1⟩
              go_simp
              with_reducible rfl
            rotate_left
            · simp only [Act.put, List.setIfInBounds_toArray, List.set_cons_zero, List.set_cons_succ, i64_w, i32_w]
              rfl
            refine one_ (i := 12) (N := some 67) #[true, true, true, true, true, true, true, true, true, true, true, true, true, false, false, false, false, false] rfl rfl (by kernel_rfl) (by decide) (fun K hK => ?_)
            refine goes_ Try.func42 (by kernel_rfl) rfl #[.slice A7 (stH (HvOf (firstD D i) v)).length c7, .string (⟨#[107]⟩ : ByteArray), .int .i64 3, .int .i64 zI, .int .i64 dn] (by rfl) rfl rfl (by simp only [List.map_toArray, List.map_cons, List.map_nil]; rfl) ?_
            with_reducible refine (escrow_Move.calls A7 c7 (stH (HvOf (firstD D i) v)) (⟨#[107]⟩ : ByteArray) 3 zI dn (stH (mvR (HvOf (firstD D i) v) 3 zI dn)) 0 _ (Kd.C_drew (Kd.R_reads' HVl9.out).2.2) hc7 HMV.out).mono ?_
            rintro e wm ⟨vm, rfl, hRm, hbm⟩
            refine ⟨_, rfl, ?_⟩
            have HBm := Aside0.mk (below_step (below_drew HB9.out) hbm)
            have HVm := Aside0.mk (Kd.R_lower hRm (below_size (below_drew HB9.out)))
            have BKm := Aside0.mk (blk_below (blk_drew BKc9.out) hbm)
            obtain ⟨_, hm2, hm3⟩ := HCELL.out _ HBm.out
            rw [hzI] at hm2
            refine hK.out _ _ ⟨hm2, hm3⟩ (fun hHeld => ?_)
            clear hK K
            refine norm_ (a' := ?_) ?_ ?_
            rotate_left
            · show Act.put _ (some 67) _ = _
              simp only [Act.put, List.setIfInBounds_toArray, List.set_cons_zero, List.set_cons_succ, i64_w, i32_w]
              rfl
            refine pure_ (i := 13) (N := some 54) (v := ?_) (a' := ?_) #[true, true, true, true, true, true, true, true, true, true, true, true, true, true, false, false, false, false] rfl rfl (by kernel_rfl) (fun _ _ _ h => h) (Or.inl ⟨by rfl, ?_⟩) ?_ ?_
            rotate_left
            · intro w'
              go_simp
              with_reducible rfl
            rotate_left
            · simp only [Act.put, List.setIfInBounds_toArray, List.set_cons_zero, List.set_cons_succ, i64_w, i32_w]
              rfl
            refine pure_ (i := 14) (N := some 68) (v := ?_) (a' := ?_) #[true, true, true, true, true, true, true, true, true, true, true, true, true, true, true, false, false, false] rfl rfl (by kernel_rfl) (fun _ _ _ h => h) (Or.inl ⟨by rfl, ?_⟩) ?_ ?_
            rotate_left
            · intro w'
              go_simp
              with_reducible rfl
            rotate_left
            · simp only [Act.put, List.setIfInBounds_toArray, List.set_cons_zero, List.set_cons_succ, i64_w, i32_w]
              rfl
            refine pure_ (i := 15) (N := some 69) (v := ?_) (a' := ?_) #[true, true, true, true, true, true, true, true, true, true, true, true, true, true, true, true, false, false] rfl rfl (by kernel_rfl) (fun _ _ _ h => h) (Or.inl ⟨by rfl, ?_⟩) ?_ ?_
            rotate_left
            · intro w'
              go_simp
              with_reducible rfl
            rotate_left
            · simp only [Act.put, List.setIfInBounds_toArray, List.set_cons_zero, List.set_cons_succ, i64_w, i32_w]
              rfl
            refine pure_ (i := 16) (N := some 11) (v := ?_) (a' := ?_) #[true, true, true, true, true, true, true, true, true, true, true, true, true, true, true, true, true, false] rfl rfl (by kernel_rfl) (fun _ _ _ h => h) (Or.inl ⟨by rfl, ?_⟩) ?_ ?_
            rotate_left
            · intro w'
              go_simp
              with_reducible rfl
            rotate_left
            · simp only [Act.put, List.setIfInBounds_toArray, List.set_cons_zero, List.set_cons_succ, i64_w, i32_w]
              rfl
            refine pure_ (i := 17) (N := some 12) (v := ?_) (a' := ?_) #[true, true, true, true, true, true, true, true, true, true, true, true, true, true, true, true, true, true] rfl rfl (by kernel_rfl) (fun _ _ _ h => h) (Or.inl ⟨by rfl, ?_⟩) ?_ ?_
            rotate_left
            · intro w'
              go_simp
              with_reducible rfl
            rotate_left
            · simp only [Act.put, List.setIfInBounds_toArray, List.set_cons_zero, List.set_cons_succ, i64_w, i32_w]
              rfl
            refine done_ (by kernel_rfl) ?_
            obtain ⟨Am, cm, rfl, hcm, _⟩ := Kd.R_reads HVm.out
            go_wp2_with fail
            go_roundw
            case rel => exact ⟨i + 1, y0, y1, y2, y3 + 1, y4, y5, rfl, by omega, ⟨⟨by rw [HP.out, cnt_ne (show (3 : Nat) ≠ 0 by decide)]; exact HY.out.1, by rw [HP.out, cnt_ne (show (3 : Nat) ≠ 1 by decide)]; exact HY.out.2.1, by rw [HP.out, cnt_ne (show (3 : Nat) ≠ 2 by decide)]; exact HY.out.2.2.1, by rw [HP.out, cnt_eq (show (3 : Nat) = 3 from rfl)]; have := HY.out.2.2.2.1; omega, by rw [HP.out, cnt_ne (show (3 : Nat) ≠ 4 by decide)]; exact HY.out.2.2.2.2.1, by rw [HP.out, cnt_ne (show (3 : Nat) ≠ 5 by decide)]; exact HY.out.2.2.2.2.2⟩⟩, BKm, ⟨HST.out ▸ HVm.out⟩, HBm⟩
            case measure => simp only [intV]; omega
        · have hdec : decide (q3 < y3 + 1) = true := by simp; omega
          have hst : stH (HvOf (firstD D (i + 1)) v) = stH (HvOf (firstD D i) v) := by
            rw [HP.out, hv_no (by have := HYJ.out; have := HQJ.out; show ¬ cntD (firstD D i) 3 + 1 ≤ v 3; omega)]
          have HST := Aside0.mk hst
          clear hst
          go_quiet (fail)
          go_wp2_with fail
          go_roundw
          case rel => exact ⟨i + 1, y0, y1, y2, y3 + 1, y4, y5, rfl, by omega, ⟨⟨by rw [HP.out, cnt_ne (show (3 : Nat) ≠ 0 by decide)]; exact HY.out.1, by rw [HP.out, cnt_ne (show (3 : Nat) ≠ 1 by decide)]; exact HY.out.2.1, by rw [HP.out, cnt_ne (show (3 : Nat) ≠ 2 by decide)]; exact HY.out.2.2.1, by rw [HP.out, cnt_eq (show (3 : Nat) = 3 from rfl)]; have := HY.out.2.2.2.1; omega, by rw [HP.out, cnt_ne (show (3 : Nat) ≠ 4 by decide)]; exact HY.out.2.2.2.2.1, by rw [HP.out, cnt_ne (show (3 : Nat) ≠ 5 by decide)]; exact HY.out.2.2.2.2.2⟩⟩, ⟨blk_drewN BKc7.out _⟩, ⟨by rw [HST.out]; exact Kd.R_drewN HV7.out _⟩, ⟨pw_below_drewN HB7.out _⟩⟩
          case measure => simp only [intV]; omega
      · obtain ⟨hx1, hx4, hx5⟩ := HCELL.out _ HB.out
        have hca : wr.cell? ⟨w3.heap.size, 4, none⟩ = some (.int .i64 y4) := (blk_cell BKc.out 4).trans rfl
        have hfz := blk_frozen BKc.out 4
        have hyj : y4 = ((cntD (firstD D i) 4 : Nat) : Int) := HY.out.2.2.2.2.1
        have hqj : q4 = ((v 4 : Nat) : Int) := HQ.out.2.2.2.2.1
        have hcj := HCL.out 4
        have hy0 : 0 ≤ y4 := by omega
        have hy1 : y4 ≤ 24 := by omega
        have HYJ := Aside0.mk hyj
        have HQJ := Aside0.mk hqj
        clear hyj hqj hcj
        go_wp2
        generalize hw7 : wr.setCell ⟨w3.heap.size, 4, none⟩ (.int .i64 (y4 + 1)) = w7
        have BKc7 : Aside0 (w7.heap[w3.heap.size]? = some (.cells #[.int .i64 y0, .int .i64 y1, .int .i64 y2, .int .i64 y3, .int .i64 (y4 + 1), .int .i64 y5] 74 (0, 0))) := ⟨by rw [← hw7]; exact blk_put BKc.out 4 _ rfl⟩
        have HV7 : Aside0 (Kd.R k94 94 w7 w1.heap.size (fun _ => True) (.slice A7 (stH (HvOf (firstD D i) v)).length c7) (stH (HvOf (firstD D i) v))) := ⟨by rw [← hw7]; exact Kd.R_set HV.out BKc.out (by decide) 4 _⟩
        have HB7 : Aside0 (Below w1.heap.size w1 w7) := ⟨by rw [← hw7]; exact below_set HB.out hge⟩
        clear hx1 hx4 hx5 hca hfz hw7 BKc HV HB
        obtain ⟨hx1, hx4, hx5⟩ := HCELL.out _ HB7.out
        obtain ⟨hk0, hk1, hk2, hk3, hk4, hk5⟩ := HBOX.out _ HB7.out
        have hc7j : w7.cell? ⟨w3.heap.size, 4, none⟩ = some (.int .i64 (y4 + 1)) := (blk_cell BKc7.out 4).trans rfl
        by_cases hkn : y4 + 1 ≤ q4
        · have hdec : decide (q4 < y4 + 1) = false := by simp; omega
          have hknow : cntD (firstD D i) 4 + 1 ≤ v 4 := by have := HYJ.out; have := HQJ.out; omega
          have HKN := Aside0.mk hknow
          clear hknow
          go_quiet (fail)
          go_wp2_with fail
          have HUP := Aside0.mk (up_st (HBD.out) (rep := 4) (by decide) hn9a hn9b)
          refine (escrow_Up.calls A7 c7 (stH (HvOf (firstD D i) v)) kk 4 dn (stH (upR (HvOf (firstD D i) v) 4 dn)) 0 _ (Kd.R_reads' (Kd.R_drewN HV7.out _)).2.2 hc7 HUP.out).mono ?_
          rintro e w9 ⟨v11, rfl, hR9, hb9⟩
          have HB9 := Aside0.mk (below_step (pw_below_drewN HB7.out _) hb9)
          have HV9 := Aside0.mk (Kd.R_lower hR9 (below_size (pw_below_drewN HB7.out _)))
          have HVl9 := Aside0.mk (Kd.R_below (Kd.R_drewN HV7.out _) hb9)
          have BKc9 := Aside0.mk (blk_below (blk_drewN BKc7.out _) hb9)
          clear hx1 hx4 hx5 hk0 hk1 hk2 hk3 hk4 hk5 hc7j hR9 hb9
          obtain ⟨hx1, hx4, hx5⟩ := HCELL.out _ HB9.out
          by_cases hz0 : z = 0
          · subst hz0
            have hst : stH (HvOf (firstD D (i + 1)) v) = stH (upR (HvOf (firstD D i) v) 4 dn) := by
              rw [HP.out, hv_up HOK.out HKN.out rfl]; rfl
            have HST := Aside0.mk hst
            clear hst
            obtain ⟨A11, c11, rfl, hc11, _⟩ := Kd.R_reads HV9.out
            have hx4' : w9.cell? ⟨(ad0.add (i * 4)).block, (ad0.add (i * 4)).off + 2, none⟩ = some (.int .i64 0) := hx4
            clear hx4
            go_wp2_with fail
            go_roundw
            case rel => exact ⟨i + 1, y0, y1, y2, y3, y4 + 1, y5, rfl, by omega, ⟨⟨by rw [HP.out, cnt_ne (show (4 : Nat) ≠ 0 by decide)]; exact HY.out.1, by rw [HP.out, cnt_ne (show (4 : Nat) ≠ 1 by decide)]; exact HY.out.2.1, by rw [HP.out, cnt_ne (show (4 : Nat) ≠ 2 by decide)]; exact HY.out.2.2.1, by rw [HP.out, cnt_ne (show (4 : Nat) ≠ 3 by decide)]; exact HY.out.2.2.2.1, by rw [HP.out, cnt_eq (show (4 : Nat) = 4 from rfl)]; have := HY.out.2.2.2.2.1; omega, by rw [HP.out, cnt_ne (show (4 : Nat) ≠ 5 by decide)]; exact HY.out.2.2.2.2.2⟩⟩, BKc9, ⟨HST.out ▸ HV9.out⟩, HB9⟩
            case measure => simp only [intV]; omega
          · have hst : stH (HvOf (firstD D (i + 1)) v) = stH (mvR (HvOf (firstD D i) v) 4 (z : Int) dn) := by
              rw [HP.out, hv_mv HOK.out HKN.out (Nat.pos_of_ne_zero hz0)]; rfl
            have hmv : escrow_Move.f (stH (HvOf (firstD D i) v)) (⟨#[107]⟩ : ByteArray) 4 (z : Int) dn = some (stH (mvR (HvOf (firstD D i) v) 4 (z : Int) dn), 0) := mv_st HBD.out (rep := 4) (tp := (z : Int)) (n := dn) (by decide) ((repOk_iff _).2 (by omega)) (hn1 (by omega)) hn9b
            obtain ⟨zI, hzI⟩ : ∃ zI : Int, (z : Int) = zI := ⟨_, rfl⟩
            have hzp : decide ((0 : Int) < zI) = true := by simp; omega
            rw [hzI] at hst hmv hx4
            have HST := Aside0.mk hst
            have HMV := Aside0.mk hmv
            clear hst hmv
            go_wp2_with fail
            refine start_ (n := 18) (S := fun w' => w'.cell? ⟨(ad0.add (i * 4)).block, (ad0.add (i * 4)).off + 2, none⟩ = some (.int .i64 zI) ∧ w'.cell? ⟨(ad0.add (i * 4)).block, (ad0.add (i * 4)).off + 3, none⟩ = some (.int .i64 dn)) (ds := []) #[false, false, false, false, false, false, false, false, false, false, false, false, false, false, false, false, false, false] (by kernel_rfl) rfl rfl ⟨hx4, hx5⟩ (fun hHeld => ?_)
            refine pure_ (i := 0) (N := some 55) (v := ?_) (a' := ?_) #[true, false, false, false, false, false, false, false, false, false, false, false, false, false, false, false, false, false] rfl rfl (by kernel_rfl) (fun _ _ _ h => h) (Or.inl ⟨by rfl, ?_⟩) ?_ ?_
            rotate_left
            · intro w'
              go_simp
              with_reducible rfl
            rotate_left
            · simp only [Act.put, List.setIfInBounds_toArray, List.set_cons_zero, List.set_cons_succ, i64_w, i32_w]
              rfl
            refine pure_ (i := 1) (N := some 56) (v := ?_) (a' := ?_) #[true, true, false, false, false, false, false, false, false, false, false, false, false, false, false, false, false, false] rfl rfl (by kernel_rfl) (fun _ _ _ h => h) (Or.inl ⟨by rfl, ?_⟩) ?_ ?_
            rotate_left
            · intro w'
              go_simp
              with_reducible rfl
            rotate_left
            · simp only [Act.put, List.setIfInBounds_toArray, List.set_cons_zero, List.set_cons_succ, i64_w, i32_w]
              rfl
            refine pure_ (i := 2) (N := some 57) (v := ?_) (a' := ?_) #[true, true, true, false, false, false, false, false, false, false, false, false, false, false, false, false, false, false] rfl rfl (by kernel_rfl) (fun _ _ _ h => h) (Or.inl ⟨by rfl, ?_⟩) ?_ ?_
            rotate_left
            · intro w'
              go_simp
              with_reducible rfl
            rotate_left
            · simp only [Act.put, List.setIfInBounds_toArray, List.set_cons_zero, List.set_cons_succ, i64_w, i32_w]
              rfl
            refine pure_ (i := 3) (N := some 58) (v := ?_) (a' := ?_) #[true, true, true, true, false, false, false, false, false, false, false, false, false, false, false, false, false, false] rfl rfl (by kernel_rfl) (fun _ _ _ h => h) (Or.inl ⟨by rfl, ?_⟩) ?_ ?_
            rotate_left
            · intro w'
              go_simp
              with_reducible rfl
            rotate_left
            · simp only [Act.put, List.setIfInBounds_toArray, List.set_cons_zero, List.set_cons_succ, i64_w, i32_w]
              rfl
            refine pure_ (i := 4) (N := some 59) (v := ?_) (a' := ?_) #[true, true, true, true, true, false, false, false, false, false, false, false, false, false, false, false, false, false] rfl rfl (by kernel_rfl) (fun _ _ _ h => h) (Or.inl ⟨by rfl, ?_⟩) ?_ ?_
            rotate_left
            · intro w'
              go_simp
              with_reducible rfl
            rotate_left
            · simp only [Act.put, List.setIfInBounds_toArray, List.set_cons_zero, List.set_cons_succ, i64_w, i32_w]
              rfl
            refine pure_ (i := 5) (N := some 60) (v := ?_) (a' := ?_) #[true, true, true, true, true, true, false, false, false, false, false, false, false, false, false, false, false, false] rfl rfl (by kernel_rfl) (fun _ _ _ h => h) (Or.inl ⟨by rfl, ?_⟩) ?_ ?_
            rotate_left
            · intro w'
              go_simp
              with_reducible rfl
            rotate_left
            · simp only [Act.put, List.setIfInBounds_toArray, List.set_cons_zero, List.set_cons_succ, i64_w, i32_w]
              rfl
            refine pure_ (i := 7) (N := some 62) (v := ?_) (a' := ?_) #[true, true, true, true, true, true, false, true, false, false, false, false, false, false, false, false, false, false] rfl rfl (by kernel_rfl) (fun _ _ _ h => h) (Or.inl ⟨by rfl, ?_⟩) ?_ ?_
            rotate_left
            · intro w'
              go_simp
              with_reducible rfl
            rotate_left
            · simp only [Act.put, List.setIfInBounds_toArray, List.set_cons_zero, List.set_cons_succ, i64_w, i32_w]
              rfl
            refine pure_ (i := 8) (N := some 63) (v := ?_) (a' := ?_) #[true, true, true, true, true, true, false, true, true, false, false, false, false, false, false, false, false, false] rfl rfl (by kernel_rfl) (fun _ _ _ h => h) (Or.inl ⟨by rfl, ?_⟩) ?_ ?_
            rotate_left
            · intro w'
              go_simp
              with_reducible rfl
            rotate_left
            · simp only [Act.put, List.setIfInBounds_toArray, List.set_cons_zero, List.set_cons_succ, i64_w, i32_w]
              rfl
            refine pure_ (i := 9) (N := some 64) (v := ?_) (a' := ?_) #[true, true, true, true, true, true, false, true, true, true, false, false, false, false, false, false, false, false] rfl rfl (by kernel_rfl) (fun _ _ _ h => h) (Or.inl ⟨by rfl, ?_⟩) ?_ ?_
            rotate_left
            · intro w'
              go_simp
              with_reducible rfl
            rotate_left
            · simp only [Act.put, List.setIfInBounds_toArray, List.set_cons_zero, List.set_cons_succ, i64_w, i32_w]
              rfl
            refine pure_ (i := 10) (N := some 65) (v := ?_) (a' := ?_) #[true, true, true, true, true, true, false, true, true, true, true, false, false, false, false, false, false, false] rfl rfl (by kernel_rfl) (fun _ _ _ h => h) (Or.inl ⟨by rfl, ?_⟩) ?_ ?_
            rotate_left
            · intro w'
              go_simp
              with_reducible rfl
            rotate_left
            · simp only [Act.put, List.setIfInBounds_toArray, List.set_cons_zero, List.set_cons_succ, i64_w, i32_w]
              rfl
            refine take_ (i := 6) (N := some 61) (v := ?_) (a' := ?_) #[true, true, true, true, true, true, true, true, true, true, true, false, false, false, false, false, false, false] rfl rfl (by kernel_rfl) (fun _ _ _ h => h) (Or.inl ⟨by rfl, ?_⟩) hHeld ?_ ?_
            rotate_left
            · rintro w' ⟨s0, s1⟩
              go_simp
              with_reducible rfl
            rotate_left
            · simp only [Act.put, List.setIfInBounds_toArray, List.set_cons_zero, List.set_cons_succ, i64_w, i32_w]
              rfl
            refine take_ (i := 11) (N := some 66) (v := ?_) (a' := ?_) #[true, true, true, true, true, true, true, true, true, true, true, true, false, false, false, false, false, false] rfl rfl (by kernel_rfl) (fun _ _ _ h => h) (Or.inl ⟨by rfl, ?_⟩) hHeld ?_ ?_
            rotate_left
            · rintro w' ⟨s0, s1⟩
              go_simp
              with_reducible rfl
            rotate_left
            · simp only [Act.put, List.setIfInBounds_toArray, List.set_cons_zero, List.set_cons_succ, i64_w, i32_w]
              rfl
            refine one_ (i := 12) (N := some 67) #[true, true, true, true, true, true, true, true, true, true, true, true, true, false, false, false, false, false] rfl rfl (by kernel_rfl) (by decide) (fun K hK => ?_)
            refine goes_ Try.func42 (by kernel_rfl) rfl #[.slice A7 (stH (HvOf (firstD D i) v)).length c7, .string (⟨#[107]⟩ : ByteArray), .int .i64 4, .int .i64 zI, .int .i64 dn] (by rfl) rfl rfl (by simp only [List.map_toArray, List.map_cons, List.map_nil]; rfl) ?_
            with_reducible refine (escrow_Move.calls A7 c7 (stH (HvOf (firstD D i) v)) (⟨#[107]⟩ : ByteArray) 4 zI dn (stH (mvR (HvOf (firstD D i) v) 4 zI dn)) 0 _ (Kd.C_drew (Kd.R_reads' HVl9.out).2.2) hc7 HMV.out).mono ?_
            rintro e wm ⟨vm, rfl, hRm, hbm⟩
            refine ⟨_, rfl, ?_⟩
            have HBm := Aside0.mk (below_step (below_drew HB9.out) hbm)
            have HVm := Aside0.mk (Kd.R_lower hRm (below_size (below_drew HB9.out)))
            have BKm := Aside0.mk (blk_below (blk_drew BKc9.out) hbm)
            obtain ⟨_, hm2, hm3⟩ := HCELL.out _ HBm.out
            rw [hzI] at hm2
            refine hK.out _ _ ⟨hm2, hm3⟩ (fun hHeld => ?_)
            clear hK K
            refine norm_ (a' := ?_) ?_ ?_
            rotate_left
            · show Act.put _ (some 67) _ = _
              simp only [Act.put, List.setIfInBounds_toArray, List.set_cons_zero, List.set_cons_succ, i64_w, i32_w]
              rfl
            refine pure_ (i := 13) (N := some 54) (v := ?_) (a' := ?_) #[true, true, true, true, true, true, true, true, true, true, true, true, true, true, false, false, false, false] rfl rfl (by kernel_rfl) (fun _ _ _ h => h) (Or.inl ⟨by rfl, ?_⟩) ?_ ?_
            rotate_left
            · intro w'
              go_simp
              with_reducible rfl
            rotate_left
            · simp only [Act.put, List.setIfInBounds_toArray, List.set_cons_zero, List.set_cons_succ, i64_w, i32_w]
              rfl
            refine pure_ (i := 14) (N := some 68) (v := ?_) (a' := ?_) #[true, true, true, true, true, true, true, true, true, true, true, true, true, true, true, false, false, false] rfl rfl (by kernel_rfl) (fun _ _ _ h => h) (Or.inl ⟨by rfl, ?_⟩) ?_ ?_
            rotate_left
            · intro w'
              go_simp
              with_reducible rfl
            rotate_left
            · simp only [Act.put, List.setIfInBounds_toArray, List.set_cons_zero, List.set_cons_succ, i64_w, i32_w]
              rfl
            refine pure_ (i := 15) (N := some 69) (v := ?_) (a' := ?_) #[true, true, true, true, true, true, true, true, true, true, true, true, true, true, true, true, false, false] rfl rfl (by kernel_rfl) (fun _ _ _ h => h) (Or.inl ⟨by rfl, ?_⟩) ?_ ?_
            rotate_left
            · intro w'
              go_simp
              with_reducible rfl
            rotate_left
            · simp only [Act.put, List.setIfInBounds_toArray, List.set_cons_zero, List.set_cons_succ, i64_w, i32_w]
              rfl
            refine pure_ (i := 16) (N := some 11) (v := ?_) (a' := ?_) #[true, true, true, true, true, true, true, true, true, true, true, true, true, true, true, true, true, false] rfl rfl (by kernel_rfl) (fun _ _ _ h => h) (Or.inl ⟨by rfl, ?_⟩) ?_ ?_
            rotate_left
            · intro w'
              go_simp
              with_reducible rfl
            rotate_left
            · simp only [Act.put, List.setIfInBounds_toArray, List.set_cons_zero, List.set_cons_succ, i64_w, i32_w]
              rfl
            refine pure_ (i := 17) (N := some 12) (v := ?_) (a' := ?_) #[true, true, true, true, true, true, true, true, true, true, true, true, true, true, true, true, true, true] rfl rfl (by kernel_rfl) (fun _ _ _ h => h) (Or.inl ⟨by rfl, ?_⟩) ?_ ?_
            rotate_left
            · intro w'
              go_simp
              with_reducible rfl
            rotate_left
            · simp only [Act.put, List.setIfInBounds_toArray, List.set_cons_zero, List.set_cons_succ, i64_w, i32_w]
              rfl
            refine done_ (by kernel_rfl) ?_
            obtain ⟨Am, cm, rfl, hcm, _⟩ := Kd.R_reads HVm.out
            go_wp2_with fail
            go_roundw
            case rel => exact ⟨i + 1, y0, y1, y2, y3, y4 + 1, y5, rfl, by omega, ⟨⟨by rw [HP.out, cnt_ne (show (4 : Nat) ≠ 0 by decide)]; exact HY.out.1, by rw [HP.out, cnt_ne (show (4 : Nat) ≠ 1 by decide)]; exact HY.out.2.1, by rw [HP.out, cnt_ne (show (4 : Nat) ≠ 2 by decide)]; exact HY.out.2.2.1, by rw [HP.out, cnt_ne (show (4 : Nat) ≠ 3 by decide)]; exact HY.out.2.2.2.1, by rw [HP.out, cnt_eq (show (4 : Nat) = 4 from rfl)]; have := HY.out.2.2.2.2.1; omega, by rw [HP.out, cnt_ne (show (4 : Nat) ≠ 5 by decide)]; exact HY.out.2.2.2.2.2⟩⟩, BKm, ⟨HST.out ▸ HVm.out⟩, HBm⟩
            case measure => simp only [intV]; omega
        · have hdec : decide (q4 < y4 + 1) = true := by simp; omega
          have hst : stH (HvOf (firstD D (i + 1)) v) = stH (HvOf (firstD D i) v) := by
            rw [HP.out, hv_no (by have := HYJ.out; have := HQJ.out; show ¬ cntD (firstD D i) 4 + 1 ≤ v 4; omega)]
          have HST := Aside0.mk hst
          clear hst
          go_quiet (fail)
          go_wp2_with fail
          go_roundw
          case rel => exact ⟨i + 1, y0, y1, y2, y3, y4 + 1, y5, rfl, by omega, ⟨⟨by rw [HP.out, cnt_ne (show (4 : Nat) ≠ 0 by decide)]; exact HY.out.1, by rw [HP.out, cnt_ne (show (4 : Nat) ≠ 1 by decide)]; exact HY.out.2.1, by rw [HP.out, cnt_ne (show (4 : Nat) ≠ 2 by decide)]; exact HY.out.2.2.1, by rw [HP.out, cnt_ne (show (4 : Nat) ≠ 3 by decide)]; exact HY.out.2.2.2.1, by rw [HP.out, cnt_eq (show (4 : Nat) = 4 from rfl)]; have := HY.out.2.2.2.2.1; omega, by rw [HP.out, cnt_ne (show (4 : Nat) ≠ 5 by decide)]; exact HY.out.2.2.2.2.2⟩⟩, ⟨blk_drewN BKc7.out _⟩, ⟨by rw [HST.out]; exact Kd.R_drewN HV7.out _⟩, ⟨pw_below_drewN HB7.out _⟩⟩
          case measure => simp only [intV]; omega
      · obtain ⟨hx1, hx4, hx5⟩ := HCELL.out _ HB.out
        have hca : wr.cell? ⟨w3.heap.size, 5, none⟩ = some (.int .i64 y5) := (blk_cell BKc.out 5).trans rfl
        have hfz := blk_frozen BKc.out 5
        have hyj : y5 = ((cntD (firstD D i) 5 : Nat) : Int) := HY.out.2.2.2.2.2
        have hqj : q5 = ((v 5 : Nat) : Int) := HQ.out.2.2.2.2.2
        have hcj := HCL.out 5
        have hy0 : 0 ≤ y5 := by omega
        have hy1 : y5 ≤ 24 := by omega
        have HYJ := Aside0.mk hyj
        have HQJ := Aside0.mk hqj
        clear hyj hqj hcj
        go_wp2
        generalize hw7 : wr.setCell ⟨w3.heap.size, 5, none⟩ (.int .i64 (y5 + 1)) = w7
        have BKc7 : Aside0 (w7.heap[w3.heap.size]? = some (.cells #[.int .i64 y0, .int .i64 y1, .int .i64 y2, .int .i64 y3, .int .i64 y4, .int .i64 (y5 + 1)] 74 (0, 0))) := ⟨by rw [← hw7]; exact blk_put BKc.out 5 _ rfl⟩
        have HV7 : Aside0 (Kd.R k94 94 w7 w1.heap.size (fun _ => True) (.slice A7 (stH (HvOf (firstD D i) v)).length c7) (stH (HvOf (firstD D i) v))) := ⟨by rw [← hw7]; exact Kd.R_set HV.out BKc.out (by decide) 5 _⟩
        have HB7 : Aside0 (Below w1.heap.size w1 w7) := ⟨by rw [← hw7]; exact below_set HB.out hge⟩
        clear hx1 hx4 hx5 hca hfz hw7 BKc HV HB
        obtain ⟨hx1, hx4, hx5⟩ := HCELL.out _ HB7.out
        obtain ⟨hk0, hk1, hk2, hk3, hk4, hk5⟩ := HBOX.out _ HB7.out
        have hc7j : w7.cell? ⟨w3.heap.size, 5, none⟩ = some (.int .i64 (y5 + 1)) := (blk_cell BKc7.out 5).trans rfl
        by_cases hkn : y5 + 1 ≤ q5
        · have hdec : decide (q5 < y5 + 1) = false := by simp; omega
          have hknow : cntD (firstD D i) 5 + 1 ≤ v 5 := by have := HYJ.out; have := HQJ.out; omega
          have HKN := Aside0.mk hknow
          clear hknow
          go_quiet (fail)
          go_wp2_with fail
          have HUP := Aside0.mk (up_st (HBD.out) (rep := 5) (by decide) hn9a hn9b)
          refine (escrow_Up.calls A7 c7 (stH (HvOf (firstD D i) v)) kk 5 dn (stH (upR (HvOf (firstD D i) v) 5 dn)) 0 _ (Kd.R_reads' (Kd.R_drewN HV7.out _)).2.2 hc7 HUP.out).mono ?_
          rintro e w9 ⟨v11, rfl, hR9, hb9⟩
          have HB9 := Aside0.mk (below_step (pw_below_drewN HB7.out _) hb9)
          have HV9 := Aside0.mk (Kd.R_lower hR9 (below_size (pw_below_drewN HB7.out _)))
          have HVl9 := Aside0.mk (Kd.R_below (Kd.R_drewN HV7.out _) hb9)
          have BKc9 := Aside0.mk (blk_below (blk_drewN BKc7.out _) hb9)
          clear hx1 hx4 hx5 hk0 hk1 hk2 hk3 hk4 hk5 hc7j hR9 hb9
          obtain ⟨hx1, hx4, hx5⟩ := HCELL.out _ HB9.out
          by_cases hz0 : z = 0
          · subst hz0
            have hst : stH (HvOf (firstD D (i + 1)) v) = stH (upR (HvOf (firstD D i) v) 5 dn) := by
              rw [HP.out, hv_up HOK.out HKN.out rfl]; rfl
            have HST := Aside0.mk hst
            clear hst
            obtain ⟨A11, c11, rfl, hc11, _⟩ := Kd.R_reads HV9.out
            have hx4' : w9.cell? ⟨(ad0.add (i * 4)).block, (ad0.add (i * 4)).off + 2, none⟩ = some (.int .i64 0) := hx4
            clear hx4
            go_wp2_with fail
            go_roundw
            case rel => exact ⟨i + 1, y0, y1, y2, y3, y4, y5 + 1, rfl, by omega, ⟨⟨by rw [HP.out, cnt_ne (show (5 : Nat) ≠ 0 by decide)]; exact HY.out.1, by rw [HP.out, cnt_ne (show (5 : Nat) ≠ 1 by decide)]; exact HY.out.2.1, by rw [HP.out, cnt_ne (show (5 : Nat) ≠ 2 by decide)]; exact HY.out.2.2.1, by rw [HP.out, cnt_ne (show (5 : Nat) ≠ 3 by decide)]; exact HY.out.2.2.2.1, by rw [HP.out, cnt_ne (show (5 : Nat) ≠ 4 by decide)]; exact HY.out.2.2.2.2.1, by rw [HP.out, cnt_eq (show (5 : Nat) = 5 from rfl)]; have := HY.out.2.2.2.2.2; omega⟩⟩, BKc9, ⟨HST.out ▸ HV9.out⟩, HB9⟩
            case measure => simp only [intV]; omega
          · have hst : stH (HvOf (firstD D (i + 1)) v) = stH (mvR (HvOf (firstD D i) v) 5 (z : Int) dn) := by
              rw [HP.out, hv_mv HOK.out HKN.out (Nat.pos_of_ne_zero hz0)]; rfl
            have hmv : escrow_Move.f (stH (HvOf (firstD D i) v)) (⟨#[107]⟩ : ByteArray) 5 (z : Int) dn = some (stH (mvR (HvOf (firstD D i) v) 5 (z : Int) dn), 0) := mv_st HBD.out (rep := 5) (tp := (z : Int)) (n := dn) (by decide) ((repOk_iff _).2 (by omega)) (hn1 (by omega)) hn9b
            obtain ⟨zI, hzI⟩ : ∃ zI : Int, (z : Int) = zI := ⟨_, rfl⟩
            have hzp : decide ((0 : Int) < zI) = true := by simp; omega
            rw [hzI] at hst hmv hx4
            have HST := Aside0.mk hst
            have HMV := Aside0.mk hmv
            clear hst hmv
            go_wp2_with fail
            refine start_ (n := 18) (S := fun w' => w'.cell? ⟨(ad0.add (i * 4)).block, (ad0.add (i * 4)).off + 2, none⟩ = some (.int .i64 zI) ∧ w'.cell? ⟨(ad0.add (i * 4)).block, (ad0.add (i * 4)).off + 3, none⟩ = some (.int .i64 dn)) (ds := []) #[false, false, false, false, false, false, false, false, false, false, false, false, false, false, false, false, false, false] (by kernel_rfl) rfl rfl ⟨hx4, hx5⟩ (fun hHeld => ?_)
            refine pure_ (i := 0) (N := some 55) (v := ?_) (a' := ?_) #[true, false, false, false, false, false, false, false, false, false, false, false, false, false, false, false, false, false] rfl rfl (by kernel_rfl) (fun _ _ _ h => h) (Or.inl ⟨by rfl, ?_⟩) ?_ ?_
            rotate_left
            · intro w'
              go_simp
              with_reducible rfl
            rotate_left
            · simp only [Act.put, List.setIfInBounds_toArray, List.set_cons_zero, List.set_cons_succ, i64_w, i32_w]
              rfl
            refine pure_ (i := 1) (N := some 56) (v := ?_) (a' := ?_) #[true, true, false, false, false, false, false, false, false, false, false, false, false, false, false, false, false, false] rfl rfl (by kernel_rfl) (fun _ _ _ h => h) (Or.inl ⟨by rfl, ?_⟩) ?_ ?_
            rotate_left
            · intro w'
              go_simp
              with_reducible rfl
            rotate_left
            · simp only [Act.put, List.setIfInBounds_toArray, List.set_cons_zero, List.set_cons_succ, i64_w, i32_w]
              rfl
            refine pure_ (i := 2) (N := some 57) (v := ?_) (a' := ?_) #[true, true, true, false, false, false, false, false, false, false, false, false, false, false, false, false, false, false] rfl rfl (by kernel_rfl) (fun _ _ _ h => h) (Or.inl ⟨by rfl, ?_⟩) ?_ ?_
            rotate_left
            · intro w'
              go_simp
              with_reducible rfl
            rotate_left
            · simp only [Act.put, List.setIfInBounds_toArray, List.set_cons_zero, List.set_cons_succ, i64_w, i32_w]
              rfl
            refine pure_ (i := 3) (N := some 58) (v := ?_) (a' := ?_) #[true, true, true, true, false, false, false, false, false, false, false, false, false, false, false, false, false, false] rfl rfl (by kernel_rfl) (fun _ _ _ h => h) (Or.inl ⟨by rfl, ?_⟩) ?_ ?_
            rotate_left
            · intro w'
              go_simp
              with_reducible rfl
            rotate_left
            · simp only [Act.put, List.setIfInBounds_toArray, List.set_cons_zero, List.set_cons_succ, i64_w, i32_w]
              rfl
            refine pure_ (i := 4) (N := some 59) (v := ?_) (a' := ?_) #[true, true, true, true, true, false, false, false, false, false, false, false, false, false, false, false, false, false] rfl rfl (by kernel_rfl) (fun _ _ _ h => h) (Or.inl ⟨by rfl, ?_⟩) ?_ ?_
            rotate_left
            · intro w'
              go_simp
              with_reducible rfl
            rotate_left
            · simp only [Act.put, List.setIfInBounds_toArray, List.set_cons_zero, List.set_cons_succ, i64_w, i32_w]
              rfl
            refine pure_ (i := 5) (N := some 60) (v := ?_) (a' := ?_) #[true, true, true, true, true, true, false, false, false, false, false, false, false, false, false, false, false, false] rfl rfl (by kernel_rfl) (fun _ _ _ h => h) (Or.inl ⟨by rfl, ?_⟩) ?_ ?_
            rotate_left
            · intro w'
              go_simp
              with_reducible rfl
            rotate_left
            · simp only [Act.put, List.setIfInBounds_toArray, List.set_cons_zero, List.set_cons_succ, i64_w, i32_w]
              rfl
            refine pure_ (i := 7) (N := some 62) (v := ?_) (a' := ?_) #[true, true, true, true, true, true, false, true, false, false, false, false, false, false, false, false, false, false] rfl rfl (by kernel_rfl) (fun _ _ _ h => h) (Or.inl ⟨by rfl, ?_⟩) ?_ ?_
            rotate_left
            · intro w'
              go_simp
              with_reducible rfl
            rotate_left
            · simp only [Act.put, List.setIfInBounds_toArray, List.set_cons_zero, List.set_cons_succ, i64_w, i32_w]
              rfl
            refine pure_ (i := 8) (N := some 63) (v := ?_) (a' := ?_) #[true, true, true, true, true, true, false, true, true, false, false, false, false, false, false, false, false, false] rfl rfl (by kernel_rfl) (fun _ _ _ h => h) (Or.inl ⟨by rfl, ?_⟩) ?_ ?_
            rotate_left
            · intro w'
              go_simp
              with_reducible rfl
            rotate_left
            · simp only [Act.put, List.setIfInBounds_toArray, List.set_cons_zero, List.set_cons_succ, i64_w, i32_w]
              rfl
            refine pure_ (i := 9) (N := some 64) (v := ?_) (a' := ?_) #[true, true, true, true, true, true, false, true, true, true, false, false, false, false, false, false, false, false] rfl rfl (by kernel_rfl) (fun _ _ _ h => h) (Or.inl ⟨by rfl, ?_⟩) ?_ ?_
            rotate_left
            · intro w'
              go_simp
              with_reducible rfl
            rotate_left
            · simp only [Act.put, List.setIfInBounds_toArray, List.set_cons_zero, List.set_cons_succ, i64_w, i32_w]
              rfl
            refine pure_ (i := 10) (N := some 65) (v := ?_) (a' := ?_) #[true, true, true, true, true, true, false, true, true, true, true, false, false, false, false, false, false, false] rfl rfl (by kernel_rfl) (fun _ _ _ h => h) (Or.inl ⟨by rfl, ?_⟩) ?_ ?_
            rotate_left
            · intro w'
              go_simp
              with_reducible rfl
            rotate_left
            · simp only [Act.put, List.setIfInBounds_toArray, List.set_cons_zero, List.set_cons_succ, i64_w, i32_w]
              rfl
            refine take_ (i := 6) (N := some 61) (v := ?_) (a' := ?_) #[true, true, true, true, true, true, true, true, true, true, true, false, false, false, false, false, false, false] rfl rfl (by kernel_rfl) (fun _ _ _ h => h) (Or.inl ⟨by rfl, ?_⟩) hHeld ?_ ?_
            rotate_left
            · rintro w' ⟨s0, s1⟩
              go_simp
              with_reducible rfl
            rotate_left
            · simp only [Act.put, List.setIfInBounds_toArray, List.set_cons_zero, List.set_cons_succ, i64_w, i32_w]
              rfl
            refine take_ (i := 11) (N := some 66) (v := ?_) (a' := ?_) #[true, true, true, true, true, true, true, true, true, true, true, true, false, false, false, false, false, false] rfl rfl (by kernel_rfl) (fun _ _ _ h => h) (Or.inl ⟨by rfl, ?_⟩) hHeld ?_ ?_
            rotate_left
            · rintro w' ⟨s0, s1⟩
              go_simp
              with_reducible rfl
            rotate_left
            · simp only [Act.put, List.setIfInBounds_toArray, List.set_cons_zero, List.set_cons_succ, i64_w, i32_w]
              rfl
            refine one_ (i := 12) (N := some 67) #[true, true, true, true, true, true, true, true, true, true, true, true, true, false, false, false, false, false] rfl rfl (by kernel_rfl) (by decide) (fun K hK => ?_)
            refine goes_ Try.func42 (by kernel_rfl) rfl #[.slice A7 (stH (HvOf (firstD D i) v)).length c7, .string (⟨#[107]⟩ : ByteArray), .int .i64 5, .int .i64 zI, .int .i64 dn] (by rfl) rfl rfl (by simp only [List.map_toArray, List.map_cons, List.map_nil]; rfl) ?_
            with_reducible refine (escrow_Move.calls A7 c7 (stH (HvOf (firstD D i) v)) (⟨#[107]⟩ : ByteArray) 5 zI dn (stH (mvR (HvOf (firstD D i) v) 5 zI dn)) 0 _ (Kd.C_drew (Kd.R_reads' HVl9.out).2.2) hc7 HMV.out).mono ?_
            rintro e wm ⟨vm, rfl, hRm, hbm⟩
            refine ⟨_, rfl, ?_⟩
            have HBm := Aside0.mk (below_step (below_drew HB9.out) hbm)
            have HVm := Aside0.mk (Kd.R_lower hRm (below_size (below_drew HB9.out)))
            have BKm := Aside0.mk (blk_below (blk_drew BKc9.out) hbm)
            obtain ⟨_, hm2, hm3⟩ := HCELL.out _ HBm.out
            rw [hzI] at hm2
            refine hK.out _ _ ⟨hm2, hm3⟩ (fun hHeld => ?_)
            clear hK K
            refine norm_ (a' := ?_) ?_ ?_
            rotate_left
            · show Act.put _ (some 67) _ = _
              simp only [Act.put, List.setIfInBounds_toArray, List.set_cons_zero, List.set_cons_succ, i64_w, i32_w]
              rfl
            refine pure_ (i := 13) (N := some 54) (v := ?_) (a' := ?_) #[true, true, true, true, true, true, true, true, true, true, true, true, true, true, false, false, false, false] rfl rfl (by kernel_rfl) (fun _ _ _ h => h) (Or.inl ⟨by rfl, ?_⟩) ?_ ?_
            rotate_left
            · intro w'
              go_simp
              with_reducible rfl
            rotate_left
            · simp only [Act.put, List.setIfInBounds_toArray, List.set_cons_zero, List.set_cons_succ, i64_w, i32_w]
              rfl
            refine pure_ (i := 14) (N := some 68) (v := ?_) (a' := ?_) #[true, true, true, true, true, true, true, true, true, true, true, true, true, true, true, false, false, false] rfl rfl (by kernel_rfl) (fun _ _ _ h => h) (Or.inl ⟨by rfl, ?_⟩) ?_ ?_
            rotate_left
            · intro w'
              go_simp
              with_reducible rfl
            rotate_left
            · simp only [Act.put, List.setIfInBounds_toArray, List.set_cons_zero, List.set_cons_succ, i64_w, i32_w]
              rfl
            refine pure_ (i := 15) (N := some 69) (v := ?_) (a' := ?_) #[true, true, true, true, true, true, true, true, true, true, true, true, true, true, true, true, false, false] rfl rfl (by kernel_rfl) (fun _ _ _ h => h) (Or.inl ⟨by rfl, ?_⟩) ?_ ?_
            rotate_left
            · intro w'
              go_simp
              with_reducible rfl
            rotate_left
            · simp only [Act.put, List.setIfInBounds_toArray, List.set_cons_zero, List.set_cons_succ, i64_w, i32_w]
              rfl
            refine pure_ (i := 16) (N := some 11) (v := ?_) (a' := ?_) #[true, true, true, true, true, true, true, true, true, true, true, true, true, true, true, true, true, false] rfl rfl (by kernel_rfl) (fun _ _ _ h => h) (Or.inl ⟨by rfl, ?_⟩) ?_ ?_
            rotate_left
            · intro w'
              go_simp
              with_reducible rfl
            rotate_left
            · simp only [Act.put, List.setIfInBounds_toArray, List.set_cons_zero, List.set_cons_succ, i64_w, i32_w]
              rfl
            refine pure_ (i := 17) (N := some 12) (v := ?_) (a' := ?_) #[true, true, true, true, true, true, true, true, true, true, true, true, true, true, true, true, true, true] rfl rfl (by kernel_rfl) (fun _ _ _ h => h) (Or.inl ⟨by rfl, ?_⟩) ?_ ?_
            rotate_left
            · intro w'
              go_simp
              with_reducible rfl
            rotate_left
            · simp only [Act.put, List.setIfInBounds_toArray, List.set_cons_zero, List.set_cons_succ, i64_w, i32_w]
              rfl
            refine done_ (by kernel_rfl) ?_
            obtain ⟨Am, cm, rfl, hcm, _⟩ := Kd.R_reads HVm.out
            go_wp2_with fail
            go_roundw
            case rel => exact ⟨i + 1, y0, y1, y2, y3, y4, y5 + 1, rfl, by omega, ⟨⟨by rw [HP.out, cnt_ne (show (5 : Nat) ≠ 0 by decide)]; exact HY.out.1, by rw [HP.out, cnt_ne (show (5 : Nat) ≠ 1 by decide)]; exact HY.out.2.1, by rw [HP.out, cnt_ne (show (5 : Nat) ≠ 2 by decide)]; exact HY.out.2.2.1, by rw [HP.out, cnt_ne (show (5 : Nat) ≠ 3 by decide)]; exact HY.out.2.2.2.1, by rw [HP.out, cnt_ne (show (5 : Nat) ≠ 4 by decide)]; exact HY.out.2.2.2.2.1, by rw [HP.out, cnt_eq (show (5 : Nat) = 5 from rfl)]; have := HY.out.2.2.2.2.2; omega⟩⟩, BKm, ⟨HST.out ▸ HVm.out⟩, HBm⟩
            case measure => simp only [intV]; omega
        · have hdec : decide (q5 < y5 + 1) = true := by simp; omega
          have hst : stH (HvOf (firstD D (i + 1)) v) = stH (HvOf (firstD D i) v) := by
            rw [HP.out, hv_no (by have := HYJ.out; have := HQJ.out; show ¬ cntD (firstD D i) 5 + 1 ≤ v 5; omega)]
          have HST := Aside0.mk hst
          clear hst
          go_quiet (fail)
          go_wp2_with fail
          go_roundw
          case rel => exact ⟨i + 1, y0, y1, y2, y3, y4, y5 + 1, rfl, by omega, ⟨⟨by rw [HP.out, cnt_ne (show (5 : Nat) ≠ 0 by decide)]; exact HY.out.1, by rw [HP.out, cnt_ne (show (5 : Nat) ≠ 1 by decide)]; exact HY.out.2.1, by rw [HP.out, cnt_ne (show (5 : Nat) ≠ 2 by decide)]; exact HY.out.2.2.1, by rw [HP.out, cnt_ne (show (5 : Nat) ≠ 3 by decide)]; exact HY.out.2.2.2.1, by rw [HP.out, cnt_ne (show (5 : Nat) ≠ 4 by decide)]; exact HY.out.2.2.2.2.1, by rw [HP.out, cnt_eq (show (5 : Nat) = 5 from rfl)]; have := HY.out.2.2.2.2.2; omega⟩⟩, ⟨blk_drewN BKc7.out _⟩, ⟨by rw [HST.out]; exact Kd.R_drewN HV7.out _⟩, ⟨pw_below_drewN HB7.out _⟩⟩
          case measure => simp only [intV]; omega
    · have hlt' : decide ((i : Int) < (n : Int)) = false := by simp; omega
      obtain rfl : i = n := by omega
      have hR : R = stH (HvOf (firstD D i) v) := by rw [HRR.out, HALL.out]
      have HRE := Aside0.mk hR
      clear hR
      go_wp2_with fail
      go_ret
      exact ⟨_, rfl, HRE.out ▸ Kd.R_lower HV.out (below_size HB0.out), below_step HB0.out HB.out⟩
end Go.Proofs.Ytfnpiclioikjpaa.X

/- hucksterlaw11.EscrowHolds, walked. -/
set_option linter.unusedSimpArgs false
set_option linter.unusedVariables false
namespace Go.Proofs.Ytfnpiclioikjpaa.X
open Go.RowKit Go.Proofs.YtfnpiclioikjpaaW.PrintWords Go.Proofs.YtfnpiclioikjpaaW.PrintLast Go.Proofs.YtfnpiclioikjpaaW.PrintMore

theorem awake_call (w : World) : Calls Try.prog 40 #[] w fun e w' => e = .returned (.bool true) ∧ Below w.heap.size w w' := by
  obtain ⟨k, hk⟩ := awake11.rounds
  exact hucksterlaw11_awake.calls k true w hk
theorem store_row_event {P : Program} {ops : Array Oper} {rest : List Oper} {o : Oper} {a : Act} {Q : Exit → Act → World → Prop} {W : World} (hgd : o.guard = none) {t : TypeId} {p v : Operand} (ho : o.op = .store t p v) (hN : o.dst = none) {g : Nat} {e : TypeId} {c c' : Array Value}
    (hp : a.eval p = .pointer (some ⟨g, 0, none⟩)) (hv : a.eval v = .agg c') (hg : W.heap[g]? = some (.cells c e (0, 0))) (hi : (P.info? t).map (·.size) = some c'.size) (hs : c.size = c'.size) (h1 : c'.all (·.oneCell') = true)
    (h : ∀ w', w'.heap[g]? = some (.cells c' e (0, 0)) → (∀ base w0, base ≤ g → Below base w0 W → Below base w0 w') → KeepBut W w' g none → wpList P ops Q rest a w') : wpList P ops Q (o :: rest) a W := by
  refine wpList_plain hgd fun K hK => ?_
  have hrun : (execOp a.eval o).run P W = .ok .skip (W.setRow g c') := by
    unfold execOp
    simp only [ho, hp, hv, Instr.storeAt, Instr.sureAddr, Sem.run_bind, Sem.run_pure, Result.andThen_ok, run_storeVar_row W g e t c c' hg hi hs h1]
  unfold Oper.wp
  rw [hrun]
  show K (a.put o.dst undef) _
  rw [hN]
  exact hK _ _ (h _ (setRow_heap W g _ _ e _ hg) (fun base w0 hb hB => below_setRow hB hb _) ⟨by simp [World.setRow], fun i _ hi _ => setRow_other W g i c' hi⟩)
theorem kn_size (KN : Nat → Nat → Nat) : (knL KN).size = 36 := by unfold knL; simp
theorem kn_one (KN : Nat → Nat → Nat) : (knL KN).all (·.oneCell') = true := by
  unfold knL
  simp [Value.oneCell']
theorem info75k (KN : Nat → Nat → Nat) : (Try.prog.info? 75).map (·.size) = some (knL KN).size := by rw [kn_size]; kernel_rfl
theorem kn_zero : Value.agg (knL (fun _ _ => 0)) = .agg #[.int .i64 0, .int .i64 0, .int .i64 0, .int .i64 0, .int .i64 0, .int .i64 0, .int .i64 0, .int .i64 0, .int .i64 0, .int .i64 0, .int .i64 0, .int .i64 0, .int .i64 0, .int .i64 0, .int .i64 0, .int .i64 0, .int .i64 0, .int .i64 0, .int .i64 0, .int .i64 0, .int .i64 0, .int .i64 0, .int .i64 0, .int .i64 0, .int .i64 0, .int .i64 0, .int .i64 0, .int .i64 0, .int .i64 0, .int .i64 0, .int .i64 0, .int .i64 0, .int .i64 0, .int .i64 0, .int .i64 0, .int .i64 0] := by rfl
theorem R_ne {α β : Type} {d : Kd α} {d' : Kd β} {e e' base base' : Nat} {ok ok' : Nat → Prop} {w : World} {v v' : Value} {xs : List α} {ys : List β} (h : d.R e w base ok v xs) (h' : d'.R e' w base' ok' v' ys) (hne : e ≠ e') : ∀ k, v.ownBlock = some k → v'.ownBlock = some k → False := by
  intro k h1 h2
  obtain ⟨i1, o1⟩ := Kd.R_own h
  obtain ⟨i2, o2⟩ := Kd.R_own h'
  obtain ⟨c1, g1⟩ := own_typed o1 k h1
  obtain ⟨c2, g2⟩ := own_typed o2 k h2
  rw [g1] at g2
  injection g2 with g2
  injection g2 with _ g2
  exact hne g2
theorem R_nb {α : Type} {d : Kd α} {e base g t : Nat} {ok : Nat → Prop} {w : World} {v : Value} {xs : List α} {cs : Array Value} (h : d.R e w base ok v xs) (hb : w.heap[g]? = some (.cells cs t (0, 0))) (hne : e ≠ t) : v.ownBlock ≠ some g := by
  intro h1
  obtain ⟨i1, o1⟩ := Kd.R_own h
  obtain ⟨c1, g1⟩ := own_typed o1 g h1
  rw [g1] at hb
  injection hb with g2
  injection g2 with _ g2
  exact hne g2
theorem R_keepT {α : Type} {d : Kd α} {e base g t : Nat} {ok : Nat → Prop} {w w1 : World} {v : Value} {xs : List α} {cs : Array Value} (h : d.R e w base ok v xs) (hE : d.E = []) (hb : w.heap[g]? = some (.cells cs t (0, 0))) (hne : e ≠ t) (hk : KeepBut w w1 g none) : d.R e w1 base ok v xs :=
  Kd.R_mono (Kd.R_keep (Kd.R_types h hb (by intro q hq; rw [hE] at hq; simp only [List.mem_cons, List.not_mem_nil, or_false] at hq; subst hq; exact hne)) hk (fun _ hk => hk.2)) (fun _ hk => hk.1)
theorem mrg_1 {base : Nat → Int} {D : List Dd} {KN : Nat → Nat → Nat} (h : Inv base D KN) {r f a b : Nat} : mrgN KN r f (1 : Int).toNat a b = KN a b := by
  unfold mrgN
  split
  · rename_i hh
    obtain ⟨rfl, hb⟩ := hh
    have hb0 : b = 0 := by omega
    subst hb0
    have h1 := h.le f 0; have h2 := h.le a 0
    rw [cnt_out h.ok (.inl rfl)] at h1 h2
    omega
  · rfl
theorem mrg_step {KN : Nat → Nat → Nat} {r f k : Nat} (hr : r < 6) (hk : k < 6) (hfr : mrgN KN r f k r k < mrgN KN r f k f k) {aI : Int} (ha : aI = ((mrgN KN r f k f k : Nat) : Int)) : (knL (mrgN KN r f k)).setIfInBounds (r * 6 + k) (.int .i64 aI) = knL (mrgN KN r f (k + 1)) := by
  rw [ha, kn_set _ hr hk]
  refine kn_ext (fun a b _ _ => ?_)
  have e1 : mrgN KN r f k f k = KN f k := by unfold mrgN; rw [if_neg (fun h => Nat.lt_irrefl _ h.2)]
  have e2 : mrgN KN r f k r k = KN r k := by unfold mrgN; rw [if_neg (fun h => Nat.lt_irrefl _ h.2)]
  rw [e1, e2] at hfr
  rw [e1]
  unfold updN mrgN
  by_cases ha : a = r
  · subst ha
    by_cases hb : b = k
    · subst hb
      rw [if_pos ⟨rfl, rfl⟩, if_pos ⟨rfl, by omega⟩]
      omega
    · rw [if_neg (fun h => hb h.2)]
      by_cases hlt : b < k
      · rw [if_pos ⟨rfl, hlt⟩, if_pos ⟨rfl, by omega⟩]
      · rw [if_neg (fun h => hlt h.2), if_neg (fun h => by have := h.2; omega)]
  · rw [if_neg (fun h => ha h.1), if_neg (fun h => ha h.1), if_neg (fun h => ha h.1)]
theorem mrg_skip {KN : Nat → Nat → Nat} {r f k : Nat} (hfr : ¬ mrgN KN r f k r k < mrgN KN r f k f k) : knL (mrgN KN r f k) = knL (mrgN KN r f (k + 1)) := by
  refine kn_ext (fun a b _ _ => ?_)
  have e1 : mrgN KN r f k f k = KN f k := by unfold mrgN; rw [if_neg (fun h => Nat.lt_irrefl _ h.2)]
  have e2 : mrgN KN r f k r k = KN r k := by unfold mrgN; rw [if_neg (fun h => Nat.lt_irrefl _ h.2)]
  rw [e1, e2] at hfr
  unfold mrgN
  by_cases ha : a = r
  · subst ha
    by_cases hb : b = k
    · subst hb
      rw [if_neg (fun h => Nat.lt_irrefl _ h.2), if_pos ⟨rfl, by omega⟩]
      omega
    · by_cases hlt : b < k
      · rw [if_pos ⟨rfl, hlt⟩, if_pos ⟨rfl, by omega⟩]
      · rw [if_neg (fun h => hlt h.2), if_neg (fun h => by have := h.2; omega)]
  · rw [if_neg (fun h => ha h.1), if_neg (fun h => ha h.1)]
theorem mrg_none {base : Nat → Int} {D : List Dd} {KN : Nat → Nat → Nat} (h : Inv base D KN) {r k k' : Nat} : knL (mrgN KN r 0 k) = knL (mrgN KN r 0 k') := by
  have e : ∀ k a b, mrgN KN r 0 k a b = KN a b := by
    intro k a b
    unfold mrgN
    split
    · rename_i hh
      rw [h.z b, hh.1, Nat.zero_max]
    · rfl
  exact kn_ext (fun a b _ _ => by rw [e, e])
theorem dsOf_cons (d : Dd) (D : List Dd) : dsOf (d :: D) = dsOf D ++ [⟨kk, (d.o : Int), (d.tp : Int), d.n⟩] := by simp [dsOf]
theorem osOf_cons (d : Dd) (D : List Dd) : osOf (d :: D) = osOf D ++ [(d.o : Int)] := by simp [osOf]
theorem st_bd {base : Nat → Int} {D : List Dd} {KN : Nat → Nat → Nat} (h : Inv base D KN) (hl : D.length ≤ 24) (r : Nat) : chkA (stH (HvOf D (KN r))) = true := chk_st (fun j hj => by have := HvOf_bd h.ok hl (KN r) j hj; omega)
theorem may_st {low : Int} {base : Nat → Int} {D : List Dd} {KN : Nat → Nat → Nat} (h : Inv base D KN) (hl : D.length ≤ 24) (r : Nat) {s n : Int} (h1 : 1 ≤ s) (h5 : s ≤ 5) (hl1 : -19 ≤ low) (hl2 : low ≤ 0) (hn1 : 1 ≤ n) (hn9 : n ≤ 9) :
    ∃ k, escrow_May.f k (stH (HvOf D (KN r))) kk s low n = some (if rgR (HvOf D (KN r)) s low < n then 5 else 0) := by
  obtain ⟨k, hk⟩ := (may_is (stH (HvOf D (KN r))) kk s low n).rounds
  refine ⟨k, ?_⟩
  rw [hk]
  unfold mayE mayG
  rw [st_bd h hl r, getA_st, kk_key, (repOk_iff s).2 ⟨h1, h5⟩, (lowOk_iff low).2 ⟨by omega, hl2⟩, decide_eq_true hn1, decide_eq_true (show n ≤ 1000 by omega)]
  rfl
theorem num_st {base : Nat → Int} {D : List Dd} {KN : Nat → Nat → Nat} (h : Inv base D KN) (hl : D.length ≤ 24) (r : Nat) : escrow_Number.f (stH (HvOf D (KN r))) kk = some (numH (HvOf D (KN r))) := by
  unfold escrow_Number.f
  rw [st_bd h hl r, getA_st]
  rfl
theorem rig_st {base : Nat → Int} {D : List Dd} {KN : Nat → Nat → Nat} (h : Inv base D KN) (hl : D.length ≤ 24) (r : Nat) {low s : Int} (h1 : 1 ≤ s) (h5 : s ≤ 5) (hl1 : -19 ≤ low) (hl2 : low ≤ 0) : escrow_Rights.f (stH (HvOf D (KN r))) kk s low = some (rgR (HvOf D (KN r)) s low) := by
  unfold escrow_Rights.f rgB
  rw [st_bd h hl r, getA_st, (repOk_iff s).2 ⟨h1, h5⟩, (lowOk_iff low).2 ⟨by omega, hl2⟩]
  rfl
set_option maxHeartbeats 16000000 in
set_option maxRecDepth 100000 in
theorem holds_walk (A0 : Option Addr) (c0 : Nat) (S : List S77) (fl : Int) (w : World) (hr0 : Kd.C k77 w A0 S.length S) (hc0 : S.length ≤ c0) (hf0 : 0 ≤ fl) (hf1 : fl ≤ 255) :
    Calls Try.prog 11 #[.slice A0 S.length c0, .int .u8 fl] w fun e w' => e = .returned (.bool true) ∧ Below w.heap.size w w' := by
  have HR := Aside0.mk hr0
  clear hr0
  by_cases h24 : S.length ≤ 24
  rotate_left
  · have h24' : decide ((24 : Int) < (S.length : Int)) = true := by simp; omega
    go_enter Try.func11, Try.ntmps11
    go_wp2_with fail
    refine (awake_call _).mono ?_
    rintro e w1 ⟨rfl, hb⟩
    go_wp2_with fail
    go_ret
    exact ⟨rfl, hb⟩
  have h24' : decide ((24 : Int) < (S.length : Int)) = false := by simp; omega
  generalize hnl : S.length = n at *
  clear hnl
  go_enter Try.func11, Try.ntmps11
  go_wp2_with (first | ((with_reducible refine gate_dst (N := 25) rfl ?_); (try (refine gate_guard (by rfl) ?_; dsimp only)); refine Kd.R_lit k61 _ 61 ?hg (N := 25) ?hd (xs := ([] : List S61)) (inner := []) (ok := fun _ => True) (okp := fun _ => True) ?hr ?hp (fun _ hk => hk) trivial (Below.refl _ _) (Nat.le_refl _) (by simp) ?_; (case hd => rfl); (case hg => rfl); (case hr => first | (go_simp; done) | (go_simp; rfl)); (case hp => exact (Reps.none _ _)); intro v6 w2 ho2 hb2 hg_ hnew_; have HV2 := Aside0.mk ho2; have HB2 := Aside0.mk hb2; clear hg_ hnew_ ho2 hb2) | ((with_reducible refine gate_dst (N := 26) rfl ?_); (try (refine gate_guard (by rfl) ?_; dsimp only)); refine Kd.R_lit (Kd.int .i64) _ 3 ?hg (N := 26) ?hd (xs := ([] : List Int)) (inner := []) (ok := fun _ => True) (okp := fun _ => True) ?hr ?hp (fun _ hk => hk) trivial (Below.refl _ _) (Nat.le_refl _) (by simp) ?_; (case hd => rfl); (case hg => rfl); (case hr => first | (go_simp; done) | (go_simp; rfl)); (case hp => exact (Reps.none _ _)); intro v7 w3 ho3 hb3 hg_ hnew_; have HV3 := Aside0.mk ho3; have HB3 := Aside0.mk hb3; clear hg_ hnew_ ho3 hb3) | ((with_reducible refine gate_dst (N := 8) rfl ?_); refine box_event ?hg (N := 8) ?hd (cs := knL (fun _ _ => 0)) (t := 75) ?hr ?_; (case hd => rfl); (case hg => rfl); (case hr => first | (go_simp; done) | (go_simp; rfl)); intro gk hgk w4 hbox hb; have HB4 := Aside0.mk hb; have BK4 := Aside0.mk hbox; have HGK := Aside0.mk hgk; clear hb hbox hgk) | ((with_reducible refine gate_store (t := 75) (p := 8) rfl ?_); refine store_row_event (g := gk) (c := knL (fun _ _ => 0)) (c' := knL (fun _ _ => 0)) rfl rfl rfl ?sp ?sv BK4.out (info75k _) rfl (kn_one _) ?_; (case sp => rfl); (case sv => exact kn_zero.symm); intro w5 hbk hbl hkp; have HB5 := Aside0.mk hbl; have BK5 := Aside0.mk hbk; have HKP := Aside0.mk hkp; clear hbk hbl hkp) | fail)
  generalize hlow : -(fl % 20) = low
  have hl1 : -19 ≤ low := by omega
  have hl2 : low ≤ 0 := by omega
  clear hlow
  have hgk : w.heap.size ≤ gk := by have := below_size HB2.out; have := below_size HB3.out; rw [HGK.out]; omega
  have HBs : Aside0 (Below w.heap.size w w5) := ⟨HB5.out _ _ hgk (below_step (below_step HB2.out HB3.out) HB4.out)⟩
  have HV6s : Aside0 (Kd.R k61 61 w5 w.heap.size (fun _ => True) v6 (dsOf [])) := ⟨R_keepT (Kd.R_below (Kd.R_below HV2.out HB3.out) HB4.out) rfl BK4.out (by decide) HKP.out⟩
  have HV7s : Aside0 (Kd.R (Kd.int .i64) 3 w5 w.heap.size (fun _ => True) v7 (osOf [])) := ⟨R_keepT (Kd.R_below (Kd.R_lower HV3.out (below_size HB2.out)) HB4.out) rfl BK4.out (by decide) HKP.out⟩
  clear HB2 HB3 HB4 HV2 HV3 BK4 HGK HB5 HKP
  go_loopw [6, 7, 9] (fun v6 v7 v9 w' => ∃ (i : Nat) (D : List Dd) (KN : Nat → Nat → Nat), v9 = .int .i64 (i : Int) ∧ i ≤ n ∧ D.length ≤ i ∧ Aside0 (Inv (baseF low) D KN) ∧ Aside0 (w'.heap[gk]? = some (.cells (knL KN) 75 (0, 0))) ∧ Aside0 (Kd.R k61 61 w' w.heap.size (fun _ => True) v6 (dsOf D)) ∧ Aside0 (Kd.R (Kd.int .i64) 3 w' w.heap.size (fun _ => True) v7 (osOf D)) ∧ Aside0 (Below w.heap.size w w')) (fun _ _ v9 _ => ((n : Int) - intV v9).toNat)
  case atStart => exact ⟨0, [], fun _ _ => 0, rfl, by omega, by simp, ⟨inv_start _⟩, BK5, HV6s, HV7s, HBs⟩
  case round =>
    clear HV6s HV7s HBs BK5
    obtain ⟨i, D, KN, rfl, hin, hDi, HI, BKg, HV6, HV7, HB⟩ := hrel
    by_cases hlt : i < n
    rotate_left
    · have hlt' : decide ((i : Int) < (n : Int)) = false := by simp; omega
      go_wp2_with fail
      refine (awake_call _).mono ?_
      rintro e w6 ⟨rfl, hb⟩
      go_wp2_with fail
      go_ret
      exact ⟨rfl, below_step HB.out hb⟩
    have hlt' : decide ((i : Int) < (n : Int)) = true := by simp; omega
    have p : 0 ≤ (i : Int) := by omega
    have q : (i : Int) < (n : Int) := by omega
    have hwi : IntKind.i64.wrap ((i : Int) + 1) = (i : Int) + 1 := by rw [IntKind.wrap_i64]; omega
    obtain ⟨ad, e0, hx0, hx1, hx2, hx3, hx4⟩ := at_T77 HR.out (i : Int) p q
    cases e0
    simp only [Int.toNat_natCast] at hx0 hx1 hx2 hx3 hx4
    have hB := HB.out
    replace hx0 := (hB.cell (World.block_lt_of_cell? w _ hx0)).trans hx0
    replace hx1 := (hB.cell (World.block_lt_of_cell? w _ hx1)).trans hx1
    replace hx2 := (hB.cell (World.block_lt_of_cell? w _ hx2)).trans hx2
    replace hx3 := (hB.cell (World.block_lt_of_cell? w _ hx3)).trans hx3
    replace hx4 := (hB.cell (World.block_lt_of_cell? w _ hx4)).trans hx4
    clear hB
    generalize rd_T77 S (i : Int) = x at *
    obtain ⟨s0, s1, s2, s3, s4⟩ := x
    simp only at hx0 hx1 hx2 hx3 hx4
    replace p := eq_true p
    replace q := eq_true q
    by_cases hv0 : 1 ≤ s0
    rotate_left
    · have hb0 : decide (s0 < 1) = true := by simp; omega
      go_wp2_with fail
      refine (awake_call _).mono ?_
      rintro e w6 ⟨rfl, hb⟩
      go_wp2_with fail
      go_ret
      exact ⟨rfl, below_step (below_alloc HB.out _) hb⟩
    have hb0 : decide (s0 < 1) = false := by simp; omega
    by_cases hv1 : s0 ≤ 5
    rotate_left
    · have hb1 : decide ((5 : Int) < s0) = true := by simp; omega
      go_wp2_with fail
      refine (awake_call _).mono ?_
      rintro e w6 ⟨rfl, hb⟩
      go_wp2_with fail
      go_ret
      exact ⟨rfl, below_step (below_alloc HB.out _) hb⟩
    have hb1 : decide ((5 : Int) < s0) = false := by simp; omega
    by_cases hv2 : 0 ≤ s1
    rotate_left
    · have hb2 : decide (s1 < 0) = true := by simp; omega
      go_wp2_with fail
      refine (awake_call _).mono ?_
      rintro e w6 ⟨rfl, hb⟩
      go_wp2_with fail
      go_ret
      exact ⟨rfl, below_step (below_alloc HB.out _) hb⟩
    have hb2 : decide (s1 < 0) = false := by simp; omega
    by_cases hv3 : s1 ≤ 5
    rotate_left
    · have hb3 : decide ((5 : Int) < s1) = true := by simp; omega
      go_wp2_with fail
      refine (awake_call _).mono ?_
      rintro e w6 ⟨rfl, hb⟩
      go_wp2_with fail
      go_ret
      exact ⟨rfl, below_step (below_alloc HB.out _) hb⟩
    have hb3 : decide ((5 : Int) < s1) = false := by simp; omega
    by_cases hv4 : 1 ≤ s4
    rotate_left
    · have hb4 : decide (s4 < 1) = true := by simp; omega
      go_wp2_with fail
      refine (awake_call _).mono ?_
      rintro e w6 ⟨rfl, hb⟩
      go_wp2_with fail
      go_ret
      exact ⟨rfl, below_step (below_alloc HB.out _) hb⟩
    have hb4 : decide (s4 < 1) = false := by simp; omega
    by_cases hv5 : s4 ≤ 9
    rotate_left
    · have hb5 : decide ((9 : Int) < s4) = true := by simp; omega
      go_wp2_with fail
      refine (awake_call _).mono ?_
      rintro e w6 ⟨rfl, hb⟩
      go_wp2_with fail
      go_ret
      exact ⟨rfl, below_step (below_alloc HB.out _) hb⟩
    have hb5 : decide ((9 : Int) < s4) = false := by simp; omega
    by_cases hv6 : 1 ≤ s3
    rotate_left
    · have hb6 : decide (s3 < 1) = true := by simp; omega
      go_wp2_with fail
      refine (awake_call _).mono ?_
      rintro e w6 ⟨rfl, hb⟩
      go_wp2_with fail
      go_ret
      exact ⟨rfl, below_step (below_alloc HB.out _) hb⟩
    have hb6 : decide (s3 < 1) = false := by simp; omega
    by_cases hv7 : s3 ≤ 5
    rotate_left
    · have hb7 : decide ((5 : Int) < s3) = true := by simp; omega
      go_wp2_with fail
      refine (awake_call _).mono ?_
      rintro e w6 ⟨rfl, hb⟩
      go_wp2_with fail
      go_ret
      exact ⟨rfl, below_step (below_alloc HB.out _) hb⟩
    have hb7 : decide ((5 : Int) < s3) = false := by simp; omega
    obtain ⟨gs, hgs⟩ : ∃ gs, gs = wr.heap.size := ⟨_, rfl⟩
    have HGS := Aside0.mk hgs
    have hsk : ¬ (gk = gs) := by have := blk_lt BKg.out; omega
    have hsk' : ¬ (gs = gk) := fun h => hsk h.symm
    have hsg : w.heap.size ≤ gs := by have := below_size HB.out; omega
    clear hgs
    go_upto_block 2 with fail
    rw [← HGS.out]
    clear hx0 hx1 hx2 hx3 hx4
    go_cut [11] (fun v11 w' => ∃ kI : Int, v11 = .int .i64 kI ∧ Aside0 (w'.heap[gk]? = some (.cells (knL (mrgN KN s0.toNat s1.toNat 6)) 75 (0, 0))) ∧ Aside0 (w'.heap[gs]? = some (.cells #[.int .i64 s0, .int .i64 s1, .int .i64 s2, .int .i64 s3, .int .i64 s4] 77 (0, 0))) ∧ Aside0 (Kd.R k61 61 w' w.heap.size (fun _ => True) u6 (dsOf D)) ∧ Aside0 (Kd.R (Kd.int .i64) 3 w' w.heap.size (fun _ => True) u7 (osOf D)) ∧ Aside0 (Below w.heap.size w w'))
    case first =>
      go_wp2_with fail
      go_loopw [11] (fun v11 w' => ∃ kI : Int, v11 = .int .i64 kI ∧ 1 ≤ kI ∧ kI ≤ 6 ∧ Aside0 (w'.heap[gk]? = some (.cells (knL (mrgN KN s0.toNat s1.toNat kI.toNat)) 75 (0, 0))) ∧ Aside0 (w'.heap[gs]? = some (.cells #[.int .i64 s0, .int .i64 s1, .int .i64 s2, .int .i64 s3, .int .i64 s4] 77 (0, 0))) ∧ Aside0 (Kd.R k61 61 w' w.heap.size (fun _ => True) u6 (dsOf D)) ∧ Aside0 (Kd.R (Kd.int .i64) 3 w' w.heap.size (fun _ => True) u7 (osOf D)) ∧ Aside0 (Below w.heap.size w w')) (fun v11 _ => (6 - intV v11).toNat)
      case atStart => exact ⟨1, rfl, by omega, by omega, ⟨by rw [show knL (mrgN KN s0.toNat s1.toNat (1 : Int).toNat) = knL KN from kn_ext (fun a b _ _ => mrg_1 HI.out)]; exact blk_alloc BKg.out _⟩, ⟨by rw [HGS.out]; exact blk_new _ _⟩, ⟨Kd.R_alloc HV6.out _⟩, ⟨Kd.R_alloc HV7.out _⟩, ⟨below_alloc HB.out _⟩⟩
      case round =>
        clear BKg HV6 HV7 HB
        obtain ⟨kI, rfl, hk1, hk6, BKg, BKs, HV6, HV7, HB⟩ := hrel
        have p0 : (0 ≤ s0) = True := eq_true (by omega)
        have p0' : (s0 < 6) = True := eq_true (by omega)
        have p1 : (0 ≤ s1) = True := eq_true (by omega)
        have p1' : (s1 < 6) = True := eq_true (by omega)
        have hd0 : wr.cell? ⟨gs, 0, none⟩ = some (.int .i64 s0) := (blk_cell BKs.out 0).trans rfl
        have hd1 : wr.cell? ⟨gs, 1, none⟩ = some (.int .i64 s1) := (blk_cell BKs.out 1).trans rfl
        have hd2 : wr.cell? ⟨gs, 2, none⟩ = some (.int .i64 s2) := (blk_cell BKs.out 2).trans rfl
        have hd3 : wr.cell? ⟨gs, 3, none⟩ = some (.int .i64 s3) := (blk_cell BKs.out 3).trans rfl
        have hd4 : wr.cell? ⟨gs, 4, none⟩ = some (.int .i64 s4) := (blk_cell BKs.out 4).trans rfl
        by_cases hgo : kI ≤ 5 ∧ 0 < s1
        · obtain ⟨hk5, hs1⟩ := hgo
          have hk5' : decide (kI ≤ 5) = true := decide_eq_true hk5
          have hs1' : decide (0 < s1) = true := decide_eq_true hs1
          have pk : (0 ≤ kI) = True := eq_true (by omega)
          have pk' : (kI < 6) = True := eq_true (by omega)
          have hwk : IntKind.i64.wrap (kI + 1) = kI + 1 := by rw [IntKind.wrap_i64]; omega
          obtain ⟨aI, haI⟩ : ∃ aI : Int, aI = ((mrgN KN s0.toNat s1.toNat kI.toNat s1.toNat kI.toNat : Nat) : Int) := ⟨_, rfl⟩
          obtain ⟨bI, hbI⟩ : ∃ bI : Int, bI = ((mrgN KN s0.toNat s1.toNat kI.toNat s0.toNat kI.toNat : Nat) : Int) := ⟨_, rfl⟩
          have ha : wr.cell? ⟨gk, s1.toNat * 6 + kI.toNat, none⟩ = some (.int .i64 aI) := by rw [haI]; exact (blk_cell BKg.out _).trans (kn_get _ (by omega) (by omega))
          have hb : wr.cell? ⟨gk, s0.toNat * 6 + kI.toNat, none⟩ = some (.int .i64 bI) := by rw [hbI]; exact (blk_cell BKg.out _).trans (kn_get _ (by omega) (by omega))
          have hfz := blk_frozen BKg.out (s0.toNat * 6 + kI.toNat)
          have hkN : (kI + 1).toNat = kI.toNat + 1 := by omega
          have HKN := Aside0.mk hkN
          clear hkN
          by_cases hab : bI < aI
          · have hab' : decide (bI < aI) = true := decide_eq_true hab
            have hst := mrg_step (KN := KN) (r := s0.toNat) (f := s1.toNat) (k := kI.toNat) (by omega) (by omega) (by omega) haI
            rw [← HKN.out] at hst
            have HST := Aside0.mk hst
            clear hs1 hab hst haI hbI
            go_wp2
            go_quiet (fail)
            go_wp2
            generalize hwq : wr.drewN nq = wq
            have BKg2 : Aside0 (wq.heap[gk]? = some (.cells (knL (mrgN KN s0.toNat s1.toNat kI.toNat)) 75 (0, 0))) := ⟨by rw [← hwq]; exact blk_drewN BKg.out _⟩
            have BKs2 : Aside0 (wq.heap[gs]? = some (.cells #[.int .i64 s0, .int .i64 s1, .int .i64 s2, .int .i64 s3, .int .i64 s4] 77 (0, 0))) := ⟨by rw [← hwq]; exact blk_drewN BKs.out _⟩
            have HV6b : Aside0 (Kd.R k61 61 wq w.heap.size (fun _ => True) u6 (dsOf D)) := ⟨by rw [← hwq]; exact Kd.R_drewN HV6.out _⟩
            have HV7b : Aside0 (Kd.R (Kd.int .i64) 3 wq w.heap.size (fun _ => True) u7 (osOf D)) := ⟨by rw [← hwq]; exact Kd.R_drewN HV7.out _⟩
            have HB2 : Aside0 (Below w.heap.size w wq) := ⟨by rw [← hwq]; exact pw_below_drewN HB.out _⟩
            replace ha : wq.cell? ⟨gk, s1.toNat * 6 + kI.toNat, none⟩ = some (.int .i64 aI) := by rw [← hwq]; exact ha
            replace hb : wq.cell? ⟨gk, s0.toNat * 6 + kI.toNat, none⟩ = some (.int .i64 bI) := by rw [← hwq]; exact hb
            replace hd0 : wq.cell? ⟨gs, 0, none⟩ = some (.int .i64 s0) := by rw [← hwq]; exact hd0
            replace hd1 : wq.cell? ⟨gs, 1, none⟩ = some (.int .i64 s1) := by rw [← hwq]; exact hd1
            replace hfz : wq.frozen? ⟨gk, s0.toNat * 6 + kI.toNat, none⟩ = false := by rw [← hwq]; exact hfz
            clear hwq
            go_still_tail 11, (by kernel_rfl)
            change wpList _ _ _ _ _ wq.drew
            go_wp2
            go_roundw
            case rel => exact ⟨kI + 1, rfl, by omega, by omega, ⟨by repeat (first | (with_reducible refine blk_drew ?_) | (with_reducible refine blk_drewN ?_ _) | exact blk_put BKg2.out _ _ HST.out)⟩, ⟨by repeat (first | (with_reducible refine blk_drew ?_) | (with_reducible refine blk_drewN ?_ _) | exact blk_far BKs2.out hsk' _)⟩, ⟨by repeat (first | (with_reducible refine Kd.R_drew ?_) | (with_reducible refine Kd.R_drewN ?_ _) | exact Kd.R_set HV6b.out BKg2.out (by decide) _ _)⟩, ⟨by repeat (first | (with_reducible refine Kd.R_drew ?_) | (with_reducible refine Kd.R_drewN ?_ _) | exact Kd.R_set HV7b.out BKg2.out (by decide) _ _)⟩, ⟨by repeat (first | (with_reducible refine below_drew ?_) | (with_reducible refine pw_below_drewN ?_ _) | exact below_set HB2.out hgk)⟩⟩
            case measure => simp only [intV]; omega
          · have hab' : decide (bI < aI) = false := decide_eq_false hab
            have hst := mrg_skip (KN := KN) (r := s0.toNat) (f := s1.toNat) (k := kI.toNat) (by omega)
            rw [← HKN.out] at hst
            have HST := Aside0.mk hst
            clear hs1 hab hst haI hbI
            go_wp2
            go_quiet (fail)
            go_wp2
            go_roundw
            case rel => exact ⟨kI + 1, rfl, by omega, by omega, ⟨by rw [← HST.out]; exact blk_drewN BKg.out _⟩, ⟨blk_drewN BKs.out _⟩, ⟨Kd.R_drewN HV6.out _⟩, ⟨Kd.R_drewN HV7.out _⟩, ⟨pw_below_drewN HB.out _⟩⟩
            case measure => simp only [intV]; omega
        · have hend : knL (mrgN KN s0.toNat s1.toNat kI.toNat) = knL (mrgN KN s0.toNat s1.toNat 6) := by
            by_cases hk : kI = 6
            · subst hk; rfl
            · have hz : s1 = 0 := by omega
              subst hz
              exact mrg_none HI.out
          have HEND := Aside0.mk hend
          clear hend
          by_cases hk5 : kI ≤ 5
          · have hk5' : decide (kI ≤ 5) = true := decide_eq_true hk5
            have hs1' : decide (0 < s1) = false := by simp; omega
            go_wp2_with fail
            go_meet
            exact ⟨_, rfl, ⟨by rw [← HEND.out]; exact BKg.out⟩, BKs, HV6, HV7, HB⟩
          · have hk5' : decide (kI ≤ 5) = false := decide_eq_false hk5
            go_wp2_with fail
            go_meet
            exact ⟨_, rfl, ⟨by rw [← HEND.out]; exact BKg.out⟩, BKs, HV6, HV7, HB⟩
    case rest =>
      clear BKg HV6 HV7 HB
      obtain ⟨kI_, rfl, BKg, BKs, HV6, HV7, HB⟩ := hcut
      have hi1 := inv_mrg HI.out (r := s0.toNat) (f := s1.toNat) (by omega) (by omega)
      generalize mrgN KN s0.toNat s1.toNat 6 = K1 at *
      have HI1 := Aside0.mk hi1
      clear hi1 HI
      have p0 : (0 ≤ s0) = True := eq_true (by omega)
      have p0' : (s0 < 6) = True := eq_true (by omega)
      have hd0 : wc.cell? ⟨gs, 0, none⟩ = some (.int .i64 s0) := (blk_cell BKs.out 0).trans rfl
      have hd1 : wc.cell? ⟨gs, 1, none⟩ = some (.int .i64 s1) := (blk_cell BKs.out 1).trans rfl
      have hd2 : wc.cell? ⟨gs, 2, none⟩ = some (.int .i64 s2) := (blk_cell BKs.out 2).trans rfl
      have hd3 : wc.cell? ⟨gs, 3, none⟩ = some (.int .i64 s3) := (blk_cell BKs.out 3).trans rfl
      have hd4 : wc.cell? ⟨gs, 4, none⟩ = some (.int .i64 s4) := (blk_cell BKs.out 4).trans rfl
      obtain ⟨q0, hq0'⟩ : ∃ q : Int, q = ((K1 s0.toNat 0 : Nat) : Int) := ⟨_, rfl⟩
      have hq0 : wc.cell? ⟨gk, s0.toNat * 6, none⟩ = some (.int .i64 q0) := by rw [hq0']; exact (blk_cell BKg.out _).trans (kn_get (k := 0) _ (by omega) (by omega))
      have HQ0 := Aside0.mk hq0'
      clear hq0'
      obtain ⟨q1, hq1'⟩ : ∃ q : Int, q = ((K1 s0.toNat 1 : Nat) : Int) := ⟨_, rfl⟩
      have hq1 : wc.cell? ⟨gk, s0.toNat * 6 + 1, none⟩ = some (.int .i64 q1) := by rw [hq1']; exact (blk_cell BKg.out _).trans (kn_get (k := 1) _ (by omega) (by omega))
      have HQ1 := Aside0.mk hq1'
      clear hq1'
      obtain ⟨q2, hq2'⟩ : ∃ q : Int, q = ((K1 s0.toNat 2 : Nat) : Int) := ⟨_, rfl⟩
      have hq2 : wc.cell? ⟨gk, s0.toNat * 6 + 2, none⟩ = some (.int .i64 q2) := by rw [hq2']; exact (blk_cell BKg.out _).trans (kn_get (k := 2) _ (by omega) (by omega))
      have HQ2 := Aside0.mk hq2'
      clear hq2'
      obtain ⟨q3, hq3'⟩ : ∃ q : Int, q = ((K1 s0.toNat 3 : Nat) : Int) := ⟨_, rfl⟩
      have hq3 : wc.cell? ⟨gk, s0.toNat * 6 + 3, none⟩ = some (.int .i64 q3) := by rw [hq3']; exact (blk_cell BKg.out _).trans (kn_get (k := 3) _ (by omega) (by omega))
      have HQ3 := Aside0.mk hq3'
      clear hq3'
      obtain ⟨q4, hq4'⟩ : ∃ q : Int, q = ((K1 s0.toNat 4 : Nat) : Int) := ⟨_, rfl⟩
      have hq4 : wc.cell? ⟨gk, s0.toNat * 6 + 4, none⟩ = some (.int .i64 q4) := by rw [hq4']; exact (blk_cell BKg.out _).trans (kn_get (k := 4) _ (by omega) (by omega))
      have HQ4 := Aside0.mk hq4'
      clear hq4'
      obtain ⟨q5, hq5'⟩ : ∃ q : Int, q = ((K1 s0.toNat 5 : Nat) : Int) := ⟨_, rfl⟩
      have hq5 : wc.cell? ⟨gk, s0.toNat * 6 + 5, none⟩ = some (.int .i64 q5) := by rw [hq5']; exact (blk_cell BKg.out _).trans (kn_get (k := 5) _ (by omega) (by omega))
      have HQ5 := Aside0.mk hq5'
      clear hq5'
      obtain ⟨A6, c6, hv6, hc6, _⟩ := Kd.R_reads HV6.out
      subst hv6
      obtain ⟨A7, c7, hv7, hc7, _⟩ := Kd.R_reads HV7.out
      subst hv7
      go_wp2_with fail
      refine (known_call A6 c6 A7 c7 D (K1 s0.toNat) q0 q1 q2 q3 q4 q5 _ HI1.out.ok (by omega) (Kd.R_reads' HV6.out).2.2 hc6 (Kd.R_reads' HV7.out).2.2 hc7 ⟨HQ0.out, HQ1.out, HQ2.out, HQ3.out, HQ4.out, HQ5.out⟩).mono ?_
      rintro e w8 ⟨v12, rfl, hRl, hb8⟩
      have HVl := Aside0.mk (Kd.R_lower hRl (below_size HB.out))
      have BKg8 := Aside0.mk (blk_below BKg.out hb8)
      have BKs8 := Aside0.mk (blk_below BKs.out hb8)
      have HV6b := Aside0.mk (Kd.R_mono (ok' := fun k => k ≠ w8.heap.size) (Kd.R_bound (Kd.R_below HV6.out hb8)) (fun k hk => by have := hk.2.2.1; omega))
      have HV7b := Aside0.mk (Kd.R_below HV7.out hb8)
      have HB8 := Aside0.mk (below_step HB.out hb8)
      clear hRl hb8 BKg BKs HV6 HV7 HB hd0 hd1 hd2 hd3 hd4 hq0 hq1 hq2 hq3 hq4 hq5
      obtain ⟨A12, c12, hv12, hc12, _⟩ := Kd.R_reads HVl.out
      subst hv12
      have hd0 : w8.cell? ⟨gs, 0, none⟩ = some (.int .i64 s0) := (blk_cell BKs8.out 0).trans rfl
      have hd1 : w8.cell? ⟨gs, 1, none⟩ = some (.int .i64 s1) := (blk_cell BKs8.out 1).trans rfl
      have hd2 : w8.cell? ⟨gs, 2, none⟩ = some (.int .i64 s2) := (blk_cell BKs8.out 2).trans rfl
      have hd3 : w8.cell? ⟨gs, 3, none⟩ = some (.int .i64 s3) := (blk_cell BKs8.out 3).trans rfl
      have hd4 : w8.cell? ⟨gs, 4, none⟩ = some (.int .i64 s4) := (blk_cell BKs8.out 4).trans rfl
      have hgd : gs < w8.heap.size := blk_lt BKs8.out
      have hgd2 : gk < w8.heap.size := blk_lt BKg8.out
      go_upto_if 124 with fail
      go_cut [] (fun w' => ∃ d : Dd, Aside0 (d.o = s0.toNat ∧ d.V = K1 s0.toNat ∧ OkD d ∧ ∀ k, d.dl k < 0 → k = d.o ∧ 0 ≤ baseF low k + HD D d.V k + d.dl k) ∧ Aside0 (w'.heap[w8.heap.size]? = some (.cells #[.string (⟨#[107]⟩ : ByteArray), .int .i64 s0, .int .i64 (d.tp : Int), .int .i64 d.n] 61 (0, 0))) ∧ Aside0 (w'.heap[gk]? = some (.cells (knL K1) 75 (0, 0))) ∧ Aside0 (w'.heap[gs]? = some (.cells #[.int .i64 s0, .int .i64 s1, .int .i64 s2, .int .i64 s3, .int .i64 s4] 77 (0, 0))) ∧ Aside0 (Kd.R k61 61 w' w.heap.size (fun k => k ≠ w8.heap.size) (.slice A6 (dsOf D).length c6) (dsOf D)) ∧ Aside0 (Kd.R (Kd.int .i64) 3 w' w.heap.size (fun _ => True) (.slice A7 (osOf D).length c7) (osOf D)) ∧ Aside0 (Below w.heap.size w w'))
      case first =>
        by_cases hk : 0 < s2
        · have hk' : decide (0 < s2) = true := decide_eq_true hk
          obtain ⟨km, hkm⟩ := may_st HI1.out (by omega) s0.toNat (s := s0) (n := s4) hv0 hv1 hl1 hl2 hv4 hv5
          by_cases hm : rgR (HvOf D (K1 s0.toNat)) s0 low < s4
          · rw [if_pos hm] at hkm
            have HKM := Aside0.mk hkm
            clear hkm
            go_wp2_with fail
            refine (escrow_May.calls km A12 c12 (stH (HvOf D (K1 s0.toNat))) kk s0 low s4 5 _ (Kd.C_alloc (Kd.R_reads' HVl.out).2.2 _) hc12 HKM.out).mono ?_
            rintro e w9 ⟨rfl, hb9⟩
            go_wp2_with fail
            exact ⟨⟨i + 1, D, K1, by go_num, by omega, by omega, HI1, ⟨blk_below (blk_alloc BKg8.out _) hb9⟩, ⟨Kd.R_mono (Kd.R_below (Kd.R_alloc HV6b.out _) hb9) (fun _ _ => trivial)⟩, ⟨Kd.R_below (Kd.R_alloc HV7b.out _) hb9⟩, ⟨below_step (below_alloc HB8.out _) hb9⟩⟩, by simp only [intV]; omega⟩
          · rw [if_neg hm] at hkm
            have HKM := Aside0.mk hkm
            clear hkm
            go_wp2_with fail
            refine (escrow_May.calls km A12 c12 (stH (HvOf D (K1 s0.toNat))) kk s0 low s4 0 _ (Kd.C_alloc (Kd.R_reads' HVl.out).2.2 _) hc12 HKM.out).mono ?_
            rintro e w9 ⟨rfl, hb9⟩
            have BKd9 := Aside0.mk (blk_below (blk_new w8 _) hb9)
            have BKg9 := Aside0.mk (blk_below (blk_alloc BKg8.out _) hb9)
            have BKs9 := Aside0.mk (blk_below (blk_alloc BKs8.out _) hb9)
            have HV69 := Aside0.mk (Kd.R_below (Kd.R_alloc HV6b.out _) hb9)
            have HV79 := Aside0.mk (Kd.R_below (Kd.R_alloc HV7b.out _) hb9)
            have HB9 := Aside0.mk (below_step (below_alloc HB8.out _) hb9)
            clear hb9 hd0 hd1 hd2 hd3 hd4
            have hd0 : w9.cell? ⟨gs, 0, none⟩ = some (.int .i64 s0) := (blk_cell BKs9.out 0).trans rfl
            have hd1 : w9.cell? ⟨gs, 1, none⟩ = some (.int .i64 s1) := (blk_cell BKs9.out 1).trans rfl
            have hd2 : w9.cell? ⟨gs, 2, none⟩ = some (.int .i64 s2) := (blk_cell BKs9.out 2).trans rfl
            have hd3 : w9.cell? ⟨gs, 3, none⟩ = some (.int .i64 s3) := (blk_cell BKs9.out 3).trans rfl
            have hd4 : w9.cell? ⟨gs, 4, none⟩ = some (.int .i64 s4) := (blk_cell BKs9.out 4).trans rfl
            by_cases hs2 : s2 = 1
            · have hs2' : (s2 == 1) = true := by simp [hs2]
              have hcd : w9.cell? ⟨w8.heap.size, 3, none⟩ = some (.int .i64 s4) := (blk_cell BKd9.out 3).trans rfl
              have hfd := blk_frozen BKd9.out 3
              clear hs2 hk
              go_wp2_with fail
              go_meet
              exact ⟨⟨s0.toNat, 0, -s4, K1 s0.toNat⟩, ⟨rfl, rfl, ⟨by show 1 ≤ s0.toNat; omega, by show s0.toNat ≤ 5; omega, by show 0 ≤ 5; omega, by show -9 ≤ -s4 ∧ -s4 ≤ 9; omega, by intro h; exact absurd h (by show ¬ 0 < 0; omega)⟩, dec_down rfl (by show 1 ≤ s0.toNat; omega) (by show s0.toNat ≤ 5; omega) (by show - -s4 ≤ rgR (HvOf D (K1 s0.toNat)) ((s0.toNat : Nat) : Int) low; rw [show ((s0.toNat : Nat) : Int) = s0 by omega]; omega)⟩, ⟨blk_put BKd9.out 3 _ rfl⟩, ⟨blk_far BKg9.out (by show gk ≠ w8.heap.size; omega) _⟩, ⟨blk_far BKs9.out (by show gs ≠ w8.heap.size; omega) _⟩, ⟨Kd.R_far HV69.out (fun k hk => hk) _⟩, ⟨Kd.R_set HV79.out BKd9.out (by decide) _ _⟩, ⟨below_set HB9.out (by omega)⟩⟩
            · have hs2' : (s2 == 1) = false := by simp [hs2]
              have hcd : w9.cell? ⟨w8.heap.size, 2, none⟩ = some (.int .i64 0) := (blk_cell BKd9.out 2).trans rfl
              have hfd := blk_frozen BKd9.out 2
              have e3 : ((s3.toNat : Nat) : Int) = s3 := by omega
              have HE3 := Aside0.mk e3
              clear hs2 hk e3
              go_wp2_with fail
              go_meet
              exact ⟨⟨s0.toNat, s3.toNat, s4, K1 s0.toNat⟩, ⟨rfl, rfl, ⟨by show 1 ≤ s0.toNat; omega, by show s0.toNat ≤ 5; omega, by show s3.toNat ≤ 5; omega, by show -9 ≤ s4 ∧ s4 ≤ 9; omega, by intro _; exact hv4⟩, dec_move (by show 0 < s3.toNat; omega) (by show 0 ≤ s4; omega) (by show 1 ≤ s0.toNat; omega) (by show s0.toNat ≤ 5; omega) (by show s4 ≤ rgR (HvOf D (K1 s0.toNat)) ((s0.toNat : Nat) : Int) low; rw [show ((s0.toNat : Nat) : Int) = s0 by omega]; omega)⟩, ⟨by rw [HE3.out]; exact blk_put BKd9.out 2 _ rfl⟩, ⟨blk_far BKg9.out (by show gk ≠ w8.heap.size; omega) _⟩, ⟨blk_far BKs9.out (by show gs ≠ w8.heap.size; omega) _⟩, ⟨Kd.R_far HV69.out (fun k hk => hk) _⟩, ⟨Kd.R_set HV79.out BKd9.out (by decide) _ _⟩, ⟨below_set HB9.out (by omega)⟩⟩
        · have hk' : decide (0 < s2) = false := decide_eq_false hk
          have hk2 : s2 ≤ 0 := by omega
          have hk3 : (0 < s2) = False := eq_false hk
          go_wp2_with fail
          go_meet
          exact ⟨⟨s0.toNat, 0, s4, K1 s0.toNat⟩, ⟨rfl, rfl, ⟨by show 1 ≤ s0.toNat; omega, by show s0.toNat ≤ 5; omega, by show 0 ≤ 5; omega, by show -9 ≤ s4 ∧ s4 ≤ 9; omega, by intro h; exact absurd h (by show ¬ 0 < 0; omega)⟩, dec_up rfl (by show 0 ≤ s4; omega)⟩, ⟨blk_new w8 _⟩, ⟨blk_alloc BKg8.out _⟩, ⟨blk_alloc BKs8.out _⟩, ⟨Kd.R_alloc HV6b.out _⟩, ⟨Kd.R_alloc HV7b.out _⟩, ⟨below_alloc HB8.out _⟩⟩
      case rest =>
        clear BKg8 BKs8 HV6b HV7b HB8 hd0 hd1 hd2 hd3 hd4
        obtain ⟨d, HDD, BKd, BKg, BKs, HV6, HV7, HB⟩ := hcut
        have hel : (⟨(⟨#[107]⟩ : ByteArray), s0, (d.tp : Int), d.n⟩ : S61) = ⟨kk, (d.o : Int), (d.tp : Int), d.n⟩ := by rw [HDD.out.1, show ((s0.toNat : Nat) : Int) = s0 by omega]; rfl
        have hei : (s0 : Int) = (d.o : Int) := by rw [HDD.out.1]; omega
        have hi2 := inv_new HI1.out HDD.out.2.2.1 (by rw [HDD.out.2.1, HDD.out.1]) HDD.out.2.2.2
        rw [HDD.out.1] at hi2
        have HI2 := Aside0.mk hi2
        have HEL := Aside0.mk hel
        have HEI := Aside0.mk hei
        obtain ⟨tI, htI⟩ : ∃ tI : Int, tI = (d.tp : Int) := ⟨_, rfl⟩
        obtain ⟨nI, hnI⟩ : ∃ nI : Int, nI = d.n := ⟨_, rfl⟩
        have HTI := Aside0.mk htI
        have HNI := Aside0.mk hnI
        have hdd : wc.heap[w8.heap.size]? = some (.cells #[.string (⟨#[107]⟩ : ByteArray), .int .i64 s0, .int .i64 tI, .int .i64 nI] 61 (0, 0)) := by rw [htI, hnI]; exact BKd.out
        have BKd2 := Aside0.mk hdd
        have hdlen : (dsOf D).length ≤ 24 := by rw [dsOf_len]; omega
        have holen : (osOf D).length ≤ 24 := by rw [osOf_len]; omega
        have hwd : w8.heap.size < wc.heap.size := blk_lt BKd.out
        have hxx := HI1.out.self s0.toNat (by omega) (by omega)
        have hxl := cnt_le D s0.toNat
        obtain ⟨xI, hxI⟩ : ∃ xI : Int, xI = ((K1 s0.toNat s0.toNat : Nat) : Int) := ⟨_, rfl⟩
        have hx0 : 0 ≤ xI := by omega
        have hx1 : xI ≤ 24 := by omega
        have hst : (knL K1).setIfInBounds (s0.toNat * 6 + s0.toNat) (.int .i64 (xI + 1)) = knL (updN K1 s0.toNat s0.toNat (K1 s0.toNat s0.toNat + 1)) := by
          rw [← kn_set K1 (by omega) (by omega), hxI]
          rfl
        have HST := Aside0.mk hst
        have HXI := Aside0.mk hxI
        clear hel hei hi2 htI hnI hdd hxx hxl hst hxI BKd
        have hdd0 : wc.cell? ⟨w8.heap.size, 0, none⟩ = some (.string (⟨#[107]⟩ : ByteArray)) := (blk_cell BKd2.out 0).trans rfl
        have hdd1 : wc.cell? ⟨w8.heap.size, 1, none⟩ = some (.int .i64 s0) := (blk_cell BKd2.out 1).trans rfl
        have hdd2 : wc.cell? ⟨w8.heap.size, 2, none⟩ = some (.int .i64 tI) := (blk_cell BKd2.out 2).trans rfl
        have hdd3 : wc.cell? ⟨w8.heap.size, 3, none⟩ = some (.int .i64 nI) := (blk_cell BKd2.out 3).trans rfl
        have hd0 : wc.cell? ⟨gs, 0, none⟩ = some (.int .i64 s0) := (blk_cell BKs.out 0).trans rfl
        have hd1 : wc.cell? ⟨gs, 1, none⟩ = some (.int .i64 s1) := (blk_cell BKs.out 1).trans rfl
        have hd2 : wc.cell? ⟨gs, 2, none⟩ = some (.int .i64 s2) := (blk_cell BKs.out 2).trans rfl
        have hd3 : wc.cell? ⟨gs, 3, none⟩ = some (.int .i64 s3) := (blk_cell BKs.out 3).trans rfl
        have hd4 : wc.cell? ⟨gs, 4, none⟩ = some (.int .i64 s4) := (blk_cell BKs.out 4).trans rfl
        go_wp2_with (first | ((with_reducible refine gate_builtin (b := .append) (xs := #[.tmp 143, .tmp 145]) rfl ?_); at_builtin; refine Kd.R_append k61 (w0 := w) w.heap.size rfl (.tmp 143) (.tmp 145) 72 61 (.agg #[(.string ⟨#[]⟩), (.int .i64 0), (.int .i64 0), (.int .i64 0)]) 40 rfl Try.underlying72 info61 rfl (by decide) (by omega) (.slice A6 (dsOf D).length c6) (dsOf D) ⟨(⟨#[107]⟩ : ByteArray), s0, tI, nI⟩ [.string (⟨#[107]⟩ : ByteArray), .int .i64 s0, .int .i64 tI, .int .i64 nI] (fun k => k ≠ w8.heap.size) (fun _ => False) rfl rfl ?aP (fun _ hk => hk.elim) ?aF ?aO ?aB ?aS ?aL ?_; (case aP => exact k61_mkM _ _ _ ⟨(⟨#[107]⟩ : ByteArray), s0, tI, nI⟩); (case aF => intro k hk; have hk' : wc.heap.size ≤ k := hk; show k ≠ w8.heap.size; omega); (case aO => exact HV6.out); (case aB => exact HB.out); (case aS => exact below_size HB.out); (case aL => omega); intro v9 w9 ho9 hb9 hg9 hat9; have HV69 := Aside0.mk ho9; have HB9 := Aside0.mk hb9; have HV79 := Aside0.mk (Kd.R_grown2 HV7.out rfl hg9 (fun k hk hk2 => R_ne HV6.out HV7.out (by decide) k hk hk2.symm)); have BKg9 := Aside0.mk ((hg9.block gk (blk_lt BKg.out) (fun e => R_nb HV6.out BKg.out (by decide) e.symm)).trans BKg.out); have BKs9 := Aside0.mk ((hg9.block gs (blk_lt BKs.out) (fun e => R_nb HV6.out BKs.out (by decide) e.symm)).trans BKs.out); clear ho9 hb9 hg9 hat9; have he0 : w9.cell? ⟨gs, 0, none⟩ = some (.int .i64 s0) := (blk_cell BKs9.out 0).trans rfl) | ((with_reducible refine gate_builtin (b := .append) (xs := #[.tmp 147, .tmp 150]) rfl ?_); at_builtin; refine Kd.R_append (Kd.int .i64) (w0 := w) w.heap.size rfl (.tmp 147) (.tmp 150) 73 3 (.int .i64 0) 8 rfl Try.underlying73 info3 rfl (by decide) (by omega) (.slice A7 (osOf D).length c7) (osOf D) s0 [.int .i64 s0] (fun _ => True) (fun _ => False) rfl rfl ?aP (fun _ hk => hk.elim) ?aF ?aO ?aB ?aS ?aL ?_; (case aP => exact rfl); (case aF => exact fun _ _ => trivial); (case aO => exact HV79.out); (case aB => exact HB9.out); (case aS => exact below_size HB9.out); (case aL => omega); intro v10 w10 ho10 hb10 hg10 hat10; have HV710 := Aside0.mk ho10; have HB10 := Aside0.mk hb10; have HV610 := Aside0.mk (Kd.R_grown2 HV69.out rfl hg10 (fun k hk hk2 => R_ne HV69.out HV79.out (by decide) k hk2.symm hk)); have BKg10 := Aside0.mk ((hg10.block gk (blk_lt BKg9.out) (fun e => R_nb HV79.out BKg9.out (by decide) e.symm)).trans BKg9.out); have BKs10 := Aside0.mk ((hg10.block gs (blk_lt BKs9.out) (fun e => R_nb HV79.out BKs9.out (by decide) e.symm)).trans BKs9.out); clear ho10 hb10 hg10 hat10; have hf0 : w10.cell? ⟨gs, 0, none⟩ = some (.int .i64 s0) := (blk_cell BKs10.out 0).trans rfl))
        have hds : dsOf D ++ [⟨(⟨#[107]⟩ : ByteArray), s0, tI, nI⟩] = dsOf (d :: D) := by rw [dsOf_cons, ← HEL.out, HTI.out, HNI.out]
        have hos : osOf D ++ [s0] = osOf (d :: D) := by rw [osOf_cons, HEI.out]
        have HV6c : Aside0 (Kd.R k61 61 w10 w.heap.size (fun _ => True) v9 (dsOf (d :: D))) := ⟨by rw [← hds]; exact Kd.R_mono HV610.out (fun _ _ => trivial)⟩
        have HV7c : Aside0 (Kd.R (Kd.int .i64) 3 w10 w.heap.size (fun _ => True) v10 (osOf (d :: D))) := ⟨by rw [← hos]; exact HV710.out⟩
        have hlen2 : (d :: D).length ≤ 24 := by simp only [List.length_cons]; omega
        have hlen3 : (d :: D).length ≤ i + 1 := by simp only [List.length_cons]; omega
        clear hds hos HV610 HV710 HV69 HV79 BKg9 BKs9 HB9 BKg BKs HV6 HV7 HB hd0 hd1 hd2 hd3 hd4 hdd0 hdd1 hdd2 hdd3 he0
        obtain ⟨A9, c9, hv9, hc9, _⟩ := Kd.R_reads HV6c.out
        subst hv9
        obtain ⟨A10, c10, hv10, hc10, _⟩ := Kd.R_reads HV7c.out
        subst hv10
        have hkx : w10.cell? ⟨gk, s0.toNat * 6 + s0.toNat, none⟩ = some (.int .i64 xI) := by rw [HXI.out]; exact (blk_cell BKg10.out _).trans (kn_get _ (by omega) (by omega))
        have hfk := blk_frozen BKg10.out (s0.toNat * 6 + s0.toNat)
        have hwx : IntKind.i64.wrap (xI + 1) = xI + 1 := by rw [IntKind.wrap_i64]; omega
        generalize hK2 : updN K1 s0.toNat s0.toNat (K1 s0.toNat s0.toNat + 1) = K2 at *
        clear hK2
        go_still_tail 10, (by kernel_rfl)
        change wpList _ _ _ _ _ w10.drew
        go_wp2
        go_loopw [14] (fun v14 w' => ∃ rI : Int, v14 = .int .i64 rI ∧ 1 ≤ rI ∧ rI ≤ 6 ∧ Aside0 (w'.heap[gk]? = some (.cells (knL K2) 75 (0, 0))) ∧ Aside0 (Kd.R k61 61 w' w.heap.size (fun _ => True) (.slice A9 (dsOf (d :: D)).length c9) (dsOf (d :: D))) ∧ Aside0 (Kd.R (Kd.int .i64) 3 w' w.heap.size (fun _ => True) (.slice A10 (osOf (d :: D)).length c10) (osOf (d :: D))) ∧ Aside0 (Below w.heap.size w w')) (fun v14 _ => (6 - intV v14).toNat)
        case atStart => exact ⟨1, rfl, by omega, by omega, ⟨by repeat (first | (with_reducible refine blk_drew ?_) | exact blk_put BKg10.out _ _ HST.out)⟩, ⟨by repeat (first | (with_reducible refine Kd.R_drew ?_) | exact Kd.R_set HV6c.out BKg10.out (by decide) _ _)⟩, ⟨by repeat (first | (with_reducible refine Kd.R_drew ?_) | exact Kd.R_set HV7c.out BKg10.out (by decide) _ _)⟩, ⟨by repeat (first | (with_reducible refine below_drew ?_) | exact below_set HB10.out hgk)⟩⟩
        case round =>
          clear BKg10 BKs10 HV6c HV7c HB10 hkx hfk hf0 hwx
          obtain ⟨rI, rfl, hr1, hr6, BKg, HV6, HV7, HB⟩ := hrel
          by_cases hr5 : rI ≤ 5
          · have hr5' : decide (rI ≤ 5) = true := decide_eq_true hr5
            have pr : (0 ≤ rI) = True := eq_true (by omega)
            have pr' : (rI < 6) = True := eq_true (by omega)
            have hwr : IntKind.i64.wrap (rI + 1) = rI + 1 := by rw [IntKind.wrap_i64]; omega
            obtain ⟨q0, hq0'⟩ : ∃ q : Int, q = ((K2 rI.toNat 0 : Nat) : Int) := ⟨_, rfl⟩
            have hq0 : wr.cell? ⟨gk, rI.toNat * 6, none⟩ = some (.int .i64 q0) := by rw [hq0']; exact (blk_cell BKg.out _).trans (kn_get (k := 0) _ (by omega) (by omega))
            have HQ0 := Aside0.mk hq0'
            clear hq0'
            obtain ⟨q1, hq1'⟩ : ∃ q : Int, q = ((K2 rI.toNat 1 : Nat) : Int) := ⟨_, rfl⟩
            have hq1 : wr.cell? ⟨gk, rI.toNat * 6 + 1, none⟩ = some (.int .i64 q1) := by rw [hq1']; exact (blk_cell BKg.out _).trans (kn_get (k := 1) _ (by omega) (by omega))
            have HQ1 := Aside0.mk hq1'
            clear hq1'
            obtain ⟨q2, hq2'⟩ : ∃ q : Int, q = ((K2 rI.toNat 2 : Nat) : Int) := ⟨_, rfl⟩
            have hq2 : wr.cell? ⟨gk, rI.toNat * 6 + 2, none⟩ = some (.int .i64 q2) := by rw [hq2']; exact (blk_cell BKg.out _).trans (kn_get (k := 2) _ (by omega) (by omega))
            have HQ2 := Aside0.mk hq2'
            clear hq2'
            obtain ⟨q3, hq3'⟩ : ∃ q : Int, q = ((K2 rI.toNat 3 : Nat) : Int) := ⟨_, rfl⟩
            have hq3 : wr.cell? ⟨gk, rI.toNat * 6 + 3, none⟩ = some (.int .i64 q3) := by rw [hq3']; exact (blk_cell BKg.out _).trans (kn_get (k := 3) _ (by omega) (by omega))
            have HQ3 := Aside0.mk hq3'
            clear hq3'
            obtain ⟨q4, hq4'⟩ : ∃ q : Int, q = ((K2 rI.toNat 4 : Nat) : Int) := ⟨_, rfl⟩
            have hq4 : wr.cell? ⟨gk, rI.toNat * 6 + 4, none⟩ = some (.int .i64 q4) := by rw [hq4']; exact (blk_cell BKg.out _).trans (kn_get (k := 4) _ (by omega) (by omega))
            have HQ4 := Aside0.mk hq4'
            clear hq4'
            obtain ⟨q5, hq5'⟩ : ∃ q : Int, q = ((K2 rI.toNat 5 : Nat) : Int) := ⟨_, rfl⟩
            have hq5 : wr.cell? ⟨gk, rI.toNat * 6 + 5, none⟩ = some (.int .i64 q5) := by rw [hq5']; exact (blk_cell BKg.out _).trans (kn_get (k := 5) _ (by omega) (by omega))
            have HQ5 := Aside0.mk hq5'
            clear hq5'
            go_wp2_with fail
            refine (known_call A9 c9 A10 c10 (d :: D) (K2 rI.toNat) q0 q1 q2 q3 q4 q5 _ HI2.out.ok hlen2 (Kd.R_reads' HV6.out).2.2 hc9 (Kd.R_reads' HV7.out).2.2 hc10 ⟨HQ0.out, HQ1.out, HQ2.out, HQ3.out, HQ4.out, HQ5.out⟩).mono ?_
            rintro e w11 ⟨v15, rfl, hRm, hbm⟩
            have HVm := Aside0.mk (Kd.R_lower hRm (below_size HB.out))
            have BKg11 := Aside0.mk (blk_below BKg.out hbm)
            have HV611 := Aside0.mk (Kd.R_below HV6.out hbm)
            have HV711 := Aside0.mk (Kd.R_below HV7.out hbm)
            have HB11 := Aside0.mk (below_step HB.out hbm)
            clear hRm hbm BKg HV6 HV7 HB hq0 hq1 hq2 hq3 hq4 hq5 HQ0 HQ1 HQ2 HQ3 HQ4 HQ5
            obtain ⟨A15, c15, hv15, hc15, _⟩ := Kd.R_reads HVm.out
            subst hv15
            obtain ⟨nn, hnn⟩ : ∃ nn : Int, nn = numH (HvOf (d :: D) (K2 rI.toNat)) := ⟨_, rfl⟩
            have hnl : decide (nn < low) = false := by have := floor_holds hl2 HI2.out rI.toNat; simp; omega
            have HNUM : Aside0 (escrow_Number.f (stH (HvOf (d :: D) (K2 rI.toNat))) kk = some nn) := ⟨by rw [num_st HI2.out hlen2, hnn]⟩
            clear hnn
            go_wp2_with fail
            refine (escrow_Number.calls A15 c15 (stH (HvOf (d :: D) (K2 rI.toNat))) kk nn _ (Kd.R_reads' HVm.out).2.2 hc15 HNUM.out).mono ?_
            rintro e w12 ⟨rfl, hb12⟩
            have HVm12 := Aside0.mk (Kd.R_below HVm.out hb12)
            have BKg12 := Aside0.mk (blk_below BKg11.out hb12)
            have HV612 := Aside0.mk (Kd.R_below HV611.out hb12)
            have HV712 := Aside0.mk (Kd.R_below HV711.out hb12)
            have HB12 := Aside0.mk (below_step HB11.out hb12)
            clear hb12 HVm BKg11 HV611 HV711 HB11
            go_wp2_with fail
            go_loopw [16] (fun v16 w' => ∃ kI : Int, v16 = .int .i64 kI ∧ 1 ≤ kI ∧ kI ≤ 6 ∧ Aside0 (w'.heap[gk]? = some (.cells (knL K2) 75 (0, 0))) ∧ Aside0 (Kd.R k61 61 w' w.heap.size (fun _ => True) (.slice A9 (dsOf (d :: D)).length c9) (dsOf (d :: D))) ∧ Aside0 (Kd.R (Kd.int .i64) 3 w' w.heap.size (fun _ => True) (.slice A10 (osOf (d :: D)).length c10) (osOf (d :: D))) ∧ Aside0 (Below w.heap.size w w') ∧ Aside0 (Kd.R k94 94 w' w.heap.size (fun _ => True) (.slice A15 (stH (HvOf (d :: D) (K2 rI.toNat))).length c15) (stH (HvOf (d :: D) (K2 rI.toNat))))) (fun v16 _ => (6 - intV v16).toNat)
            case atStart => exact ⟨1, rfl, by omega, by omega, BKg12, HV612, HV712, HB12, HVm12⟩
            case round =>
              clear BKg12 HV612 HV712 HB12 HVm12
              obtain ⟨kI, rfl, hk1, hk6, BKg, HV6, HV7, HB, HVm⟩ := hrel
              by_cases hk5 : kI ≤ 5
              · have hk5' : decide (kI ≤ 5) = true := decide_eq_true hk5
                have hwk : IntKind.i64.wrap (kI + 1) = kI + 1 := by rw [IntKind.wrap_i64]; omega
                obtain ⟨rr, hrr⟩ : ∃ rr : Int, rr = rgR (HvOf (d :: D) (K2 rI.toNat)) kI low := ⟨_, rfl⟩
                have hrz : decide (rr < 0) = false := by
                  have h := rights_holds hl2 HI2.out rI.toNat (k := kI.toNat) (by omega) (by omega)
                  rw [show ((kI.toNat : Nat) : Int) = kI by omega, ← hrr] at h
                  simp; omega
                have HRG : Aside0 (escrow_Rights.f (stH (HvOf (d :: D) (K2 rI.toNat))) kk kI low = some rr) := ⟨by rw [rig_st HI2.out hlen2 rI.toNat hk1 hk5 hl1 hl2, hrr]⟩
                clear hrr
                go_wp2_with fail
                refine (escrow_Rights.calls A15 c15 (stH (HvOf (d :: D) (K2 rI.toNat))) kk kI low rr _ (Kd.R_reads' HVm.out).2.2 hc15 HRG.out).mono ?_
                rintro e w13 ⟨rfl, hb13⟩
                go_wp2_with fail
                go_roundw
                case rel => exact ⟨kI + 1, rfl, by omega, by omega, ⟨blk_below BKg.out hb13⟩, ⟨Kd.R_below HV6.out hb13⟩, ⟨Kd.R_below HV7.out hb13⟩, ⟨below_step HB.out hb13⟩, ⟨Kd.R_below HVm.out hb13⟩⟩
                case measure => simp only [intV]; omega
              · have hk5' : decide (kI ≤ 5) = false := decide_eq_false hk5
                go_wp2_with fail
                go_roundw
                case rel => exact ⟨rI + 1, rfl, by omega, by omega, BKg, HV6, HV7, HB⟩
                case measure => simp only [intV]; omega
          · have hr5' : decide (rI ≤ 5) = false := decide_eq_false hr5
            go_wp2_with fail
            go_roundw
            case rel => exact ⟨i + 1, d :: D, K2, by go_num, by omega, hlen3, HI2, BKg, HV6, HV7, HB⟩
            case measure => simp only [intV]; omega
end Go.Proofs.Ytfnpiclioikjpaa.X

/- Steps that come in. -/
set_option linter.unusedSimpArgs false
set_option linter.unusedVariables false
namespace Go.Proofs.Ytfnpiclioikjpaa.X
open Go.RowKit Go.Proofs.YtfnpiclioikjpaaW.PrintWords Go.ChangeShapes Go.WideShapes Go.Deep

def cellStep (x : S77) : List Value := [.int .i64 x.f0, .int .i64 x.f1, .int .i64 x.f2, .int .i64 x.f3, .int .i64 x.f4]
theorem openStep {H : Type} {enc : TypeId × Value → H} {w : World} {spare : Nat → Bool} {held : Bool} :
    ∀ (n : Nat) (cs : List Value) (x : DataW H × List MemPlace), DataW.trod enc Try.prog w 0 spare held n 77 cs = some x → ∃ z : S77, cs = cellStep z ∧ True := by
  intro n cs x h
  obtain ⟨xs, m, rfl, rfl, hl, hxl, hf⟩ := DataW.trod_struct Try.underlying77 h
  have hl' : cs.length = 5 := hl.trans (by kernel_rfl)
  have hxl' : xs.length = 5 := hxl
  have hf' := struct_fields (by kernel_rfl) hf
  have e0 := hf' 0 _ rfl
  rw [List.getElem?_eq_getElem (by omega)] at e0
  obtain ⟨s0, g0, _, _⟩ := DataW.trod_int Try.underlying3 e0
  have c0 : cs[0]? = some (.int .i64 s0) := take1 g0
  have e1 := hf' 1 _ rfl
  rw [List.getElem?_eq_getElem (by omega)] at e1
  obtain ⟨s1, g1, _, _⟩ := DataW.trod_int Try.underlying3 e1
  have c1 : cs[1]? = some (.int .i64 s1) := take1 g1
  have e2 := hf' 2 _ rfl
  rw [List.getElem?_eq_getElem (by omega)] at e2
  obtain ⟨s2, g2, _, _⟩ := DataW.trod_int Try.underlying3 e2
  have c2 : cs[2]? = some (.int .i64 s2) := take1 g2
  have e3 := hf' 3 _ rfl
  rw [List.getElem?_eq_getElem (by omega)] at e3
  obtain ⟨s3, g3, _, _⟩ := DataW.trod_int Try.underlying3 e3
  have c3 : cs[3]? = some (.int .i64 s3) := take1 g3
  have e4 := hf' 4 _ rfl
  rw [List.getElem?_eq_getElem (by omega)] at e4
  obtain ⟨s4, g4, _, _⟩ := DataW.trod_int Try.underlying3 e4
  have c4 : cs[4]? = some (.int .i64 s4) := take1 g4
  refine ⟨⟨s0, s1, s2, s3, s4⟩, ?_, trivial⟩
  apply List.ext_getElem?
  intro j
  rcases j with _ | _ | _ | _ | _ | j
  · exact c0
  · exact c1
  · exact c2
  · exact c3
  · exact c4
  · rw [List.getElem?_eq_none (by omega)]; rfl
theorem CStep {w : World} {A : Option Addr} {len cap : Nat} {zs : List S77} (h : RowIs cellStep (fun _ => True) 5 w A len cap zs) : Kd.C k77 w A len zs := row_C rfl (fun z => k77_mk w z) h
end Go.Proofs.Ytfnpiclioikjpaa.X

/- The row of the law EscrowHolds, out of its Pure and the walk. -/
namespace Go.Proofs.Ytfnpiclioikjpaa.escrowHolds
open Go.ChangeShapes Go.WideShapes Go.ChangeAt Go.RowKit Go.Proofs.YtfnpiclioikjpaaW.PrintWords
open Go.ChangeMaps (open_string shut_string)
set_option linter.unusedVariables false
theorem own : ownKnob Try.prog.godebug = none := by kernel_rfl
theorem laidOut : laidOutB Try.prog = true := by kernel_rfl
set_option maxRecDepth 100000 in
theorem lifted (os : Os) (started : os.Started) (H : Type) (enc : TypeId × Value → H) :
    ReturnsInHanded {} Try.checked os 11 .any (Rows.escrowHoldsSpec.pre6 enc Try.prog Try.f11 Rows.escrowHoldsRow.domain false) (Rows.escrowHoldsSpec.post enc Try.prog Try.f11 false true false false) := by
  refine returnsInHanded_of_change_sized (C := Try.checked) own started (by kernel_rfl) Try.func11
    (ChangeSpec.witness6 (enc := enc) (C := Try.checked) false ⟨#[], #[.slice none 0 0, .int .u8 0], []⟩ 8 (by kernel_rfl) (by kernel_rfl) (by kernel_rfl) (by kernel_rfl)) ?_
  intro W base args ds gs before hval0 hW hcnd hsz0 _
  have hsz : (DataW.weightsEach Try.prog (Try.f11.params.toList ++ Rows.escrowHoldsSpec.plain.varTypes Try.prog) (ds ++ gs)).all (· ≤ reachBytes) = true := hsz0
  have hval : ∀ (j : Nat) t v, Try.f11.params[j]? = some t → args[j]? = some v → Value.okWide Try.prog W .any base t v := hval0
  have hW' := hW
  obtain ⟨p, q, hA0, hV, rfl, hfz, hnd⟩ := hW
  have hA : DataW.TrodAll enc Try.prog W 0 (fun _ => true) true Try.f11.params.toList args.toList ds p := hA0
  rw [Try.params11] at hA hval hsz
  obtain ⟨v0, vs0, d0, ds0, p0, q0, hargs, rfl, rfl, h0, r0⟩ := trodAll_cons hA
  obtain ⟨v1, vs1, d1, ds1, p1, q1, rfl, rfl, rfl, h1, r1⟩ := trodAll_cons r0
  obtain ⟨rfl, rfl, rfl⟩ := trodAll_nil r1
  obtain rfl : args = #[v0, v1] := by cases args; simp_all
  obtain ⟨rfl, rfl⟩ := trodVars_none hV
  obtain ⟨a0, len0, cap0, rfl⟩ := okWide_slice Try.underlying71 (hval 0 71 v0 rfl rfl)
  have k0 := h0
  have lt0 : ∀ x ∈ p0, x.block < W.heap.size := by obtain ⟨m, hm⟩ := k0; exact DataW.trod_lt m _ _ _ hm
  obtain ⟨z0, w0⟩ := X.open_rowOf X.cellStep (fun _ => True) 5 (by kernel_rfl) Try.underlying71 X.openStep a0 len0 cap0 rfl h0
  obtain rfl : z0.length = len0 := w0.2.2.1
  have C0 : Kd.C X.k77 W a0 z0.length z0 := X.CStep w0
  obtain ⟨a1, rfl, rfl, rfl, w1⟩ := open_int Try.underlying5 (hval 1 5 v1 rfl rfl) h1
  clear hA0 hval0 hsz0 hsz
  have hw1 : 0 ≤ a1 ∧ a1 ≤ 255 := by
    simp [Lit.wf, IntKind.min, IntKind.max, IntKind.wrap, IntKind.bits, IntKind.signed] at w1
    omega
  refine (X.holds_walk a0 cap0 z0 a1 W C0 w0.1 hw1.1 hw1.2).mono fun e W' ⟨he, bel⟩ => ?_
  subst he
  exact ⟨_, rfl, _, _, _, [], _, [], hW', trodAll_mk1 (shut_bool Try.underlying4 _), (trodAll_cons_mk (Below.trod laidOut (by kernel_rfl) (of_decide_eq_true (by kernel_rfl)) k0 bel lt0) (trodAll_cons_mk (shut_int Try.underlying5 w1) trodAll_mk0)), rfl, bel.frame _, fun h => by cases h⟩
theorem over : Rows.escrowHoldsRow.holds Try.pinned (OpenSpec.ofChange Rows.escrowHoldsSpec) :=
  OpenClaim.holds_of_wide 11 Try.f11 rfl rfl rfl rfl rfl rfl rfl ⟨rfl, rfl, rfl, rfl, rfl⟩ rfl rfl rfl rfl rfl (by kernel_rfl) Try.func11 (by kernel_rfl)
    (of_decide_eq_true (by kernel_rfl)) (by unfold Func.isWrapper; first | (rw [if_pos (by decide +kernel)]; kernel_rfl) | (rw [if_neg (by decide +kernel)]; exact ⟨rfl, rfl⟩))
    (fun os started H enc _ => lifted os started H enc)
theorem proved : Rows.EscrowHoldsSaid := over
#print axioms proved
end Go.Proofs.Ytfnpiclioikjpaa.escrowHolds
namespace Go.Proofs.Ytfnpiclioikjpaa
/-- The row, under a short name, for the claim. -/
theorem escrowHolds_holds : Rows.EscrowHoldsSaid := escrowHolds.proved
end Go.Proofs.Ytfnpiclioikjpaa

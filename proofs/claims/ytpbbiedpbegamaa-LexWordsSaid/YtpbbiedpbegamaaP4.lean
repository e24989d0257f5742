/- The reference's Digits and Number as plain functions. -/
import Derived.Test.YtpbbiedpbegamaaP3
set_option linter.unusedSimpArgs false
set_option linter.unusedVariables false
namespace Go.Proofs.Ytpbbiedpbegamaa.X
open Go.RowKit Go.Proofs.YtpbbiedpbegamaaW.PrintWords Go.Proofs.YtpbbiedpbegamaaW.PrintLast Go.Proofs.YtpbbiedpbegamaaW.PrintMore

theorem small_digit (v : Int) (h0 : 0 ≤ v) (h : v < 10) : bytesOf (rdOf ByteArray.empty [(⟨#[48]⟩ : ByteArray), (⟨#[49]⟩ : ByteArray), (⟨#[50]⟩ : ByteArray), (⟨#[51]⟩ : ByteArray), (⟨#[52]⟩ : ByteArray), (⟨#[53]⟩ : ByteArray), (⟨#[54]⟩ : ByteArray), (⟨#[55]⟩ : ByteArray), (⟨#[56]⟩ : ByteArray), (⟨#[57]⟩ : ByteArray)] v) = [48 + v] := by
  have : v = 0 ∨ v = 1 ∨ v = 2 ∨ v = 3 ∨ v = 4 ∨ v = 5 ∨ v = 6 ∨ v = 7 ∨ v = 8 ∨ v = 9 := by omega
  rcases this with rfl | rfl | rfl | rfl | rfl | rfl | rfl | rfl | rfl | rfl <;> rfl
theorem digits_pos (n : Nat) : n < 10000 → ∃ t, Ev (fun k => hucksterref14_Digits.f k (n : Int)) t ∧ bytesOf t = digN n := by
  induction n using Nat.strongRecOn with
  | _ n ih =>
  intro hn
  by_cases h : n < 10
  · refine ⟨rdOf ByteArray.empty [(⟨#[48]⟩ : ByteArray), (⟨#[49]⟩ : ByteArray), (⟨#[50]⟩ : ByteArray), (⟨#[51]⟩ : ByteArray), (⟨#[52]⟩ : ByteArray), (⟨#[53]⟩ : ByteArray), (⟨#[54]⟩ : ByteArray), (⟨#[55]⟩ : ByteArray), (⟨#[56]⟩ : ByteArray), (⟨#[57]⟩ : ByteArray)] (n : Int), Ev.succ ?_, ?_⟩
    · simp only [hucksterref14_Digits.f, Option.bind_some]
      refine Ev.no (by omega) (Ev.no (by omega) (Ev.yes (by omega) (Ev.yes (by omega) (Ev.yes (by simp; omega) (Ev.now _)))))
    · rw [small_digit _ (by omega) (by omega), digN_small h]
  · obtain ⟨t, ht, hb⟩ := ih (n / 10) (by omega) (by omega)
    obtain ⟨u, hu, hc⟩ := ih (n % 10) (by omega) (by omega)
    have e1 : wrap64 (Int.tdiv (n : Int) 10) = ((n / 10 : Nat) : Int) := by
      rw [show Int.tdiv (n : Int) 10 = ((n / 10 : Nat) : Int) from rfl]
      unfold wrap64; omega
    have e2 : Int.tmod (n : Int) 10 = ((n % 10 : Nat) : Int) := rfl
    have l1 : t.size ≤ 4 := by rw [← bytesOf_length, hb]; exact (digN_facts _).2.2.2.2.1 (by omega)
    have l2 : u.size ≤ 4 := by rw [← bytesOf_length, hc]; exact (digN_facts _).2.2.2.2.1 (by omega)
    refine ⟨t ++ u, Ev.succ ?_, ?_⟩
    · simp only [hucksterref14_Digits.f]
      rw [e1, e2]
      refine Ev.no (by omega) (Ev.no (by omega) (Ev.no (by omega) (Ev.bind ht (Ev.bind hu (Ev.yes (by omega) (Ev.now _))))))
    · rw [bytesOf_append, hb, hc, digN_big h, digN_small (show n % 10 < 10 by omega)]
theorem digits_ref (v : Int) (h1 : -9999 ≤ v) (h2 : v ≤ 9999) : ∃ t, Ev (fun k => hucksterref14_Digits.f k v) t ∧ bytesOf t = digL v := by
  by_cases h0 : 0 ≤ v
  · obtain ⟨n, rfl⟩ := Int.eq_ofNat_of_zero_le h0
    obtain ⟨t, ht, hb⟩ := digits_pos n (by omega)
    refine ⟨t, ht, ?_⟩
    rw [hb, digL, if_neg (by omega)]
    rfl
  have key : ∀ m : Nat, 0 < m → m < 10000 → ∃ t, Ev (fun k => hucksterref14_Digits.f k (-(m : Int))) t ∧ bytesOf t = 45 :: digN m := by
    intro m
    induction m using Nat.strongRecOn with
    | _ m ih =>
    intro hm0 hm
    by_cases h : m < 10
    · obtain ⟨t, ht, hb⟩ := digits_pos m hm
      have e1 : wrap64 (-(-(m : Int))) = (m : Int) := by unfold wrap64; omega
      have l1 : t.size ≤ 4 := by rw [← bytesOf_length, hb]; exact (digN_facts _).2.2.2.2.1 (by omega)
      refine ⟨(⟨#[45]⟩ : ByteArray) ++ t, Ev.succ ?_, ?_⟩
      · simp only [hucksterref14_Digits.f]
        rw [e1]
        refine Ev.no (by omega) (Ev.yes (by omega) (Ev.bind ht (Ev.yes (by omega) (Ev.now _))))
      · rw [bytesOf_append, hb]; rfl
    · obtain ⟨t, ht, hb⟩ := ih (m / 10) (by omega) (by omega) (by omega)
      obtain ⟨u, hu, hc⟩ := digits_pos (m % 10) (by omega)
      have e1 : wrap64 (Int.tdiv (-(m : Int)) 10) = -((m / 10 : Nat) : Int) := by
        rw [Int.neg_tdiv, show Int.tdiv (m : Int) 10 = ((m / 10 : Nat) : Int) from rfl]
        unfold wrap64; omega
      have e2 : wrap64 (-(Int.tmod (-(m : Int)) 10)) = ((m % 10 : Nat) : Int) := by
        rw [Int.neg_tmod, show Int.tmod (m : Int) 10 = ((m % 10 : Nat) : Int) from rfl]
        unfold wrap64; omega
      have l1 : t.size ≤ 5 := by
        rw [← bytesOf_length, hb]
        have := (digN_facts (m / 10)).2.2.2.2.1 (by omega)
        simp; omega
      have l2 : u.size ≤ 4 := by rw [← bytesOf_length, hc]; exact (digN_facts _).2.2.2.2.1 (by omega)
      refine ⟨t ++ u, Ev.succ ?_, ?_⟩
      · simp only [hucksterref14_Digits.f]
        rw [e1, e2]
        refine Ev.yes (by omega) (Ev.bind ht (Ev.bind hu (Ev.yes (by omega) (Ev.now _))))
      · rw [bytesOf_append, hb, hc, digN_big h, digN_small (show m % 10 < 10 by omega)]
        rfl
  obtain ⟨t, ht, hb⟩ := key (-v).toNat (by omega) (by omega)
  rw [show (-((-v).toNat : Int)) = v by omega] at ht
  refine ⟨t, ht, ?_⟩
  rw [hb, digL, if_pos (by omega)]

/-- Is a value in bounds, and is its text this one? -/
def okV (v : Int) (s : ByteArray) : Bool := decide (-9999 ≤ v ∧ v ≤ 9999) && decide (digL v = bytesOf s)
theorem number_end (s : ByteArray) (v : Int) : Ev (fun k => if v ≥ (-9999) then (if v ≤ 9999 then ((hucksterref14_Digits.f k v).bind fun t121 => (some (v, (t121.toList == s.toList)))) else (some (v, false))) else (some (v, false))) (v, okV v s) := by
  by_cases h1 : v ≥ -9999
  · by_cases h2 : v ≤ 9999
    · obtain ⟨t, ht, hb⟩ := digits_ref v h1 h2
      refine Ev.yes h1 (Ev.yes h2 (Ev.bind ht (Ev.is ?_)))
      congr 1
      unfold okV
      rw [decide_eq_true ⟨h1, h2⟩, Bool.true_and, ← hb]
      rw [Bool.eq_iff_iff]
      simp [bytesOf_inj]
    · refine Ev.yes h1 (Ev.no h2 (Ev.is ?_))
      unfold okV
      rw [decide_eq_false (by omega)]; rfl
  · refine Ev.no h1 (Ev.is ?_)
    unfold okV
    rw [decide_eq_false (by omega)]; rfl
theorem okV_numO (s : ByteArray) : okV (refVal (bytesOf s)) s = (numO s).isSome := by
  rw [numO_list]
  cases h : numL (bytesOf s) with
  | some m =>
    obtain ⟨h1, h2, h3, h4⟩ := numL_some _ _ h
    unfold okV
    rw [h1, decide_eq_true ⟨h2, h3⟩, decide_eq_true h4]
    rfl
  | none =>
    unfold okV
    by_cases h1 : -9999 ≤ refVal (bytesOf s) ∧ refVal (bytesOf s) ≤ 9999
    · by_cases h2 : digL (refVal (bytesOf s)) = bytesOf s
      · have := numL_of _ h1.1 h1.2
        rw [h2, h] at this
        cases this
      · rw [decide_eq_false h2, Bool.and_false]; rfl
    · rw [decide_eq_false h1]; rfl
theorem refVal_numV (s : ByteArray) (h : (numO s).isSome = true) : refVal (bytesOf s) = numV s := by
  obtain ⟨m, hm⟩ := Option.isSome_iff_exists.1 h
  unfold numV
  rw [hm]
  rw [numO_list] at hm
  exact (numL_some _ _ hm).1
theorem rv_bound (l : List Int) : ∀ (acc b : Int), 0 ≤ acc → acc ≤ b → (∀ x ∈ l, 0 ≤ x ∧ x ≤ 255) → 0 ≤ rv l acc := by
  induction l with
  | nil => intro acc b h0 _ _; exact h0
  | cons x l ih =>
    intro acc b h0 hb hx
    simp only [rv]
    split
    · rename_i h
      have := digB_inv h
      exact ih _ (10 * acc + (x - 48)) (by omega) (Int.le_refl _) (fun y hy => hx y (List.mem_cons_of_mem _ hy))
    · exact ih _ acc h0 (Int.le_refl _) (fun y hy => hx y (List.mem_cons_of_mem _ hy))
theorem number_from (s : ByteArray) (hs : s.size ≤ 140737488355328) : ∀ (d i : Nat) (n : Int), i + d = min s.size 6 → 0 ≤ n → n < 10 ^ i → Ev (fun k => hucksterref14_Number.l0 k s n (i : Int)) ((if (bytesOf s).head? = some 45 then -(rv (((bytesOf s).take 6).drop i) n) else rv (((bytesOf s).take 6).drop i) n), okV (if (bytesOf s).head? = some 45 then -(rv (((bytesOf s).take 6).drop i) n) else rv (((bytesOf s).take 6).drop i) n) s) := by
  intro d
  induction d with
  | zero =>
    intro i n hi h0 hn
    have hdrop : ((bytesOf s).take 6).drop i = [] := List.drop_eq_nil_of_le (by rw [List.length_take, bytesOf_length]; omega)
    rw [hdrop]
    simp only [rv]
    have hn6 : n < 1000000 := by
      have : i ≤ 6 := by omega
      have hp : (10 : Int) ^ i ≤ 10 ^ 6 := by
        rcases i with _ | _ | _ | _ | _ | _ | _ | i <;> first | decide | omega
      omega
    have hw : wrap64 (-n) = -n := by unfold wrap64; omega
    have hfin : Ev (fun k => hucksterref14_Number.j1 k s n (i : Int) false) ((if (bytesOf s).head? = some 45 then -n else n), okV (if (bytesOf s).head? = some 45 then -n else n) s) := by
      refine Ev.succ ?_
      simp only [hucksterref14_Number.j1]
      refine Ev.no (by decide) ?_
      by_cases he : s.toList = []
      · refine Ev.yes he ?_
        have hz : bytesOf s = [] := by
          have h2 := toList_len s
          rw [he] at h2
          exact List.eq_nil_of_length_eq_zero (by rw [bytesOf_length, ← h2]; rfl)
        rw [hz, if_neg (by simp)]
        exact number_end s n
      · refine Ev.no he ?_
        have hz : 0 < s.size := by
          have h2 := toList_len s
          rw [← h2]
          exact List.length_pos_iff.2 he
        refine Ev.yes (by omega) ?_
        rw [show bt s 0 = byt s 0 from bt_byt s 0, hw, bytesOf_head, if_pos hz]
        by_cases h45 : byt s 0 = 45
        · rw [if_pos (by rw [h45])]
          exact Ev.yes h45 (number_end s (-n))
        · rw [if_neg (fun h => h45 (Option.some.inj h))]
          exact Ev.no h45 (number_end s n)
    refine Ev.succ ?_
    simp only [hucksterref14_Number.l0]
    by_cases h : (i : Int) < (s.size : Int)
    · refine Ev.yes h ?_
      rw [decide_eq_false (by omega)]
      exact hfin
    · exact Ev.no h hfin
  | succ d ih =>
    intro i n hi h0 hn
    have his : i < s.size := by omega
    have hn5 : n < 100000 := by
      have : i ≤ 5 := by omega
      have hp : (10 : Int) ^ i ≤ 10 ^ 5 := by
        rcases i with _ | _ | _ | _ | _ | _ | i <;> first | decide | omega
      omega
    have hdrop : ((bytesOf s).take 6).drop i = byt s i :: ((bytesOf s).take 6).drop (i + 1) := by
      rw [List.drop_take, List.drop_take, bytesOf_drop s i his]
      rw [show 6 - i = (6 - (i + 1)) + 1 by omega, List.take_succ_cons]
    rw [hdrop]
    refine Ev.succ ?_
    simp only [hucksterref14_Number.l0]
    refine Ev.yes (by omega) ?_
    rw [decide_eq_true (by omega)]
    refine Ev.succ ?_
    simp only [hucksterref14_Number.j1]
    refine Ev.yes (by simp) (Ev.yes (by omega) (Ev.yes (by omega) ?_))
    rw [bt_byt, wrap_succ i s.size his hs]
    refine Ev.bind1 (digit_ref _) ?_
    by_cases hd : digB (byt s i) = true
    · have hdd := digB_inv hd
      have hst := pow_step i n (byt s i - 48) h0 hn (by omega)
      have e1 : wrap64 (wrap64 (10 * n) + (byt s i - 48) % 256) = 10 * n + (byt s i - 48) := by
        rw [show wrap64 (10 * n) = 10 * n by unfold wrap64; omega, show (byt s i - 48) % 256 = byt s i - 48 by omega]
        unfold wrap64; omega
      refine Ev.yes hd ?_
      rw [e1]
      simp only [rv]
      rw [if_pos hd]
      exact ih (i + 1) _ (by omega) hst.1 hst.2
    · refine Ev.no hd ?_
      simp only [rv]
      rw [if_neg hd]
      refine ih (i + 1) n (by omega) h0 ?_
      rw [Int.pow_succ]; omega
theorem number_ref (s : ByteArray) (hs : s.size ≤ 140737488355328) : Ev (fun k => hucksterref14_Number.f k s) (refVal (bytesOf s), (numO s).isSome) := by
  have h := number_from s hs (min s.size 6) 0 0 (by omega) (by omega) (by decide)
  rw [List.drop_zero] at h
  rw [← okV_numO]
  exact h
end Go.Proofs.Ytpbbiedpbegamaa.X

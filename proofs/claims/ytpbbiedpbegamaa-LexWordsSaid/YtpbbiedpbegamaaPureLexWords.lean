/- The pure statement of the law: a word or a number alone is one token; two with a blank between are two. -/
import Derived.Test.YtpbbiedpbegamaaXhucksterlaw14LexWords
import Derived.Test.YtpbbiedpbegamaaP6
set_option linter.unusedSimpArgs false
set_option linter.unusedVariables false
namespace Go.Proofs.Ytpbbiedpbegamaa.Pure
open Go.RowKit Go.Proofs.Ytpbbiedpbegamaa.X Go.Proofs.YtpbbiedpbegamaaW.PrintWords Go.Proofs.YtpbbiedpbegamaaW.PrintLast

/-- Is a text one token? -/
def isTok (a : ByteArray) : Bool := (numO a).isSome || wordB a
def tok (a : ByteArray) (line : Int) : S33 := if wordB a then ⟨1, a, 0, line⟩ else ⟨2, ⟨#[]⟩, numV a, line⟩

theorem wordFrom_all (s : ByteArray) : ∀ (b pos : Nat), pos + b = s.size → wordFrom s b pos = true → ∀ i, pos ≤ i → i < s.size → partB (byt s i) = true := by
  intro b
  induction b with
  | zero => intro pos h _ i h1 h2; omega
  | succ b ih =>
    intro pos h hw i h1 h2
    simp only [wordFrom] at hw
    rw [if_pos (by omega), Bool.and_eq_true] at hw
    by_cases hi : i = pos
    · subst hi
      have := hw.1
      unfold wchar at this
      unfold partB
      by_cases hl : letB (byt s i) = true
      · rw [hl]; rfl
      · have hl' : letB (byt s i) = false := by simpa using hl
        rw [hl', Bool.false_or, Bool.and_eq_true] at this
        rw [this.2]; simp
    · exact ih (pos + 1) (by omega) hw.2 i (by omega) h2
theorem dval_all (l : List Int) : ∀ acc m, dval l acc = some m → ∀ x ∈ l, digB x = true := by
  induction l with
  | nil => intro acc m h x hx; cases hx
  | cons y l ih =>
    intro acc m h x hx
    simp only [dval] at h
    split at h
    · rename_i hy
      rcases List.mem_cons.1 hx with rfl | hx
      · exact hy
      · exact ih _ _ h x hx
    · cases h
theorem numL_all (l : List Int) (h : (numL l).isSome = true) : l ≠ [] ∧ ∀ x ∈ l, partB x = true := by
  obtain ⟨m, hm⟩ := Option.isSome_iff_exists.1 h
  unfold numL at hm
  have hd : ∀ x, digB x = true → partB x = true := fun x hx => by unfold partB; rw [hx]; simp
  split at hm
  · rename_i h45
    split at hm
    · cases hm
    rcases l with _ | ⟨a, l⟩
    · cases h45
    refine ⟨by simp, fun x hx => ?_⟩
    obtain ⟨v, hv, _⟩ := Option.map_eq_some_iff.1 hm
    rcases List.mem_cons.1 hx with rfl | hx
    · obtain rfl : x = 45 := by simpa using h45
      rfl
    · exact hd x (dval_all _ _ _ hv x hx)
  · split at hm
    · cases hm
    rename_i hb
    exact ⟨fun h => hb (.inl h), fun x hx => hd x (dval_all _ _ _ hm x hx)⟩
theorem tok_all (a : ByteArray) (h : isTok a = true) : 0 < a.size ∧ ∀ i, i < a.size → partB (byt a i) = true := by
  unfold isTok at h
  rcases Bool.or_eq_true_iff.1 h with h | h
  · rw [numO_list] at h
    obtain ⟨h1, h2⟩ := numL_all _ h
    refine ⟨by rw [← bytesOf_length]; exact List.length_pos_iff.2 h1, fun i hi => ?_⟩
    refine h2 _ ?_
    rw [← bytesOf_get a i hi]
    exact List.getElem_mem _
  · unfold wordB at h
    rw [Bool.and_eq_true, decide_eq_true_eq] at h
    exact ⟨by omega, fun i hi => wordFrom_all a a.size 0 (by omega) h.2 i (by omega) hi⟩

/-- Over bytes that are parts a word goes on. -/
theorem run_on (s : ByteArray) (xs : List S33) (line : Int) (p : Nat) : ∀ (m q n : Nat), q + n = s.size → m ≤ n → (∀ i, q ≤ i → i < q + m → partB (byt s i) = true) → rf s n ⟨xs, line, (p : Int), false, 0⟩ = rf s (n - m) ⟨xs, line, (p : Int), false, 0⟩ := by
  intro m
  induction m with
  | zero => intro q n _ _ _; rfl
  | succ m ih =>
    intro q n hq hm hp
    rw [rf_part hq (by omega) (by simp) (hp q (by omega) (by omega))]
    have : (⟨xs, line, (p : Int), false, 0⟩ : RS).from_ q = ⟨xs, line, (p : Int), false, 0⟩ := by
      unfold RS.from_
      rw [if_neg (by simp)]
    rw [this, ih (q + 1) (n - 1) (by omega) (by omega) (fun i h1 h2 => hp i (by omega) (by omega))]
    congr 1
    omega
/-- A token's text, all of it, is one token more. -/
theorem one_tok (s a : ByteArray) (xs : List S33) (line : Int) (p q : Nat) (hpq : p < q) (hq : q ≤ s.size) (ht : isTok a = true) (he : s.extract p q = a) (hp : ∀ i, p ≤ i → i < q → partB (byt s i) = true) (hb : q < s.size → partB (byt s q) = false) (hx : xs.length < 800) :
    rf s (s.size - p) (RS.at_ xs line) = rf s (s.size - q) (RS.at_ (xs ++ [tok a line]) line) := by
  have h1 := rf_part (n := s.size - p) (r := RS.at_ xs line) (by omega) (by omega) (by simp [RS.at_]) (hp p (by omega) hpq)
  have h2 : (RS.at_ xs line).from_ p = ⟨xs, line, (p : Int), false, 0⟩ := by
    unfold RS.from_ RS.at_
    rw [if_pos (by simp)]
  rw [h1, h2, run_on s xs line p (q - p - 1) (p + 1) (s.size - p - 1) (by omega) (by omega) (fun i h3 h4 => hp i (by omega) (by omega))]
  rw [show s.size - p - 1 - (q - p - 1) = s.size - q by omega, word_ends s xs line p (s.size - q) q (by omega) hb, word_close, he]
  unfold tok
  by_cases hw : wordB a = true
  · rw [if_pos hw, if_pos hw, errOver_f (fun h => by omega)]
    rfl
  · have hn : (numO a).isSome = true := by
      unfold isTok at ht
      rcases Bool.or_eq_true_iff.1 ht with h | h
      · exact h
      · exact absurd h hw
    rw [if_neg hw, if_pos hn, if_neg hw, errOver_f (fun h => by omega)]
    rfl
theorem lex_one (a : ByteArray) (ha : a.size ≤ 100) (ht : isTok a = true) : lexR a = ([tok a 1, ⟨0, ⟨#[]⟩, 0, 1⟩], 0, 0) := by
  obtain ⟨h0, hp⟩ := tok_all a ht
  unfold lexR
  rw [if_neg (by omega)]
  have := one_tok a a [] 1 0 a.size h0 (Nat.le_refl _) ht ByteArray.extract_zero_size (fun i _ h => hp i h) (fun h => by omega) (by simp)
  rw [Nat.sub_zero, Nat.sub_self] at this
  show rf a a.size (RS.at_ [] 1) = _
  rw [this]
  show RS.fin ⟨[] ++ [tok a 1], 1, -1, false, 0⟩ a = _
  rw [fin_at]
  rfl
theorem byt_left (a b : ByteArray) (i : Nat) (h : i < a.size) : byt (a ++ b) i = byt a i := by
  have hs : i < (a ++ b).size := by rw [ByteArray.size_append]; omega
  rw [← bytesOf_get _ i hs, ← bytesOf_get _ i h]
  simp only [bytesOf_append]
  rw [List.getElem_append_left]
theorem byt_right (a b : ByteArray) (i : Nat) (h : i < b.size) : byt (a ++ b) (a.size + i) = byt b i := by
  have hs : a.size + i < (a ++ b).size := by rw [ByteArray.size_append]; omega
  rw [← bytesOf_get _ _ hs, ← bytesOf_get _ i h]
  simp only [bytesOf_append]
  rw [List.getElem_append_right (by rw [bytesOf_length]; omega)]
  simp [bytesOf_length]
theorem eq_of_bytes {a b : ByteArray} (h : bytesOf a = bytesOf b) : a = b := by
  have h := bytesOf_inj.1 h
  rw [ByteArray.toList_eq, ByteArray.toList_eq] at h
  have h2 : a.data = b.data := Array.toList_inj.1 h
  cases a; cases b; simp only at h2; rw [h2]
theorem lex_two (a b : ByteArray) (ha : a.size ≤ 100) (hb : b.size ≤ 100) (hta : isTok a = true) (htb : isTok b = true) :
    lexR ((a ++ (⟨#[32]⟩ : ByteArray)) ++ b) = ([tok a 1, tok b 1, ⟨0, ⟨#[]⟩, 0, 1⟩], 0, 0) := by
  obtain ⟨a0, hpa⟩ := tok_all a hta
  obtain ⟨b0, hpb⟩ := tok_all b htb
  have e1 : (⟨#[32]⟩ : ByteArray).size = 1 := rfl
  have s1 : (a ++ (⟨#[32]⟩ : ByteArray)).size = a.size + 1 := by rw [ByteArray.size_append, e1]
  have s2 : ((a ++ (⟨#[32]⟩ : ByteArray)) ++ b).size = a.size + 1 + b.size := by rw [ByteArray.size_append, s1]
  have c1 : ∀ i, i < a.size → byt ((a ++ (⟨#[32]⟩ : ByteArray)) ++ b) i = byt a i := fun i h => by
    rw [byt_left _ _ _ (by omega), byt_left _ _ _ h]
  have c2 : byt ((a ++ (⟨#[32]⟩ : ByteArray)) ++ b) a.size = 32 := by
    rw [byt_left _ _ _ (by omega)]
    have := byt_right a (⟨#[32]⟩ : ByteArray) 0 (by decide)
    rw [Nat.add_zero] at this
    rw [this]; rfl
  have c3 : ∀ i, i < b.size → byt ((a ++ (⟨#[32]⟩ : ByteArray)) ++ b) (a.size + 1 + i) = byt b i := fun i h => by
    have := byt_right (a ++ (⟨#[32]⟩ : ByteArray)) b i h
    rwa [s1] at this
  have x1 : ((a ++ (⟨#[32]⟩ : ByteArray)) ++ b).extract 0 a.size = a := by
    apply eq_of_bytes
    rw [bytesOf_extract _ _ _ (by omega), bytesOf_append, bytesOf_append, List.append_assoc, List.take_left' (bytesOf_length a)]
    rfl
  have x2 : ((a ++ (⟨#[32]⟩ : ByteArray)) ++ b).extract (a.size + 1) ((a ++ (⟨#[32]⟩ : ByteArray)) ++ b).size = b := by
    apply eq_of_bytes
    rw [bytesOf_extract _ _ _ (Nat.le_refl _), List.take_of_length_le (by rw [bytesOf_length]; exact Nat.le_refl _), bytesOf_append, List.drop_left' (by rw [bytesOf_length, s1])]
  unfold lexR
  rw [if_neg (by omega)]
  generalize hs : (a ++ (⟨#[32]⟩ : ByteArray)) ++ b = s at *
  show rf s s.size (RS.at_ [] 1) = _
  have r1 := one_tok s a [] 1 0 a.size a0 (by omega) hta x1 (fun i _ h => by rw [c1 i h]; exact hpa i h) (fun _ => by rw [c2]; rfl) (by simp)
  rw [Nat.sub_zero] at r1
  have r2 := rf_step (s := s) (n := s.size - a.size) (pos := a.size) (r := RS.at_ ([] ++ [tok a 1]) 1) (by omega) (by omega) (by simp [RS.at_]) (by rw [c2]; rfl)
  have hone : (RS.at_ ([] ++ [tok a 1]) 1).one 32 = RS.at_ ([] ++ [tok a 1]) 1 := by unfold RS.one; rw [if_pos (.inl rfl)]
  rw [show RS.at_ ([] ++ [tok a 1]) 1 = ⟨[] ++ [tok a 1], 1, -1, false, 0⟩ from rfl, step_at, c2, hone, if_pos (show (RS.at_ ([] ++ [tok a 1]) 1).er = 0 from rfl)] at r2
  have r3 := one_tok s b ([] ++ [tok a 1]) 1 (a.size + 1) s.size (by omega) (Nat.le_refl _) htb x2 (fun i h1 h2 => by
    have := c3 (i - (a.size + 1)) (by omega)
    rw [show a.size + 1 + (i - (a.size + 1)) = i by omega] at this
    rw [this]
    exact hpb (i - (a.size + 1)) (by omega)) (fun h => by omega) (by simp)
  rw [r1]
  rw [show RS.at_ ([] ++ [tok a 1]) 1 = ⟨[] ++ [tok a 1], 1, -1, false, 0⟩ from rfl, r2, show s.size - a.size - 1 = s.size - (a.size + 1) by omega, r3, Nat.sub_self]
  show RS.fin ⟨[] ++ [tok a 1] ++ [tok b 1], 1, -1, false, 0⟩ s = _
  rw [fin_at]
  rfl

theorem words_yes (a b : ByteArray) : Ev (fun k => hucksterlaw14_LexWords.j3 k a b true) true := by
  refine Ev.succ ?_
  simp only [hucksterlaw14_LexWords.j3]
  exact Ev.yes (by simp) (Ev.bind1 awake_true (Ev.now _))
theorem words_j3 (a b : ByteArray) (ha : a.size ≤ 100) (hb : b.size ≤ 100) (hta : isTok a = true) (htb : isTok b = true) : Ev (fun k => hucksterlaw14_LexWords.j3 k a b false) true := by
  have e1 : (⟨#[32]⟩ : ByteArray).size = 1 := rfl
  refine Ev.succ ?_
  simp only [hucksterlaw14_LexWords.j3, lex_Read.f, lex_one a ha hta, lex_two a b ha hb hta htb]
  refine Ev.no (by simp) (Ev.bind1 rfl (Ev.yes (by omega) (Ev.yes (by rw [ByteArray.size_append, e1]; omega) (Ev.bind1 rfl ?_))))
  refine Ev.yes rfl (Ev.yes rfl (Ev.yes rfl (Ev.yes rfl (Ev.yes (by simp) (Ev.yes (by simp) (Ev.yes ?_ (Ev.bind1 awake_true (Ev.now _))))))))
  simp [rd_T33]
theorem words_j2 (a b : ByteArray) (ha : a.size ≤ 100) (hb : b.size ≤ 100) : Ev (fun k => hucksterlaw14_LexWords.j2 k a b (isTok a) (isTok b)) true := by
  refine Ev.succ ?_
  simp only [hucksterlaw14_LexWords.j2]
  by_cases hta : isTok a = true
  · refine Ev.yes hta ?_
    by_cases htb : isTok b = true
    · rw [htb]
      exact words_j3 a b ha hb hta htb
    · rw [show isTok b = false by simpa using htb]
      exact words_yes a b
  · exact Ev.no hta (words_yes a b)
theorem words_j1 (a b : ByteArray) (ha : a.size ≤ 100) (hb : b.size ≤ 100) : Ev (fun k => hucksterlaw14_LexWords.j1 k a b (isTok a) (numO b).isSome) true := by
  have h2 := words_j2 a b ha hb
  refine Ev.succ ?_
  simp only [hucksterlaw14_LexWords.j1]
  by_cases hn : (numO b).isSome = true
  · have : isTok b = true := by unfold isTok; rw [hn]; rfl
    rw [this] at h2
    exact Ev.yes hn h2
  · have : isTok b = wordB b := by unfold isTok; rw [show (numO b).isSome = false by simpa using hn]; rfl
    rw [this] at h2
    exact Ev.no hn (Ev.bind (word_ref b (by omega)) h2)
theorem words_j0 (a b : ByteArray) : Ev (fun k => hucksterlaw14_LexWords.j0 k a b true) true := by
  refine Ev.succ ?_
  simp only [hucksterlaw14_LexWords.j0]
  exact Ev.yes (by simp) (Ev.bind1 awake_true (Ev.now _))
theorem LexWords : hucksterlaw14_LexWords.Pure := by
  intro a0 a1 h0 h1
  refine Ev.rounds ?_
  unfold hucksterlaw14_LexWords.f
  by_cases h5 : (a0.size : Int) > 100
  · exact Ev.yes h5 (words_j0 a0 a1)
  refine Ev.no h5 ?_
  by_cases h6 : (a1.size : Int) > 100
  · rw [decide_eq_true h6]
    exact words_j0 a0 a1
  rw [decide_eq_false h6]
  have hj := words_j1 a0 a1 (by omega) (by omega)
  refine Ev.succ ?_
  simp only [hucksterlaw14_LexWords.j0]
  refine Ev.no (by simp) (Ev.bind (number_ref a0 (by omega)) (Ev.bind (number_ref a1 (by omega)) ?_))
  by_cases hn : (numO a0).isSome = true
  · have : isTok a0 = true := by unfold isTok; rw [hn]; rfl
    rw [this] at hj
    exact Ev.yes hn hj
  · have : isTok a0 = wordB a0 := by unfold isTok; rw [show (numO a0).isSome = false by simpa using hn]; rfl
    rw [this] at hj
    exact Ev.no hn (Ev.bind (word_ref a0 (by omega)) hj)

end Go.Proofs.Ytpbbiedpbegamaa.Pure

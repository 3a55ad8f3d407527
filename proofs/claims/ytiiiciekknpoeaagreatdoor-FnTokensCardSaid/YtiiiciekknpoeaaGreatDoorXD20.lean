/- Tokens that are written and read again, in plain words; no program here. -/
import Derived.Test.YtiiiciekknpoeaaGreatDoorXD16
import Derived.Test.YtiiiciekknpoeaaGreatDoorXD14
import Derived.Test.YtiiiciekknpoeaaGreatDoorXD17
set_option linter.unusedVariables false
set_option linter.unusedSimpArgs false
set_option maxRecDepth 20000
namespace Go.X
open Go Go.Lib

theorem quotedM_plain : ∀ (n : Nat) (l x : List UInt8) (u : Nat), l.length ≤ n → quotedM l = some (x, u) → x.all prB = true := by
  intro n
  induction n with
  | zero =>
    intro l x u hl h
    cases l with
    | nil => simp [quotedM] at h
    | cons b r => simp at hl
  | succ n ih =>
    intro l x u hl h
    match l, hl, h with
    | [], _, h => simp [quotedM] at h
    | [b], _, h =>
      simp only [quotedM] at h
      split at h
      · simp only [Option.some.injEq, Prod.mk.injEq] at h; rw [← h.1]; rfl
      · cases h
    | b :: c :: r, hl, h =>
      simp only [quotedM] at h
      simp only [List.length_cons] at hl
      split at h
      · simp only [Option.some.injEq, Prod.mk.injEq] at h; rw [← h.1]; rfl
      · split at h
        · split at h
          · rename_i hc
            cases hq : quotedM r with
            | none => rw [hq] at h; cases h
            | some y =>
              obtain ⟨y1, y2⟩ := y
              rw [hq] at h
              simp only [Option.map_some, Option.some.injEq, Prod.mk.injEq] at h
              have := ih r y1 y2 (by omega) hq
              rw [← h.1, List.all_cons, this, Bool.and_true]
              simp only [Bool.or_eq_true, beq_iff_eq] at hc
              rcases hc with rfl | rfl <;> decide
          · cases h
        · split at h
          · rename_i hp
            cases hq : quotedM (c :: r) with
            | none => rw [hq] at h; cases h
            | some y =>
              obtain ⟨y1, y2⟩ := y
              rw [hq] at h
              simp only [Option.map_some, Option.some.injEq, Prod.mk.injEq] at h
              have := ih (c :: r) y1 y2 (by simp only [List.length_cons]; omega) hq
              rw [← h.1, List.all_cons, this, Bool.and_true, hp]
          · cases h
theorem signAt_signM (l : List UInt8) (h : signAt l ≠ []) : signM (signAt l) = true := by
  unfold signAt at h ⊢
  cases hs : sign3 l with
  | some p =>
    have := List.mem_of_find?_eq_some hs
    simp only [List.mem_cons, List.not_mem_nil, or_false] at this
    rcases this with rfl | rfl | rfl <;> rfl
  | none =>
    rw [hs] at h
    cases l with
    | nil => exact (h rfl).elim
    | cons b r =>
      simp only at h ⊢
      split
      · rename_i hb; simp only [signM]; exact hb
      · rename_i hb; rw [if_neg hb] at h; exact (h rfl).elim
theorem lexM_tok {l : List UInt8} {k : Int} {w : List UInt8} {n : Nat} (h : lexM l = some (k, w, n)) : tokB k w = true := by
  cases l with
  | nil => cases h
  | cons b r =>
    simp only [lexM] at h
    split at h
    · rename_i hl
      split at h
      · rename_i h20
        simp only [Option.some.injEq, Prod.mk.injEq] at h
        obtain ⟨rfl, rfl, rfl⟩ := h
        split
        · rename_i hw; simp only [tokB]; simpa using hw
        · rename_i hw
          have := ident_run (r := r) hl
          simp only [tokB, if_true, this, h20, decide_true, Bool.true_and, Bool.not_eq_true']
          simpa using hw
      · cases h
    · split at h
      · split at h
        · rename_i hi
          simp only [Option.some.injEq, Prod.mk.injEq] at h
          obtain ⟨rfl, rfl, rfl⟩ := h
          simp only [tokB]; simpa using hi
        · cases h
      · split at h
        · split at h
          · rename_i x u hq
            split at h
            · rename_i h60
              simp only [Option.some.injEq, Prod.mk.injEq] at h
              obtain ⟨rfl, rfl, rfl⟩ := h
              have := quotedM_plain _ r x u (Nat.le_refl _) hq
              simp only [tokB, plainM, this, Bool.and_true]
              simp; omega
            · cases h
          · cases h
        · split at h
          · cases h
          · rename_i hs
            simp only [Option.some.injEq, Prod.mk.injEq] at h
            obtain ⟨rfl, rfl, rfl⟩ := h
            have := signAt_signM (b :: r) hs
            simp only [tokB]; simpa using this
/-- Tokens that were read up to a place. -/
def ReadTo (p : Nat) (l : List TokM) : Prop := l.Pairwise (fun a b => a.place < b.place) ∧ ∀ x ∈ l, x.place < (p : Int) ∧ 0 ≤ x.place ∧ tB x = true
theorem lexGo_read (t : List UInt8) : ∀ f p out, ReadTo p out → out.length ≤ 300 → (∀ x ∈ out, x.text.length ≤ t.length + 2) →
    ((lexGo t f p out).2.2 = 0 → (lexGo t f p out).1.Pairwise (fun a b => a.place < b.place) ∧ (lexGo t f p out).1.all tB = true ∧ (lexGo t f p out).2.1 = 0 ∧ (lexGo t f p out).1.length ≤ 300 ∧ ∀ x ∈ (lexGo t f p out).1, x.text.length ≤ t.length + 2) ∧ ((lexGo t f p out).2.2 ≠ 0 → (lexGo t f p out).1 = []) := by
  have base : ∀ p out, ReadTo p out → out.length ≤ 300 → (∀ x ∈ out, x.text.length ≤ t.length + 2) → ((0 : Int) = 0 → out.Pairwise (fun a b => a.place < b.place) ∧ out.all tB = true ∧ (0 : Int) = 0 ∧ out.length ≤ 300 ∧ ∀ x ∈ out, x.text.length ≤ t.length + 2) ∧ ((0 : Int) ≠ 0 → out = []) :=
    fun p out h hl hz => ⟨fun _ => ⟨h.1, List.all_eq_true.2 fun x hx => (h.2 x hx).2.2, rfl, hl, hz⟩, fun h => (h rfl).elim⟩
  intro f
  induction f with
  | zero => intro p out h hl hz; exact base p out h hl hz
  | succ f ih =>
    intro p out h hl hz
    rw [lexGo]
    cases hb : t[p]? with
    | none => exact base p out h hl hz
    | some b =>
      simp only
      split
      · exact ih (p + 1) out ⟨h.1, fun x hx => ⟨by have := (h.2 x hx).1; omega, (h.2 x hx).2⟩⟩ hl hz
      · split
        · exact ⟨fun h => absurd (show (6 : Int) = 0 from h) (by decide), fun _ => rfl⟩
        · rename_i h300
          cases hm : lexM (t.drop p) with
          | none => exact ⟨fun h => absurd (show (3 : Int) = 0 from h) (by decide), fun _ => rfl⟩
          | some y =>
            obtain ⟨k, w, n⟩ := y
            have hp := lexM_pos hm
            refine ih (p + n) (out ++ [⟨k, p, w⟩]) ⟨?_, ?_⟩ (by rw [List.length_append]; simp only [List.length_cons, List.length_nil]; omega) ?_
            · rw [List.pairwise_append]
              refine ⟨h.1, List.pairwise_singleton _ _, fun a ha b hb => ?_⟩
              rw [List.mem_singleton] at hb
              subst hb
              exact (h.2 a ha).1
            · intro x hx
              rcases List.mem_append.1 hx with hx | hx
              · exact ⟨by have := (h.2 x hx).1; omega, (h.2 x hx).2⟩
              · rw [List.mem_singleton] at hx
                subst hx
                exact ⟨by show (p : Int) < ((p + n : Nat) : Int); omega, by show (0 : Int) ≤ (p : Int); omega, lexM_tok hm⟩
            · intro x hx
              rcases List.mem_append.1 hx with hx | hx
              · exact hz x hx
              · rw [List.mem_singleton] at hx
                subst hx
                have := hp.2.1
                rw [List.length_drop] at this
                show w.length ≤ _
                omega
theorem lexS_read (t : List UInt8) : ((lexS t).2.2 = 0 → (lexS t).1.Pairwise (fun a b => a.place < b.place) ∧ (lexS t).1.all tB = true ∧ (lexS t).1.length ≤ 300 ∧ ∀ x ∈ (lexS t).1, x.text.length ≤ t.length + 2) ∧ ((lexS t).2.2 ≠ 0 → (lexS t).1 = []) := by
  unfold lexS
  split
  · exact ⟨fun h => absurd (show (2 : Int) = 0 from h) (by decide), fun _ => rfl⟩
  · split
    · exact ⟨fun h => absurd (show (10 : Int) = 0 from h) (by decide), fun _ => rfl⟩
    · have := lexGo_read t (t.length + 1) 0 [] ⟨List.Pairwise.nil, by simp⟩ (by simp) (by simp)
      exact ⟨fun h => ⟨(this.1 h).1, (this.1 h).2.1, (this.1 h).2.2.2⟩, this.2⟩

/-! ### Read again -/

/-- What stands behind a token: nothing, or a blank. -/
def Rest (r : List UInt8) : Prop := r = [] ∨ ∃ r', r = 32 :: r'
theorem runN_rest {q : UInt8 → Bool} (h32 : q 32 = false) {r : List UInt8} (hr : Rest r) : ∀ w : List UInt8, w.all q = true → runN q (w ++ r) = w.length
  | [], _ => by
    rcases hr with rfl | ⟨r', rfl⟩
    · rfl
    · simp [runN, h32]
  | b :: w, h => by
    rw [List.all_cons, Bool.and_eq_true] at h
    rw [List.cons_append, runN, if_pos h.1, runN_rest h32 hr w h.2]; rfl
theorem nameOK_inv {w : List UInt8} (h : nameOK w = true) : ∃ b r, w = b :: r ∧ ltrI (b.toNat : Nat) = true ∧ w.all ldB = true := by
  cases w with
  | nil => cases h
  | cons b r =>
    simp only [nameOK, Bool.and_eq_true] at h
    refine ⟨b, r, rfl, h.1.2, ?_⟩
    rw [List.all_cons, h.2, Bool.and_true]
    simp only [ldB, h.1.2, Bool.true_or]
theorem words_names : ∀ w ∈ srcWords, nameOK w = true := by decide
theorem wordOK_mem {w : List UInt8} (h : wordOK w = true) : w ∈ srcWords := by
  unfold wordOK at h
  rw [List.any_eq_true] at h
  obtain ⟨x, hx, he⟩ := h
  rw [eq_of_beq he]; exact hx
theorem dec_digits : ∀ (l : List UInt8) (a n : Nat), decFrom a l = some n → l.all digB = true
  | [], _, _, _ => rfl
  | b :: l, a, n, h => by
    cases hb : isD b with
    | false => rw [decFrom, digitVal_none hb] at h; simp at h
    | true =>
      rw [decFrom, digitVal_some hb] at h
      simp only [Option.bind_some] at h
      rw [List.all_cons, dec_digits l _ _ h, Bool.and_true]
      simp only [isD, Bool.and_eq_true, decide_eq_true_eq] at hb
      simp only [digB, digI, Bool.and_eq_true, decide_eq_true_eq]
      omega
theorem dec_zero : ∀ (l : List UInt8) (a n : Nat), decFrom a l = some n → a ≤ n
  | [], a, n, h => by simp only [decFrom, Option.some.injEq] at h; omega
  | b :: l, a, n, h => by
    cases hb : isD b with
    | false => rw [decFrom, digitVal_none hb] at h; simp at h
    | true =>
      rw [decFrom, digitVal_some hb] at h
      simp only [Option.bind_some] at h
      have := dec_zero l _ _ h
      omega
theorem intM_digits {w : List UInt8} (h : intM w = true) : w ≠ [] ∧ w.all digB = true := by
  unfold intM at h
  cases hn : numM w with
  | none => rw [hn] at h; cases h
  | some v =>
    rw [hn] at h
    simp only [Bool.and_eq_true, decide_eq_true_eq] at h
    unfold numM at hn
    split at hn
    · cases hn
    · rename_i hc
      simp only [not_or, not_and] at hc
      obtain ⟨c1, c2, c3⟩ := hc
      cases hd : decFrom 0 (tailN w) with
      | none => rw [hd] at hn; cases hn
      | some n =>
        rw [hd] at hn
        simp only [Option.map_some, Option.some.injEq] at hn
        have hall := dec_digits _ _ _ hd
        by_cases h45 : w.head? = some 45
        · exfalso
          rw [if_pos h45] at hn
          have hn0 : n = 0 := by omega
          subst hn0
          cases ht : tailN w with
          | nil => exact c1 ht
          | cons b r =>
            rw [ht] at hd hall c3
            have hb : isD b = true := by
              cases hb : isD b with
              | true => rfl
              | false => rw [decFrom, digitVal_none hb] at hd; simp at hd
            have h48 : b ≠ 48 := fun e => (c3 (by rw [e]; rfl)).2 h45
            rw [decFrom, digitVal_some hb] at hd
            simp only [Option.bind_some] at hd
            have := dec_zero _ _ _ hd
            simp only [isD, Bool.and_eq_true, decide_eq_true_eq] at hb
            apply h48
            apply UInt8.toNat_inj.1
            have : b.toNat = 48 := by omega
            rw [this]; rfl
        · have e : tailN w = w := by unfold tailN; rw [if_neg h45]
          rw [e] at c1 hall
          exact ⟨c1, hall⟩
theorem dig_ltr {n : Int} (h : digI n = true) : ltrI n = false := by
  cases hl : ltrI n with
  | false => rfl
  | true => rw [ltr_dig n hl] at h; cases h
theorem hasP_two (a b : UInt8) (x y : UInt8) (r : List UInt8) : hasP (a :: b :: r) [x, y] = (a == x && b == y) := by
  simp only [hasP, List.length_cons, List.length_nil, List.take_succ_cons, List.take_zero]
  have : decide (0 + 1 + 1 ≤ r.length + 1 + 1) = true := by simp
  rw [this, Bool.true_and]
  show (([a, b] : List UInt8) == [x, y]) = _
  simp [List.cons_beq_cons]
theorem signAt_one {b : UInt8} (h : signs15.contains b = true) {r : List UInt8} (hr : Rest r) : signAt (b :: r) = [b] := by
  have h3 : sign3 (b :: r) = none := by
    unfold sign3
    rcases hr with rfl | ⟨r', rfl⟩
    · simp [List.find?, hasP]
    · simp only [List.find?, hasP_two]
      have : ((32 : UInt8) == 61) = false := by decide
      have h2 : ((32 : UInt8) == 38) = false := by decide
      have h3 : ((32 : UInt8) == 124) = false := by decide
      simp only [this, h2, h3, Bool.and_false]
  unfold signAt
  rw [h3]
  simp only [h, if_true]
theorem signAt_two {w : List UInt8} (h : w = [61, 61] ∨ w = [38, 38] ∨ w = [124, 124]) (r : List UInt8) : signAt (w ++ r) = w := by
  unfold signAt sign3
  rcases h with rfl | rfl | rfl <;> simp only [List.cons_append, List.nil_append, List.find?, hasP_two] <;> rfl
theorem signM_cases {w : List UInt8} (h : signM w = true) : (∃ b, w = [b] ∧ signs15.contains b = true) ∨ (w = [61, 61] ∨ w = [38, 38] ∨ w = [124, 124]) := by
  unfold signM at h
  split at h
  · rename_i b; exact .inl ⟨b, rfl, h⟩
  · simp only [Bool.or_eq_true, beq_iff_eq] at h
    rcases h with (h | h) | h
    · exact .inr (.inl h)
    · exact .inr (.inr (.inl h))
    · exact .inr (.inr (.inr h))
theorem signs_plain : ∀ b ∈ signs15, ltrI (b.toNat : Nat) = false ∧ digI (b.toNat : Nat) = false ∧ (b == 39) = false := by decide
/-- A token is read back from how it is written. -/
theorem lexM_tokT {k : Int} {w : List UInt8} (h : tokB k w = true) {r : List UInt8} (hr : Rest r) : lexM (tokT k w ++ r) = some (k, w, (tokT k w).length) := by
  have h32 : ldB 32 = false := by decide
  have d32 : digB 32 = false := by decide
  unfold tokB at h
  by_cases h1 : k = 1
  · subst h1
    rw [if_pos rfl] at h
    have ht : tokT 1 w = w := by simp [tokT]
    rw [ht]
    simp only [identM, Bool.and_eq_true, decide_eq_true_eq, Bool.not_eq_true'] at h
    obtain ⟨⟨hn, hl⟩, hw⟩ := h
    obtain ⟨b, r', rfl, hb, hall⟩ := nameOK_inv hn
    have hrun := runN_rest h32 hr _ hall
    rw [List.cons_append] at hrun ⊢
    have hle : (b :: r').length ≤ 20 := by omega
    simp only [lexM, hb, if_true, hrun, hle]
    rw [← List.cons_append, List.take_left, hw]; simp
  rw [if_neg h1] at h
  by_cases h2 : k = 2
  · subst h2
    rw [if_pos rfl] at h
    have ht : tokT 2 w = w := by simp [tokT]
    rw [ht]
    have hl := wordOK_len h
    obtain ⟨b, r', rfl, hb, hall⟩ := nameOK_inv (words_names w (wordOK_mem h))
    have hrun := runN_rest h32 hr _ hall
    rw [List.cons_append] at hrun ⊢
    have hle : (b :: r').length ≤ 20 := by omega
    simp only [lexM, hb, if_true, hrun, hle]
    rw [← List.cons_append, List.take_left, h]; simp
  rw [if_neg h2] at h
  by_cases h3 : k = 3
  · subst h3
    rw [if_pos rfl] at h
    have ht : tokT 3 w = w := by simp [tokT]
    rw [ht]
    obtain ⟨hne, hall⟩ := intM_digits h
    cases w with
    | nil => exact (hne rfl).elim
    | cons b r' =>
      have hrun := runN_rest d32 hr _ hall
      have hb : digI (b.toNat : Nat) = true := by rw [List.all_cons, Bool.and_eq_true] at hall; exact hall.1
      rw [List.cons_append] at hrun ⊢
      simp only [lexM, dig_ltr hb, hb, if_true, hrun, Bool.false_eq_true, if_false]
      rw [← List.cons_append, List.take_left, h]; simp
  rw [if_neg h3] at h
  by_cases h4 : k = 4
  · subst h4
    rw [if_pos rfl] at h
    simp only [plainM, Bool.and_eq_true, decide_eq_true_eq] at h
    have ht : tokT 4 w = quoteM w := by simp [tokT]
    rw [ht]
    have hq := quotedM_esc r w h.2
    have hl : w.length ≤ 60 := by omega
    have a1 : ltrI (((39 : UInt8).toNat : Nat) : Int) = false := by decide
    have a2 : digI (((39 : UInt8).toNat : Nat) : Int) = false := by decide
    simp only [quoteM, List.cons_append, List.append_assoc, List.nil_append, lexM, a1, a2, Bool.false_eq_true, if_false, beq_self_eq_true, if_true, hq, hl]
    simp
  rw [if_neg h4] at h
  by_cases h5 : k = 5
  · subst h5
    rw [if_pos rfl] at h
    have ht : tokT 5 w = w := by simp [tokT]
    rw [ht]
    rcases signM_cases h with ⟨b, rfl, hb⟩ | hw
    · obtain ⟨p1, p2, p3⟩ := signs_plain b (by simpa using hb)
      rw [List.singleton_append]
      simp only [lexM, p1, p2, p3, Bool.false_eq_true, if_false, signAt_one hb hr]
      simp
    · have hs := signAt_two hw r
      rcases hw with rfl | rfl | rfl
      · have a1 : ltrI (((61 : UInt8).toNat : Nat) : Int) = false := by decide
        have a2 : digI (((61 : UInt8).toNat : Nat) : Int) = false := by decide
        have a3 : ((61 : UInt8) == 39) = false := by decide
        rw [List.cons_append] at hs ⊢
        simp only [lexM, a1, a2, a3, Bool.false_eq_true, if_false, hs]
        simp
      · have a1 : ltrI (((38 : UInt8).toNat : Nat) : Int) = false := by decide
        have a2 : digI (((38 : UInt8).toNat : Nat) : Int) = false := by decide
        have a3 : ((38 : UInt8) == 39) = false := by decide
        rw [List.cons_append] at hs ⊢
        simp only [lexM, a1, a2, a3, Bool.false_eq_true, if_false, hs]
        simp
      · have a1 : ltrI (((124 : UInt8).toNat : Nat) : Int) = false := by decide
        have a2 : digI (((124 : UInt8).toNat : Nat) : Int) = false := by decide
        have a3 : ((124 : UInt8) == 39) = false := by decide
        rw [List.cons_append] at hs ⊢
        simp only [lexM, a1, a2, a3, Bool.false_eq_true, if_false, hs]
        simp
  rw [if_neg h5] at h
  cases h
theorem lexM_blank {b : UInt8} (h : blB b = true) (r : List UInt8) : lexM (b :: r) = none := by
  simp only [blB, Bool.or_eq_true, beq_iff_eq] at h
  have key : ∀ b : UInt8, b ∈ ([32, 9, 10] : List UInt8) → ltrI (b.toNat : Nat) = false ∧ digI (b.toNat : Nat) = false ∧ (b == 39) = false ∧ signs15.contains b = false ∧ (b == 61) = false ∧ (b == 38) = false ∧ (b == 124) = false := by decide
  obtain ⟨a1, a2, a3, a4, a5, a6, a7⟩ := key b (by rcases h with (rfl | rfl) | rfl <;> simp)
  have hs : signAt (b :: r) = [] := by
    have h3 : sign3 (b :: r) = none := by
      cases r with
      | nil => unfold sign3; simp [List.find?, hasP]
      | cons c r => simp only [sign3, List.find?, hasP_two, a5, a6, a7, Bool.false_and]
    unfold signAt
    rw [h3]
    simp only [a4, Bool.false_eq_true, if_false]
  simp only [lexM, a1, a2, a3, hs, Bool.false_eq_true, if_false, if_true]
abbrev KT (l : List TokM) : List (Int × List UInt8) := l.map fun x => (x.kind, x.text)
theorem joinTail_cons (y : List UInt8) (r : List (List UInt8)) : joinTail [32] (y :: r) = 32 :: (y ++ joinTail [32] r) := by simp [joinTail]
theorem rest_tail (xs : List (List UInt8)) : Rest (joinTail [32] xs) := by
  cases xs with
  | nil => exact .inl rfl
  | cons y r => exact .inr ⟨_, joinTail_cons y r⟩
theorem drop_more {J a b : List UInt8} {p : Nat} (h : J.drop p = a ++ b) : J.drop (p + a.length) = b := by
  rw [← List.drop_drop, h, List.drop_left]
/-- What was written is read again. -/
theorem lexGo_joined (J : List UInt8) : ∀ (xs : List TokM) (x : TokM) (f p : Nat) (out : List TokM), (x :: xs).all tB = true → J.drop p = tW x ++ joinTail [32] (xs.map tW) → out.length + (xs.length + 1) ≤ 300 → J.length + 1 ≤ f + p → p < J.length →
    (lexGo J f p out).2.2 = 0 ∧ KT (lexGo J f p out).1 = KT out ++ KT (x :: xs) := by
  intro xs
  induction xs with
  | nil =>
    intro x f p out ht hd hl hf hp
    rw [List.all_cons, Bool.and_eq_true] at ht
    have hm := lexM_tokT (k := x.kind) (w := x.text) ht.1 (r := joinTail [32] (List.map tW [])) (rest_tail _)
    rw [← hd] at hm
    obtain ⟨f, rfl⟩ : ∃ g, f = g + 1 := ⟨f - 1, by omega⟩
    have hb : blB J[p] = false := by
      cases hb : blB J[p] with
      | false => rfl
      | true => rw [List.drop_eq_getElem_cons hp, lexM_blank hb] at hm; cases hm
    have hne : out.length ≠ 300 := by simp only [List.length_nil] at hl; omega
    have e : J.drop (p + (tW x).length) = [] := drop_more hd
    have hend : J[p + (tW x).length]? = none := by
      rw [List.getElem?_eq_none_iff]; exact List.drop_eq_nil_iff.1 e
    have : lexGo J (f + 1) p out = (out ++ [⟨x.kind, p, x.text⟩], 0, 0) := by
      rw [lexGo, List.getElem?_eq_getElem hp]
      simp only [hb, Bool.false_eq_true, if_false, hne, hm]
      cases f with
      | zero => rfl
      | succ f => rw [lexGo, show p + (tokT x.kind x.text).length = p + (tW x).length from rfl, hend]
    rw [this]
    exact ⟨rfl, by simp [KT]⟩
  | cons y ys ih =>
    intro x f p out ht hd hl hf hp
    rw [List.all_cons, Bool.and_eq_true] at ht
    have hm := lexM_tokT (k := x.kind) (w := x.text) ht.1 (r := joinTail [32] (List.map tW (y :: ys))) (rest_tail _)
    rw [← hd] at hm
    have hpos := (lexM_pos hm).1
    have hb : blB J[p] = false := by
      cases hb : blB J[p] with
      | false => rfl
      | true => rw [List.drop_eq_getElem_cons hp, lexM_blank hb] at hm; cases hm
    simp only [List.length_cons] at hl
    have hne : out.length ≠ 300 := by omega
    have e : J.drop (p + (tW x).length) = 32 :: (tW y ++ joinTail [32] (ys.map tW)) := by
      rw [drop_more hd, List.map_cons, joinTail_cons]
    have hq : p + (tW x).length < J.length := by
      rcases Nat.lt_or_ge (p + (tW x).length) J.length with h | h
      · exact h
      · rw [List.drop_eq_nil_of_le h] at e; cases e
    have h32 : J[p + (tW x).length] = 32 := by
      rw [List.drop_eq_getElem_cons hq] at e; exact (List.cons.inj e).1
    have e2 : J.drop (p + (tW x).length + 1) = tW y ++ joinTail [32] (ys.map tW) := by
      rw [← List.drop_drop, e]; rfl
    have hm2 := lexM_tokT (k := y.kind) (w := y.text) (by rw [List.all_cons, Bool.and_eq_true] at ht; exact ht.2.1) (r := joinTail [32] (ys.map tW)) (rest_tail _)
    rw [← e2] at hm2
    have hq2 : p + (tW x).length + 1 < J.length := by
      rcases Nat.lt_or_ge (p + (tW x).length + 1) J.length with h | h
      · exact h
      · rw [List.drop_eq_nil_of_le h] at hm2; cases hm2
    have hn : (tW x).length = (tokT x.kind x.text).length := rfl
    obtain ⟨f, rfl⟩ : ∃ g, f = g + 2 := ⟨f - 2, by omega⟩
    have key := ih y f (p + (tW x).length + 1) (out ++ [⟨x.kind, p, x.text⟩]) ht.2 e2 (by rw [List.length_append]; simp only [List.length_cons, List.length_nil]; omega) (by omega) hq2
    have : lexGo J (f + 2) p out = lexGo J f (p + (tW x).length + 1) (out ++ [⟨x.kind, p, x.text⟩]) := by
      rw [lexGo, List.getElem?_eq_getElem hp]
      simp only [hb, Bool.false_eq_true, if_false, hne, hm]
      rw [lexGo, show p + (tokT x.kind x.text).length = p + (tW x).length from rfl, List.getElem?_eq_getElem hq]
      have hbl : blB J[p + (tW x).length] = true := by rw [h32]; rfl
      simp only [hbl, if_true]
    rw [this]
    refine ⟨key.1, key.2.trans ?_⟩
    simp [KT]
theorem lexS_joined (l : List TokM) (ht : l.all tB = true) (hl : l.length ≤ 300) (h6 : (Lib.join (l.map tW) [32]).length ≤ 600) : (lexS (Lib.join (l.map tW) [32])).2.2 = 0 ∧ KT (lexS (Lib.join (l.map tW) [32])).1 = KT l := by
  have h1 : ¬ 65536 < (Lib.join (l.map tW) [32]).length := by omega
  have h2 : ¬ 600 < (Lib.join (l.map tW) [32]).length := by omega
  simp only [lexS, h1, h2, if_false]
  cases l with
  | nil => exact ⟨rfl, rfl⟩
  | cons x xs =>
    have e := join_cons (tW x) (xs.map tW) [32]
    rw [List.map_cons, e]
    have hm := lexM_tokT (k := x.kind) (w := x.text) (by rw [List.all_cons, Bool.and_eq_true] at ht; exact ht.1) (r := joinTail [32] (List.map tW xs)) (rest_tail _)
    have hp : 0 < (tW x ++ joinTail [32] (xs.map tW)).length := by
      cases hz : tW x ++ joinTail [32] (xs.map tW) with
      | nil => rw [show tokT x.kind x.text ++ joinTail [32] (xs.map tW) = [] from hz] at hm; cases hm
      | cons _ _ => simp
    have := lexGo_joined (tW x ++ joinTail [32] (xs.map tW)) xs x ((tW x ++ joinTail [32] (xs.map tW)).length + 1) 0 [] ht rfl (by simp only [List.length_nil, List.length_cons] at hl ⊢; omega) (by omega) hp
    simpa using this
end Go.X

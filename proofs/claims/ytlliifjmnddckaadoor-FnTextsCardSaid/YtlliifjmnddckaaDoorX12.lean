/- GoX, part 12: regions: in the text's order, and in whatever order. No statement of the seat is here. -/
import Derived.Test.YtlliifjmnddckaaDoorX11
set_option linter.unusedVariables false
set_option linter.unusedSimpArgs false
namespace Go.X
open Go

/-! ### Resolving a region -/

def compGd (ops : Array Oper) : Option (Nat × Bool) → Option (Option (Nat × Bool))
  | none => some none
  | some (j, b) => (ops[j]?).bind fun o => o.dst.bind fun t => some (some (t, b))

def dstOk (n : Nat) : Option Nat → Bool
  | some d => decide (d < n)
  | none => true

def compOper (P : Program) (n : Nat) (lo : List Nat) (ops : Array Oper) (o : Oper) : Option XOper :=
  (compOp P lo o).bind fun x => (compGd ops o.guard).bind fun gd =>
    if dstOk n o.dst = true then some ⟨o.dst, x, gd⟩ else none

theorem compOper_sound {P : Program} {n : Nat} {lo : List Nat} {ops : Array Oper} {o : Oper} {x : XOper} (h : compOper P n lo ops o = some x) :
    x.dst = o.dst ∧ compOp P lo o = some x.op ∧ compGd ops o.guard = some x.gd ∧ ∀ d, o.dst = some d → d < n := by
  simp only [compOper, bind_some'] at h
  obtain ⟨xo, h1, gd, h2, h3⟩ := h
  split at h3
  · rename_i hd
    cases h3
    refine ⟨rfl, h1, h2, fun d hdd => ?_⟩
    rw [hdd] at hd
    exact of_decide_eq_true hd
  · simp at h3

/-- The operations that must be done first, by the edges themselves. -/
def depsOf (o : Oper) : List Nat := (o.after.toList.filter fun e => Region.binds .any e).map (·.on)

/-- Of each operation what comes before it, as bits. -/
def masks : List Oper → List Nat → List Nat
  | [], acc => acc
  | o :: os, acc => masks os (acc ++ [(depsOf o).foldl (fun s e => s ||| 2 ^ e ||| acc.getD e 0) 0])

def pairOk (ms : List Nat) (pairs : List (Nat × Nat)) (i j : Nat) (a b : XOper) : Bool :=
  let ord := (ms.getD j 0).testBit i
  (ord || !((match a.dst with | some d => (rdSl b).contains d || b.dst == some d | none => false) || (match b.dst with | some d => (rdSl a).contains d | none => false))) &&
  (ord || !(isW a.op && isW b.op)) &&
  (ord || !(isW a.op && isR b.op) || pairs.contains (j, i)) &&
  (ord || !(isR a.op && isW b.op) || pairs.contains (i, j))

def drawOk (ops : List Oper) (xs : List XOper) (pairs : List (Nat × Nat)) : Bool :=
  let ms := masks ops []
  (List.range ops.length).all fun j => ((depsOf (ops.getD j default)).all fun e => e < j) && (List.range j).all fun i => pairOk ms pairs i j (xs.getD i default) (xs.getD j default)

/-! ### What the bits say -/

def Closed (ops : List Oper) (Sx : Nat → Prop) : Prop := ∀ j o, Sx j → ops[j]? = some o → ∀ e ∈ depsOf o, Sx e

def BitsOk (ops : List Oper) (acc : List Nat) : Prop := ∀ j i o, j < acc.length → ops[j]? = some o → (acc.getD j 0).testBit i = true → ∀ Sx, Closed ops Sx → (∀ e ∈ depsOf o, Sx e) → Sx i

theorem foldl_bits (acc : List Nat) : ∀ (l : List Nat) (s i : Nat), (l.foldl (fun s e => s ||| 2 ^ e ||| acc.getD e 0) s).testBit i = true → s.testBit i = true ∨ ∃ e ∈ l, i = e ∨ (acc.getD e 0).testBit i = true
  | [], s, i, h => .inl h
  | e :: l, s, i, h => by
    rw [List.foldl_cons] at h
    rcases foldl_bits acc l _ i h with h1 | ⟨e', h1, h2⟩
    · rw [Nat.testBit_or, Nat.testBit_or, Bool.or_eq_true, Bool.or_eq_true] at h1
      rcases h1 with (h1 | h1) | h1
      · exact .inl h1
      · rw [Nat.testBit_two_pow] at h1
        exact .inr ⟨e, by simp, .inl (by simpa using (of_decide_eq_true h1).symm)⟩
      · exact .inr ⟨e, by simp, .inr h1⟩
    · exact .inr ⟨e', by simp [h1], h2⟩

theorem masks_ok (ops : List Oper) : ∀ (l : List Oper) (acc : List Nat), (∀ k, l[k]? = ops[acc.length + k]?) → BitsOk ops acc → BitsOk ops (masks l acc) ∧ (masks l acc).length = acc.length + l.length
  | [], acc, _, h => ⟨h, by simp [masks]⟩
  | o :: l, acc, hl, h => by
    have ho : ops[acc.length]? = some o := by have := hl 0; simpa using this.symm
    obtain ⟨h1, h2⟩ := masks_ok ops l (acc ++ [(depsOf o).foldl (fun s e => s ||| 2 ^ e ||| acc.getD e 0) 0]) (fun k => by
      have := hl (k + 1)
      simp only [List.getElem?_cons_succ] at this
      rw [this]
      congr 1
      simp; omega) (by
      intro j i o' hj hoj hb Sx hS hd
      simp only [List.length_append, List.length_cons, List.length_nil] at hj
      rcases Nat.lt_or_ge j acc.length with hlt | hge
      · rw [List.getD_eq_getElem?_getD, List.getElem?_append_left hlt, ← List.getD_eq_getElem?_getD] at hb
        exact h j i o' hlt hoj hb Sx hS hd
      · have e : j = acc.length := by omega
        subst e
        rw [ho] at hoj; cases hoj
        have : (acc ++ [(depsOf o).foldl (fun s e => s ||| 2 ^ e ||| acc.getD e 0) 0]).getD acc.length 0 = (depsOf o).foldl (fun s e => s ||| 2 ^ e ||| acc.getD e 0) 0 := by simp
        rw [this] at hb
        rcases foldl_bits acc _ _ _ hb with h0 | ⟨e, he, h0⟩
        · simp at h0
        · rcases h0 with rfl | h0
          · exact hd _ he
          · have hlt : e < acc.length := by
              rcases Nat.lt_or_ge e acc.length with hlt | hge
              · exact hlt
              · rw [List.getD_eq_getElem?_getD, List.getElem?_eq_none hge] at h0
                simp at h0
            have hoe : ∃ oe, ops[e]? = some oe := by
              have := (List.getElem?_eq_some_iff.1 ho).1
              exact ⟨_, List.getElem?_eq_getElem (by omega)⟩
            obtain ⟨oe, hoe⟩ := hoe
            exact h e i oe hlt hoe h0 Sx hS (hS e oe (hd e he) hoe))
    exact ⟨h1, by rw [masks, h2]; simp; omega⟩

theorem masks_sound {ops : List Oper} {j i : Nat} {o : Oper} (ho : ops[j]? = some o) (hb : ((masks ops []).getD j 0).testBit i = true) {Sx : Nat → Prop} (hS : Closed ops Sx) (hd : ∀ e ∈ depsOf o, Sx e) : Sx i := by
  obtain ⟨h1, h2⟩ := masks_ok ops ops [] (by simp) (by intro j i o hj; simp at hj)
  exact h1 j i o (by rw [h2]; have := (List.getElem?_eq_some_iff.1 ho).1; simpa using this) ho hb Sx hS hd

/-! ### The text's order, place by place -/

section trace
variable (E : Call) (xs : List XOper) (g0 : Regs) (M0 : Mem)

def trAt (j : Nat) : Regs × Mem := ((trace E xs g0 M0)[j]?).getD (g0, M0)
def vAt (j : Nat) : RV := ((evG E (trAt E xs g0 M0 j).1 (trAt E xs g0 M0 j).2 (xs.getD j default)).map (·.1)).getD default

/-- What the register t holds behind the operations k' < k of the set Sx. -/
def valK (Sx : Nat → Bool) : Nat → Nat → Option RV
  | 0, t => lk g0 t
  | k + 1, t => if Sx k = true ∧ (xs.getD k default).dst = some t then some (vAt E xs g0 M0 k) else valK Sx k t

/-- The place behind the last writer of memory. -/
def wl (Sx : Nat → Bool) : Nat → Nat
  | 0 => 0
  | k + 1 => if Sx k = true ∧ isW (xs.getD k default).op = true then k + 1 else wl Sx k
end trace

theorem trace_get {E : Call} : ∀ {xs : List XOper} {g0 : Regs} {M0 : Mem} {r}, execOps E xs g0 M0 = some r → ∀ j, j < xs.length →
    ∃ g M v M', (trace E xs g0 M0)[j]? = some (g, M) ∧ evG E g M (xs.getD j default) = some (v, M') ∧ (trace E xs g0 M0)[j + 1]? = some (putd g (xs.getD j default).dst v, M')
  | [], _, _, _, _, j, hj => by simp at hj
  | x :: xs, g0, M0, r, he, j, hj => by
    simp only [execOps, bind_some'] at he
    obtain ⟨⟨v, M'⟩, h1, h2⟩ := he
    cases j with
    | zero =>
      refine ⟨g0, M0, v, M', by simp [trace], by simpa using h1, ?_⟩
      simp only [trace, h1, List.getElem?_cons_succ]
      cases xs <;> simp [trace]
    | succ j =>
      obtain ⟨g, M, v2, M2, k1, k2, k3⟩ := trace_get h2 j (by simpa using hj)
      exact ⟨g, M, v2, M2, by simpa [trace, h1] using k1, by simpa using k2, by simpa [trace, h1] using k3⟩

theorem trace_last {E : Call} : ∀ {xs : List XOper} {g0 : Regs} {M0 : Mem} {r}, execOps E xs g0 M0 = some r → (trace E xs g0 M0)[xs.length]? = some r
  | [], _, _, _, he => by simp only [execOps, Option.some.injEq] at he; subst he; simp [trace]
  | x :: xs, g0, M0, r, he => by
    simp only [execOps, bind_some'] at he
    obtain ⟨⟨v, M'⟩, h1, h2⟩ := he
    simpa [trace, h1] using trace_last h2

theorem trace_zero {E : Call} {xs : List XOper} {g0 : Regs} {M0 : Mem} : (trace E xs g0 M0)[0]? = some (g0, M0) := by cases xs <;> simp [trace]

section
variable {E : Call} {xs : List XOper} {g0 : Regs} {M0 : Mem} {r : Regs × Mem} (he : execOps E xs g0 M0 = some r)
include he

theorem tr_step {j : Nat} (hj : j < xs.length) : evG E (trAt E xs g0 M0 j).1 (trAt E xs g0 M0 j).2 (xs.getD j default) = some (vAt E xs g0 M0 j, (trAt E xs g0 M0 (j + 1)).2) ∧
    (trAt E xs g0 M0 (j + 1)).1 = putd (trAt E xs g0 M0 j).1 (xs.getD j default).dst (vAt E xs g0 M0 j) := by
  obtain ⟨g, M, v, M', h1, h2, h3⟩ := trace_get he j hj
  have e1 : trAt E xs g0 M0 j = (g, M) := by simp [trAt, h1]
  have e2 : trAt E xs g0 M0 (j + 1) = (putd g (xs.getD j default).dst v, M') := by simp only [trAt, h3, Option.getD_some]
  have e3 : vAt E xs g0 M0 j = v := by simp only [vAt, e1, h2, Option.map_some, Option.getD_some]
  rw [e1, e2, e3]
  exact ⟨h2, rfl⟩

theorem tr_keeps {j : Nat} (hj : j < xs.length) (hw : isW (xs.getD j default).op = false) : (trAt E xs g0 M0 (j + 1)).2 = (trAt E xs g0 M0 j).2 := evG_keeps hw (tr_step he hj).1

theorem tr_same {p : Nat} : ∀ {q : Nat}, p ≤ q → q ≤ xs.length → (∀ k, p ≤ k → k < q → isW (xs.getD k default).op = false) → (trAt E xs g0 M0 q).2 = (trAt E xs g0 M0 p).2 := by
  intro q
  induction q with
  | zero => intro h1 _ _; rw [show p = 0 by omega]
  | succ q ih =>
    intro h1 h2 h3
    rcases Nat.lt_or_ge q p with hlt | hge
    · rw [show p = q + 1 by omega]
    · rw [tr_keeps he (by omega) (h3 q hge (by omega)), ih hge (by omega) (fun k hk1 hk2 => h3 k hk1 (by omega))]

theorem tr_reg : ∀ {k : Nat}, k ≤ xs.length → ∀ t, lk (trAt E xs g0 M0 k).1 t = valK E xs g0 M0 (fun _ => true) k t := by
  intro k
  induction k with
  | zero => intro _ t; simp [trAt, trace_zero, valK]
  | succ k ih =>
    intro hk t
    rw [(tr_step he (by omega)).2]
    simp only [valK, true_and]
    cases hd : (xs.getD k default).dst with
    | none => simp only [putd, reduceCtorEq, if_false]; exact ih (by omega) t
    | some d =>
      simp only [putd, lk]
      by_cases e : d = t
      · subst e; simp
      · rw [if_neg e, if_neg (by simpa using e)]; exact ih (by omega) t
end

theorem wl_le (xs : List XOper) (Sx : Nat → Bool) : ∀ k, wl xs Sx k ≤ k := by
  intro k
  induction k with
  | zero => simp [wl]
  | succ k ih => simp only [wl]; split <;> omega

/-- The last writer of the set, if there is one. -/
theorem wl_spec (xs : List XOper) (Sx : Nat → Bool) : ∀ k, (wl xs Sx k = 0 ∧ ∀ j, j < k → Sx j = true → isW (xs.getD j default).op = false) ∨
    ∃ q, q < k ∧ wl xs Sx k = q + 1 ∧ Sx q = true ∧ isW (xs.getD q default).op = true ∧ ∀ j, q < j → j < k → Sx j = true → isW (xs.getD j default).op = false := by
  intro k
  induction k with
  | zero => exact .inl ⟨rfl, fun j hj => by omega⟩
  | succ k ih =>
    by_cases h : Sx k = true ∧ isW (xs.getD k default).op = true
    · exact .inr ⟨k, by omega, by simp only [wl, if_pos h], h.1, h.2, fun j h1 h2 => by omega⟩
    · have e : wl xs Sx (k + 1) = wl xs Sx k := by simp only [wl, if_neg h]
      have hk : Sx k = true → isW (xs.getD k default).op = false := by
        intro hs
        cases hw : isW (xs.getD k default).op with
        | false => rfl
        | true => exact absurd ⟨hs, hw⟩ h
      rw [e]
      rcases ih with ⟨h1, h2⟩ | ⟨q, h1, h2, h3, h4, h5⟩
      · exact .inl ⟨h1, fun j hj hs => if hjk : j = k then by subst hjk; exact hk hs else h2 j (by omega) hs⟩
      · exact .inr ⟨q, by omega, h2, h3, h4, fun j hj1 hj2 hs => if hjk : j = k then by subst hjk; exact hk hs else h5 j hj1 (by omega) hs⟩

/-- The first writer from a place on. -/
theorem first_w (xs : List XOper) (p : Nat) : ∀ q, p ≤ q → (∀ k, p ≤ k → k < q → isW (xs.getD k default).op = false) ∨ ∃ k, p ≤ k ∧ k < q ∧ isW (xs.getD k default).op = true ∧ ∀ j, p ≤ j → j < k → isW (xs.getD j default).op = false := by
  intro q
  induction q with
  | zero => intro h; exact .inl fun k h1 h2 => by omega
  | succ q ih =>
    intro h
    rcases Nat.lt_or_ge q p with hlt | hge
    · exact .inl fun k h1 h2 => by omega
    · rcases ih hge with h1 | ⟨k, h1, h2, h3, h4⟩
      · cases hw : isW (xs.getD q default).op with
        | false => exact .inl fun k hk1 hk2 => if e : k = q then by subst e; exact hw else h1 k hk1 (by omega)
        | true => exact .inr ⟨q, hge, by omega, hw, fun j hj1 hj2 => h1 j hj1 hj2⟩
      · exact .inr ⟨k, h1, by omega, h3, h4⟩

/-! ### A set of operations that has been done, and one more -/

structure DrawFacts (ops : List Oper) (xs : List XOper) (pairs : List (Nat × Nat)) : Prop where
  len : xs.length = ops.length
  deps : ∀ j o, ops[j]? = some o → ∀ e ∈ depsOf o, e < j
  pair : ∀ i j, i < j → j < ops.length → pairOk (masks ops []) pairs i j (xs.getD i default) (xs.getD j default) = true

theorem drawOk_facts {ops : List Oper} {xs : List XOper} {pairs : List (Nat × Nat)} (hl : xs.length = ops.length) (h : drawOk ops xs pairs = true) : DrawFacts ops xs pairs := by
  simp only [drawOk, List.all_eq_true, List.mem_range, Bool.and_eq_true] at h
  refine ⟨hl, fun j o ho e he => ?_, fun i j hij hj => (h j hj).2 i hij⟩
  have hj := (List.getElem?_eq_some_iff.1 ho).1
  have := (h j hj).1 e (by rw [List.getD_eq_getElem?_getD, ho]; exact he)
  simpa using this

section
variable {ops : List Oper} {xs : List XOper} {pairs : List (Nat × Nat)} (F : DrawFacts ops xs pairs)
include F

/-- Operation i may be done now: what the edges ask has been done, and it has not. -/
structure Ready (ops : List Oper) (Sx : Nat → Bool) (i : Nat) : Prop where
  lt : i < ops.length
  no : Sx i = false
  deps : ∀ o, ops[i]? = some o → ∀ e ∈ depsOf o, Sx e = true

omit F in
theorem Ready.before {Sx : Nat → Bool} {i : Nat} (hr : Ready ops Sx i) (hS : Closed ops (fun j => Sx j = true)) {k : Nat} (hb : ((masks ops []).getD i 0).testBit k = true) : Sx k = true :=
  masks_sound (List.getElem?_eq_getElem hr.lt) hb (Sx := fun j => Sx j = true) hS (hr.deps _ (List.getElem?_eq_getElem hr.lt))

omit F in
theorem Ready.notAfter {Sx : Nat → Bool} {i : Nat} (hr : Ready ops Sx i) (hS : Closed ops (fun j => Sx j = true)) {k : Nat} (hk : k < ops.length) (hs : Sx k = true) : ((masks ops []).getD k 0).testBit i = false := by
  cases hb : ((masks ops []).getD k 0).testBit i with
  | false => rfl
  | true =>
    have := masks_sound (List.getElem?_eq_getElem hk) hb (Sx := fun j => Sx j = true) hS (fun e he => hS k _ hs (List.getElem?_eq_getElem hk) e he)
    have this : Sx i = true := this
    rw [hr.no] at this
    exact absurd this (by simp)

/-- Two operations on one register stand in the edges' order. -/
theorem slots_ordered {i j : Nat} (hij : i < j) (hj : j < ops.length) : (∀ d, (xs.getD i default).dst = some d → d ∈ rdSl (xs.getD j default) ∨ (xs.getD j default).dst = some d → ((masks ops []).getD j 0).testBit i = true) ∧
    (∀ d, (xs.getD j default).dst = some d → d ∈ rdSl (xs.getD i default) → ((masks ops []).getD j 0).testBit i = true) := by
  have h := F.pair i j hij hj
  simp only [pairOk, Bool.and_eq_true, Bool.or_eq_true, Bool.not_eq_true', Bool.or_eq_false_iff] at h
  obtain ⟨⟨⟨h1, _⟩, _⟩, _⟩ := h
  constructor
  · intro d hd hc
    rcases h1 with h1 | ⟨h1, _⟩
    · exact h1
    · exfalso
      rw [hd] at h1
      simp only [Bool.or_eq_false_iff] at h1
      rcases hc with hc | hc
      · have := h1.1; simp at this; exact this hc
      · have := h1.2; rw [hc] at this; simp at this
  · intro d hd hc
    rcases h1 with h1 | ⟨_, h1⟩
    · exact h1
    · exfalso
      rw [hd] at h1
      simp at h1
      exact h1 hc

theorem writers_ordered {i j : Nat} (hij : i < j) (hj : j < ops.length) (h1 : isW (xs.getD i default).op = true) (h2 : isW (xs.getD j default).op = true) : ((masks ops []).getD j 0).testBit i = true := by
  have h := F.pair i j hij hj
  simp only [pairOk, Bool.and_eq_true, Bool.or_eq_true, Bool.not_eq_true', h1, h2, Bool.and_self, Bool.true_eq_false, or_false] at h
  exact h.1.1.2

theorem reader_later {i j : Nat} (hij : i < j) (hj : j < ops.length) (h1 : isW (xs.getD i default).op = true) (h2 : isR (xs.getD j default).op = true) : ((masks ops []).getD j 0).testBit i = true ∨ (j, i) ∈ pairs := by
  have h := F.pair i j hij hj
  simp only [pairOk, Bool.and_eq_true, Bool.or_eq_true, Bool.not_eq_true', h1, h2, Bool.and_self, Bool.true_eq_false, or_false] at h
  rcases h.1.2 with h | h
  · exact .inl h
  · exact .inr (by simpa using h)

theorem reader_earlier {i j : Nat} (hij : i < j) (hj : j < ops.length) (h1 : isR (xs.getD i default).op = true) (h2 : isW (xs.getD j default).op = true) : ((masks ops []).getD j 0).testBit i = true ∨ (i, j) ∈ pairs := by
  have h := F.pair i j hij hj
  simp only [pairOk, Bool.and_eq_true, Bool.or_eq_true, Bool.not_eq_true', h1, h2, Bool.and_self, Bool.true_eq_false, or_false] at h
  rcases h.2 with h | h
  · exact .inl h
  · exact .inr (by simpa using h)

variable {E : Call} {g0 : Regs} {M0 : Mem} {r : Regs × Mem}

/-- What operation i looks at holds what it holds in the text's order. -/
theorem reads_same (he : execOps E xs g0 M0 = some r) {Sx : Nat → Bool} {i : Nat} (hr : Ready ops Sx i) (hS : Closed ops (fun j => Sx j = true)) {t : Nat} (ht : t ∈ rdSl (xs.getD i default)) :
    valK E xs g0 M0 Sx xs.length t = lk (trAt E xs g0 M0 i).1 t := by
  have hi : i < xs.length := by rw [F.len]; exact hr.lt
  rw [tr_reg he (by omega)]
  -- below i: all that write t have been done
  have low : ∀ k, k ≤ i → valK E xs g0 M0 Sx k t = valK E xs g0 M0 (fun _ => true) k t := by
    intro k
    induction k with
    | zero => intro _; rfl
    | succ k ih =>
      intro hk
      simp only [valK, true_and]
      by_cases hd : (xs.getD k default).dst = some t
      · have hb := (slots_ordered F (i := k) (j := i) (by omega) hr.lt).1 t hd (.inl ht)
        have hs := hr.before hS hb
        rw [if_pos ⟨hs, hd⟩, if_pos hd]
      · rw [if_neg (fun h => hd h.2), if_neg hd]
        exact ih (by omega)
  -- from i on: none that has been done writes t
  have high : ∀ k, i ≤ k → k ≤ xs.length → valK E xs g0 M0 Sx k t = valK E xs g0 M0 Sx i t := by
    intro k
    induction k with
    | zero => intro h _; rw [show i = 0 by omega]
    | succ k ih =>
      intro h1 h2
      rcases Nat.lt_or_ge k i with hlt | hge
      · rw [show i = k + 1 by omega]
      · rw [← ih hge (by omega)]
        simp only [valK]
        rw [if_neg]
        rintro ⟨hs, hd⟩
        rcases Nat.lt_or_ge i k with hlt | hge2
        · have hk : k < ops.length := by rw [← F.len]; omega
          have hb := (slots_ordered F (i := i) (j := k) hlt hk).2 t hd ht
          rw [hr.notAfter hS hk hs] at hb
          exact absurd hb (by simp)
        · have : k = i := by omega
          subst this
          rw [hr.no] at hs
          exact absurd hs (by simp)
  rw [high xs.length (by omega) (Nat.le_refl _), low i (Nat.le_refl _)]

/-- Operation i tells over the memory at hand what it tells in the text's order; and what memory is behind it. -/
theorem step_same (he : execOps E xs g0 M0 = some r) (hst : stable E xs g0 M0 pairs) {Sx : Nat → Bool} {i : Nat} (hr : Ready ops Sx i) (hS : Closed ops (fun j => Sx j = true)) :
    evG E (trAt E xs g0 M0 i).1 (trAt E xs g0 M0 (wl xs Sx xs.length)).2 (xs.getD i default) = some (vAt E xs g0 M0 i, (trAt E xs g0 M0 (wl xs (fun j => j == i || Sx j) xs.length)).2) := by
  have hi : i < xs.length := by rw [F.len]; exact hr.lt
  obtain ⟨hstep, _⟩ := tr_step he hi
  have hlt : ∀ {j}, j < xs.length → j < ops.length := fun h => by rw [← F.len]; exact h
  -- one pair of the region's list
  have pr : ∀ k, k < xs.length → (i, k) ∈ pairs → evG E (trAt E xs g0 M0 i).1 (trAt E xs g0 M0 k).2 (xs.getD i default) = some (vAt E xs g0 M0 i, (trAt E xs g0 M0 k).2) ∧
      evG E (trAt E xs g0 M0 i).1 (trAt E xs g0 M0 (k + 1)).2 (xs.getD i default) = some (vAt E xs g0 M0 i, (trAt E xs g0 M0 (k + 1)).2) := by
    intro k hk hp
    have hg : ∀ j, j ≤ xs.length → (trace E xs g0 M0)[j]? = some (trAt E xs g0 M0 j) := by
      intro j hj
      rcases Nat.lt_or_ge j xs.length with h1 | h1
      · obtain ⟨g, M, _, _, h2, _⟩ := trace_get he j h1
        simp [trAt, h2]
      · have : j = xs.length := by omega
        subst this
        simp [trAt, trace_last he]
    exact hst (i, k) hp (xs.getD i default) _ _ _ _ _ _ _ _ (by rw [List.getD_eq_getElem?_getD, List.getElem?_eq_getElem hi]; rfl) (hg i (by omega)) hstep (hg k (by omega)) (hg (k + 1) (by omega))
  cases hw : isW (xs.getD i default).op with
  | true =>
    -- a writer: all earlier writers have been done, and no later one
    have hnone : ∀ j, i < j → j < xs.length → Sx j = true → isW (xs.getD j default).op = false := by
      intro j h1 h2 hs
      cases hwj : isW (xs.getD j default).op with
      | false => rfl
      | true =>
        have hb := writers_ordered F h1 (hlt h2) hw hwj
        rw [hr.notAfter hS (hlt h2) hs] at hb
        exact absurd hb (by simp)
    have hmem : (trAt E xs g0 M0 (wl xs Sx xs.length)).2 = (trAt E xs g0 M0 i).2 := by
      have hall : ∀ k, k < i → isW (xs.getD k default).op = true → Sx k = true := fun k hk hwk => hr.before hS (writers_ordered F hk hr.lt hwk hw)
      rcases wl_spec xs Sx xs.length with ⟨h1, h2⟩ | ⟨q, h1, h2, h3, h4, h5⟩
      · rw [h1]
        refine (tr_same he (Nat.zero_le i) (by omega) (fun k _ hk => ?_)).symm
        cases hwk : isW (xs.getD k default).op with
        | false => rfl
        | true => rw [← hwk]; exact h2 k (by omega) (hall k hk hwk)
      · rw [h2]
        have hqi : q < i := by
          rcases Nat.lt_trichotomy q i with h | h | h
          · exact h
          · subst h; rw [hr.no] at h3; exact absurd h3 (by simp)
          · rw [hnone q h h1 h3] at h4; exact absurd h4 (by simp)
        refine (tr_same he (by omega) (by omega) (fun k hk1 hk2 => ?_)).symm
        cases hwk : isW (xs.getD k default).op with
        | false => rfl
        | true => rw [← hwk]; exact h5 k (by omega) (by omega) (hall k hk2 hwk)
    have hnew : wl xs (fun j => j == i || Sx j) xs.length = i + 1 := by
      rcases wl_spec xs (fun j => j == i || Sx j) xs.length with ⟨h1, h2⟩ | ⟨q, h1, h2, h3, h4, h5⟩
      · have := h2 i hi (by simp)
        rw [hw] at this; exact absurd this (by simp)
      · rw [h2]
        rcases Nat.lt_trichotomy q i with h | h | h
        · have := h5 i h hi (by simp)
          rw [hw] at this; exact absurd this (by simp)
        · rw [h]
        · have hs : Sx q = true := by
            have : (q == i) = false := by simp; omega
            simpa [this] using h3
          rw [hnone q h h1 hs] at h4
          exact absurd h4 (by simp)
    rw [hmem, hnew]
    exact hstep
  | false =>
    have hsame : wl xs (fun j => j == i || Sx j) xs.length = wl xs Sx xs.length := by
      have key : ∀ k, wl xs (fun j => j == i || Sx j) k = wl xs Sx k := by
        intro k
        induction k with
        | zero => rfl
        | succ k ih =>
          simp only [wl]
          by_cases e : k = i
          · subst e
            rw [if_neg (fun h => by rw [hw] at h; exact absurd h.2 (by simp)), if_neg (fun h => by rw [hw] at h; exact absurd h.2 (by simp))]
            exact ih
          · have : (k == i) = false := by simpa using e
            simp only [this, Bool.false_or, ih]
      exact key _
    rw [hsame]
    cases hrd : isR (xs.getD i default).op with
    | false => exact evG_pure hw hrd hstep
    | true =>
      have hkeep := tr_keeps he hi hw
      rw [hkeep] at hstep
      rcases wl_spec xs Sx xs.length with ⟨h1, h2⟩ | ⟨q, h1, h2, h3, h4, h5⟩
      · rw [h1]
        rcases first_w xs 0 i (Nat.zero_le _) with hno | ⟨k, _, hk2, hk3, hk4⟩
        · rw [← tr_same he (Nat.zero_le i) (by omega) hno]; exact hstep
        · have hns : Sx k ≠ true := fun hs => by rw [h2 k (by omega) hs] at hk3; exact absurd hk3 (by simp)
          rcases reader_later F hk2 hr.lt hk3 hrd with hb | hp
          · exact absurd (hr.before hS hb) hns
          · have e := tr_same he (Nat.zero_le k) (by omega) hk4
            have := (pr k (by omega) hp).1
            rwa [e] at this
      · rw [h2]
        rcases Nat.lt_trichotomy q i with h | h | h
        · rcases first_w xs (q + 1) i (by omega) with hno | ⟨k, hk1, hk2, hk3, hk4⟩
          · rw [← tr_same he (by omega) (by omega) hno]; exact hstep
          · have hns : Sx k ≠ true := fun hs => by rw [h5 k (by omega) (by omega) hs] at hk3; exact absurd hk3 (by simp)
            rcases reader_later F hk2 hr.lt hk3 hrd with hb | hp
            · exact absurd (hr.before hS hb) hns
            · have e := tr_same he hk1 (by omega) hk4
              have := (pr k (by omega) hp).1
              rwa [e] at this
        · subst h; rw [hr.no] at h3; exact absurd h3 (by simp)
        · rcases reader_earlier F h (hlt h1) hrd h4 with hb | hp
          · rw [hr.notAfter hS (hlt h1) h3] at hb; exact absurd hb (by simp)
          · exact (pr q h1 hp).2

/-- The registers behind operation i. -/
theorem val_put {Sx : Nat → Bool} {i : Nat} (hr : Ready ops Sx i) (hS : Closed ops (fun j => Sx j = true)) (t : Nat) :
    valK E xs g0 M0 (fun j => j == i || Sx j) xs.length t = if (xs.getD i default).dst = some t then some (vAt E xs g0 M0 i) else valK E xs g0 M0 Sx xs.length t := by
  have hi : i < xs.length := by rw [F.len]; exact hr.lt
  by_cases hd : (xs.getD i default).dst = some t
  · rw [if_pos hd]
    have key : ∀ k, i < k → k ≤ xs.length → valK E xs g0 M0 (fun j => j == i || Sx j) k t = some (vAt E xs g0 M0 i) := by
      intro k
      induction k with
      | zero => intro h _; omega
      | succ k ih =>
        intro h1 h2
        simp only [valK]
        by_cases e : k = i
        · subst e; rw [if_pos ⟨by simp, hd⟩]
        · rw [if_neg]
          · exact ih (by omega) (by omega)
          · rintro ⟨hs, hdk⟩
            have : (k == i) = false := by simpa using e
            rw [this, Bool.false_or] at hs
            have hk : k < ops.length := by rw [← F.len]; omega
            have hb := (slots_ordered F (i := i) (j := k) (by omega) hk).1 t hd (.inr hdk)
            rw [hr.notAfter hS hk hs] at hb
            exact absurd hb (by simp)
    exact key xs.length hi (Nat.le_refl _)
  · rw [if_neg hd]
    have key : ∀ k, valK E xs g0 M0 (fun j => j == i || Sx j) k t = valK E xs g0 M0 Sx k t := by
      intro k
      induction k with
      | zero => rfl
      | succ k ih =>
        simp only [valK]
        by_cases e : k = i
        · subst e
          rw [if_neg (fun h => hd h.2), if_neg (fun h => hd h.2)]
          exact ih
        · have : (k == i) = false := by simpa using e
          simp only [this, Bool.false_or, ih]
    exact key _
end

end Go.X

/- Ways in right trees; functions, calls, what comes of calls: as plain laws. No program is here. -/
import Derived.Test.YtfifhpmcbfeadaaGreatDoorXA1
set_option linter.unusedVariables false
set_option linter.unusedSimpArgs false
namespace Go.X
open Go

/-- The first node that has k as a kid; -1 without one. -/
def hasKid (k : Int) (n : NodeM) : Bool := n.kids.any (fun c => k == c)
def parM (m : TreeM) (k : Int) : Int := match fndP (hasKid k) m.nodes with | none => -1 | some i => (i : Int)
/-- The way from a node up to the outmost block. -/
inductive WayUp (m : TreeM) : Int → List Int → Prop
  | root : WayUp m m.root [m.root]
  | up {k p : Int} {l : List Int} : k ≠ m.root → 0 ≤ k → parM m k = p → WayUp m p l → WayUp m k (k :: l)
theorem WayUp.nonneg {m : TreeM} (hr : 0 ≤ m.root) {k : Int} {l : List Int} (h : WayUp m k l) : 0 ≤ k ∧ 1 ≤ l.length ∧ ∀ x ∈ l, 0 ≤ x := by
  induction h with
  | root => exact ⟨hr, by simp, fun x hx => by rw [List.mem_singleton] at hx; omega⟩
  | up _ h1 _ _ ih => exact ⟨h1, by simp, fun x hx => by rcases List.mem_cons.1 hx with rfl | hx; exact h1; exact ih.2.2 x hx⟩
theorem RightT.parRoot {m : TreeM} (h : RightT m) : parM m m.root = -1 := by
  unfold parM
  cases hf : fndP (hasKid m.root) m.nodes with
  | none => rfl
  | some i =>
    obtain ⟨⟨n, h1, h2⟩, _⟩ := fndP_some hf
    simp only [hasKid, List.any_eq_true, beq_iff_eq] at h2
    obtain ⟨c, h3, rfl⟩ := h2
    exact (((h.node i n h1).2.2.1 _ h3).2.2 rfl).elim
theorem RightT.par {m : TreeM} (h : RightT m) {y : Nat} {ny : NodeM} {x : Int} (hy : m.nodes[y]? = some ny) (hx : x ∈ ny.kids) : parM m x = (y : Int) := by
  unfold parM
  cases hf : fndP (hasKid x) m.nodes with
  | none =>
    have := fndP_none hf y ny hy
    simp only [hasKid, List.any_eq_false, beq_iff_eq] at this
    exact (this x hx rfl).elim
  | some i =>
    obtain ⟨⟨n, h1, h2⟩, _⟩ := fndP_some hf
    simp only [hasKid, List.any_eq_true, beq_iff_eq] at h2
    obtain ⟨c, h3, rfl⟩ := h2
    rw [h.uniq i y n ny h1 hy x h3 hx]
theorem RightT.chain {m : TreeM} (h : RightT m) {x d : Nat} (hr : Reach m m.root.toNat x d) : ∃ l, WayUp m (x : Int) l ∧ l.length = d + 1 := by
  generalize ha : m.root.toNat = a at hr
  induction hr with
  | refl =>
    have h0 := h.root.1
    have e : ((a : Nat) : Int) = m.root := by omega
    rw [e]; exact ⟨[m.root], .root, rfl⟩
  | step _ h1 h2 ih =>
    obtain ⟨l, h3, h4⟩ := ih
    exact ⟨_ :: l, .up ((h.node _ _ h1).2.2.1 _ h2).2.2 (by omega) (h.par h1 h2) h3, by simp [h4]⟩
/-- The way up from a node. -/
theorem RightT.way {m : TreeM} (h : RightT m) {k : Int} (h0 : 0 ≤ k) (h1 : k < m.nodes.length) : ∃ l, WayUp m k l ∧ l.length ≤ 200 := by
  obtain ⟨d, hd, hr⟩ := h.up k.toNat (by omega)
  obtain ⟨l, h2, h3⟩ := h.chain hr
  rw [Int.toNat_of_nonneg h0] at h2
  exact ⟨l, h2, by omega⟩

/-! ### Functions and calls -/

def kindM (m : TreeM) (k : Int) : Int := match m.nodes[k.toNat]? with | none => 0 | some n => n.kind
def textM (m : TreeM) (k : Int) : List UInt8 := match m.nodes[k.toNat]? with | none => [] | some n => n.text
def kidsM (m : TreeM) (k : Int) : List Int := match m.nodes[k.toNat]? with | none => [] | some n => n.kids
def funcsM (m : TreeM) : List Int := (kidsM m m.root).filter (fun k => kindM m k == 20)
def namesM (m : TreeM) : List (List UInt8) := (funcsM m).map (textM m)
def callsL (w : Int → List (List UInt8) → List (List UInt8)) (m : TreeM) : List Int → List (List UInt8) → List (List UInt8)
  | [], out => out
  | c :: cs, out => callsL w m cs (if kindM m c == 20 then out else w c out)
/-- A call is noted once. -/
def callM (m : TreeM) (n : NodeM) (out : List (List UInt8)) : List (List UInt8) := if (n.kind == 10 && ((namesM m).any (fun x => n.text == x) && !(out.any (fun x => n.text == x)))) = true then out ++ [n.text] else out
def callsM (m : TreeM) : Nat → Int → List (List UInt8) → List (List UInt8)
  | 0, _, out => out
  | f + 1, k, out => match m.nodes[k.toNat]? with
    | none => out
    | some n => callM m n (callsL (callsM m f) m n.kids out)

/-- Function nodes stand below the outmost block. -/
theorem RightT.func {m : TreeM} (h : RightT m) {k : Int} (h0 : 0 ≤ k) {n : NodeM} (hn : m.nodes[k.toNat]? = some n) (hk : n.kind = 20) : k ∈ funcsM m := by
  have hlt := (List.getElem?_eq_some_iff.1 hn).1
  obtain ⟨d, hd, hr⟩ := h.up k.toNat hlt
  have key : ∀ x d, Reach m m.root.toNat x d → ∀ nx, m.nodes[x]? = some nx → nx.kind = 20 → (x : Int) ∈ kidsM m m.root := by
    intro x d hr nx hx hkx
    cases hr with
    | refl =>
      obtain ⟨_, nd, h1, h2⟩ := h.root
      rw [h1] at hx; cases hx
      omega
    | step hy h1 h2 =>
      rename_i y d ny
      obtain ⟨_, hl, _, hs⟩ := h.node y ny h1
      obtain ⟨i, hi⟩ := List.getElem?_of_mem h2
      have hil : i < (sortsM ny).length := by have := (List.getElem?_eq_some_iff.1 hi).1; omega
      obtain ⟨nc, e, hrt⟩ := hs i _ _ (List.getElem?_eq_getElem hil) hi
      rw [Int.toNat_natCast, hx] at e; cases e
      have hroot : (y : Int) = m.root := by
        by_cases hroot : (y : Int) = m.root
        · exact hroot
        · exfalso
          have hmem : (sortsM ny)[i] ∈ sortsM ny := List.getElem_mem hil
          have hle : ∀ s ∈ sortsM ny, s = 1 ∨ s = 2 ∨ s = 3 := by
            intro s hs
            simp only [sortsM] at hs
            repeat' split at hs
            all_goals (first | (have := List.eq_of_mem_replicate hs; omega) | (cases hs; done) | (simp at hs; omega))
          have := hle _ hmem
          have ha : adjM m.root y (sortsM ny)[i] = (sortsM ny)[i] := by unfold adjM; rw [if_neg (fun e => hroot e.1)]
          rw [ha, rightM, hkx] at hrt
          rcases this with e | e | e <;> rw [e] at hrt <;> revert hrt <;> decide
      have : kidsM m m.root = ny.kids := by unfold kidsM; rw [← hroot, Int.toNat_natCast, h1]
      rw [this]; exact h2
  have := key _ _ hr n hn hk
  rw [Int.toNat_of_nonneg h0] at this
  simp only [funcsM, List.mem_filter, beq_iff_eq]
  refine ⟨this, ?_⟩
  simp only [kindM, hn, hk]
theorem funcsM_kind {m : TreeM} {k : Int} (h : k ∈ funcsM m) : kindM m k = 20 := by
  simp only [funcsM, List.mem_filter, beq_iff_eq] at h
  exact h.2
theorem funcsM_kid {m : TreeM} {k : Int} (h : k ∈ funcsM m) : k ∈ kidsM m m.root := (List.mem_filter.1 h).1
theorem RightT.funcIn {m : TreeM} (h : RightT m) {k : Int} (hk : k ∈ funcsM m) : 0 ≤ k ∧ k < m.nodes.length ∧ k ≠ m.root := by
  obtain ⟨h0, nd, h1, _⟩ := h.root
  have hk' := funcsM_kid hk
  simp only [kidsM, h1] at hk'
  have := (h.node _ _ h1).2.2.1 k hk'
  omega

/-- How many of some names are not there yet. -/
def cntN (names out : List (List UInt8)) : Nat := (names.filter (fun x => !(out.any (fun y => x == y)))).length
theorem filter_le {α : Type} (p q : α → Bool) (h : ∀ x, p x = true → q x = true) : ∀ l : List α, (l.filter p).length ≤ (l.filter q).length
  | [] => Nat.le_refl _
  | a :: l => by
    have ih := filter_le p q h l
    simp only [List.filter_cons]
    cases hp : p a with
    | true => rw [h a hp]; simpa using ih
    | false =>
      cases hq : q a with
      | true => simp only [Bool.false_eq_true, if_false, if_true, List.length_cons]; omega
      | false => simpa using ih
theorem filter_lt {α : Type} (p q : α → Bool) (h : ∀ x, p x = true → q x = true) : ∀ (l : List α) (a : α), a ∈ l → p a = false → q a = true → (l.filter p).length < (l.filter q).length
  | b :: l, a, ha, hp, hq => by
    simp only [List.filter_cons]
    rcases List.mem_cons.1 ha with rfl | ha
    · have := filter_le p q h l
      rw [hp, hq]; simp only [Bool.false_eq_true, if_false, if_true, List.length_cons]; omega
    · have ih := filter_lt p q h l a ha hp hq
      cases hb : p b with
      | true => rw [h b hb]; simpa using ih
      | false =>
        cases hqb : q b with
        | true => simp only [Bool.false_eq_true, if_false, if_true, List.length_cons]; omega
        | false => simpa using ih
theorem cntN_add (names out : List (List UInt8)) (t : List UInt8) (h1 : names.any (fun x => t == x) = true) (h2 : out.any (fun x => t == x) = false) : cntN names (out ++ [t]) < cntN names out := by
  simp only [List.any_eq_true, beq_iff_eq] at h1
  obtain ⟨x, hx, rfl⟩ := h1
  refine filter_lt _ _ (fun x hx => ?_) names t hx ?_ (by simp [h2])
  · simp only [List.any_append, Bool.not_or, Bool.and_eq_true] at hx; exact hx.1
  · simp
def okN (names out : List (List UInt8)) : Prop := out.length + cntN names out ≤ names.length
theorem okN_nil (names : List (List UInt8)) : okN names [] := by simp only [okN, cntN, List.length_nil, Nat.zero_add]; exact List.length_filter_le _ _
theorem okN.add {names out : List (List UInt8)} (h : okN names out) {t : List UInt8} (h1 : names.any (fun x => t == x) = true) (h2 : out.any (fun x => t == x) = false) : okN names (out ++ [t]) := by
  have := cntN_add names out t h1 h2
  simp only [okN, List.length_append, List.length_cons, List.length_nil] at h ⊢
  omega
theorem callM_ok {m : TreeM} {out : List (List UInt8)} (n : NodeM) (h : okN (namesM m) out) : okN (namesM m) (callM m n out) := by
  unfold callM
  split
  · rename_i hc
    simp only [Bool.and_eq_true, Bool.not_eq_true'] at hc
    exact h.add hc.2.1 hc.2.2
  · exact h
theorem callsL_ok {m : TreeM} (w : Int → List (List UInt8) → List (List UInt8)) (hw : ∀ c out, okN (namesM m) out → okN (namesM m) (w c out)) : ∀ cs out, okN (namesM m) out → okN (namesM m) (callsL w m cs out)
  | [], out, h => h
  | c :: cs, out, h => by
    simp only [callsL]
    apply callsL_ok w hw cs
    split
    · exact h
    · exact hw c out h
theorem callsM_ok {m : TreeM} : ∀ f k out, okN (namesM m) out → okN (namesM m) (callsM m f k out)
  | 0, k, out, h => h
  | f + 1, k, out, h => by
    simp only [callsM]
    split
    · exact h
    · exact callM_ok _ (callsL_ok _ (callsM_ok f) _ _ h)
end Go.X

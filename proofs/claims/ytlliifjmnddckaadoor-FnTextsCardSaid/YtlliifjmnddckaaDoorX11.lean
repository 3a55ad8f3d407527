/- GoX, part 11: a region whose order Go leaves open: whatever the order, it comes to what the text's order comes to. No statement of the seat is here. -/
import Derived.Test.YtlliifjmnddckaaDoorX10
import Derived.Orders
set_option linter.unusedVariables false
set_option linter.unusedSimpArgs false
namespace Go.X
open Go

/-! ### What an operation looks at -/

def oSl : XO → List Nat
  | .t n => [n]
  | .c _ => []

def oSls (l : List XO) : List Nat := l.flatMap oSl
def oSlo : Option XO → List Nat
  | none => []
  | some x => oSl x

def opSl : XOp → List Nat
  | .mv x => oSl x
  | .pick c a b => oSl c ++ oSl a ++ oSl b
  | .alloc .. => []
  | .box _ _ _ x => oSl x
  | .load _ _ x => oSl x
  | .store _ a x => oSl a ++ oSl x
  | .fadr _ x => oSl x
  | .iadr _ x i => oSl x ++ oSl i
  | .fld _ _ _ x => oSl x
  | .bin _ x y => oSl x ++ oSl y
  | .beq _ x y => oSl x ++ oSl y
  | .seq _ _ x y => oSl x ++ oSl y
  | .isnil _ _ x => oSl x
  | .bnot x => oSl x
  | .neg x => oSl x
  | .len _ x => oSl x
  | .ext x _ => oSl x
  | .build _ ps => ps.flatMap fun p => oSl p.2.2
  | .bsl _ _ _ _ ps => ps.flatMap fun p => oSl p.2
  | .app _ _ x y => oSl x ++ oSl y
  | .slc _ x l h => oSl x ++ oSlo l ++ oSlo h
  | .sstr x l h => oSl x ++ oSlo l ++ oSlo h
  | .idx x i => oSl x ++ oSl i
  | .s2b x => oSl x
  | .b2s x => oSl x
  | .cvt _ x => oSl x
  | .mks _ _ _ l c => oSl l ++ oSl c
  | .nilc x => oSl x
  | .mx _ x y => oSl x ++ oSl y
  | .mkf _ cs => oSls cs
  | .call _ as => oSls as
  | .calld x as => oSl x ++ oSls as

def rdSl (o : XOper) : List Nat := (match o.gd with | some (t, _) => [t] | none => []) ++ opSl o.op

/-- It writes memory. -/
def isW : XOp → Bool
  | .alloc .. | .box .. | .store .. | .bsl .. | .app .. | .s2b .. | .mks .. | .call .. | .calld .. => true
  | _ => false

/-- It reads memory. -/
def isR : XOp → Bool
  | .load .. | .iadr .. | .slc .. | .b2s .. => true
  | _ => false

theorem ev_congr {g g' : Regs} {x : XO} (h : ∀ t ∈ oSl x, lk g t = lk g' t) : ev g x = ev g' x := by
  cases x with
  | t n => exact h n (by simp [oSl])
  | c v => rfl

theorem evv_congr {g g' : Regs} {x : XO} (h : ∀ t ∈ oSl x, lk g t = lk g' t) : evv g x = evv g' x := by
  unfold evv; rw [ev_congr h]

theorem evs_congr {g g' : Regs} : ∀ {l : List XO}, (∀ t ∈ oSls l, lk g t = lk g' t) → evs g l = evs g' l
  | [], _ => rfl
  | x :: l, h => by
    unfold evs
    rw [evv_congr (x := x) (fun t ht => h t (by simp [oSls, ht])), evs_congr (l := l) (fun t ht => h t (by simp only [oSls, List.flatMap_cons, List.mem_append]; exact .inr ht))]

theorem fillP_congr {g g' : Regs} : ∀ {ps : List (Nat × Nat × XO)} {cs : List AV}, (∀ t ∈ ps.flatMap fun p => oSl p.2.2, lk g t = lk g' t) → fillP g cs ps = fillP g' cs ps
  | [], _, _ => rfl
  | (o, s, x) :: ps, cs, h => by
    unfold fillP
    rw [evv_congr (x := x) (fun t ht => h t (by simp [ht]))]
    congr 1; funext a; congr 1; funext y
    rw [fillP_congr (fun t ht => h t (by rw [List.flatMap_cons, List.mem_append]; exact .inr ht))]

theorem fillS_congr {g g' : Regs} {sz : Nat} : ∀ {ps : List (Nat × XO)} {cs : List (List AV)}, (∀ t ∈ ps.flatMap fun p => oSl p.2, lk g t = lk g' t) → fillS g sz cs ps = fillS g' sz cs ps
  | [], _, _ => rfl
  | (o, x) :: ps, cs, h => by
    unfold fillS
    rw [evv_congr (x := x) (fun t ht => h t (by simp [ht]))]
    congr 1; funext a; congr 1; funext y
    rw [fillS_congr (fun t ht => h t (by rw [List.flatMap_cons, List.mem_append]; exact .inr ht))]

theorem bnd_congr {g g' : Regs} {d : Nat} {x : Option XO} (h : ∀ t ∈ oSlo x, lk g t = lk g' t) : bnd g d x = bnd g' d x := by
  cases x with
  | none => rfl
  | some x => simp only [bnd]; rw [evv_congr h]

theorem evOp_congr {E : Call} {g g' : Regs} {M : Mem} {op : XOp} (h : ∀ t ∈ opSl op, lk g t = lk g' t) : evOp E g M op = evOp E g' M op := by
  cases op with
  | call f as => simp only [evOp]; rw [evs_congr h]
  | calld x as =>
    simp only [evOp]
    rw [evv_congr (x := x) (fun t ht => h t (by simp [opSl, ht])), evs_congr (l := as) (fun t ht => h t (by simp [opSl, ht]))]
  | mv x => simp only [evOp, evP]; rw [ev_congr h]
  | pick c a b =>
    simp only [evOp, evP]
    rw [evv_congr (x := c) (fun t ht => h t (by simp [opSl, ht])), ev_congr (x := a) (fun t ht => h t (by simp [opSl, ht])), ev_congr (x := b) (fun t ht => h t (by simp [opSl, ht]))]
  | alloc lo t z => cases lo <;> simp only [evOp, evP]
  | box lo t s x => cases lo <;> simp only [evOp, evP] <;> rw [evv_congr h]
  | load ag s x => simp only [evOp, evP]; rw [ev_congr h]
  | store s p x =>
    simp only [evOp, evP]
    rw [ev_congr (x := p) (fun t ht => h t (by simp [opSl, ht])), evv_congr (x := x) (fun t ht => h t (by simp [opSl, ht]))]
  | fadr k x => simp only [evOp, evP]; rw [ev_congr h]
  | iadr s x i =>
    simp only [evOp, evP]
    rw [evv_congr (x := x) (fun t ht => h t (by simp [opSl, ht])), evv_congr (x := i) (fun t ht => h t (by simp [opSl, ht]))]
  | fld ag k s x => simp only [evOp, evP]; rw [evv_congr h]
  | bin b x y =>
    simp only [evOp, evP]
    rw [evv_congr (x := x) (fun t ht => h t (by simp [opSl, ht])), evv_congr (x := y) (fun t ht => h t (by simp [opSl, ht]))]
  | beq n x y =>
    simp only [evOp, evP]
    rw [evv_congr (x := x) (fun t ht => h t (by simp [opSl, ht])), evv_congr (x := y) (fun t ht => h t (by simp [opSl, ht]))]
  | seq n k x y =>
    simp only [evOp, evP]
    rw [evv_congr (x := x) (fun t ht => h t (by simp [opSl, ht])), evv_congr (x := y) (fun t ht => h t (by simp [opSl, ht]))]
  | isnil k n x => simp only [evOp, evP]; rw [evv_congr h]
  | mx big x y =>
    simp only [evOp, evP]
    rw [evv_congr (x := x) (fun t ht => h t (by simp [opSl, ht])), evv_congr (x := y) (fun t ht => h t (by simp [opSl, ht]))]
  | bnot x => simp only [evOp, evP]; rw [evv_congr h]
  | neg x => simp only [evOp, evP]; rw [evv_congr h]
  | len st x => cases st <;> simp only [evOp, evP] <;> rw [evv_congr h]
  | ext x i => simp only [evOp, evP]; rw [evv_congr h]
  | build z ps => simp only [evOp, evP]; rw [fillP_congr h]
  | bsl lo s k z ps => simp only [evOp, evP]; rw [fillS_congr h]
  | app s b x y =>
    simp only [evOp, evP]
    rw [evv_congr (x := x) (fun t ht => h t (by simp [opSl, ht])), ev_congr (x := y) (fun t ht => h t (by simp [opSl, ht]))]
  | slc s x l r =>
    simp only [evOp, evP]
    rw [evv_congr (x := x) (fun t ht => h t (by simp [opSl, ht]))]
    congr 1; funext a
    cases a <;> simp only [bnd_congr (x := l) (fun t ht => h t (by simp [opSl, ht])), bnd_congr (x := r) (fun t ht => h t (by simp [opSl, ht]))]
  | sstr x l r =>
    simp only [evOp, evP]
    rw [evv_congr (x := x) (fun t ht => h t (by simp [opSl, ht]))]
    congr 1; funext a
    cases a <;> simp only [bnd_congr (x := l) (fun t ht => h t (by simp [opSl, ht])), bnd_congr (x := r) (fun t ht => h t (by simp [opSl, ht]))]
  | idx x i =>
    simp only [evOp, evP]
    rw [evv_congr (x := x) (fun t ht => h t (by simp [opSl, ht])), evv_congr (x := i) (fun t ht => h t (by simp [opSl, ht]))]
  | s2b x => simp only [evOp, evP]; rw [evv_congr h]
  | b2s x => simp only [evOp, evP]; rw [ev_congr h]
  | cvt k x => simp only [evOp, evP]; rw [evv_congr h]
  | mks s b z l c =>
    simp only [evOp, evP]
    rw [evv_congr (x := l) (fun t ht => h t (by simp [opSl, ht])), evv_congr (x := c) (fun t ht => h t (by simp [opSl, ht]))]
  | nilc x => simp only [evOp, evP]; rw [ev_congr h]
  | mkf f cs => simp only [evOp, evP]; rw [evs_congr h]

theorem evG_congr {E : Call} {g g' : Regs} {M : Mem} {o : XOper} (h : ∀ t ∈ rdSl o, lk g t = lk g' t) : evG E g M o = evG E g' M o := by
  have hw : wants g o.gd = wants g' o.gd := by
    unfold wants
    cases hg : o.gd with
    | none => rfl
    | some p =>
      obtain ⟨t, b⟩ := p
      simp only
      rw [h t (by simp [rdSl, hg])]
  unfold evG
  rw [hw, evOp_congr (fun t ht => h t (by simp [rdSl, ht]))]

/-- What does not write leaves memory as it is. -/
theorem evOp_keeps {E : Call} {g : Regs} {M M' : Mem} {op : XOp} {v : RV} (hw : isW op = false) (h : evOp E g M op = some (v, M')) : M' = M := by
  cases op <;> first
    | (simp [isW] at hw; done)
    | skip
  case mv x => simp only [evOp, evP, bind_some', Option.some.injEq, Prod.mk.injEq] at h; obtain ⟨_, _, _, rfl⟩ := h; rfl
  case pick c a b =>
    simp only [evOp, evP, bind_some'] at h
    obtain ⟨x, _, h⟩ := h
    cases x <;> simp only [reduceCtorEq, bind_some', Option.some.injEq, Prod.mk.injEq] at h
    obtain ⟨_, _, _, rfl⟩ := h; rfl
  case load ag s x => simp only [evOp, evP, bind_some', Option.some.injEq, Prod.mk.injEq] at h; obtain ⟨_, _, _, _, _, _, _, rfl⟩ := h; rfl
  case fadr k x =>
    simp only [evOp, evP, bind_some'] at h
    obtain ⟨x, _, h⟩ := h
    split at h <;> simp at h <;> exact h.2.symm
  case iadr s x i =>
    simp only [evOp, evP, bind_some'] at h
    obtain ⟨x, _, y, _, h⟩ := h
    split at h
    · simp only [bind_some'] at h
      obtain ⟨_, _, h⟩ := h
      split at h <;> simp at h
      exact h.2.symm
    · simp at h
  case fld ag k s x =>
    simp only [evOp, evP, bind_some'] at h
    obtain ⟨x, _, h⟩ := h
    cases x <;> simp only [reduceCtorEq, bind_some', Option.some.injEq, Prod.mk.injEq] at h
    obtain ⟨_, _, _, rfl⟩ := h; rfl
  case bin b x y => simp only [evOp, evP, bind_some', Option.some.injEq, Prod.mk.injEq] at h; obtain ⟨_, _, _, _, _, _, _, rfl⟩ := h; rfl
  case beq n x y =>
    simp only [evOp, evP, bind_some'] at h
    obtain ⟨x, _, y, _, h⟩ := h
    split at h <;> simp at h
    exact h.2.symm
  case seq n k x y =>
    simp only [evOp, evP, bind_some'] at h
    obtain ⟨x, _, y, _, h⟩ := h
    split at h
    · simp only [bind_some', Option.some.injEq, Prod.mk.injEq] at h; obtain ⟨_, _, _, rfl⟩ := h; rfl
    · simp at h
  case isnil k n x => simp only [evOp, evP, bind_some', Option.some.injEq, Prod.mk.injEq] at h; obtain ⟨_, _, _, _, _, rfl⟩ := h; rfl
  case bnot x =>
    simp only [evOp, evP, bind_some'] at h
    obtain ⟨x, _, h⟩ := h
    cases x <;> simp at h
    exact h.2.symm
  case neg x =>
    simp only [evOp, evP, bind_some'] at h
    obtain ⟨x, _, h⟩ := h
    cases x <;> simp at h
    exact h.2.symm
  case len st x =>
    cases st <;> simp only [evOp, evP, bind_some'] at h <;> obtain ⟨x, _, h⟩ := h <;> cases x <;> simp at h <;> exact h.2.symm
  case ext x i =>
    simp only [evOp, evP, bind_some'] at h
    obtain ⟨x, _, h⟩ := h
    cases x <;> simp only [reduceCtorEq, bind_some', Option.some.injEq, Prod.mk.injEq] at h
    obtain ⟨_, _, _, rfl⟩ := h; rfl
  case build z ps => simp only [evOp, evP, bind_some', Option.some.injEq, Prod.mk.injEq] at h; obtain ⟨_, _, _, rfl⟩ := h; rfl
  case slc s x l r =>
    simp only [evOp, evP, bind_some'] at h
    obtain ⟨x, _, h⟩ := h
    cases x <;> simp only [reduceCtorEq, bind_some'] at h
    · obtain ⟨_, _, _, _, _, _, h⟩ := h
      split at h <;> simp at h
      exact h.2.symm
    · obtain ⟨_, _, _, _, h⟩ := h
      split at h <;> simp at h
      exact h.2.symm
  case sstr x l r =>
    simp only [evOp, evP, bind_some'] at h
    obtain ⟨x, _, h⟩ := h
    cases x <;> simp only [reduceCtorEq, bind_some'] at h
    obtain ⟨_, _, _, _, h⟩ := h
    split at h <;> simp at h
    exact h.2.symm
  case mx big x i =>
    simp only [evOp, evP, bind_some'] at h
    obtain ⟨x, _, y, _, h⟩ := h
    split at h
    · split at h <;> simp at h
      exact h.2.symm
    · simp at h
  case idx x i =>
    simp only [evOp, evP, bind_some'] at h
    obtain ⟨x, _, y, _, h⟩ := h
    split at h
    · split at h <;> simp at h
      exact h.2.symm
    · simp at h
  case b2s x => simp only [evOp, evP, bind_some', Option.some.injEq, Prod.mk.injEq] at h; obtain ⟨_, _, _, _, _, _, _, rfl⟩ := h; rfl
  case cvt k x =>
    simp only [evOp, evP, bind_some'] at h
    obtain ⟨x, _, h⟩ := h
    cases x <;> simp at h
    exact h.2.symm
  case nilc x =>
    simp only [evOp, evP, bind_some'] at h
    obtain ⟨x, _, h⟩ := h
    split at h <;> simp at h <;> exact h.2.symm
  case mkf f cs => simp only [evOp, evP, bind_some', Option.some.injEq, Prod.mk.injEq] at h; obtain ⟨_, _, _, rfl⟩ := h; rfl

/-- What neither reads nor writes tells the same over any memory. -/
theorem evOp_pure {E : Call} {g : Regs} {M M' M2 : Mem} {op : XOp} {v : RV} (hw : isW op = false) (hr : isR op = false) (h : evOp E g M op = some (v, M')) : evOp E g M2 op = some (v, M2) := by
  cases op <;> first
    | (simp [isW] at hw; done)
    | (simp [isR] at hr; done)
    | skip
  case mv x => simp only [evOp, evP, bind_some', Option.some.injEq, Prod.mk.injEq] at h ⊢; obtain ⟨a, e, rfl, _⟩ := h; exact ⟨a, e, rfl, trivial⟩
  case pick c a b =>
    simp only [evOp, evP, bind_some'] at h ⊢
    obtain ⟨x, e, h⟩ := h
    refine ⟨x, e, ?_⟩
    cases x <;> simp only [reduceCtorEq, bind_some', Option.some.injEq, Prod.mk.injEq] at h ⊢
    obtain ⟨a, e, rfl, _⟩ := h; exact ⟨a, e, rfl, trivial⟩
  case fadr k x =>
    simp only [evOp, evP, bind_some'] at h ⊢
    obtain ⟨x, e, h⟩ := h
    refine ⟨x, e, ?_⟩
    split at h <;> simp at h ⊢ <;> exact h.1
  case fld ag k s x =>
    simp only [evOp, evP, bind_some'] at h ⊢
    obtain ⟨x, e, h⟩ := h
    refine ⟨x, e, ?_⟩
    cases x <;> simp only [reduceCtorEq, bind_some', Option.some.injEq, Prod.mk.injEq] at h ⊢
    obtain ⟨a, e, rfl, _⟩ := h; exact ⟨a, e, rfl, trivial⟩
  case bin b x y => simp only [evOp, evP, bind_some', Option.some.injEq, Prod.mk.injEq] at h ⊢; obtain ⟨a, e1, b, e2, d, e3, rfl, _⟩ := h; exact ⟨a, e1, b, e2, d, e3, rfl, trivial⟩
  case beq n x y =>
    simp only [evOp, evP, bind_some'] at h ⊢
    obtain ⟨x, e1, y, e2, h⟩ := h
    refine ⟨x, e1, y, e2, ?_⟩
    split at h <;> simp at h ⊢
    exact h.1
  case seq n k x y =>
    simp only [evOp, evP, bind_some'] at h ⊢
    obtain ⟨x, e1, y, e2, h⟩ := h
    refine ⟨x, e1, y, e2, ?_⟩
    split at h
    · simp only [bind_some', Option.some.injEq, Prod.mk.injEq] at h ⊢; obtain ⟨a, e, rfl, _⟩ := h; exact ⟨a, e, rfl, trivial⟩
    · simp at h
  case isnil k n x => simp only [evOp, evP, bind_some', Option.some.injEq, Prod.mk.injEq] at h ⊢; obtain ⟨a, e1, b, e2, rfl, _⟩ := h; exact ⟨a, e1, b, e2, rfl, trivial⟩
  case bnot x =>
    simp only [evOp, evP, bind_some'] at h ⊢
    obtain ⟨x, e, h⟩ := h
    refine ⟨x, e, ?_⟩
    cases x <;> simp at h ⊢
    exact h.1
  case neg x =>
    simp only [evOp, evP, bind_some'] at h ⊢
    obtain ⟨x, e, h⟩ := h
    refine ⟨x, e, ?_⟩
    cases x <;> simp at h ⊢
    exact h.1
  case len st x =>
    cases st <;> simp only [evOp, evP, bind_some'] at h ⊢ <;> obtain ⟨x, e, h⟩ := h <;> refine ⟨x, e, ?_⟩ <;> cases x <;> simp at h ⊢ <;> exact h.1
  case ext x i =>
    simp only [evOp, evP, bind_some'] at h ⊢
    obtain ⟨x, e, h⟩ := h
    refine ⟨x, e, ?_⟩
    cases x <;> simp only [reduceCtorEq, bind_some', Option.some.injEq, Prod.mk.injEq] at h ⊢
    obtain ⟨a, e, rfl, _⟩ := h; exact ⟨a, e, rfl, trivial⟩
  case build z ps => simp only [evOp, evP, bind_some', Option.some.injEq, Prod.mk.injEq] at h ⊢; obtain ⟨a, e, rfl, _⟩ := h; exact ⟨a, e, rfl, trivial⟩
  case sstr x l r =>
    simp only [evOp, evP, bind_some'] at h ⊢
    obtain ⟨x, e, h⟩ := h
    refine ⟨x, e, ?_⟩
    cases x <;> simp only [reduceCtorEq, bind_some'] at h ⊢
    obtain ⟨a, e1, b, e2, h⟩ := h
    refine ⟨a, e1, b, e2, ?_⟩
    split at h <;> simp at h ⊢
    rename_i hc
    exact ⟨hc, h.1⟩
  case mx big x i =>
    simp only [evOp, evP, bind_some'] at h ⊢
    obtain ⟨x, e1, y, e2, h⟩ := h
    refine ⟨x, e1, y, e2, ?_⟩
    split at h
    · split at h
      · rename_i hc
        simp only [Option.some.injEq, Prod.mk.injEq] at h
        rw [if_pos hc, h.1]
      · simp at h
    · simp at h
  case idx x i =>
    simp only [evOp, evP, bind_some'] at h ⊢
    obtain ⟨x, e1, y, e2, h⟩ := h
    refine ⟨x, e1, y, e2, ?_⟩
    split at h
    · split at h <;> simp at h ⊢
      rename_i hc
      exact ⟨hc, h.1⟩
    · simp at h
  case cvt k x =>
    simp only [evOp, evP, bind_some'] at h ⊢
    obtain ⟨x, e, h⟩ := h
    refine ⟨x, e, ?_⟩
    cases x <;> simp at h ⊢
    exact h.1
  case nilc x =>
    simp only [evOp, evP, bind_some'] at h ⊢
    obtain ⟨x, e, h⟩ := h
    refine ⟨x, e, ?_⟩
    split at h <;> simp at h ⊢ <;> exact h.1
  case mkf f cs => simp only [evOp, evP, bind_some', Option.some.injEq, Prod.mk.injEq] at h ⊢; obtain ⟨a, e, rfl, _⟩ := h; exact ⟨a, e, rfl, trivial⟩

theorem evG_keeps {E : Call} {g : Regs} {M M' : Mem} {o : XOper} {v : RV} (hw : isW o.op = false) (h : evG E g M o = some (v, M')) : M' = M := by
  simp only [evG, bind_some'] at h
  obtain ⟨b, _, h⟩ := h
  cases b with
  | true => exact evOp_keeps hw h
  | false => simp at h; exact h.2.symm

theorem evG_pure {E : Call} {g : Regs} {M M' M2 : Mem} {o : XOper} {v : RV} (hw : isW o.op = false) (hr : isR o.op = false) (h : evG E g M o = some (v, M')) : evG E g M2 o = some (v, M2) := by
  simp only [evG, bind_some'] at h ⊢
  obtain ⟨b, e, h⟩ := h
  refine ⟨b, e, ?_⟩
  cases b with
  | true => exact evOp_pure hw hr h
  | false => simp at h ⊢; exact h.1

end Go.X

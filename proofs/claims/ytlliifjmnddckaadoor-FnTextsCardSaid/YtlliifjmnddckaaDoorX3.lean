/- GoX, part 3: the resolved code out of the model's own (comp), and what it means that a frame of the model holds what the executor's state says (FI). No statement of the seat is here. -/
import Derived.Test.YtlliifjmnddckaaDoorX2
set_option linter.unusedVariables false
namespace Go.X
open Go

/-! ### Resolving -/

def cvCell : Value → Option AV
  | .int k n => some (.int k n)
  | .bool b => some (.bool b)
  | .string s => some (.str s.data.toList)
  | .pointer none => some .nilptr
  | .slice none 0 0 => some .nilsl
  | .nilIface => some .nilifc
  | .nilFunc => some .nilfn
  | .map none => some .nilmp
  | .func (.func f) ⟨[]⟩ ⟨[]⟩ => some (.fn f [])
  | _ => none

def cvAV : Value → Option AV
  | .agg cs => (allSome cvCell cs.toList).map .agg
  | v => cvCell v

def cO : Operand → Option XO
  | .tmp t => some (.t t)
  | .const v => (cvAV v).map .c
  | .func f => some (.c (.fn f []))
  | .global _ => none

def szOf (P : Program) (t : TypeId) : Option Nat := (P.info? t).map (·.size)

def isAggT (P : Program) (t : TypeId) : Option Bool :=
  match P.underlying t with
  | some (.struct _) => some true
  | some (.array _ _) => some true
  | some _ => some false
  | none => none

def zeroOf (P : Program) (t : TypeId) : Option (List AV) := (P.info? t).bind fun i => i.zero.bind fun z => allSome cvCell z.cells.toList

/-- Fields that lie one behind the other from o on: the kinds of their cells. -/
def cmpFs (P : Program) (F : TypeId → Option (List CK)) : Nat → List Field → Option (List CK)
  | _, [] => some []
  | o, f :: fs => if f.offset = o ∧ f.name ≠ "_" then (F f.type).bind fun ks => if P.cellsOf f.type = ks.length ∧ ks.length ≠ 0 then (cmpFs P F (o + ks.length) fs).bind fun r => some (ks ++ r) else none else none

/-- A type whose cells are compared one by one (whole numbers, bools, strings, structs of these): the kinds of its cells. -/
def cmpT (P : Program) : Nat → TypeId → Option (List CK)
  | 0, _ => none
  | d + 1, t =>
    match P.underlying t with
    | some .bool => if P.cellsOf t = 1 then some [.b] else none
    | some (.int _) => if P.cellsOf t = 1 then some [.i] else none
    | some .string => if P.cellsOf t = 1 then some [.s] else none
    | some (.struct fs) => if P.stoodInHeld t = false then cmpFs P (cmpT P d) 0 fs.toList else none
    | _ => none

def optXO : Option Operand → Option (Option XO)
  | none => some none
  | some x => (cO x).map some

def nilKind : TypeDesc → Operand → Option NK
  | .pointer _, .const (.pointer none) => some .p
  | .slice _, .const (.slice none 0 0) => some .s
  | .interface _, .const .nilIface => some .i
  | .func .., .const .nilFunc => some .f
  | .map .., .const (.map none) => some .m
  | _, _ => none

def arithOp : BinOp → Bool
  | .add | .sub | .mul | .quo | .rem | .eql | .neq | .lss | .leq | .gtr | .geq => true
  | _ => false

def cBin (P : Program) (op : BinOp) (t : TypeId) (x y : Operand) : Option XOp :=
  (cO x).bind fun a => (cO y).bind fun b =>
  match P.underlying t with
  | some (.int _) => if arithOp op then some (.bin op a b) else none
  | some .string => if arithOp op then some (.bin op a b) else none
  | some .bool => match op with | .eql => some (.beq false a b) | .neq => some (.beq true a b) | _ => none
  | some (.struct _) => if P.eqGuardType P.depth t = false then (cmpT P 9 t).bind fun ks => (match op with | .eql => some (.seq false ks a b) | .neq => some (.seq true ks a b) | _ => none) else none
  | some d => (nilKind d y).bind fun k => (match op with | .eql => some (.isnil k false a) | .neq => some (.isnil k true a) | _ => none)
  | none => none

def cParts (f : Nat → Option (Nat × Nat)) : List (Nat × Operand) → Option (List (Nat × Nat × XO))
  | [] => some []
  | (i, x) :: l => (f i).bind fun (o, s) => (cO x).bind fun a => (cParts f l).bind fun r => some ((o, s, a) :: r)

def cPartsS : List (Nat × Operand) → Option (List (Nat × XO))
  | [] => some []
  | (i, x) :: l => (cO x).bind fun a => (cPartsS l).bind fun r => some ((i, a) :: r)

def places (P : Program) (fs : Array Field) : Option (List (Nat × Nat)) := allSome (fun f : Field => (szOf P f.type).map fun s => (f.offset, s)) fs.toList

def cCall (P : Program) (c : Go.Call) : Option XOp :=
  match c.callee with
  | .value (.func f) => (allSome cO c.args.toList).bind fun as => some (.call f as)
  | .value (.tmp t) => (allSome cO c.args.toList).bind fun as => some (.calld (.t t) as)
  | .builtin .len =>
    match c.args.toList, c.argTypes.toList with
    | [x], [t] => (match P.underlying t with | some .string => (cO x).map (.len true) | some (.slice _) => (cO x).map (.len false) | _ => none)
    | _, _ => none
  | .builtin .max => (match c.args.toList with | [x, y] => (cO x).bind fun a => (cO y).bind fun b => some (.mx true a b) | _ => none)
  | .builtin .min => (match c.args.toList with | [x, y] => (cO x).bind fun a => (cO y).bind fun b => some (.mx false a b) | _ => none)
  | .builtin .append =>
    match c.args.toList, c.argTypes.toList with
    | [x, y], [t, u] =>
      (match P.underlying t, P.underlying u with
       | some (.slice e), some (.slice e') => (P.info? e).bind fun i => i.zero.bind fun z => if i.size = z.cells.size ∧ 0 < i.size ∧ 0 < i.bytes then (cO x).bind fun a => (cO y).bind fun b => some (.app i.size i.bytes a b) else none
       | _, _ => none)
    | _, _ => none
  | _ => none

def compOp (P : Program) (lo : List Nat) (o : Oper) : Option XOp :=
  match o.op with
  | .move x => (cO x).map .mv
  | .assign x => (cO x).map .mv
  | .pick c a b => (cO c).bind fun c => (cO a).bind fun a => (cO b).bind fun b => some (.pick c a b)
  | .alloc e => (zeroOf P e).bind fun z => o.dst.bind fun d => if 0 < z.length then some (.alloc (lo.contains d) d z) else none
  | .box e x => (szOf P e).bind fun s => o.dst.bind fun d => (cO x).bind fun x => if 0 < s then some (.box (lo.contains d) d s x) else none
  | .load t a => (isAggT P t).bind fun ag => (szOf P t).bind fun s => (cO a).bind fun a => some (.load ag s a)
  | .store t a x => (szOf P t).bind fun s => (cO a).bind fun a => (cO x).bind fun x => some (.store s a x)
  | .fieldAddr s x f =>
    (match P.underlying s with
     | some (.struct fs) => (fs[f]?).bind fun fd => (szOf P fd.type).bind fun sz => if sz = 0 then none else (cO x).bind fun x => some (.fadr fd.offset x)
     | _ => none)
  | .indexAddr t x i =>
    (match P.underlying t with
     | some (.slice e) => (szOf P e).bind fun s => (cO x).bind fun x => (cO i).bind fun i => some (.iadr s x i)
     | _ => none)
  | .field t x f =>
    (match P.underlying t with
     | some (.struct fs) => (fs[f]?).bind fun fd => (isAggT P fd.type).bind fun ag => (szOf P fd.type).bind fun sz => (cO x).bind fun x => some (.fld ag fd.offset sz x)
     | _ => none)
  | .binOp op t x y _ => cBin P op t x y
  | .unOp .not _ x => (cO x).map .bnot
  | .unOp .neg _ x => (cO x).map .neg
  | .call c => cCall P c
  | .extract x i => (cO x).map fun x => .ext x i
  | .build t parts =>
    (match P.underlying t with
     | some (.struct fs) => (zeroOf P t).bind fun z => (places P fs).bind fun pl => (cParts (fun i => pl[i]?) parts.toList).bind fun ps => some (.build z ps)
     | _ => none)
  | .buildSlice t n parts =>
    (match P.underlying t with
     | some (.slice e) => (szOf P e).bind fun s => (zeroOf P e).bind fun z => o.dst.bind fun d => (cPartsS parts.toList).bind fun ps =>
         if 0 < s ∧ z.length = s ∧ n * s ≤ 16777216 then some (.bsl (lo.contains d) s n z ps) else none
     | _ => none)
  | .slice t x l h none =>
    (match P.underlying t with
     | some (.slice e) => (szOf P e).bind fun s => (cO x).bind fun x => (optXO l).bind fun l => (optXO h).bind fun h => some (.slc s x l h)
     | some .string => (cO x).bind fun x => (optXO l).bind fun l => (optXO h).bind fun h => some (.sstr x l h)
     | _ => none)
  | .index t x i => (match P.underlying t with | some .string => (cO x).bind fun x => (cO i).bind fun i => some (.idx x i) | _ => none)
  | .convert s d x =>
    (match P.underlying s, P.underlying d with
     | some (.int _), some (.int k) => (cO x).map (.cvt k)
     | some .string, some (.slice e) => (match P.underlying e with | some (.int .u8) => if szOf P e = some 1 then (cO x).map .s2b else none | _ => none)
     | some (.slice e), some .string => (match P.underlying e with | some (.int .u8) => (cO x).map .b2s | _ => none)
     | _, _ => none)
  | .makeSlice t l c =>
    (match P.underlying t with
     | some (.slice e) => (P.info? e).bind fun i => (zeroOf P e).bind fun z => (cO l).bind fun l => (cO c).bind fun c => if 0 < i.size ∧ z.length = i.size then some (.mks i.size i.bytes z l c) else none
     | _ => none)
  | .nilCheck x => (cO x).map .nilc
  | .makeFunc (.func f) first caps => if first.isEmpty then (allSome cO caps.toList).map (.mkf f) else none
  | _ => none

/-! ### The frame -/

def LsOk (c : Ctx) (γ : Nat → Nat) (bx : Boxes) (els : List (List AV)) (x : Value) : Prop :=
  ∃ b xs ty sz, x = .slice (some ⟨b, 0, none⟩) els.length els.length ∧ c.w.heap[b]? = some (.cells xs ty (0, 0)) ∧ ¬ Own c b ∧ (∀ t, (lk bx t).isSome = true → γ t ≠ b) ∧
    ∀ (i : Nat) (cs : List AV), els[i]? = some cs → cs.length = sz ∧ ∀ (j : Nat) (a : AV), cs[j]? = some a → ∃ y, xs[i * sz + j]? = some y ∧ VR c a y ∧ y.oneCell' = true

def RR (c : Ctx) (γ : Nat → Nat) (bx : Boxes) : RV → Value → Prop
  | .v a, x => VR c a x
  | .lp t o, x => (lk bx t).isSome = true ∧ x = .pointer (some ⟨γ t, o, none⟩)
  | .ls els, x => LsOk c γ bx els x

structure BoxOk (c : Ctx) (b : Nat) (cs : List AV) : Prop where
  lt : b < c.w.heap.size
  out : ¬ Own c b
  cells : ∃ xs ty, c.w.heap[b]? = some (.cells xs ty (0, 0)) ∧ xs.size = cs.length ∧ ∀ (j : Nat) (a : AV), cs[j]? = some a → ∃ y, xs[j]? = some y ∧ VR c a y ∧ y.oneCell' = true

/-- The invariant at each place within a function that began in the context c0. -/
structure FI (base : Nat) (c0 : Ctx) (n : Nat) (c : Ctx) (γ : Nat → Nat) (g : Regs) (bx : Boxes) (tmps : Array Value) : Prop where
  sim : Sim base c
  evo : Evo (fun _ => False) c0 c
  size : tmps.size = n
  regs : ∀ t rv, lk g t = some rv → RR c γ bx rv (tmps.getD t undef)
  boxes : ∀ t cs, lk bx t = some cs → c0.w.heap.size ≤ γ t ∧ BoxOk c (γ t) cs
  binj : ∀ t t', (lk bx t).isSome = true → (lk bx t').isSome = true → γ t = γ t' → t = t'

theorem RR.next {c c' : Ctx} {γ : Nat → Nat} {bx : Boxes} {rv : RV} {x : Value} (he : Evo (fun _ => False) c c') (h : RR c γ bx rv x) : RR c' γ bx rv x := by
  cases rv with
  | v a => exact VR_mono he.le _ _ h
  | lp t o => exact h
  | ls els =>
    obtain ⟨b, xs, ty, sz, e, hb, ho, hg, hc⟩ := h
    have hlt : b < c.w.heap.size := (Array.getElem?_eq_some_iff.1 hb).1
    refine ⟨b, xs, ty, sz, e, by rw [he.keep b hlt (fun h => h) ho]; exact hb, fun h => ?_, hg, fun i cs hi => ?_⟩
    · rcases he.fresh b h with h1 | h1
      · exact ho h1
      · omega
    · obtain ⟨h1, h2⟩ := hc i cs hi
      refine ⟨h1, fun j a hj => ?_⟩
      obtain ⟨y, h3, h4, h5⟩ := h2 j a hj
      exact ⟨y, h3, VR_mono he.le _ _ h4, h5⟩

theorem BoxOk.next {c c' : Ctx} {b : Nat} {cs : List AV} (he : Evo (fun _ => False) c c') (h : BoxOk c b cs) : BoxOk c' b cs := by
  obtain ⟨hlt, ho, xs, ty, hb, hs, hc⟩ := h
  refine ⟨Nat.lt_of_lt_of_le hlt he.size, fun h => ?_, xs, ty, by rw [he.keep b hlt (fun h => h) ho]; exact hb, hs, fun j a hj => ?_⟩
  · rcases he.fresh b h with h1 | h1
    · exact ho h1
    · omega
  · obtain ⟨y, h3, h4, h5⟩ := hc j a hj
    exact ⟨y, h3, VR_mono he.le _ _ h4, h5⟩

section
variable {base : Nat} {c0 : Ctx} {n : Nat} {c : Ctx} {γ : Nat → Nat} {g : Regs} {bx : Boxes} {tmps : Array Value}

/-- The store or the world has gone on; boxes and literals are as they were. -/
theorem FI.next (h : FI base c0 n c γ g bx tmps) {c' : Ctx} (hs : Sim base c') (he : Evo (fun _ => False) c c') : FI base c0 n c' γ g bx tmps :=
  ⟨hs, h.evo.trans he, h.size, fun t rv ht => (h.regs t rv ht).next he, fun t cs ht => ⟨(h.boxes t cs ht).1, (h.boxes t cs ht).2.next he⟩, h.binj⟩

theorem FI.put (h : FI base c0 n c γ g bx tmps) {rv : RV} {x : Value} (hr : RR c γ bx rv x) {d : Nat} (hd : d < n) : FI base c0 n c γ ((d, rv) :: g) bx (tmps.setIfInBounds d x) := by
  refine ⟨h.sim, h.evo, by simpa using h.size, ?_, h.boxes, h.binj⟩
  intro t rv' ht
  simp only [lk] at ht
  split at ht
  · rename_i e
    subst e
    cases ht
    have : d < tmps.size := by rw [h.size]; exact hd
    simpa [Array.getD_eq_getD_getElem?, this] using hr
  · rename_i e
    have := h.regs t rv' ht
    simpa [Array.getD_eq_getD_getElem?, Array.getElem?_setIfInBounds, e] using this

/-- A register that is forgotten, or that is not written at all. -/
theorem FI.sub (h : FI base c0 n c γ g bx tmps) {g' : Regs} (hg : ∀ t rv, lk g' t = some rv → lk g t = some rv) : FI base c0 n c γ g' bx tmps :=
  ⟨h.sim, h.evo, h.size, fun t rv ht => h.regs t rv (hg t rv ht), h.boxes, h.binj⟩

/-- A new box. -/
theorem FI.boxNew (h : FI base c0 n c γ g bx tmps) (hc0 : c0.w.heap.size ≤ c.w.heap.size) {t : Nat} (ht : lk bx t = none) (xs : Array Value) (ty : TypeId) (cs : List AV) (hl : xs.size = cs.length)
    (hv : ∀ (j : Nat) (a : AV), cs[j]? = some a → ∃ y, xs[j]? = some y ∧ VR c a y ∧ y.oneCell' = true) :
    FI base c0 n ⟨c.β, c.σ, c.w.alloc (.cells xs ty (0, 0))⟩ (fun q => if q = t then c.w.heap.size else γ q) g ((t, cs) :: bx) tmps := by
  obtain ⟨hs, he⟩ := h.sim.world (X := fun _ => False) (w' := c.w.alloc (.cells xs ty (0, 0))) rfl rfl rfl (by simp) (fun b hb => hb.elim) (fun b hb _ => Go.heap_alloc_old c.w _ hb)
  have hown : ∀ b, Own ⟨c.β, c.σ, c.w.alloc (.cells xs ty (0, 0))⟩ b → Own c b := fun b hb => hb
  have hlt : ∀ b, Own c b → b < c.w.heap.size := by
    rintro b ⟨r, row, h1, h2, rfl⟩
    exact h.sim.lt h1 (h.sim.notro h1 h2)
  have hbx : ∀ t', (lk bx t').isSome = true → t' ≠ t := by
    intro t' h1 e
    subst e
    rw [ht] at h1
    simp at h1
  refine ⟨hs, h.evo.trans he, h.size, ?_, ?_, ?_⟩
  · intro t' rv hr
    have h1 := (h.regs t' rv hr).next he
    cases rv with
    | v a => exact h1
    | lp q o =>
      refine ⟨?_, ?_⟩
      · simp only [lk]; split
        · rfl
        · exact h1.1
      · show _ = Value.pointer (some ⟨if q = t then c.w.heap.size else γ q, o, none⟩)
        rw [if_neg (hbx q h1.1)]; exact h1.2
    | ls els =>
      have h0 := h.regs t' _ hr
      obtain ⟨b0, _, _, _, e0, hb0, _⟩ := h0
      obtain ⟨b, xs', ty', sz, e, hb, ho, hg, hc⟩ := h1
      refine ⟨b, xs', ty', sz, e, hb, ho, ?_, hc⟩
      intro q hq
      show (if q = t then c.w.heap.size else γ q) ≠ b
      split
      · intro e2
        rw [e0] at e
        have e3 : b0 = b := by injection e with e3; injection e3 with e3; injection e3
        have := (Array.getElem?_eq_some_iff.1 hb0).1
        omega
      · rename_i hqt
        simp only [lk] at hq
        rw [if_neg (Ne.symm hqt)] at hq
        exact hg q hq
  · intro t' cs' hb
    simp only [lk] at hb
    split at hb
    · rename_i e
      subst e
      cases hb
      show c0.w.heap.size ≤ (if t = t then c.w.heap.size else γ t) ∧ BoxOk _ (if t = t then c.w.heap.size else γ t) cs
      rw [if_pos rfl]
      refine ⟨hc0, by simp, fun ho => ?_, xs, ty, heap_alloc_new _ _, hl, fun j a hj => ?_⟩
      · have := hlt _ ho; omega
      · obtain ⟨y, h3, h4, h5⟩ := hv j a hj
        exact ⟨y, h3, VR_mono he.le _ _ h4, h5⟩
    · rename_i e
      show c0.w.heap.size ≤ (if t' = t then c.w.heap.size else γ t') ∧ BoxOk _ (if t' = t then c.w.heap.size else γ t') cs'
      rw [if_neg (Ne.symm e)]
      exact ⟨(h.boxes t' cs' hb).1, (h.boxes t' cs' hb).2.next he⟩
  · intro q q' h1 h2 e
    simp only [lk] at h1 h2
    have hl' : ∀ q, (lk bx q).isSome = true → γ q < c.w.heap.size := by
      intro q hq
      obtain ⟨cs', hcs⟩ := Option.isSome_iff_exists.1 hq
      exact (h.boxes q cs' hcs).2.lt
    by_cases e1 : q = t <;> by_cases e2 : q' = t
    · rw [e1, e2]
    · simp only [e1, e2, if_true, if_false] at e
      rw [if_neg (Ne.symm e2)] at h2
      have := hl' q' h2; omega
    · simp only [e1, e2, if_true, if_false] at e
      rw [if_neg (Ne.symm e1)] at h1
      have := hl' q h1; omega
    · simp only [e1, e2, if_false] at e
      rw [if_neg (Ne.symm e1)] at h1
      rw [if_neg (Ne.symm e2)] at h2
      exact h.binj q q' h1 h2 e

/-- A box is written. -/
theorem FI.boxSet (h : FI base c0 n c γ g bx tmps) (hbase : base ≤ c0.w.heap.size) {t : Nat} {cs : List AV} (ht : lk bx t = some cs) (xs' : Array Value) (cs' : List AV) (hl : xs'.size = cs'.length)
    (w' : World) (hos : w'.os = c.w.os) (htape : w'.tape = c.w.tape) (hout : w'.output = c.w.output) (hsz : w'.heap.size = c.w.heap.size)
    (hkeep : ∀ b, b ≠ γ t → w'.heap[b]? = c.w.heap[b]?) (ty : TypeId) (hblk : w'.heap[γ t]? = some (.cells xs' ty (0, 0)))
    (hv : ∀ (j : Nat) (a : AV), cs'[j]? = some a → ∃ y, xs'[j]? = some y ∧ VR c a y ∧ y.oneCell' = true) :
    FI base c0 n ⟨c.β, c.σ, w'⟩ γ g ((t, cs') :: bx) tmps := by
  have hbt := h.boxes t cs ht
  obtain ⟨hs, he⟩ := h.sim.world (X := fun b => b = γ t) (w' := w') hos htape hout (by omega) (fun b hb => by subst hb; exact ⟨by have := hbt.1; omega, hbt.2.out⟩) (fun b hb hx => hkeep b hx)
  have hevo : Evo (fun _ => False) c0 ⟨c.β, c.σ, w'⟩ := h.evo.step he (fun b hb => by subst hb; exact hbt.1)
  refine ⟨hs, hevo, h.size, ?_, ?_, ?_⟩
  · intro t' rv hr
    have h1 := h.regs t' rv hr
    cases rv with
    | v a => exact VR_mono he.le _ _ h1
    | lp q o =>
      refine ⟨?_, h1.2⟩
      simp only [lk]; split
      · rfl
      · exact h1.1
    | ls els =>
      obtain ⟨b, xs, ty', sz, e, hb, ho, hg, hc⟩ := h1
      have hne : b ≠ γ t := fun e => hg t (by rw [ht]; rfl) e.symm
      refine ⟨b, xs, ty', sz, e, by rw [hkeep b hne]; exact hb, ho, fun q hq => ?_, fun i cs2 hi => ?_⟩
      · simp only [lk] at hq
        split at hq
        · rename_i e2; subst e2; exact Ne.symm hne
        · exact hg q hq
      · obtain ⟨h2, h3⟩ := hc i cs2 hi
        refine ⟨h2, fun j a hj => ?_⟩
        obtain ⟨y, h3, h4, h5⟩ := h3 j a hj
        exact ⟨y, h3, VR_mono he.le _ _ h4, h5⟩
  · intro t' cs2 hb
    simp only [lk] at hb
    split at hb
    · rename_i e
      subst e
      cases hb
      refine ⟨hbt.1, by rw [hsz]; exact hbt.2.lt, hbt.2.out, xs', ty, hblk, hl, fun j a hj => ?_⟩
      obtain ⟨y, h3, h4, h5⟩ := hv j a hj
      exact ⟨y, h3, VR_mono he.le _ _ h4, h5⟩
    · rename_i e
      obtain ⟨h1, h2, h3, xs2, ty2, h4, h5, h6⟩ := h.boxes t' cs2 hb
      have hne : γ t' ≠ γ t := fun e2 => e (h.binj t' t (by rw [hb]; rfl) (by rw [ht]; rfl) e2).symm
      refine ⟨h1, by rw [hsz]; exact h2, h3, xs2, ty2, by rw [hkeep _ hne]; exact h4, h5, fun j a hj => ?_⟩
      obtain ⟨y, h7, h8, h9⟩ := h6 j a hj
      exact ⟨y, h7, VR_mono he.le _ _ h8, h9⟩
  · intro q q' h1 h2 e
    have hz : ∀ q, (lk ((t, cs') :: bx) q).isSome = true → (lk bx q).isSome = true := by
      intro q hq
      simp only [lk] at hq
      split at hq
      · rename_i e2; subst e2; rw [ht]; rfl
      · exact hq
    exact h.binj q q' (hz q h1) (hz q' h2) e

end
end Go.X

/- GoX, part 18: lists that are held in slices; the functions that the exact laws' printer writes for each type of slice (sizes, copies, comparisons), each once for all types. No statement of the seat is here. -/
import Derived.Test.YtlliifjmnddckaaDoorX17
set_option linter.unusedVariables false
set_option linter.unusedSimpArgs false
set_option maxRecDepth 20000
namespace Go.X
open Go
variable {α β R : Type}

abbrev op (d : Nat) (o : XOp) : XOper := ⟨some d, o, none⟩
abbrev og (d : Nat) (o : XOp) (t : Nat) (b : Bool) : XOper := ⟨some d, o, some (t, b)⟩
abbrev int (n : Int) : AV := .int .i64 n
theorem wrap64 {x : Int} (h1 : -9223372036854775808 ≤ x) (h2 : x ≤ 9223372036854775807) : IntKind.i64.wrap x = x := by
  simp [IntKind.wrap, IntKind.bits, IntKind.signed]
  omega
theorem lk_mem {α : Type} : ∀ {l : List (Nat × α)} {n : Nat} {a : α}, lk l n = some a → (n, a) ∈ l
  | (k, b) :: l, n, a, h => by
    simp only [lk] at h
    split at h
    · rename_i e; subst e; cases h; exact List.mem_cons_self
    · exact List.mem_cons_of_mem _ (lk_mem h)

/-- What cells hold, in a store. -/
abbrev Rp (α : Type) := Store → α → List AV → Prop

inductive All2 {α β : Type} (P : α → β → Prop) : List α → List β → Prop where
  | nil : All2 P [] []
  | cons {a b l m} : P a b → All2 P l m → All2 P (a :: l) (b :: m)

theorem All2.length {P : α → β → Prop} {l : List α} {m : List β} (h : All2 P l m) : l.length = m.length := by
  induction h with
  | nil => rfl
  | cons _ _ ih => simp [ih]
theorem All2.imp {P Q : α → β → Prop} (hpq : ∀ a b, P a b → Q a b) {l : List α} {m : List β} (h : All2 P l m) : All2 Q l m := by
  induction h with
  | nil => exact .nil
  | cons h1 _ ih => exact .cons (hpq _ _ h1) ih
theorem All2.imp_mem {P Q : α → β → Prop} {l : List α} {m : List β} (h : All2 P l m) (hpq : ∀ a b, a ∈ l → P a b → Q a b) : All2 Q l m := by
  induction h with
  | nil => exact .nil
  | cons h1 _ ih => exact .cons (hpq _ _ (by simp) h1) (ih (fun a b ha => hpq a b (List.mem_cons_of_mem _ ha)))
theorem All2.get {P : α → β → Prop} {l : List α} {m : List β} (h : All2 P l m) : ∀ {i : Nat} {a : α}, l[i]? = some a → ∃ b, m[i]? = some b ∧ P a b := by
  induction h with
  | nil => intro i a hi; simp at hi
  | cons h1 _ ih =>
    intro i a hi
    cases i with
    | zero => simp at hi; subst hi; exact ⟨_, rfl, h1⟩
    | succ i => simpa using ih (by simpa using hi)
theorem All2.snoc {P : α → β → Prop} {l : List α} {m : List β} (h : All2 P l m) {a : α} {b : β} (hab : P a b) : All2 P (l ++ [a]) (m ++ [b]) := by
  induction h with
  | nil => exact .cons hab .nil
  | cons h1 _ ih => exact .cons h1 ih
theorem All2.append {P : α → β → Prop} {l l' : List α} {m m' : List β} (h : All2 P l m) (h' : All2 P l' m') : All2 P (l ++ l') (m ++ m') := by
  induction h with
  | nil => exact h'
  | cons h1 _ ih => exact .cons h1 ih
theorem All2.map {P : α → β → Prop} {f : α → β} {l : List α} (h : ∀ a ∈ l, P a (f a)) : All2 P l (l.map f) := by
  induction l with
  | nil => exact .nil
  | cons a l ih => exact .cons (h a (by simp)) (ih (fun b hb => h b (List.mem_cons_of_mem _ hb)))
theorem All2.eq_map {f : α → β} {l : List α} {m : List β} (h : All2 (fun a b => b = f a) l m) : m = l.map f := by
  induction h with
  | nil => rfl
  | cons h1 _ ih => rw [h1, ih]; rfl
theorem All2.drop {P : α → β → Prop} {l : List α} {m : List β} (h : All2 P l m) : ∀ n, All2 P (l.drop n) (m.drop n) := by
  induction h with
  | nil => intro n; simp; exact .nil
  | cons h1 h2 ih =>
    intro n
    cases n with
    | zero => exact .cons h1 h2
    | succ n => exact ih n
theorem All2.take {P : α → β → Prop} {l : List α} {m : List β} (h : All2 P l m) : ∀ n, All2 P (l.take n) (m.take n) := by
  induction h with
  | nil => intro n; simp; exact .nil
  | cons h1 h2 ih =>
    intro n
    cases n with
    | zero => exact .nil
    | succ n => exact .cons h1 (ih n)

/-- A slice holds a list. -/
def RS (P : Rp α) (sz : Nat) (σ : Store) (l : List α) (a : AV) : Prop := ∃ els, SlAt σ sz a els ∧ All2 (P σ) l els
theorem RS.len {P : Rp α} {sz : Nat} {σ : Store} {l : List α} {a : AV} (h : RS P sz σ l a) : lenV false a = some (.int .i64 l.length) := by
  obtain ⟨els, h1, h2⟩ := h
  rw [h1.len, h2.length]
theorem RS.cellsOf {P : Rp α} {sz : Nat} {σ : Store} {l : List α} {a : AV} (h : RS P sz σ l a) : Go.X.cellsOf a = some [a] := by
  obtain ⟨els, h1, h2⟩ := h
  exact h1.cellsOf
theorem RS.iadr {P : Rp α} {sz : Nat} {σ : Store} {l : List α} {a : AV} (h : RS P sz σ l a) (k : IntKind) {i : Nat} (hi : i < l.length) : iadrV σ sz a (.int k i) = some (elP a i) := by
  obtain ⟨els, h1, h2⟩ := h
  exact h1.iadr k (by rw [← h2.length]; exact hi)
theorem RS.get {P : Rp α} {sz : Nat} {σ : Store} {l : List α} {a : AV} (h : RS P sz σ l a) {i : Nat} {m : α} (hi : l[i]? = some m) :
    ∃ cs, P σ m cs ∧ iadrV σ sz a (.int .i64 i) = some (elP a i) ∧ (∀ bx, place ⟨bx, σ⟩ (.v (elP a i)) = some (cs, 0)) ∧ (∀ o, fadrV o (.v (elP a i)) = some (.v (elQ a i o))) ∧ ∀ bx o, place ⟨bx, σ⟩ (.v (elQ a i o)) = some (cs, o) := by
  obtain ⟨els, h1, h2⟩ := h
  obtain ⟨cs, h3, h4⟩ := h2.get hi
  have hl := (List.getElem?_eq_some_iff.1 h3).1
  exact ⟨cs, h4, h1.iadr .i64 hl, fun bx => h1.place bx h3, fun o => h1.fadrQ hl o, fun bx o => h1.placeQ bx h3 o⟩

/-- It holds whatever the rows before lo are. -/
def FR (lo : Nat) (st : Store) (P : Store → Prop) : Prop := ∀ st' : Store, (∀ r, lo ≤ r → r < st.length → st'[r]? = st[r]?) → P st'
theorem FR.self {lo : Nat} {st : Store} {P : Store → Prop} (h : FR lo st P) : P st := h st (fun _ _ _ => rfl)
theorem FR.mono {lo lo' : Nat} {st st' : Store} {P : Store → Prop} (h : FR lo st P) (hl : lo' ≤ lo) (hs : st.length ≤ st'.length) (he : ∀ r, lo ≤ r → r < st.length → st'[r]? = st[r]?) : FR lo' st' P :=
  fun st2 h2 => h st2 (fun r h3 h4 => by rw [h2 r (Nat.le_trans hl h3) (Nat.lt_of_lt_of_le h4 hs)]; exact he r h3 h4)
theorem FR.imp {lo : Nat} {st : Store} {P Q : Store → Prop} (h : FR lo st P) (hpq : ∀ s, P s → Q s) : FR lo st Q := fun st' h' => hpq _ (h st' h')
theorem FR.of {lo : Nat} {st : Store} {P : Store → Prop} (h : ∀ s, P s) : FR lo st P := fun st' _ => h st'

theorem ld_all {sz : Nat} {cs : List AV} (h : cs.length = sz) : ld true sz 0 cs = some (.agg cs) := by
  subst h; simp [ld]

/-- A store into an element of the row that stands at the end of σ. -/
theorem putAt_row (σ t : Store) (els : List (List AV)) (sz i : Nat) (cs y : List AV) (bx : Boxes) (hi : els[i]? = some cs) (hl : y.length = cs.length) :
    putAt ⟨bx, σ ++ ⟨els, sz, 0, .own⟩ :: t⟩ (.v (elP (.sl σ.length 0 0 els.length) i)) y = some ⟨bx, σ ++ ⟨els.set i y, sz, 0, .own⟩ :: t⟩ := by
  have hr : rowAt (σ ++ ⟨els, sz, 0, .own⟩ :: t) σ.length 0 = some ⟨els, sz, 0, .own⟩ := by simp [rowAt]
  simp only [elP, Nat.zero_add, putAt, hr, Option.bind_some, hi]
  rw [if_pos ⟨trivial, by omega⟩]
  simp [upd, hl]
theorem iadr_row (σ t : Store) (els : List (List AV)) (sz n : Nat) (hn : n = els.length) (i : Nat) (hi : i < n) :
    iadrV (σ ++ ⟨els, sz, 0, .own⟩ :: t) sz (.sl σ.length 0 0 n) (.int .i64 i) = some (elP (.sl σ.length 0 0 n) i) := by
  have hr : rowAt (σ ++ ⟨els, sz, 0, .own⟩ :: t) σ.length 0 = some ⟨els, sz, 0, .own⟩ := by simp [rowAt]
  have h : SlAt (σ ++ ⟨els, sz, 0, .own⟩ :: t) sz (.sl σ.length 0 0 n) els := by
    have := SlAt.mk (i := 0) (n := n) hr rfl (by simp [hn])
    simpa [hn] using this
  exact h.iadr .i64 (by omega)

/-- What a box that has escaped holds. -/
theorem place_row (σ t : Store) (cs : List AV) (sz o : Nat) (bx : Boxes) : place ⟨bx, σ ++ ⟨[cs], sz, 0, .own⟩ :: t⟩ (.v (.ptr σ.length 0 0 o)) = some (cs, o) := by
  have hr : rowAt (σ ++ ⟨[cs], sz, 0, .own⟩ :: t) σ.length 0 = some ⟨[cs], sz, 0, .own⟩ := by simp [rowAt]
  simp [place, hr]
theorem putAt_box (σ t : Store) (cs : List AV) (sz o : Nat) (y : List AV) (bx : Boxes) (h : o + y.length ≤ cs.length) :
    putAt ⟨bx, σ ++ ⟨[cs], sz, 0, .own⟩ :: t⟩ (.v (.ptr σ.length 0 0 o)) y = some ⟨bx, σ ++ ⟨[upd cs o y], sz, 0, .own⟩ :: t⟩ := by
  have hr : rowAt (σ ++ ⟨[cs], sz, 0, .own⟩ :: t) σ.length 0 = some ⟨[cs], sz, 0, .own⟩ := by simp [rowAt]
  simp only [putAt, hr, Option.bind_some, List.getElem?_cons_zero]
  rw [if_pos ⟨trivial, h⟩]
  simp

/-! ### Who owns a slice's row -/

/-- The slice's row, if there is one, is as K says. -/
def KA (K : Nat → Row → Prop) (σ : Store) (a : AV) : Prop := ∀ r v i n, a = .sl r v i n → ∃ row, rowAt σ r v = some row ∧ K r row
/-- A row of the store's own, from lo on and before hi. -/
def ownK (lo hi : Nat) : Nat → Row → Prop := fun r row => lo ≤ r ∧ r < hi ∧ row.kd = .own
theorem KA.imp {K K' : Nat → Row → Prop} (hk : ∀ r row, K r row → K' r row) {σ : Store} {a : AV} (h : KA K σ a) : KA K' σ a := fun r v i n e => let ⟨row, h1, h2⟩ := h r v i n e; ⟨row, h1, hk r row h2⟩
theorem KA.wide {lo lo' hi hi' : Nat} (hl : lo' ≤ lo) (hh : hi ≤ hi') {σ : Store} {a : AV} (h : KA (ownK lo hi) σ a) : KA (ownK lo' hi') σ a := h.imp (fun r row ⟨h1, h2, h3⟩ => ⟨Nat.le_trans hl h1, Nat.lt_of_lt_of_le h2 hh, h3⟩)
theorem KA.mono {K : Nat → Row → Prop} {σ : Store} {a : AV} (h : KA K σ a) (ext : Store) : KA K (σ ++ ext) a := fun r v i n e => let ⟨row, h1, h2⟩ := h r v i n e; ⟨row, rowAt_append h1 ext, h2⟩
theorem KA.nil (K : Nat → Row → Prop) (σ : Store) : KA K σ .nilsl := fun _ _ _ _ e => by cases e
/-- Rows before lo and from hi on are as they were. -/
def Same (lo hi : Nat) (σ σ' : Store) : Prop := σ'.length = σ.length ∧ ∀ r, r < lo ∨ hi ≤ r → σ'[r]? = σ[r]?
theorem Same.refl (lo hi : Nat) (σ : Store) : Same lo hi σ σ := ⟨rfl, fun _ _ => rfl⟩
theorem Same.trans {lo hi : Nat} {a b c : Store} (h : Same lo hi a b) (k : Same lo hi b c) : Same lo hi a c := ⟨k.1.trans h.1, fun r hr => (k.2 r hr).trans (h.2 r hr)⟩

/-! ### Copies -/

def toSBody (sz : Nat) (f : FuncId) : XC := (.seq (.seq (.reg [op 8 (.mv (.t 4)), op 9 (.mv (.t 0)), op 10 (.len false (.t 9)), op 11 (.bin .lss (.t 8) (.t 10))] [0, 3, 4, 11] none) (.cond (.t 11) .skip (.exit 0))) (.seq (.block 1 (.reg [op 14 (.mv (.t 3)), op 15 (.mv (.t 4)), op 16 (.mv (.t 0)), op 17 (.mv (.t 4)), op 18 (.iadr sz (.t 16) (.t 17)), op 19 (.load true sz (.t 18)), op 20 (.call f [(.t 19)]), op 21 (.iadr sz (.t 14) (.t 15)), XOper.mk none (.store sz (.t 21) (.t 20)) none] [0, 3, 4] none)) (.reg [op 12 (.mv (.t 4)), op 13 (.bin .add (.t 12) (.c (.int .i64 1))), op 4 (.mv (.t 13))] [0, 3, 4] none)))
def toSFun (l : XC) (sz bytes : Nat) (z : List AV) : CFun := CFun.mk 1 (.seq (.reg [op 2 (.mv (.c .nilsl))] [0] none) (.seq (.reg [op 5 (.mv (.t 0)), op 6 (.len false (.t 5)), op 7 (.mks sz bytes z (.t 6) (.t 6)), op 3 (.mv (.t 7))] [0, 3] none) (.seq (.seq (.reg [op 4 (.mv (.c (.int .i64 0)))] [0, 3, 4] none) (.block 0 (.loop [0, 3, 4] l))) (.seq (.reg [op 22 (.mv (.t 3)), op 2 (.mv (.t 22))] [2] none) .ret)))) [(.t 2)] false

/-- What a copier of elements does. -/
def Copies (E : Call) (f : FuncId) (P : Rp α) (Q : Nat → Nat → Rp α) (sz : Nat) : Prop := ∀ σ m cs, P σ m cs → ∃ cs' ext, E f [.agg cs] σ = some (.agg cs', σ ++ ext) ∧ cs'.length = sz ∧ FR σ.length (σ ++ ext) (fun st => Q σ.length (σ ++ ext).length st m cs')
/-- What is owned within bounds is owned within wider ones. -/
def Wide (Q : Nat → Nat → Rp α) : Prop := ∀ lo lo' hi hi' σ m cs, lo' ≤ lo → hi ≤ hi' → Q lo hi σ m cs → Q lo' hi' σ m cs
/-- More rows do no harm. -/
def Mono (P : Rp α) : Prop := ∀ σ ext m cs, P σ m cs → P (σ ++ ext) m cs
def Sized (P : Rp α) (sz : Nat) : Prop := ∀ σ m cs, P σ m cs → cs.length = sz

theorem RS.mono {P : Rp α} (hP : Mono P) {sz : Nat} {σ : Store} {l : List α} {a : AV} (h : RS P sz σ l a) (ext : Store) : RS P sz (σ ++ ext) l a := by
  obtain ⟨els, h1, h2⟩ := h
  exact ⟨els, h1.append ext, h2.imp (fun m cs h => hP σ ext m cs h)⟩

section
variable {E : Call} {f : FuncId} {P : Rp α} {Q : Nat → Nat → Rp α} {sz : Nat}

theorem toS_loop (hf : Copies E f P Q sz) (hQ : Wide Q) (hM : Mono P) (hS : Sized P sz) (σ : Store) (a : AV) (l : List α) (ha : RS P sz σ l a) (z : List AV) (hz : z.length = sz) (hn : l.length ≤ 140737488355328) (k : Out → S → Option R) :
    ∀ (m i : Nat) (done : List (List AV)) (ext : Store), m = l.length - i → i ≤ l.length → All2 (fun m cs => cs.length = sz ∧ FR (σ.length + 1) (σ ++ ⟨done ++ List.replicate (l.length - i) z, sz, 0, .own⟩ :: ext) (fun st => Q σ.length (σ.length + 1 + ext.length) st m cs)) (l.take i) done →
      ∃ done' ext', All2 (fun m cs => cs.length = sz ∧ FR (σ.length + 1) (σ ++ ⟨done', sz, 0, .own⟩ :: ext') (fun st => Q σ.length (σ.length + 1 + ext'.length) st m cs)) l done' ∧
      loopK E [0, 3, 4] (toSBody sz f) ([(0, .v a), (3, .v (.sl σ.length 0 0 l.length)), (4, .v (int i))], ⟨[], σ ++ ⟨done ++ List.replicate (l.length - i) z, sz, 0, .own⟩ :: ext⟩) k =
        k (.exit 0) ([(0, .v a), (3, .v (.sl σ.length 0 0 l.length)), (4, .v (int l.length)), (11, .v (.bool false))], ⟨[], σ ++ ⟨done', sz, 0, .own⟩ :: ext'⟩) := by
  intro m
  induction m with
  | zero =>
    intro i done ext hm hi hd
    have e : i = l.length := by omega
    subst e
    refine ⟨done, ext, by simpa using hd, ?_⟩
    rw [loopK_step (toSBody.eq_1 sz f)]
    simp (config := {contextual := true, implicitDefEqProofs := false, maxSteps := 1000000}) only [
    ↓runK_seq, ↓runK_reg, ↓runK_draw0, ↓runK_drawT, ↓runK_block, ↓runK_cond, ↓runK_loop, ↓runK_skip, ↓runK_ret, ↓runK_exit, ↓seqK_norm, ↓seqK_ret, ↓seqK_exit, ↓blkK_norm, ↓blkK_ret, ↓blkK_exit, ↓lpK_norm, ↓lpK_ret, ↓lpK_exit, ↓regK_eq, 
    frK_eq, ↓opsK_op, ↓opsK_og, ↓opsK_nil, ↓nxtK_some, ↓nxtK_none, ↓opsT_op, ↓opsT_og, ↓opsT_nil, ↓nxtT_some, ↓nxtT_none, ↓endT_nil, ↓opK_mv, ↓opK_pick, ↓opK_load, ↓opK_store, ↓opK_bin, ↓opK_fadr, ↓opK_alloc, ↓opK_allocE, ↓opK_box, 
    ↓opK_boxE, ↓opK_iadr, ↓opK_fld, ↓opK_beq, ↓opK_seq, ↓opK_isnil, ↓opK_bnot, ↓opK_neg, ↓opK_len, ↓opK_ext, ↓opK_build, ↓opK_bsl, ↓opK_bslE, ↓opK_app, ↓opK_slc, ↓opK_sstr, ↓opK_idx, ↓opK_s2b, ↓opK_b2s, ↓opK_cvt, ↓opK_mks, ↓opK_nilc, 
    ↓opK_mkf, ↓opK_call, ↓opK_calld, ↓opK_mx, ↓finK_ret, ↓finK_norm, th_some, th_none, ↓ch_br, ↓ch_true, ↓ch_false, ↓br_true, ↓br_false, ↓br_not, boolK_bool, gdK_true, gdK_false, gdK_undef, pickK_bb, pickK_bool, fnK_fn, ev_t, ev_c, evv_t, 
    evv_c, evs_nil, evs_cons, av_v, lk_hit, lk_miss, lk_nil, projR_nil, projR_cons, projB_nil, projB_cons, pr1_v, pr1_none, pr1_lp, pr1_ls, pb1_v, pb1_none, pb1_nob, pb1_lp, binV_add, binV_sub, binV_mul, binV_eql, binV_neq, binV_lss, 
    binV_leq, binV_gtr, binV_geq, binV_seql, binV_sneq, binV_slss, binV_sleq, binV_sgtr, binV_sgeq, cellsOf_int, cellsOf_bool, cellsOf_str, cellsOf_agg, cellsOf_sl, cellsOf_nilsl, cellsOf_ptr, cellsOf_nilptr, cellsOf_fn, cellsOf_nilfn, 
    place_lp, ld_cell, ld_agg, putAt_lp, fadrV_lp, fadrV_ptr, fldV_agg, beqV_eq, beqV_ne, seqV_eq, seqV_ne, cellsEq_nil, cellsEq_cons, cellEq_int, cellEq_bool, cellEq_str, isnilV_eq, isnilV_ne, bnotV_bool, negV_int, lenV_str, lenV_sl, 
    lenV_nilsl, extV_tup, fillP_nil, fillP_cons, fillS_nil, fillS_cons, intOf_int, bnd_none, bnd_some, sstrV_str, idxV_str, strOf_str, mksV_int, nilcV_ptr, nilcV_lp, mxV_max, mxV_min, result, resOf, allSome, number, upd, List.map, 
    List.length_cons, List.length_nil, List.append_nil, List.nil_append, List.cons_append, List.getElem?_cons_zero, List.getElem?_cons_succ, List.drop_zero, List.drop_succ_cons, List.drop_nil, List.take_zero, List.take_succ_cons, 
    List.take_nil, Option.bind_some, Option.isNone_none, Option.isNone_some, Option.isSome_some, Nat.reduceAdd, Nat.reduceSub, Nat.reduceLeDiff, Nat.reduceLT, Nat.reduceEqDiff, Nat.zero_add, Nat.add_zero, Nat.le_refl, reduceIte, ne_eq, 
    not_false_eq_true, and_self, true_and, and_true, reduceCtorEq, cond_true, cond_false, stT_nil, st1_some, evG_load, evG_gd, same3_eq, same3_none, endT_cons, ha.len, Int.lt_irrefl, decide_false, Nat.sub_self, List.replicate_zero]
  | succ m ih =>
    intro i done ext hm hi hd
    have hlt : i < l.length := by omega
    have hlt' : (i : Int) < (l.length : Int) := by omega
    have hdl : done.length = i := by have := hd.length; simp at this; omega
    have hw : IntKind.i64.wrap ((i : Int) + 1) = ((i + 1 : Nat) : Int) := wrap64 (by omega) (by omega)
    obtain ⟨cs, hp, ha1, ha2⟩ := RS.get (RS.mono hM ha (⟨done ++ List.replicate (l.length - i) z, sz, 0, .own⟩ :: ext)) (List.getElem?_eq_getElem hlt)
    have hcs := hS _ _ _ hp
    obtain ⟨cs', ext2, hc, hl', hfr⟩ := hf _ _ _ hp
    have hst : (σ ++ ⟨done ++ List.replicate (l.length - i) z, sz, 0, .own⟩ :: ext) ++ ext2 = σ ++ ⟨done ++ List.replicate (l.length - i) z, sz, 0, .own⟩ :: (ext ++ ext2) := by simp
    rw [hst] at hc hfr
    have hels : (done ++ List.replicate (l.length - i) z).length = l.length := by simp; omega
    have hi2 : (done ++ List.replicate (l.length - i) z)[i]? = some z := by
      rw [List.getElem?_append_right (by omega), List.getElem?_replicate]
      rw [if_pos (by omega)]
    have hset : (done ++ List.replicate (l.length - i) z).set i cs' = (done ++ [cs']) ++ List.replicate (l.length - (i + 1)) z := by
      have e1 : l.length - i = (l.length - (i + 1)) + 1 := by omega
      rw [e1, List.replicate_succ, List.set_append_right _ _ (by omega)]
      simp [hdl]
    have hia := iadr_row σ (ext ++ ext2) (done ++ List.replicate (l.length - i) z) sz l.length hels.symm i hlt
    have hpu := putAt_row σ (ext ++ ext2) (done ++ List.replicate (l.length - i) z) sz i z cs' [] hi2 (by rw [hl', hz])
    rw [hels, hset] at hpu
    obtain ⟨done', ext', h1, h2⟩ := ih (i + 1) (done ++ [cs']) (ext ++ ext2) (by omega) (by omega) (by
      rw [List.take_add_one, List.getElem?_eq_getElem hlt]
      refine All2.snoc (hd.imp (fun m cs h => ⟨h.1, (h.2.mono (Nat.le_refl _) (by simp) (fun r h3 h4 => ?_)).imp (fun s hs => hQ _ _ _ _ s m cs (Nat.le_refl _) (by simp <;> omega) hs)⟩)) ⟨hl', (hfr.mono (by simp) (by simp) (fun r h3 h4 => ?_)).imp (fun s hs => hQ _ _ _ _ s _ cs' (by simp) (by simp <;> omega) hs)⟩
      · have hr : σ.length + 1 ≤ r := by simp at h3; omega
        rw [List.getElem?_append_right (by omega), List.getElem?_append_right (by omega)]
        obtain ⟨q, hq⟩ : ∃ q, r - σ.length = q + 1 := ⟨r - σ.length - 1, by omega⟩
        rw [hq]
        simp only [List.getElem?_cons_succ]
      · rw [List.getElem?_append_right (by omega), List.getElem?_append_right (by omega)]
        obtain ⟨q, hq⟩ : ∃ q, r - σ.length = q + 1 := ⟨r - σ.length - 1, by omega⟩
        rw [hq]
        simp only [List.getElem?_cons_succ]
        rw [List.getElem?_append_left (by simp at h4; omega)])
    refine ⟨done', ext', h1, ?_⟩
    rw [← h2, loopK_step (toSBody.eq_1 sz f)]
    simp (config := {contextual := true, implicitDefEqProofs := false, maxSteps := 1000000}) only [
    ↓runK_seq, ↓runK_reg, ↓runK_draw0, ↓runK_drawT, ↓runK_block, ↓runK_cond, ↓runK_loop, ↓runK_skip, ↓runK_ret, ↓runK_exit, ↓seqK_norm, ↓seqK_ret, ↓seqK_exit, ↓blkK_norm, ↓blkK_ret, ↓blkK_exit, ↓lpK_norm, ↓lpK_ret, ↓lpK_exit, ↓regK_eq, 
    frK_eq, ↓opsK_op, ↓opsK_og, ↓opsK_nil, ↓nxtK_some, ↓nxtK_none, ↓opsT_op, ↓opsT_og, ↓opsT_nil, ↓nxtT_some, ↓nxtT_none, ↓endT_nil, ↓opK_mv, ↓opK_pick, ↓opK_load, ↓opK_store, ↓opK_bin, ↓opK_fadr, ↓opK_alloc, ↓opK_allocE, ↓opK_box, 
    ↓opK_boxE, ↓opK_iadr, ↓opK_fld, ↓opK_beq, ↓opK_seq, ↓opK_isnil, ↓opK_bnot, ↓opK_neg, ↓opK_len, ↓opK_ext, ↓opK_build, ↓opK_bsl, ↓opK_bslE, ↓opK_app, ↓opK_slc, ↓opK_sstr, ↓opK_idx, ↓opK_s2b, ↓opK_b2s, ↓opK_cvt, ↓opK_mks, ↓opK_nilc, 
    ↓opK_mkf, ↓opK_call, ↓opK_calld, ↓opK_mx, ↓finK_ret, ↓finK_norm, th_some, th_none, ↓ch_br, ↓ch_true, ↓ch_false, ↓br_true, ↓br_false, ↓br_not, boolK_bool, gdK_true, gdK_false, gdK_undef, pickK_bb, pickK_bool, fnK_fn, ev_t, ev_c, evv_t, 
    evv_c, evs_nil, evs_cons, av_v, lk_hit, lk_miss, lk_nil, projR_nil, projR_cons, projB_nil, projB_cons, pr1_v, pr1_none, pr1_lp, pr1_ls, pb1_v, pb1_none, pb1_nob, pb1_lp, binV_add, binV_sub, binV_mul, binV_eql, binV_neq, binV_lss, 
    binV_leq, binV_gtr, binV_geq, binV_seql, binV_sneq, binV_slss, binV_sleq, binV_sgtr, binV_sgeq, cellsOf_int, cellsOf_bool, cellsOf_str, cellsOf_agg, cellsOf_sl, cellsOf_nilsl, cellsOf_ptr, cellsOf_nilptr, cellsOf_fn, cellsOf_nilfn, 
    place_lp, ld_cell, ld_agg, putAt_lp, fadrV_lp, fadrV_ptr, fldV_agg, beqV_eq, beqV_ne, seqV_eq, seqV_ne, cellsEq_nil, cellsEq_cons, cellEq_int, cellEq_bool, cellEq_str, isnilV_eq, isnilV_ne, bnotV_bool, negV_int, lenV_str, lenV_sl, 
    lenV_nilsl, extV_tup, fillP_nil, fillP_cons, fillS_nil, fillS_cons, intOf_int, bnd_none, bnd_some, sstrV_str, idxV_str, strOf_str, mksV_int, nilcV_ptr, nilcV_lp, mxV_max, mxV_min, result, resOf, allSome, number, upd, List.map, 
    List.length_cons, List.length_nil, List.append_nil, List.nil_append, List.cons_append, List.getElem?_cons_zero, List.getElem?_cons_succ, List.drop_zero, List.drop_succ_cons, List.drop_nil, List.take_zero, List.take_succ_cons, 
    List.take_nil, Option.bind_some, Option.isNone_none, Option.isNone_some, Option.isSome_some, Nat.reduceAdd, Nat.reduceSub, Nat.reduceLeDiff, Nat.reduceLT, Nat.reduceEqDiff, Nat.zero_add, Nat.add_zero, Nat.le_refl, reduceIte, ne_eq, 
    not_false_eq_true, and_self, true_and, and_true, reduceCtorEq, cond_true, cond_false, stT_nil, st1_some, evG_load, evG_gd, same3_eq, same3_none, endT_cons, ha.len, hlt', decide_true, ha1, ha2, ld_all hcs, hc, hl', hia, hpu, hw]

/-- A list that is held in rows of the store's own. -/
def RSO (Q : Nat → Nat → Rp α) (sz lo hi : Nat) (σ : Store) (l : List α) (a : AV) : Prop := RS (Q lo hi) sz σ l a ∧ KA (ownK lo hi) σ a
theorem RSO.wide (hQ : Wide Q) {lo lo' hi hi' : Nat} (hl : lo' ≤ lo) (hh : hi ≤ hi') {σ : Store} {l : List α} {a : AV} (h : RSO Q sz lo hi σ l a) : RSO Q sz lo' hi' σ l a := by
  obtain ⟨⟨els, h1, h2⟩, h3⟩ := h
  exact ⟨⟨els, h1, h2.imp (fun m cs h => hQ _ _ _ _ σ m cs hl hh h)⟩, h3.wide hl hh⟩

/-- A copier of slices. -/
theorem toS {C : FuncId → Option CFun} {X : Call} {fS : FuncId} {bytes : Nat} {z : List AV} (hC : C fS = some (toSFun (toSBody sz f) sz bytes z)) (hf : Copies (Ex C X) f P Q sz) (hQ : Wide Q) (hM : Mono P) (hS : Sized P sz) (hz : z.length = sz)
    (σ : Store) (a : AV) (l : List α) (ha : RS P sz σ l a) (hn : l.length * bytes ≤ 140737488355328) (hn' : l.length ≤ 140737488355328) :
    ∃ a' ext, Ex C X fS [a] σ = some (a', σ ++ ext) ∧ FR σ.length (σ ++ ext) (fun st => RSO Q sz σ.length (σ ++ ext).length st l a') ∧ Go.X.cellsOf a' = some [a'] := by
  obtain ⟨done', ext', h1, h2⟩ := toS_loop (E := Ex C X) (R := AV × Store) hf hQ hM hS σ a l ha z hz hn' (blkK 0 (seqK (Ex C X) (.seq (.reg [op 22 (.mv (.t 3)), op 2 (.mv (.t 22))] [2] none) .ret) (finK [.t 2] false σ))) l.length 0 [] [] (by omega) (by omega) (by simpa using All2.nil)
  refine ⟨.sl σ.length 0 0 l.length, ⟨done', sz, 0, .own⟩ :: ext', ?_, ?_, rfl⟩
  · rw [Ex_run hC rfl]
    have hb : ((l.length : Nat) : Int) * (bytes : Int) ≤ 140737488355328 := by rw [← Int.natCast_mul]; omega
    have hc : (0 : Int) ≤ (l.length : Nat) ∧ ((l.length : Nat) : Int) ≤ (l.length : Nat) ∧ ((l.length : Nat) : Int) * (bytes : Int) ≤ 140737488355328 ∧ ((l.length : Nat) : Int) ≤ 140737488355328 := ⟨by omega, by omega, hb, by omega⟩
    have e0 : (0 : Int) = ((0 : Nat) : Int) := rfl
    simp only [List.nil_append, Nat.sub_zero] at h2
    simp (config := {contextual := true, implicitDefEqProofs := false, maxSteps := 1000000}) only [
    ↓runK_seq, ↓runK_reg, ↓runK_draw0, ↓runK_drawT, ↓runK_block, ↓runK_cond, ↓runK_loop, ↓runK_skip, ↓runK_ret, ↓runK_exit, ↓seqK_norm, ↓seqK_ret, ↓seqK_exit, ↓blkK_norm, ↓blkK_ret, ↓blkK_exit, ↓lpK_norm, ↓lpK_ret, ↓lpK_exit, ↓regK_eq, 
    frK_eq, ↓opsK_op, ↓opsK_og, ↓opsK_nil, ↓nxtK_some, ↓nxtK_none, ↓opsT_op, ↓opsT_og, ↓opsT_nil, ↓nxtT_some, ↓nxtT_none, ↓endT_nil, ↓opK_mv, ↓opK_pick, ↓opK_load, ↓opK_store, ↓opK_bin, ↓opK_fadr, ↓opK_alloc, ↓opK_allocE, ↓opK_box, 
    ↓opK_boxE, ↓opK_iadr, ↓opK_fld, ↓opK_beq, ↓opK_seq, ↓opK_isnil, ↓opK_bnot, ↓opK_neg, ↓opK_len, ↓opK_ext, ↓opK_build, ↓opK_bsl, ↓opK_bslE, ↓opK_app, ↓opK_slc, ↓opK_sstr, ↓opK_idx, ↓opK_s2b, ↓opK_b2s, ↓opK_cvt, ↓opK_mks, ↓opK_nilc, 
    ↓opK_mkf, ↓opK_call, ↓opK_calld, ↓opK_mx, ↓finK_ret, ↓finK_norm, th_some, th_none, ↓ch_br, ↓ch_true, ↓ch_false, ↓br_true, ↓br_false, ↓br_not, boolK_bool, gdK_true, gdK_false, gdK_undef, pickK_bb, pickK_bool, fnK_fn, ev_t, ev_c, evv_t, 
    evv_c, evs_nil, evs_cons, av_v, lk_hit, lk_miss, lk_nil, projR_nil, projR_cons, projB_nil, projB_cons, pr1_v, pr1_none, pr1_lp, pr1_ls, pb1_v, pb1_none, pb1_nob, pb1_lp, binV_add, binV_sub, binV_mul, binV_eql, binV_neq, binV_lss, 
    binV_leq, binV_gtr, binV_geq, binV_seql, binV_sneq, binV_slss, binV_sleq, binV_sgtr, binV_sgeq, cellsOf_int, cellsOf_bool, cellsOf_str, cellsOf_agg, cellsOf_sl, cellsOf_nilsl, cellsOf_ptr, cellsOf_nilptr, cellsOf_fn, cellsOf_nilfn, 
    place_lp, ld_cell, ld_agg, putAt_lp, fadrV_lp, fadrV_ptr, fldV_agg, beqV_eq, beqV_ne, seqV_eq, seqV_ne, cellsEq_nil, cellsEq_cons, cellEq_int, cellEq_bool, cellEq_str, isnilV_eq, isnilV_ne, bnotV_bool, negV_int, lenV_str, lenV_sl, 
    lenV_nilsl, extV_tup, fillP_nil, fillP_cons, fillS_nil, fillS_cons, intOf_int, bnd_none, bnd_some, sstrV_str, idxV_str, strOf_str, mksV_int, nilcV_ptr, nilcV_lp, mxV_max, mxV_min, result, resOf, allSome, number, upd, List.map, 
    List.length_cons, List.length_nil, List.append_nil, List.nil_append, List.cons_append, List.getElem?_cons_zero, List.getElem?_cons_succ, List.drop_zero, List.drop_succ_cons, List.drop_nil, List.take_zero, List.take_succ_cons, 
    List.take_nil, Option.bind_some, Option.isNone_none, Option.isNone_some, Option.isSome_some, Nat.reduceAdd, Nat.reduceSub, Nat.reduceLeDiff, Nat.reduceLT, Nat.reduceEqDiff, Nat.zero_add, Nat.add_zero, Nat.le_refl, reduceIte, ne_eq, 
    not_false_eq_true, and_self, true_and, and_true, reduceCtorEq, cond_true, cond_false, stT_nil, st1_some, evG_load, evG_gd, same3_eq, same3_none, endT_cons, toSFun, ha.len, hc, Int.toNat_natCast]
    refine h2.trans ?_
    simp (config := {contextual := true, implicitDefEqProofs := false, maxSteps := 1000000}) only [
    ↓runK_seq, ↓runK_reg, ↓runK_draw0, ↓runK_drawT, ↓runK_block, ↓runK_cond, ↓runK_loop, ↓runK_skip, ↓runK_ret, ↓runK_exit, ↓seqK_norm, ↓seqK_ret, ↓seqK_exit, ↓blkK_norm, ↓blkK_ret, ↓blkK_exit, ↓lpK_norm, ↓lpK_ret, ↓lpK_exit, ↓regK_eq, 
    frK_eq, ↓opsK_op, ↓opsK_og, ↓opsK_nil, ↓nxtK_some, ↓nxtK_none, ↓opsT_op, ↓opsT_og, ↓opsT_nil, ↓nxtT_some, ↓nxtT_none, ↓endT_nil, ↓opK_mv, ↓opK_pick, ↓opK_load, ↓opK_store, ↓opK_bin, ↓opK_fadr, ↓opK_alloc, ↓opK_allocE, ↓opK_box, 
    ↓opK_boxE, ↓opK_iadr, ↓opK_fld, ↓opK_beq, ↓opK_seq, ↓opK_isnil, ↓opK_bnot, ↓opK_neg, ↓opK_len, ↓opK_ext, ↓opK_build, ↓opK_bsl, ↓opK_bslE, ↓opK_app, ↓opK_slc, ↓opK_sstr, ↓opK_idx, ↓opK_s2b, ↓opK_b2s, ↓opK_cvt, ↓opK_mks, ↓opK_nilc, 
    ↓opK_mkf, ↓opK_call, ↓opK_calld, ↓opK_mx, ↓finK_ret, ↓finK_norm, th_some, th_none, ↓ch_br, ↓ch_true, ↓ch_false, ↓br_true, ↓br_false, ↓br_not, boolK_bool, gdK_true, gdK_false, gdK_undef, pickK_bb, pickK_bool, fnK_fn, ev_t, ev_c, evv_t, 
    evv_c, evs_nil, evs_cons, av_v, lk_hit, lk_miss, lk_nil, projR_nil, projR_cons, projB_nil, projB_cons, pr1_v, pr1_none, pr1_lp, pr1_ls, pb1_v, pb1_none, pb1_nob, pb1_lp, binV_add, binV_sub, binV_mul, binV_eql, binV_neq, binV_lss, 
    binV_leq, binV_gtr, binV_geq, binV_seql, binV_sneq, binV_slss, binV_sleq, binV_sgtr, binV_sgeq, cellsOf_int, cellsOf_bool, cellsOf_str, cellsOf_agg, cellsOf_sl, cellsOf_nilsl, cellsOf_ptr, cellsOf_nilptr, cellsOf_fn, cellsOf_nilfn, 
    place_lp, ld_cell, ld_agg, putAt_lp, fadrV_lp, fadrV_ptr, fldV_agg, beqV_eq, beqV_ne, seqV_eq, seqV_ne, cellsEq_nil, cellsEq_cons, cellEq_int, cellEq_bool, cellEq_str, isnilV_eq, isnilV_ne, bnotV_bool, negV_int, lenV_str, lenV_sl, 
    lenV_nilsl, extV_tup, fillP_nil, fillP_cons, fillS_nil, fillS_cons, intOf_int, bnd_none, bnd_some, sstrV_str, idxV_str, strOf_str, mksV_int, nilcV_ptr, nilcV_lp, mxV_max, mxV_min, result, resOf, allSome, number, upd, List.map, 
    List.length_cons, List.length_nil, List.append_nil, List.nil_append, List.cons_append, List.getElem?_cons_zero, List.getElem?_cons_succ, List.drop_zero, List.drop_succ_cons, List.drop_nil, List.take_zero, List.take_succ_cons, 
    List.take_nil, Option.bind_some, Option.isNone_none, Option.isNone_some, Option.isSome_some, Nat.reduceAdd, Nat.reduceSub, Nat.reduceLeDiff, Nat.reduceLT, Nat.reduceEqDiff, Nat.zero_add, Nat.add_zero, Nat.le_refl, reduceIte, ne_eq, 
    not_false_eq_true, and_self, true_and, and_true, reduceCtorEq, cond_true, cond_false, stT_nil, st1_some, evG_load, evG_gd, same3_eq, same3_none, endT_cons]
  · intro st' he
    have hr : rowAt st' σ.length 0 = some ⟨done', sz, 0, .own⟩ := by
      have := he σ.length (Nat.le_refl _) (by simp)
      simp [rowAt, this]
    have hlen : (σ ++ (⟨done', sz, 0, .own⟩ : Row) :: ext').length = σ.length + 1 + ext'.length := by simp; omega
    rw [hlen]
    refine ⟨⟨done', ?_, h1.imp (fun m cs h => h.2 st' (fun r h3 h4 => he r (by omega) h4))⟩, fun r v i n e => ?_⟩
    · have := SlAt.mk (i := 0) (n := l.length) hr rfl (by simp [h1.length])
      simpa [h1.length] using this
    · cases e
      exact ⟨_, hr, Nat.le_refl _, by omega, rfl⟩
end

end Go.X

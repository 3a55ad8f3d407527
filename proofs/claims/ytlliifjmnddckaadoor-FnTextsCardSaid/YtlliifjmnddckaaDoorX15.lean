/- GoX, part 15: the executor with what follows handed on: equations that a simplifier can run in the order of execution. No statement of the seat is here. -/
import Derived.Test.YtlliifjmnddckaaDoorX14
set_option linter.unusedVariables false
set_option linter.unusedSimpArgs false
namespace Go.X
open Go

variable {α β R : Type}

/-- First v, then k: what follows is not looked into before v is there. -/
def th (v : Option α) (k : α → Option β) : Option β := v.bind k
theorem th_some (a : α) (k : α → Option β) : th (some a) k = k a := rfl
theorem th_none (k : α → Option β) : th (none : Option α) k = none := rfl
@[congr] theorem th_congr {v v' : Option α} (k : α → Option β) (h : Unit → v = v') : th v k = th v' k := by rw [h ()]

/-- A choice. -/
def ch (c : Bool) (a b : Option α) : Option α := if c then a else b
theorem ch_true (a b : Option α) : ch true a b = a := rfl
theorem ch_false (a b : Option α) : ch false a b = b := rfl
@[congr] theorem ch_congr {c c' : Bool} (a b : Option α) (h : Unit → c = c') : ch c a b = ch c' a b := by rw [h ()]
/-- A choice that is open. -/
def br (c : Bool) (a b : Option α) : Option α := if c then a else b
theorem ch_br (c : Bool) (a b : Option α) : ch c a b = br c a b := rfl
theorem br_true (a b : Option α) : br true a b = a := rfl
theorem br_false (a b : Option α) : br false a b = b := rfl
theorem br_not (c : Bool) (a b : Option α) : br (!c) a b = br c b a := by cases c <;> rfl
@[congr] theorem br_congr (c : Bool) {a a' b b' : Option α} (ha : c = true → a = a') (hb : c = false → b = b') : br c a b = br c a' b' := by
  cases c with
  | true => exact ha rfl
  | false => exact hb rfl

noncomputable def runK (E : Call) (c : XC) (s : S) (k : Out → S → Option R) : Option R := (exec E c s).bind fun p => k p.1 p.2
def opsK (E : Call) (ops : List XOper) (g : Regs) (M : Mem) (k : Regs → Mem → Option R) : Option R := (execOps E ops g M).bind fun p => k p.1 p.2
def opK (E : Call) (o : XOp) (g : Regs) (M : Mem) (k : RV → Mem → Option R) : Option R := (evOp E g M o).bind fun p => k p.1 p.2
@[congr] theorem runK_congr (E : Call) (c : XC) {s s' : S} (k : Out → S → Option R) (h : Unit → s = s') : runK E c s k = runK E c s' k := by rw [h ()]
@[congr] theorem opsK_congr (E : Call) (c : List XOper) {g g' : Regs} {M M' : Mem} (k : Regs → Mem → Option R) (h : Unit → g = g') (hM : Unit → M = M') : opsK E c g M k = opsK E c g' M' k := by rw [h (), hM ()]
@[congr] theorem opK_congr (E : Call) (c : XOp) {g g' : Regs} {M M' : Mem} (k : RV → Mem → Option R) (h : Unit → g = g') (hM : Unit → M = M') : opK E c g M k = opK E c g' M' k := by rw [h (), hM ()]

theorem runK_skip (E : Call) (s : S) (k : Out → S → Option R) : runK E .skip s k = k .norm s := rfl
theorem runK_ret (E : Call) (s : S) (k : Out → S → Option R) : runK E .ret s k = k .ret s := rfl
theorem runK_exit (E : Call) (i : Nat) (s : S) (k : Out → S → Option R) : runK E (.exit i) s k = k (.exit i) s := rfl

/-- What a sequence does behind its first part. -/
noncomputable def seqK (E : Call) (b : XC) (k : Out → S → Option R) (o : Out) (s : S) : Option R := match o with | .norm => runK E b s k | o => k o s
theorem seqK_norm (E : Call) (b : XC) (k : Out → S → Option R) (s : S) : seqK E b k .norm s = runK E b s k := rfl
theorem seqK_ret (E : Call) (b : XC) (k : Out → S → Option R) (s : S) : seqK E b k .ret s = k .ret s := rfl
theorem seqK_exit (E : Call) (b : XC) (k : Out → S → Option R) (i : Nat) (s : S) : seqK E b k (.exit i) s = k (.exit i) s := rfl
theorem runK_seq (E : Call) (a b : XC) (s : S) (k : Out → S → Option R) : runK E (.seq a b) s k = runK E a s (seqK E b k) := by
  simp only [runK, exec, Option.bind_assoc]
  congr 1
  funext p
  obtain ⟨o, s'⟩ := p
  cases o <;> simp [seqK, runK]

/-- What a block does behind its code. -/
def blkK (i : Nat) (k : Out → S → Option R) (o : Out) (s : S) : Option R := match o with | .exit j => if j = i then k .norm s else k (.exit j) s | o => k o s
theorem blkK_norm (i : Nat) (k : Out → S → Option R) (s : S) : blkK i k .norm s = k .norm s := rfl
theorem blkK_ret (i : Nat) (k : Out → S → Option R) (s : S) : blkK i k .ret s = k .ret s := rfl
theorem blkK_exit (i j : Nat) (k : Out → S → Option R) (s : S) : blkK i k (.exit j) s = if j = i then k .norm s else k (.exit j) s := rfl
theorem runK_block (E : Call) (i : Nat) (a : XC) (s : S) (k : Out → S → Option R) : runK E (.block i a) s k = runK E a s (blkK i k) := by
  simp only [runK, exec, Option.bind_assoc]
  congr 1
  funext p
  obtain ⟨o, s'⟩ := p
  cases o with
  | exit j => simp only [blkK]; split <;> rfl
  | _ => rfl

def boolK (v : Option AV) (a b : Option R) : Option R := match v with | some (.bool true) => a | some (.bool false) => b | _ => none
@[congr] theorem boolK_congr {v v' : Option AV} (a b : Option R) (h : Unit → v = v') : boolK v a b = boolK v' a b := by rw [h ()]
theorem boolK_bool (t : Bool) (a b : Option R) : boolK (some (.bool t)) a b = ch t a b := by cases t <;> rfl
theorem runK_cond (E : Call) (x : XO) (a b : XC) (s : S) (k : Out → S → Option R) : runK E (.cond x a b) s k = boolK (evv s.1 x) (runK E a s k) (runK E b s k) := by
  simp only [runK, exec]
  cases evv s.1 x with
  | none => rfl
  | some v =>
    cases v with
    | bool t => cases t <;> rfl
    | _ => rfl

/-- What follows a region. -/
def regK (live : List Nat) (k : Out → S → Option R) (g : Regs) (M : Mem) : Option R := k .norm (proj live (g, M))
/-- First the registers, then what follows. -/
def frK (g : Regs) (bx : Boxes) (k : Regs → Boxes → Option R) : Option R := k g bx
@[congr] theorem frK_congr {g g' : Regs} {bx bx' : Boxes} (k : Regs → Boxes → Option R) (h : Unit → g = g') (hb : Unit → bx = bx') : frK g bx k = frK g' bx' k := by rw [h (), hb ()]
theorem frK_eq (g : Regs) (bx : Boxes) (k : Regs → Boxes → Option R) : frK g bx k = k g bx := rfl
theorem regK_eq (live : List Nat) (k : Out → S → Option R) (g : Regs) (bx : Boxes) (st : Store) : regK live k g ⟨bx, st⟩ = frK (projR g bx live) (projB g bx live) (fun g' bx' => k .norm (g', ⟨bx', st⟩)) := rfl
theorem runK_reg (E : Call) (ops : List XOper) (live : List Nat) (g : Regs) (M : Mem) (k : Out → S → Option R) : runK E (.reg ops live none) (g, M) k = opsK E ops g M (regK live k) := by
  simp only [runK, exec, opsK, Option.bind_assoc]
  rfl

theorem runK_draw (E : Call) (ops : List XOper) (live : List Nat) (ps : List (Nat × Nat)) (g : Regs) (M : Mem) (k : Out → S → Option R) (h : stable E ops g M ps) : runK E (.reg ops live (some ps)) (g, M) k = opsK E ops g M (regK live k) := by
  simp only [runK, exec, opsK]
  rw [if_pos h]
  simp only [Option.bind_assoc]
  rfl

theorem stable_nil (E : Call) (ops : List XOper) (g : Regs) (M : Mem) : stable E ops g M [] := by intro p hp; cases hp
theorem runK_draw0 (E : Call) (ops : List XOper) (live : List Nat) (g : Regs) (M : Mem) (k : Out → S → Option R) : runK E (.reg ops live (some [])) (g, M) k = opsK E ops g M (regK live k) := runK_draw E ops live [] g M k (stable_nil E ops g M)

/-- What follows an operation. -/
def nxtK (E : Call) (d : Option Nat) (os : List XOper) (g : Regs) (k : Regs → Mem → Option R) (v : RV) (M : Mem) : Option R := opsK E os (putd g d v) M k
theorem nxtK_some (E : Call) (d : Nat) (os : List XOper) (g : Regs) (k : Regs → Mem → Option R) (v : RV) (M : Mem) : nxtK E (some d) os g k v M = opsK E os ((d, v) :: g) M k := rfl
theorem nxtK_none (E : Call) (os : List XOper) (g : Regs) (k : Regs → Mem → Option R) (v : RV) (M : Mem) : nxtK E none os g k v M = opsK E os g M k := rfl
theorem opsK_nil (E : Call) (g : Regs) (M : Mem) (k : Regs → Mem → Option R) : opsK E [] g M k = k g M := rfl
theorem opsK_op (E : Call) (d : Option Nat) (o : XOp) (os : List XOper) (g : Regs) (M : Mem) (k : Regs → Mem → Option R) : opsK E (⟨d, o, none⟩ :: os) g M k = opK E o g M (nxtK E d os g k) := by
  simp only [opsK, execOps, evG, wants, Option.bind_some, Option.bind_assoc, opK]
  rfl

/-- A guard. -/
def gdK (c : Option RV) (b : Bool) (x y : Option R) : Option R := match c with
  | some (.v (.bool c)) => ch (c == b) x y
  | some (.v .undef) => y
  | _ => none
@[congr] theorem gdK_congr {c c' : Option RV} (b : Bool) (x y : Option R) (h : Unit → c = c') : gdK c b x y = gdK c' b x y := by rw [h ()]
theorem gdK_true (c : Bool) (x y : Option R) : gdK (some (.v (.bool c))) true x y = ch c x y := by simp [gdK]
theorem gdK_false (c : Bool) (x y : Option R) : gdK (some (.v (.bool c))) false x y = ch c y x := by cases c <;> rfl
theorem gdK_undef (b : Bool) (x y : Option R) : gdK (some (.v .undef)) b x y = y := rfl
theorem opsK_og (E : Call) (d : Option Nat) (o : XOp) (t : Nat) (b : Bool) (os : List XOper) (g : Regs) (M : Mem) (k : Regs → Mem → Option R) :
    opsK E (⟨d, o, some (t, b)⟩ :: os) g M k = gdK (lk g t) b (opK E o g M (nxtK E d os g k)) (nxtK E d os g k (.v .undef) M) := by
  simp only [opsK, execOps, evG, wants, opK, nxtK]
  cases lk g t with
  | none => rfl
  | some v =>
    cases v with
    | v a =>
      cases a with
      | bool c =>
        simp only [gdK, Option.bind_some, ch]
        cases c <;> cases b <;> simp [Option.bind_assoc]
      | undef => simp [gdK]
      | _ => rfl
    | lp t' o => rfl
    | ls els => rfl

/-! ### Operations -/

theorem opK_call (E : Call) (f : FuncId) (args : List XO) (g : Regs) (M : Mem) (k : RV → Mem → Option R) :
    opK E (.call f args) g M k = th (evs g args) (fun as => th (E f as M.st) (fun p => k (.v p.1) ⟨M.bx, p.2⟩)) := by
  simp only [opK, evOp, th, Option.bind_assoc]
  rfl

def fnK (v : Option AV) (k : FuncId → List AV → Option R) : Option R := match v with | some (.fn f caps) => k f caps | _ => none
@[congr] theorem fnK_congr {v v' : Option AV} (k : FuncId → List AV → Option R) (h : Unit → v = v') : fnK v k = fnK v' k := by rw [h ()]
theorem fnK_fn (f : FuncId) (caps : List AV) (k : FuncId → List AV → Option R) : fnK (some (.fn f caps)) k = k f caps := rfl
theorem opK_calld (E : Call) (x : XO) (args : List XO) (g : Regs) (M : Mem) (k : RV → Mem → Option R) :
    opK E (.calld x args) g M k = fnK (evv g x) (fun f caps => th (evs g args) (fun as => th (E f (as ++ caps) M.st) (fun p => k (.v p.1) ⟨M.bx, p.2⟩))) := by
  simp only [opK, evOp]
  cases evv g x with
  | none => rfl
  | some v =>
    cases v with
    | fn f caps => simp only [Option.bind_some, fnK, th, Option.bind_assoc]
    | _ => rfl

/-- Operations that call nothing. -/
theorem opK_pure (E : Call) (o : XOp) (g : Regs) (M : Mem) (k : RV → Mem → Option R) (h : o.isCall = false) : opK E o g M k = th (evP g M o) (fun p => k p.1 p.2) := by
  cases o <;> first | rfl | simp [XOp.isCall] at h

def fadrV (o : Nat) : RV → Option RV
  | .v (.ptr r v i o') => some (.v (.ptr r v i (o' + o)))
  | .lp t o' => some (.lp t (o' + o))
  | _ => none
theorem fadrV_ptr (o r v i o' : Nat) : fadrV o (.v (.ptr r v i o')) = some (.v (.ptr r v i (o' + o))) := rfl
theorem fadrV_lp (o t o' : Nat) : fadrV o (.lp t o') = some (.lp t (o' + o)) := rfl
theorem opK_mv (E : Call) (x : XO) (g : Regs) (M : Mem) (k : RV → Mem → Option R) : opK E (.mv x) g M k = th (ev g x) (fun a => k a M) := by
  rw [opK_pure _ _ _ _ _ rfl]; simp only [evP, th, Option.bind_assoc]; rfl

def pickK (c : Option AV) (a b : Option RV) (k : RV → Option R) : Option R := match c with | some (.bool t) => ch t (th a k) (th b k) | _ => none
@[congr] theorem pickK_congr {c c' : Option AV} {a a' b b' : Option RV} (k : RV → Option R) (h : Unit → c = c') (ha : Unit → a = a') (hb : Unit → b = b') : pickK c a b k = pickK c' a' b' k := by rw [h (), ha (), hb ()]
theorem pickK_bool (t : Bool) (a b : RV) (k : RV → Option R) : pickK (some (.bool t)) (some a) (some b) k = ch t (k a) (k b) := rfl
theorem pickK_bb (t x y : Bool) (k : RV → Option R) : pickK (some (.bool t)) (some (.v (.bool x))) (some (.v (.bool y))) k = k (.v (.bool (bif t then x else y))) := by cases t <;> rfl
theorem opK_pick (E : Call) (c a b : XO) (g : Regs) (M : Mem) (k : RV → Mem → Option R) : opK E (.pick c a b) g M k = pickK (evv g c) (ev g a) (ev g b) (fun x => k x M) := by
  rw [opK_pure _ _ _ _ _ rfl]
  simp only [evP, th]
  cases evv g c with
  | none => rfl
  | some v =>
    cases v with
    | bool t => simp only [pickK, Option.bind_some, Option.bind_assoc, th, ch]; cases t <;> rfl
    | _ => rfl

theorem opK_load (E : Call) (ag : Bool) (sz : Nat) (x : XO) (g : Regs) (M : Mem) (k : RV → Mem → Option R) :
    opK E (.load ag sz x) g M k = th (ev g x) (fun p => th (place M p) (fun q => th (ld ag sz q.2 q.1) (fun a => k (.v a) M))) := by
  rw [opK_pure _ _ _ _ _ rfl]; simp only [evP, th, Option.bind_assoc]; rfl

/-- The cells that are stored, and where. -/
theorem opK_store (E : Call) (sz : Nat) (p x : XO) (g : Regs) (M : Mem) (k : RV → Mem → Option R) :
    opK E (.store sz p x) g M k = th (ev g p) (fun p => th (evv g x) (fun a => th (cellsOf a) (fun y => if y.length = sz then th (putAt M p y) (fun M' => k (.v .undef) M') else none))) := by
  rw [opK_pure _ _ _ _ _ rfl]
  simp only [evP, th, Option.bind_assoc]
  cases ev g p with
  | none => rfl
  | some p =>
    cases evv g x with
    | none => rfl
    | some a =>
      simp only [Option.bind_some]
      cases cellsOf a with
      | none => rfl
      | some y =>
        simp only [Option.bind_some]
        split
        · simp only [Option.bind_assoc]; rfl
        · rfl

theorem opK_bin (E : Call) (o : BinOp) (x y : XO) (g : Regs) (M : Mem) (k : RV → Mem → Option R) :
    opK E (.bin o x y) g M k = th (evv g x) (fun a => th (evv g y) (fun b => th (binV o a b) (fun c => k (.v c) M))) := by
  rw [opK_pure _ _ _ _ _ rfl]; simp only [evP, th, Option.bind_assoc]; rfl


/-! ### Lookups -/

theorem lk_hit (n : Nat) (a : α) (l : List (Nat × α)) : lk ((n, a) :: l) n = some a := by simp [lk]
theorem lk_miss {m n : Nat} (h : m ≠ n) (a : α) (l : List (Nat × α)) : lk ((m, a) :: l) n = lk l n := by simp [lk, h]
theorem lk_nil (n : Nat) : lk ([] : List (Nat × α)) n = none := rfl
theorem ev_t (g : Regs) (n : Nat) : ev g (.t n) = lk g n := rfl
theorem ev_c (g : Regs) (v : AV) : ev g (.c v) = some (.v v) := rfl
theorem evv_t (g : Regs) (n : Nat) : evv g (.t n) = th (lk g n) RV.av := rfl
theorem evv_c (g : Regs) (v : AV) : evv g (.c v) = some v := rfl
theorem av_v (a : AV) : RV.av (.v a) = some a := rfl
theorem evs_nil (g : Regs) : evs g [] = some [] := rfl
theorem evs_cons (g : Regs) (x : XO) (l : List XO) : evs g (x :: l) = th (evv g x) (fun a => th (evs g l) (fun as => some (a :: as))) := rfl

/-- One register that lives on. -/
def pr1 (v : Option RV) (t : Nat) (bx : Boxes) (r : Regs) : Regs := match v with
  | some (.v a) => (t, .v a) :: r
  | some (.lp t' 0) => if t' = t ∧ (lk bx t).isSome then (t, .lp t' 0) :: r else r
  | _ => r
def pb1 (v : Option RV) (t : Nat) (c : Option (List AV)) (r : Boxes) : Boxes := match v, c with
  | some (.lp t' 0), some cs => if t' = t then (t, cs) :: r else r
  | _, _ => r
theorem projR_nil (g : Regs) (bx : Boxes) : projR g bx [] = [] := rfl
theorem projB_nil (g : Regs) (bx : Boxes) : projB g bx [] = [] := rfl
theorem projR_cons (g : Regs) (bx : Boxes) (t : Nat) (l : List Nat) : projR g bx (t :: l) = pr1 (lk g t) t bx (projR g bx l) := by
  simp only [projR, pr1]
  cases lk g t with
  | none => rfl
  | some v => cases v with
    | lp t' o => cases o <;> rfl
    | _ => rfl
theorem projB_cons (g : Regs) (bx : Boxes) (t : Nat) (l : List Nat) : projB g bx (t :: l) = pb1 (lk g t) t (lk bx t) (projB g bx l) := by
  simp only [projB, pb1]
  cases lk g t with
  | none => rfl
  | some v => cases v with
    | lp t' o => cases o <;> cases lk bx t <;> rfl
    | _ => rfl
theorem pr1_v (a : AV) (t : Nat) (bx : Boxes) (r : Regs) : pr1 (some (.v a)) t bx r = (t, .v a) :: r := rfl
theorem pr1_none (t : Nat) (bx : Boxes) (r : Regs) : pr1 none t bx r = r := rfl
theorem pr1_ls (els : List (List AV)) (t : Nat) (bx : Boxes) (r : Regs) : pr1 (some (.ls els)) t bx r = r := rfl
theorem pr1_lp (t : Nat) (bx : Boxes) (r : Regs) : pr1 (some (.lp t 0)) t bx r = match lk bx t with | some _ => (t, .lp t 0) :: r | none => r := by
  simp only [pr1, true_and]
  cases lk bx t <;> simp
theorem pb1_v (a : AV) (t : Nat) (c : Option (List AV)) (r : Boxes) : pb1 (some (.v a)) t c r = r := rfl
theorem pb1_none (t : Nat) (c : Option (List AV)) (r : Boxes) : pb1 none t c r = r := rfl
theorem pb1_nob (v : Option RV) (t : Nat) (r : Boxes) : pb1 v t none r = r := by
  cases v with
  | none => rfl
  | some v => cases v with
    | lp t' o => cases o <;> rfl
    | _ => rfl
theorem pb1_lp (t : Nat) (cs : List AV) (r : Boxes) : pb1 (some (.lp t 0)) t (some cs) r = (t, cs) :: r := by simp [pb1]

/-! ### Values -/

theorem binV_add (k : IntKind) (a b : Int) : binV .add (.int k a) (.int k b) = some (.int k (k.wrap (a + b))) := by simp [binV]
theorem binV_sub (k : IntKind) (a b : Int) : binV .sub (.int k a) (.int k b) = some (.int k (k.wrap (a - b))) := by simp [binV]
theorem binV_mul (k : IntKind) (a b : Int) : binV .mul (.int k a) (.int k b) = some (.int k (k.wrap (a * b))) := by simp [binV]
theorem binV_eql (k : IntKind) (a b : Int) : binV .eql (.int k a) (.int k b) = some (.bool (a == b)) := by simp [binV]
theorem binV_neq (k : IntKind) (a b : Int) : binV .neq (.int k a) (.int k b) = some (.bool (a != b)) := by simp [binV]
theorem binV_lss (k : IntKind) (a b : Int) : binV .lss (.int k a) (.int k b) = some (.bool (decide (a < b))) := by simp [binV]
theorem binV_leq (k : IntKind) (a b : Int) : binV .leq (.int k a) (.int k b) = some (.bool (decide (a ≤ b))) := by simp [binV]
theorem binV_gtr (k : IntKind) (a b : Int) : binV .gtr (.int k a) (.int k b) = some (.bool (decide (b < a))) := by simp [binV]
theorem binV_geq (k : IntKind) (a b : Int) : binV .geq (.int k a) (.int k b) = some (.bool (decide (b ≤ a))) := by simp [binV]
theorem binV_quo (k : IntKind) (a b : Int) (h : b ≠ 0) : binV .quo (.int k a) (.int k b) = some (.int k (k.wrap (a.tdiv b))) := by simp [binV, h]
theorem binV_rem (k : IntKind) (a b : Int) (h : b ≠ 0) : binV .rem (.int k a) (.int k b) = some (.int k (a.tmod b)) := by simp [binV, h]
theorem binV_cat (a b : List UInt8) (h : a.length + b.length ≤ 140737488355328) : binV .add (.str a) (.str b) = some (.str (a ++ b)) := by simp [binV, h]
theorem binV_seql (a b : List UInt8) : binV .eql (.str a) (.str b) = some (.bool (a == b)) := rfl
theorem binV_sneq (a b : List UInt8) : binV .neq (.str a) (.str b) = some (.bool (a != b)) := rfl
theorem binV_slss (a b : List UInt8) : binV .lss (.str a) (.str b) = some (.bool (Op.bytesLess a b)) := rfl
theorem binV_sleq (a b : List UInt8) : binV .leq (.str a) (.str b) = some (.bool (Op.bytesLess a b || a == b)) := rfl
theorem binV_sgtr (a b : List UInt8) : binV .gtr (.str a) (.str b) = some (.bool (!(Op.bytesLess a b || a == b))) := rfl
theorem binV_sgeq (a b : List UInt8) : binV .geq (.str a) (.str b) = some (.bool (!(Op.bytesLess a b))) := rfl

theorem cellsOf_int (k : IntKind) (n : Int) : cellsOf (.int k n) = some [.int k n] := rfl
theorem cellsOf_bool (b : Bool) : cellsOf (.bool b) = some [.bool b] := rfl
theorem cellsOf_str (s : List UInt8) : cellsOf (.str s) = some [.str s] := rfl
theorem cellsOf_agg (cs : List AV) : cellsOf (.agg cs) = some cs := rfl
theorem cellsOf_sl (r v i n : Nat) : cellsOf (.sl r v i n) = some [.sl r v i n] := rfl
theorem cellsOf_nilsl : cellsOf .nilsl = some [.nilsl] := rfl
theorem cellsOf_ptr (r v i n : Nat) : cellsOf (.ptr r v i n) = some [.ptr r v i n] := rfl
theorem cellsOf_nilptr : cellsOf .nilptr = some [.nilptr] := rfl
theorem cellsOf_fn (f : FuncId) (cs : List AV) : cellsOf (.fn f cs) = some [.fn f cs] := rfl
theorem cellsOf_nilfn : cellsOf .nilfn = some [.nilfn] := rfl

theorem place_lp (bx : Boxes) (st : Store) (t o : Nat) : place ⟨bx, st⟩ (.lp t o) = th (lk bx t) (fun cs => some (cs, o)) := rfl
theorem place_ptr (bx : Boxes) (st : Store) (r v i o : Nat) : place ⟨bx, st⟩ (.v (.ptr r v i o)) = th (rowAt st r v) (fun row => th (row.els[i]?) (fun cs => some (cs, o))) := rfl
theorem ld_cell (sz o : Nat) (cs : List AV) : ld false sz o cs = cs[o]? := rfl
theorem ld_agg {sz o : Nat} {cs : List AV} (h : o + sz ≤ cs.length) : ld true sz o cs = some (.agg ((cs.drop o).take sz)) := by simp [ld, h]
theorem putAt_lp (bx : Boxes) (st : Store) (t o : Nat) (y : List AV) : putAt ⟨bx, st⟩ (.lp t o) y = th (lk bx t) (fun cs => if o + y.length ≤ cs.length then some ⟨(t, upd cs o y) :: bx, st⟩ else none) := rfl
theorem putAt_ptr (bx : Boxes) (st : Store) (r v i o : Nat) (y : List AV) : putAt ⟨bx, st⟩ (.v (.ptr r v i o)) y = th (rowAt st r v) (fun row => th (row.els[i]?) (fun cs =>
      if row.kd = .own ∧ o + y.length ≤ cs.length then some ⟨bx, st.set r { row with els := row.els.set i (upd cs o y) }⟩ else none)) := rfl

theorem opK_fadr (E : Call) (o : Nat) (x : XO) (g : Regs) (M : Mem) (k : RV → Mem → Option R) : opK E (.fadr o x) g M k = th (ev g x) (fun p => th (fadrV o p) (fun q => k q M)) := by
  rw [opK_pure _ _ _ _ _ rfl]
  simp only [evP, th, Option.bind_assoc]
  cases ev g x with
  | none => rfl
  | some p =>
    cases p with
    | v a => cases a <;> rfl
    | _ => rfl

/-- The bounds of a call. -/
noncomputable def finK (res : List XRes) (pop : Bool) (st : Store) (o : Out) (s : S) : Option (AV × Store) := match o with
  | .exit _ => none
  | _ => (result s res).bind fun a => if pop then (by classical exact if s.2.st.take st.length = st ∧ below st.length a = true then some (a, st) else none) else some (a, s.2.st)
theorem finK_ret (res : List XRes) (st : Store) (s : S) : finK res false st .ret s = th (result s res) (fun a => some (a, s.2.st)) := rfl
theorem finK_norm (res : List XRes) (st : Store) (s : S) : finK res false st .norm s = th (result s res) (fun a => some (a, s.2.st)) := rfl

theorem Ex_run {C : FuncId → Option CFun} {X : Call} {f : FuncId} {cf : CFun} {args : List AV} {st : Store} (hC : C f = some cf) (hn : args.length = cf.np) :
    Ex C X f args st = runK (Ex C X) cf.code (number 0 (args.map RV.v), ⟨[], st⟩) (finK cf.res cf.pop st) := by
  rw [Ex_eq hC, bodyX, if_pos hn]
  simp only [runK]
  congr 1
  funext p
  obtain ⟨o, s⟩ := p
  cases o <;> rfl

end Go.X

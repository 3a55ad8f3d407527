/- GoX, part 15: the executor with what follows handed on: equations that a simplifier can run in the order of execution. No statement of the seat is here. -/
import Derived.Test.YtfifhpmcbfeadaaGreatDoorY4
set_option linter.unusedVariables false
set_option linter.unusedSimpArgs false
namespace Go.X
open Go

variable {α β R : Type}

/-- First v, then k: what follows is not looked into before v is there. -/
def th (v : Option α) (k : α → Option β) : Option β := v.bind k
theorem th_some (a : α) (k : α → Option β) : th (some a) k = k a := rfl
theorem th_none (k : α → Option β) : th (none : Option α) k = none := rfl
@[congr] theorem th_congr {v v' : Option α} (k : α → Option β) (h : Unit → v = v') : th v k = th v' k := by rw [h ()]

/-- A choice. -/
def ch (c : Bool) (a b : Option α) : Option α := if c then a else b
theorem ch_true (a b : Option α) : ch true a b = a := rfl
theorem ch_false (a b : Option α) : ch false a b = b := rfl
@[congr] theorem ch_congr {c c' : Bool} (a b : Option α) (h : Unit → c = c') : ch c a b = ch c' a b := by rw [h ()]
/-- A choice that is open. -/
def br (c : Bool) (a b : Option α) : Option α := if c then a else b
theorem ch_br (c : Bool) (a b : Option α) : ch c a b = br c a b := rfl
theorem br_true (a b : Option α) : br true a b = a := rfl
theorem br_false (a b : Option α) : br false a b = b := rfl
theorem br_not (c : Bool) (a b : Option α) : br (!c) a b = br c b a := by cases c <;> rfl
@[congr] theorem br_congr (c : Bool) {a a' b b' : Option α} (ha : c = true → a = a') (hb : c = false → b = b') : br c a b = br c a' b' := by
  cases c with
  | true => exact ha rfl
  | false => exact hb rfl

noncomputable def runK (E : Call) (c : XC) (s : S) (k : Out → S → Option R) : Option R := (exec E c s).bind fun p => k p.1 p.2
def opsK (E : Call) (ops : List XOper) (g : Regs) (M : Mem) (k : Regs → Mem → Option R) : Option R := (execOps E ops g M).bind fun p => k p.1 p.2
def opK (E : Call) (o : XOp) (g : Regs) (M : Mem) (k : RV → Mem → Option R) : Option R := (evOp E g M o).bind fun p => k p.1 p.2
@[congr] theorem runK_congr (E : Call) (c : XC) {s s' : S} (k : Out → S → Option R) (h : Unit → s = s') : runK E c s k = runK E c s' k := by rw [h ()]
@[congr] theorem opsK_congr (E : Call) (c : List XOper) {g g' : Regs} {M M' : Mem} (k : Regs → Mem → Option R) (h : Unit → g = g') (hM : Unit → M = M') : opsK E c g M k = opsK E c g' M' k := by rw [h (), hM ()]
@[congr] theorem opK_congr (E : Call) (c : XOp) {g g' : Regs} {M M' : Mem} (k : RV → Mem → Option R) (h : Unit → g = g') (hM : Unit → M = M') : opK E c g M k = opK E c g' M' k := by rw [h (), hM ()]

theorem runK_skip (E : Call) (s : S) (k : Out → S → Option R) : runK E .skip s k = k .norm s := rfl
theorem runK_ret (E : Call) (s : S) (k : Out → S → Option R) : runK E .ret s k = k .ret s := rfl
theorem runK_exit (E : Call) (i : Nat) (s : S) (k : Out → S → Option R) : runK E (.exit i) s k = k (.exit i) s := rfl

/-- What a sequence does behind its first part. -/
noncomputable def seqK (E : Call) (b : XC) (k : Out → S → Option R) (o : Out) (s : S) : Option R := match o with | .norm => runK E b s k | o => k o s
theorem seqK_norm (E : Call) (b : XC) (k : Out → S → Option R) (s : S) : seqK E b k .norm s = runK E b s k := rfl
theorem seqK_ret (E : Call) (b : XC) (k : Out → S → Option R) (s : S) : seqK E b k .ret s = k .ret s := rfl
theorem seqK_exit (E : Call) (b : XC) (k : Out → S → Option R) (i : Nat) (s : S) : seqK E b k (.exit i) s = k (.exit i) s := rfl
theorem runK_seq (E : Call) (a b : XC) (s : S) (k : Out → S → Option R) : runK E (.seq a b) s k = runK E a s (seqK E b k) := by
  simp only [runK, exec, Option.bind_assoc]
  congr 1
  funext p
  obtain ⟨o, s'⟩ := p
  cases o <;> simp [seqK, runK]

/-- What a block does behind its code. -/
def blkK (i : Nat) (k : Out → S → Option R) (o : Out) (s : S) : Option R := match o with | .exit j => if j = i then k .norm s else k (.exit j) s | o => k o s
theorem blkK_norm (i : Nat) (k : Out → S → Option R) (s : S) : blkK i k .norm s = k .norm s := rfl
theorem blkK_ret (i : Nat) (k : Out → S → Option R) (s : S) : blkK i k .ret s = k .ret s := rfl
theorem blkK_exit (i j : Nat) (k : Out → S → Option R) (s : S) : blkK i k (.exit j) s = if j = i then k .norm s else k (.exit j) s := rfl
theorem blkK_hit (i : Nat) (k : Out → S → Option R) (s : S) : blkK i k (.exit i) s = k .norm s := by simp [blkK]
theorem blkK_miss {i j : Nat} (h : j ≠ i) (k : Out → S → Option R) (s : S) : blkK i k (.exit j) s = k (.exit j) s := by simp [blkK, h]
theorem runK_block (E : Call) (i : Nat) (a : XC) (s : S) (k : Out → S → Option R) : runK E (.block i a) s k = runK E a s (blkK i k) := by
  simp only [runK, exec, Option.bind_assoc]
  congr 1
  funext p
  obtain ⟨o, s'⟩ := p
  cases o with
  | exit j => simp only [blkK]; split <;> rfl
  | _ => rfl

def boolK (v : Option AV) (a b : Option R) : Option R := match v with | some (.bool true) => a | some (.bool false) => b | _ => none
@[congr] theorem boolK_congr {v v' : Option AV} (a b : Option R) (h : Unit → v = v') : boolK v a b = boolK v' a b := by rw [h ()]
theorem boolK_bool (t : Bool) (a b : Option R) : boolK (some (.bool t)) a b = ch t a b := by cases t <;> rfl
theorem runK_cond (E : Call) (x : XO) (a b : XC) (s : S) (k : Out → S → Option R) : runK E (.cond x a b) s k = boolK (evv s.1 x) (runK E a s k) (runK E b s k) := by
  simp only [runK, exec]
  cases evv s.1 x with
  | none => rfl
  | some v =>
    cases v with
    | bool t => cases t <;> rfl
    | _ => rfl

/-- What follows a region. -/
def regK (live : List Nat) (k : Out → S → Option R) (g : Regs) (M : Mem) : Option R := k .norm (proj live (g, M))
/-- First the registers, then what follows. -/
def frK (g : Regs) (bx : Boxes) (k : Regs → Boxes → Option R) : Option R := k g bx
@[congr] theorem frK_congr {g g' : Regs} {bx bx' : Boxes} (k : Regs → Boxes → Option R) (h : Unit → g = g') (hb : Unit → bx = bx') : frK g bx k = frK g' bx' k := by rw [h (), hb ()]
theorem frK_eq (g : Regs) (bx : Boxes) (k : Regs → Boxes → Option R) : frK g bx k = k g bx := rfl
theorem regK_eq (live : List Nat) (k : Out → S → Option R) (g : Regs) (bx : Boxes) (st : Store) : regK live k g ⟨bx, st⟩ = frK (projR g bx live) (projB g bx live) (fun g' bx' => k .norm (g', ⟨bx', st⟩)) := rfl
theorem runK_reg (E : Call) (ops : List XOper) (live : List Nat) (g : Regs) (M : Mem) (k : Out → S → Option R) : runK E (.reg ops live none) (g, M) k = opsK E ops g M (regK live k) := by
  simp only [runK, exec, opsK, Option.bind_assoc]
  rfl

theorem runK_draw (E : Call) (ops : List XOper) (live : List Nat) (ps : List (Nat × Nat)) (g : Regs) (M : Mem) (k : Out → S → Option R) (h : stable E ops g M ps) : runK E (.reg ops live (some ps)) (g, M) k = opsK E ops g M (regK live k) := by
  simp only [runK, exec, opsK]
  rw [if_pos h]
  simp only [Option.bind_assoc]
  rfl

theorem stable_nil (E : Call) (ops : List XOper) (g : Regs) (M : Mem) : stable E ops g M [] := by intro p hp; cases hp
theorem runK_draw0 (E : Call) (ops : List XOper) (live : List Nat) (g : Regs) (M : Mem) (k : Out → S → Option R) : runK E (.reg ops live (some [])) (g, M) k = opsK E ops g M (regK live k) := runK_draw E ops live [] g M k (stable_nil E ops g M)

/-- What follows an operation. -/
def nxtK (E : Call) (d : Option Nat) (os : List XOper) (g : Regs) (k : Regs → Mem → Option R) (v : RV) (M : Mem) : Option R := opsK E os (putd g d v) M k
theorem nxtK_some (E : Call) (d : Nat) (os : List XOper) (g : Regs) (k : Regs → Mem → Option R) (v : RV) (M : Mem) : nxtK E (some d) os g k v M = opsK E os ((d, v) :: g) M k := rfl
theorem nxtK_none (E : Call) (os : List XOper) (g : Regs) (k : Regs → Mem → Option R) (v : RV) (M : Mem) : nxtK E none os g k v M = opsK E os g M k := rfl
theorem opsK_nil (E : Call) (g : Regs) (M : Mem) (k : Regs → Mem → Option R) : opsK E [] g M k = k g M := rfl
theorem opsK_op (E : Call) (d : Option Nat) (o : XOp) (os : List XOper) (g : Regs) (M : Mem) (k : Regs → Mem → Option R) : opsK E (⟨d, o, none⟩ :: os) g M k = opK E o g M (nxtK E d os g k) := by
  simp only [opsK, execOps, evG, wants, Option.bind_some, Option.bind_assoc, opK]
  rfl

/-- A guard. -/
def gdK (c : Option RV) (b : Bool) (x y : Option R) : Option R := match c with
  | some (.v (.bool c)) => ch (c == b) x y
  | some (.v .undef) => y
  | _ => none
@[congr] theorem gdK_congr {c c' : Option RV} (b : Bool) (x y : Option R) (h : Unit → c = c') : gdK c b x y = gdK c' b x y := by rw [h ()]
theorem gdK_true (c : Bool) (x y : Option R) : gdK (some (.v (.bool c))) true x y = ch c x y := by simp [gdK]
theorem gdK_false (c : Bool) (x y : Option R) : gdK (some (.v (.bool c))) false x y = ch c y x := by cases c <;> rfl
theorem gdK_undef (b : Bool) (x y : Option R) : gdK (some (.v .undef)) b x y = y := rfl
theorem opsK_og (E : Call) (d : Option Nat) (o : XOp) (t : Nat) (b : Bool) (os : List XOper) (g : Regs) (M : Mem) (k : Regs → Mem → Option R) :
    opsK E (⟨d, o, some (t, b)⟩ :: os) g M k = gdK (lk g t) b (opK E o g M (nxtK E d os g k)) (nxtK E d os g k (.v .undef) M) := by
  simp only [opsK, execOps, evG, wants, opK, nxtK]
  cases lk g t with
  | none => rfl
  | some v =>
    cases v with
    | v a =>
      cases a with
      | bool c =>
        simp only [gdK, Option.bind_some, ch]
        cases c <;> cases b <;> simp [Option.bind_assoc]
      | undef => simp [gdK]
      | _ => rfl
    | lp t' o => rfl
    | ls els => rfl

/-! ### Operations -/

theorem opK_call (E : Call) (f : FuncId) (args : List XO) (g : Regs) (M : Mem) (k : RV → Mem → Option R) :
    opK E (.call f args) g M k = th (evs g args) (fun as => th (E f as M.st) (fun p => k (.v p.1) ⟨M.bx, p.2⟩)) := by
  simp only [opK, evOp, th, Option.bind_assoc]
  rfl

def fnK (v : Option AV) (k : FuncId → List AV → Option R) : Option R := match v with | some (.fn f caps) => k f caps | _ => none
@[congr] theorem fnK_congr {v v' : Option AV} (k : FuncId → List AV → Option R) (h : Unit → v = v') : fnK v k = fnK v' k := by rw [h ()]
theorem fnK_fn (f : FuncId) (caps : List AV) (k : FuncId → List AV → Option R) : fnK (some (.fn f caps)) k = k f caps := rfl
theorem opK_calld (E : Call) (x : XO) (args : List XO) (g : Regs) (M : Mem) (k : RV → Mem → Option R) :
    opK E (.calld x args) g M k = fnK (evv g x) (fun f caps => th (evs g args) (fun as => th (E f (as ++ caps) M.st) (fun p => k (.v p.1) ⟨M.bx, p.2⟩))) := by
  simp only [opK, evOp]
  cases evv g x with
  | none => rfl
  | some v =>
    cases v with
    | fn f caps => simp only [Option.bind_some, fnK, th, Option.bind_assoc]
    | _ => rfl

/-- Operations that call nothing. -/
theorem opK_pure (E : Call) (o : XOp) (g : Regs) (M : Mem) (k : RV → Mem → Option R) (h : o.isCall = false) : opK E o g M k = th (evP g M o) (fun p => k p.1 p.2) := by
  cases o <;> first | rfl | simp [XOp.isCall] at h

def fadrV (o : Nat) : RV → Option RV
  | .v (.ptr r v i o') => some (.v (.ptr r v i (o' + o)))
  | .lp t o' => some (.lp t (o' + o))
  | _ => none
theorem fadrV_ptr (o r v i o' : Nat) : fadrV o (.v (.ptr r v i o')) = some (.v (.ptr r v i (o' + o))) := rfl
theorem fadrV_lp (o t o' : Nat) : fadrV o (.lp t o') = some (.lp t (o' + o)) := rfl
theorem opK_mv (E : Call) (x : XO) (g : Regs) (M : Mem) (k : RV → Mem → Option R) : opK E (.mv x) g M k = th (ev g x) (fun a => k a M) := by
  rw [opK_pure _ _ _ _ _ rfl]; simp only [evP, th, Option.bind_assoc]; rfl

def pickK (c : Option AV) (a b : Option RV) (k : RV → Option R) : Option R := match c with | some (.bool t) => ch t (th a k) (th b k) | _ => none
@[congr] theorem pickK_congr {c c' : Option AV} {a a' b b' : Option RV} (k : RV → Option R) (h : Unit → c = c') (ha : Unit → a = a') (hb : Unit → b = b') : pickK c a b k = pickK c' a' b' k := by rw [h (), ha (), hb ()]
theorem pickK_bool (t : Bool) (a b : RV) (k : RV → Option R) : pickK (some (.bool t)) (some a) (some b) k = ch t (k a) (k b) := rfl
theorem pickK_bb (t x y : Bool) (k : RV → Option R) : pickK (some (.bool t)) (some (.v (.bool x))) (some (.v (.bool y))) k = k (.v (.bool (bif t then x else y))) := by cases t <;> rfl
theorem opK_pick (E : Call) (c a b : XO) (g : Regs) (M : Mem) (k : RV → Mem → Option R) : opK E (.pick c a b) g M k = pickK (evv g c) (ev g a) (ev g b) (fun x => k x M) := by
  rw [opK_pure _ _ _ _ _ rfl]
  simp only [evP, th]
  cases evv g c with
  | none => rfl
  | some v =>
    cases v with
    | bool t => simp only [pickK, Option.bind_some, Option.bind_assoc, th, ch]; cases t <;> rfl
    | _ => rfl

theorem opK_load (E : Call) (ag : Bool) (sz : Nat) (x : XO) (g : Regs) (M : Mem) (k : RV → Mem → Option R) :
    opK E (.load ag sz x) g M k = th (ev g x) (fun p => th (place M p) (fun q => th (ld ag sz q.2 q.1) (fun a => k (.v a) M))) := by
  rw [opK_pure _ _ _ _ _ rfl]; simp only [evP, th, Option.bind_assoc]; rfl

/-- The cells that are stored, and where. -/
theorem opK_store (E : Call) (sz : Nat) (p x : XO) (g : Regs) (M : Mem) (k : RV → Mem → Option R) :
    opK E (.store sz p x) g M k = th (ev g p) (fun p => th (evv g x) (fun a => th (cellsOf a) (fun y => if y.length = sz then th (putAt M p y) (fun M' => k (.v .undef) M') else none))) := by
  rw [opK_pure _ _ _ _ _ rfl]
  simp only [evP, th, Option.bind_assoc]
  cases ev g p with
  | none => rfl
  | some p =>
    cases evv g x with
    | none => rfl
    | some a =>
      simp only [Option.bind_some]
      cases cellsOf a with
      | none => rfl
      | some y =>
        simp only [Option.bind_some]
        split
        · simp only [Option.bind_assoc]; rfl
        · rfl

theorem opK_bin (E : Call) (o : BinOp) (x y : XO) (g : Regs) (M : Mem) (k : RV → Mem → Option R) :
    opK E (.bin o x y) g M k = th (evv g x) (fun a => th (evv g y) (fun b => th (binV o a b) (fun c => k (.v c) M))) := by
  rw [opK_pure _ _ _ _ _ rfl]; simp only [evP, th, Option.bind_assoc]; rfl


/-! ### Lookups -/

theorem lk_hit (n : Nat) (a : α) (l : List (Nat × α)) : lk ((n, a) :: l) n = some a := by simp [lk]
theorem lk_miss {m n : Nat} (h : m ≠ n) (a : α) (l : List (Nat × α)) : lk ((m, a) :: l) n = lk l n := by simp [lk, h]
theorem lk_nil (n : Nat) : lk ([] : List (Nat × α)) n = none := rfl
theorem ev_t (g : Regs) (n : Nat) : ev g (.t n) = lk g n := rfl
theorem ev_c (g : Regs) (v : AV) : ev g (.c v) = some (.v v) := rfl
theorem evv_t (g : Regs) (n : Nat) : evv g (.t n) = th (lk g n) RV.av := rfl
theorem evv_c (g : Regs) (v : AV) : evv g (.c v) = some v := rfl
theorem av_v (a : AV) : RV.av (.v a) = some a := rfl
theorem evs_nil (g : Regs) : evs g [] = some [] := rfl
theorem evs_cons (g : Regs) (x : XO) (l : List XO) : evs g (x :: l) = th (evv g x) (fun a => th (evs g l) (fun as => some (a :: as))) := rfl

/-- One register that lives on. -/
def pr1 (v : Option RV) (t : Nat) (bx : Boxes) (r : Regs) : Regs := match v with
  | some (.v a) => (t, .v a) :: r
  | some (.lp t' 0) => if t' = t ∧ (lk bx t).isSome then (t, .lp t' 0) :: r else r
  | _ => r
def pb1 (v : Option RV) (t : Nat) (c : Option (List AV)) (r : Boxes) : Boxes := match v, c with
  | some (.lp t' 0), some cs => if t' = t then (t, cs) :: r else r
  | _, _ => r
theorem projR_nil (g : Regs) (bx : Boxes) : projR g bx [] = [] := rfl
theorem projB_nil (g : Regs) (bx : Boxes) : projB g bx [] = [] := rfl
theorem projR_cons (g : Regs) (bx : Boxes) (t : Nat) (l : List Nat) : projR g bx (t :: l) = pr1 (lk g t) t bx (projR g bx l) := by
  simp only [projR, pr1]
  cases lk g t with
  | none => rfl
  | some v => cases v with
    | lp t' o => cases o <;> rfl
    | _ => rfl
theorem projB_cons (g : Regs) (bx : Boxes) (t : Nat) (l : List Nat) : projB g bx (t :: l) = pb1 (lk g t) t (lk bx t) (projB g bx l) := by
  simp only [projB, pb1]
  cases lk g t with
  | none => rfl
  | some v => cases v with
    | lp t' o => cases o <;> cases lk bx t <;> rfl
    | _ => rfl
theorem pr1_v (a : AV) (t : Nat) (bx : Boxes) (r : Regs) : pr1 (some (.v a)) t bx r = (t, .v a) :: r := rfl
theorem pr1_none (t : Nat) (bx : Boxes) (r : Regs) : pr1 none t bx r = r := rfl
theorem pr1_ls (els : List (List AV)) (t : Nat) (bx : Boxes) (r : Regs) : pr1 (some (.ls els)) t bx r = r := rfl
theorem pr1_lp (t : Nat) (bx : Boxes) (r : Regs) : pr1 (some (.lp t 0)) t bx r = match lk bx t with | some _ => (t, .lp t 0) :: r | none => r := by
  simp only [pr1, true_and]
  cases lk bx t <;> simp
theorem pb1_v (a : AV) (t : Nat) (c : Option (List AV)) (r : Boxes) : pb1 (some (.v a)) t c r = r := rfl
theorem pb1_none (t : Nat) (c : Option (List AV)) (r : Boxes) : pb1 none t c r = r := rfl
theorem pb1_nob (v : Option RV) (t : Nat) (r : Boxes) : pb1 v t none r = r := by
  cases v with
  | none => rfl
  | some v => cases v with
    | lp t' o => cases o <;> rfl
    | _ => rfl
theorem pb1_lp (t : Nat) (cs : List AV) (r : Boxes) : pb1 (some (.lp t 0)) t (some cs) r = (t, cs) :: r := by simp [pb1]

/-! ### Values -/

theorem binV_add (k : IntKind) (a b : Int) : binV .add (.int k a) (.int k b) = some (.int k (k.wrap (a + b))) := by simp [binV]
theorem binV_sub (k : IntKind) (a b : Int) : binV .sub (.int k a) (.int k b) = some (.int k (k.wrap (a - b))) := by simp [binV]
theorem binV_mul (k : IntKind) (a b : Int) : binV .mul (.int k a) (.int k b) = some (.int k (k.wrap (a * b))) := by simp [binV]
theorem binV_eql (k : IntKind) (a b : Int) : binV .eql (.int k a) (.int k b) = some (.bool (a == b)) := by simp [binV]
theorem binV_neq (k : IntKind) (a b : Int) : binV .neq (.int k a) (.int k b) = some (.bool (a != b)) := by simp [binV]
theorem binV_lss (k : IntKind) (a b : Int) : binV .lss (.int k a) (.int k b) = some (.bool (decide (a < b))) := by simp [binV]
theorem binV_leq (k : IntKind) (a b : Int) : binV .leq (.int k a) (.int k b) = some (.bool (decide (a ≤ b))) := by simp [binV]
theorem binV_gtr (k : IntKind) (a b : Int) : binV .gtr (.int k a) (.int k b) = some (.bool (decide (b < a))) := by simp [binV]
theorem binV_geq (k : IntKind) (a b : Int) : binV .geq (.int k a) (.int k b) = some (.bool (decide (b ≤ a))) := by simp [binV]
theorem binV_quo (k : IntKind) (a b : Int) (h : b ≠ 0) : binV .quo (.int k a) (.int k b) = some (.int k (k.wrap (a.tdiv b))) := by simp [binV, h]
theorem binV_rem (k : IntKind) (a b : Int) (h : b ≠ 0) : binV .rem (.int k a) (.int k b) = some (.int k (a.tmod b)) := by simp [binV, h]
theorem binV_xor (k : IntKind) (a b : Int) : binV .xor (.int k a) (.int k b) = some (.int k (k.wrap ((BitVec.ofInt k.bits a ^^^ BitVec.ofInt k.bits b).toNat : Nat))) := by simp [binV]
theorem binV_cat (a b : List UInt8) (h : a.length + b.length ≤ 140737488355328) : binV .add (.str a) (.str b) = some (.str (a ++ b)) := by simp [binV, h]
theorem binV_seql (a b : List UInt8) : binV .eql (.str a) (.str b) = some (.bool (a == b)) := rfl
theorem binV_sneq (a b : List UInt8) : binV .neq (.str a) (.str b) = some (.bool (a != b)) := rfl
theorem binV_slss (a b : List UInt8) : binV .lss (.str a) (.str b) = some (.bool (Op.bytesLess a b)) := rfl
theorem binV_sleq (a b : List UInt8) : binV .leq (.str a) (.str b) = some (.bool (Op.bytesLess a b || a == b)) := rfl
theorem binV_sgtr (a b : List UInt8) : binV .gtr (.str a) (.str b) = some (.bool (!(Op.bytesLess a b || a == b))) := rfl
theorem binV_sgeq (a b : List UInt8) : binV .geq (.str a) (.str b) = some (.bool (!(Op.bytesLess a b))) := rfl

theorem cellsOf_int (k : IntKind) (n : Int) : cellsOf (.int k n) = some [.int k n] := rfl
theorem cellsOf_bool (b : Bool) : cellsOf (.bool b) = some [.bool b] := rfl
theorem cellsOf_str (s : List UInt8) : cellsOf (.str s) = some [.str s] := rfl
theorem cellsOf_agg (cs : List AV) : cellsOf (.agg cs) = some cs := rfl
theorem cellsOf_sl (r v i n : Nat) : cellsOf (.sl r v i n) = some [.sl r v i n] := rfl
theorem cellsOf_nilsl : cellsOf .nilsl = some [.nilsl] := rfl
theorem cellsOf_ptr (r v i n : Nat) : cellsOf (.ptr r v i n) = some [.ptr r v i n] := rfl
theorem cellsOf_nilptr : cellsOf .nilptr = some [.nilptr] := rfl
theorem cellsOf_fn (f : FuncId) (cs : List AV) : cellsOf (.fn f cs) = some [.fn f cs] := rfl
theorem cellsOf_nilfn : cellsOf .nilfn = some [.nilfn] := rfl

theorem place_lp (bx : Boxes) (st : Store) (t o : Nat) : place ⟨bx, st⟩ (.lp t o) = th (lk bx t) (fun cs => some (cs, o)) := rfl
theorem place_ptr (bx : Boxes) (st : Store) (r v i o : Nat) : place ⟨bx, st⟩ (.v (.ptr r v i o)) = th (rowAt st r v) (fun row => th (row.els[i]?) (fun cs => some (cs, o))) := rfl
theorem ld_cell (sz o : Nat) (cs : List AV) : ld false sz o cs = cs[o]? := rfl
theorem ld_agg {sz o : Nat} {cs : List AV} (h : o + sz ≤ cs.length) : ld true sz o cs = some (.agg ((cs.drop o).take sz)) := by simp [ld, h]
theorem putAt_lp (bx : Boxes) (st : Store) (t o : Nat) (y : List AV) : putAt ⟨bx, st⟩ (.lp t o) y = th (lk bx t) (fun cs => if o + y.length ≤ cs.length then some ⟨(t, upd cs o y) :: bx, st⟩ else none) := rfl
theorem putAt_ptr (bx : Boxes) (st : Store) (r v i o : Nat) (y : List AV) : putAt ⟨bx, st⟩ (.v (.ptr r v i o)) y = th (rowAt st r v) (fun row => th (row.els[i]?) (fun cs =>
      if row.kd = .own ∧ o + y.length ≤ cs.length then some ⟨bx, st.set r { row with els := row.els.set i (upd cs o y) }⟩ else none)) := rfl

theorem opK_fadr (E : Call) (o : Nat) (x : XO) (g : Regs) (M : Mem) (k : RV → Mem → Option R) : opK E (.fadr o x) g M k = th (ev g x) (fun p => th (fadrV o p) (fun q => k q M)) := by
  rw [opK_pure _ _ _ _ _ rfl]
  simp only [evP, th, Option.bind_assoc]
  cases ev g x with
  | none => rfl
  | some p =>
    cases p with
    | v a => cases a <;> rfl
    | _ => rfl

/-- The bounds of a call. -/
noncomputable def finK (res : List XRes) (pop : Bool) (st : Store) (o : Out) (s : S) : Option (AV × Store) := match o with
  | .exit _ => none
  | _ => (result s res).bind fun a => if pop then (by classical exact if s.2.st.take st.length = st ∧ below st.length a = true then some (a, st) else none) else some (a, s.2.st)
theorem finK_ret (res : List XRes) (st : Store) (s : S) : finK res false st .ret s = th (result s res) (fun a => some (a, s.2.st)) := rfl
theorem finK_norm (res : List XRes) (st : Store) (s : S) : finK res false st .norm s = th (result s res) (fun a => some (a, s.2.st)) := rfl

theorem Ex_run {C : FuncId → Option CFun} {X : Call} {f : FuncId} {cf : CFun} {args : List AV} {st : Store} (hC : C f = some cf) (hn : args.length = cf.np) :
    Ex C X f args st = runK (Ex C X) cf.code (number 0 (args.map RV.v), ⟨[], st⟩) (finK cf.res cf.pop st) := by
  rw [Ex_eq hC, bodyX, if_pos hn]
  simp only [runK]
  congr 1
  funext p
  obtain ⟨o, s⟩ := p
  cases o <;> rfl

end Go.X

/- GoX, part 16: the operations' equations, handed on. No statement of the seat is here. -/
set_option linter.unusedVariables false
set_option linter.unusedSimpArgs false
namespace Go.X
open Go
variable {α β R : Type}

theorem opK_alloc (E : Call) (t : Nat) (z : List AV) (g : Regs) (bx : Boxes) (st : Store) (k : RV → Mem → Option R) :
    opK E (.alloc true t z) g ⟨bx, st⟩ k = if (lk bx t).isNone then k (.lp t 0) ⟨(t, z) :: bx, st⟩ else none := by
  rw [opK_pure _ _ _ _ _ rfl]; simp only [evP, th]; split <;> rfl
theorem opK_allocE (E : Call) (t : Nat) (z : List AV) (g : Regs) (bx : Boxes) (st : Store) (k : RV → Mem → Option R) :
    opK E (.alloc false t z) g ⟨bx, st⟩ k = k (.v (.ptr st.length 0 0 0)) ⟨bx, st ++ [⟨[z], z.length, 0, .own⟩]⟩ := by
  rw [opK_pure _ _ _ _ _ rfl]; rfl
theorem opK_box (E : Call) (t sz : Nat) (x : XO) (g : Regs) (bx : Boxes) (st : Store) (k : RV → Mem → Option R) :
    opK E (.box true t sz x) g ⟨bx, st⟩ k = th (evv g x) (fun a => th (cellsOf a) (fun y => if (lk bx t).isNone ∧ y.length = sz then k (.lp t 0) ⟨(t, y) :: bx, st⟩ else none)) := by
  rw [opK_pure _ _ _ _ _ rfl]; simp only [evP, th]
  cases evv g x with
  | none => rfl
  | some a =>
    simp only [Option.bind_some]
    cases cellsOf a with
    | none => rfl
    | some y => simp only [Option.bind_some]; split <;> rfl
theorem opK_boxE (E : Call) (t sz : Nat) (x : XO) (g : Regs) (bx : Boxes) (st : Store) (k : RV → Mem → Option R) :
    opK E (.box false t sz x) g ⟨bx, st⟩ k = th (evv g x) (fun a => th (cellsOf a) (fun y => if y.length = sz then k (.v (.ptr st.length 0 0 0)) ⟨bx, st ++ [⟨[y], sz, 0, .own⟩]⟩ else none)) := by
  rw [opK_pure _ _ _ _ _ rfl]; simp only [evP, th]
  cases evv g x with
  | none => rfl
  | some a =>
    simp only [Option.bind_some]
    cases cellsOf a with
    | none => rfl
    | some y => simp only [Option.bind_some]; split <;> rfl

def iadrV (st : Store) (sz : Nat) : AV → AV → Option AV
  | .sl r v s n, .int _ k => (rowAt st r v).bind fun row => if row.sz = sz ∧ 0 ≤ k ∧ k < n then some (.ptr r v (s + k.toNat) 0) else none
  | _, _ => none
theorem opK_iadr (E : Call) (sz : Nat) (x i : XO) (g : Regs) (bx : Boxes) (st : Store) (k : RV → Mem → Option R) :
    opK E (.iadr sz x i) g ⟨bx, st⟩ k = th (evv g x) (fun a => th (evv g i) (fun b => th (iadrV st sz a b) (fun q => k (.v q) ⟨bx, st⟩))) := by
  rw [opK_pure _ _ _ _ _ rfl]; simp only [evP, th, Option.bind_assoc]
  cases evv g x with
  | none => rfl
  | some a =>
    cases evv g i with
    | none => rfl
    | some b =>
      simp only [Option.bind_some, Option.bind_assoc]
      cases a with
      | sl r v s n =>
        cases b with
        | int kk n' =>
          simp only [iadrV, Option.bind_assoc]
          cases rowAt st r v with
          | none => rfl
          | some row => simp only [Option.bind_some]; split <;> rfl
        | _ => rfl
      | _ => rfl

def fldV (ag : Bool) (o sz : Nat) : AV → Option AV
  | .agg cs => ld ag sz o cs
  | _ => none
theorem fldV_agg (ag : Bool) (o sz : Nat) (cs : List AV) : fldV ag o sz (.agg cs) = ld ag sz o cs := rfl
theorem opK_fld (E : Call) (ag : Bool) (o sz : Nat) (x : XO) (g : Regs) (M : Mem) (k : RV → Mem → Option R) :
    opK E (.fld ag o sz x) g M k = th (evv g x) (fun a => th (fldV ag o sz a) (fun q => k (.v q) M)) := by
  rw [opK_pure _ _ _ _ _ rfl]; simp only [evP, th, Option.bind_assoc]
  cases evv g x with
  | none => rfl
  | some a => cases a with
    | agg cs => simp only [Option.bind_some, fldV, Option.bind_assoc]
    | _ => rfl

def beqV (neg : Bool) : AV → AV → Option AV
  | .bool a, .bool b => some (.bool (if neg then !(a == b) else a == b))
  | _, _ => none
theorem beqV_eq (a b : Bool) : beqV false (.bool a) (.bool b) = some (.bool (a == b)) := rfl
theorem beqV_ne (a b : Bool) : beqV true (.bool a) (.bool b) = some (.bool (!(a == b))) := rfl
theorem opK_beq (E : Call) (neg : Bool) (x y : XO) (g : Regs) (M : Mem) (k : RV → Mem → Option R) :
    opK E (.beq neg x y) g M k = th (evv g x) (fun a => th (evv g y) (fun b => th (beqV neg a b) (fun q => k (.v q) M))) := by
  rw [opK_pure _ _ _ _ _ rfl]; simp only [evP, th, Option.bind_assoc]
  cases evv g x with
  | none => rfl
  | some a =>
    cases evv g y with
    | none => rfl
    | some b =>
      simp only [Option.bind_some]
      cases a with
      | bool a => cases b <;> rfl
      | _ => rfl

def seqV (neg : Bool) (ks : List CK) : AV → AV → Option AV
  | .agg a, .agg b => (cellsEq ks a b).bind fun e => some (.bool (if neg then !e else e))
  | _, _ => none
theorem opK_seq (E : Call) (neg : Bool) (ks : List CK) (x y : XO) (g : Regs) (M : Mem) (k : RV → Mem → Option R) :
    opK E (.seq neg ks x y) g M k = th (evv g x) (fun a => th (evv g y) (fun b => th (seqV neg ks a b) (fun q => k (.v q) M))) := by
  rw [opK_pure _ _ _ _ _ rfl]; simp only [evP, th, Option.bind_assoc]
  cases evv g x with
  | none => rfl
  | some a =>
    cases evv g y with
    | none => rfl
    | some b =>
      simp only [Option.bind_some]
      cases a with
      | agg a => cases b with
        | agg b => simp only [seqV, Option.bind_assoc]; rfl
        | _ => rfl
      | _ => rfl
theorem seqV_eq (ks : List CK) (a b : List AV) : seqV false ks (.agg a) (.agg b) = th (cellsEq ks a b) (fun e => some (.bool e)) := rfl
theorem seqV_ne (ks : List CK) (a b : List AV) : seqV true ks (.agg a) (.agg b) = th (cellsEq ks a b) (fun e => some (.bool (!e))) := rfl
theorem cellsEq_nil : cellsEq [] [] [] = some true := rfl
theorem cellsEq_cons (k : CK) (ks : List CK) (a b : AV) (as bs : List AV) : cellsEq (k :: ks) (a :: as) (b :: bs) = th (cellEq k a b) (fun x => th (cellsEq ks as bs) (fun y => some (x && y))) := rfl
theorem cellEq_int (k : IntKind) (a b : Int) : cellEq .i (.int k a) (.int k b) = some (a == b) := by simp [cellEq]
theorem cellEq_bool (a b : Bool) : cellEq .b (.bool a) (.bool b) = some (a == b) := rfl
theorem cellEq_str (a b : List UInt8) : cellEq .s (.str a) (.str b) = some (a == b) := rfl

def isnilV (kd : NK) (neg : Bool) (a : AV) : Option AV := (nilOf kd a).bind fun b => some (.bool (if neg then !b else b))
theorem isnilV_eq (kd : NK) (a : AV) : isnilV kd false a = th (nilOf kd a) (fun b => some (.bool b)) := rfl
theorem isnilV_ne (kd : NK) (a : AV) : isnilV kd true a = th (nilOf kd a) (fun b => some (.bool (!b))) := rfl
theorem opK_isnil (E : Call) (kd : NK) (neg : Bool) (x : XO) (g : Regs) (M : Mem) (k : RV → Mem → Option R) :
    opK E (.isnil kd neg x) g M k = th (evv g x) (fun a => th (isnilV kd neg a) (fun q => k (.v q) M)) := by
  rw [opK_pure _ _ _ _ _ rfl]; simp only [evP, th, Option.bind_assoc, isnilV]; rfl

def bnotV : AV → Option AV
  | .bool b => some (.bool (!b))
  | _ => none
theorem bnotV_bool (b : Bool) : bnotV (.bool b) = some (.bool (!b)) := rfl
theorem opK_bnot (E : Call) (x : XO) (g : Regs) (M : Mem) (k : RV → Mem → Option R) : opK E (.bnot x) g M k = th (evv g x) (fun a => th (bnotV a) (fun q => k (.v q) M)) := by
  rw [opK_pure _ _ _ _ _ rfl]; simp only [evP, th, Option.bind_assoc]
  cases evv g x with
  | none => rfl
  | some a => cases a <;> rfl

def negV : AV → Option AV
  | .int k n => some (.int k (k.wrap (0 - n)))
  | _ => none
theorem negV_int (k : IntKind) (n : Int) : negV (.int k n) = some (.int k (k.wrap (0 - n))) := rfl
theorem opK_neg (E : Call) (x : XO) (g : Regs) (M : Mem) (k : RV → Mem → Option R) : opK E (.neg x) g M k = th (evv g x) (fun a => th (negV a) (fun q => k (.v q) M)) := by
  rw [opK_pure _ _ _ _ _ rfl]; simp only [evP, th, Option.bind_assoc]
  cases evv g x with
  | none => rfl
  | some a => cases a <;> rfl

def lenV : Bool → AV → Option AV
  | true, .str l => some (.int .i64 l.length)
  | false, .sl _ _ _ n => some (.int .i64 n)
  | false, .nilsl => some (.int .i64 0)
  | _, _ => none
theorem lenV_str (l : List UInt8) : lenV true (.str l) = some (.int .i64 l.length) := rfl
theorem lenV_sl (r v i n : Nat) : lenV false (.sl r v i n) = some (.int .i64 n) := rfl
theorem lenV_nilsl : lenV false .nilsl = some (.int .i64 0) := rfl
theorem opK_len (E : Call) (st : Bool) (x : XO) (g : Regs) (M : Mem) (k : RV → Mem → Option R) : opK E (.len st x) g M k = th (evv g x) (fun a => th (lenV st a) (fun q => k (.v q) M)) := by
  rw [opK_pure _ _ _ _ _ rfl]
  cases st <;> simp only [evP, th, Option.bind_assoc] <;> cases evv g x with
  | none => rfl
  | some a => cases a <;> rfl

def extV (i : Nat) : AV → Option AV
  | .tup vs => vs[i]?
  | _ => none
theorem extV_tup (i : Nat) (vs : List AV) : extV i (.tup vs) = vs[i]? := rfl
theorem opK_ext (E : Call) (x : XO) (i : Nat) (g : Regs) (M : Mem) (k : RV → Mem → Option R) : opK E (.ext x i) g M k = th (evv g x) (fun a => th (extV i a) (fun q => k (.v q) M)) := by
  rw [opK_pure _ _ _ _ _ rfl]; simp only [evP, th, Option.bind_assoc]
  cases evv g x with
  | none => rfl
  | some a => cases a with
    | tup vs => simp only [Option.bind_some, extV, Option.bind_assoc]
    | _ => rfl

theorem opK_build (E : Call) (z : List AV) (ps : List (Nat × Nat × XO)) (g : Regs) (M : Mem) (k : RV → Mem → Option R) : opK E (.build z ps) g M k = th (fillP g z ps) (fun cs => k (.v (.agg cs)) M) := by
  rw [opK_pure _ _ _ _ _ rfl]; simp only [evP, th, Option.bind_assoc]; rfl
theorem fillP_nil (g : Regs) (cs : List AV) : fillP g cs [] = some cs := rfl
theorem fillP_cons (g : Regs) (cs : List AV) (o sz : Nat) (x : XO) (l : List (Nat × Nat × XO)) :
    fillP g cs ((o, sz, x) :: l) = th (evv g x) (fun a => th (cellsOf a) (fun y => if y.length = sz ∧ o + sz ≤ cs.length then fillP g (upd cs o y) l else none)) := rfl
theorem opK_bsl (E : Call) (sz n : Nat) (z : List AV) (ps : List (Nat × XO)) (g : Regs) (M : Mem) (k : RV → Mem → Option R) :
    opK E (.bsl true sz n z ps) g M k = th (fillS g sz (List.replicate n z) ps) (fun els => k (.ls els) M) := by
  rw [opK_pure _ _ _ _ _ rfl]; simp only [evP, th, Option.bind_assoc]; rfl
theorem opK_bslE (E : Call) (sz n : Nat) (z : List AV) (ps : List (Nat × XO)) (g : Regs) (bx : Boxes) (st : Store) (k : RV → Mem → Option R) :
    opK E (.bsl false sz n z ps) g ⟨bx, st⟩ k = th (fillS g sz (List.replicate n z) ps) (fun els => k (.v (.sl st.length 0 0 n)) ⟨bx, st ++ [⟨els, sz, 0, .own⟩]⟩) := by
  rw [opK_pure _ _ _ _ _ rfl]; simp only [evP, th, Option.bind_assoc]; rfl
theorem fillS_nil (g : Regs) (sz : Nat) (els : List (List AV)) : fillS g sz els [] = some els := rfl
theorem fillS_cons (g : Regs) (sz : Nat) (els : List (List AV)) (i : Nat) (x : XO) (l : List (Nat × XO)) :
    fillS g sz els ((i, x) :: l) = th (evv g x) (fun a => th (cellsOf a) (fun y => if y.length = sz ∧ i < els.length then fillS g sz (els.set i y) l else none)) := rfl

def appV (sz bytes : Nat) (st : Store) (ys : List (List AV)) : AV → Option (AV × Store)
  | .nilsl => if ys.length * bytes ≤ 140737488355328 then
            (match ys with
             | [] => some (.nilsl, st)
             | _ => some (.sl st.length 0 0 ys.length, st ++ [⟨ys, sz, 0, .own⟩])) else none
  | .sl r v i n => (rowAt st r v).bind fun row =>
          if row.kd = .own ∧ row.sz = sz ∧ i + n ≤ row.els.length ∧ (n + ys.length) * bytes ≤ 140737488355328 then
            some (.sl r (v + 1) 0 (n + ys.length), st.set r { row with els := (row.els.drop i).take n ++ ys, ver := v + 1 })
          else none
  | _ => none
theorem opK_app (E : Call) (sz bytes : Nat) (x y : XO) (g : Regs) (bx : Boxes) (st : Store) (k : RV → Mem → Option R) :
    opK E (.app sz bytes x y) g ⟨bx, st⟩ k = th (evv g x) (fun a => th (ev g y) (fun b => th (elsOf ⟨bx, st⟩ sz b) (fun ys => th (appV sz bytes st ys a) (fun q => k (.v q.1) ⟨bx, q.2⟩)))) := by
  rw [opK_pure _ _ _ _ _ rfl]; simp only [evP, th, Option.bind_assoc]
  cases evv g x with
  | none => rfl
  | some a =>
    cases ev g y with
    | none => rfl
    | some b =>
      simp only [Option.bind_some, Option.bind_assoc]
      cases elsOf ⟨bx, st⟩ sz b with
      | none => rfl
      | some ys =>
        simp only [Option.bind_some]
        cases a with
        | nilsl =>
          simp only [appV]
          split
          · cases ys <;> rfl
          · rfl
        | sl r v i n =>
          simp only [appV, Option.bind_assoc]
          cases rowAt st r v with
          | none => rfl
          | some row => simp only [Option.bind_some]; split <;> rfl
        | _ => rfl

def slcV (g : Regs) (st : Store) (sz : Nat) (l h : Option XO) : AV → Option AV
  | .sl r v i n => (st[r]?).bind fun row => (bnd g 0 l).bind fun lo => (bnd g n h).bind fun hi =>
          if row.sz = sz ∧ 0 ≤ lo ∧ lo ≤ hi ∧ hi ≤ n then some (.sl r v (i + lo.toNat) (hi.toNat - lo.toNat)) else none
  | .nilsl => (bnd g 0 l).bind fun lo => (bnd g 0 h).bind fun hi => if lo = 0 ∧ hi = 0 then some .nilsl else none
  | _ => none
theorem opK_slc (E : Call) (sz : Nat) (x : XO) (l h : Option XO) (g : Regs) (bx : Boxes) (st : Store) (k : RV → Mem → Option R) :
    opK E (.slc sz x l h) g ⟨bx, st⟩ k = th (evv g x) (fun a => th (slcV g st sz l h a) (fun q => k (.v q) ⟨bx, st⟩)) := by
  rw [opK_pure _ _ _ _ _ rfl]; simp only [evP, th, Option.bind_assoc]
  cases evv g x with
  | none => rfl
  | some a =>
    simp only [Option.bind_some]
    cases a with
    | sl r v i n =>
      simp only [slcV, Option.bind_assoc]
      cases st[r]? with
      | none => rfl
      | some row =>
        simp only [Option.bind_some]
        cases bnd g 0 l with
        | none => rfl
        | some lo =>
          simp only [Option.bind_some]
          cases bnd g n h with
          | none => rfl
          | some hi => simp only [Option.bind_some]; split <;> rfl
    | nilsl =>
      simp only [slcV, Option.bind_assoc]
      cases bnd g 0 l with
      | none => rfl
      | some lo =>
        simp only [Option.bind_some]
        cases bnd g 0 h with
        | none => rfl
        | some hi => simp only [Option.bind_some]; split <;> rfl
    | _ => rfl

def intOf : AV → Option Int
  | .int _ n => some n
  | _ => none
theorem intOf_int (k : IntKind) (n : Int) : intOf (.int k n) = some n := rfl
theorem bnd_none (g : Regs) (d : Nat) : bnd g d none = some (d : Int) := rfl
theorem bnd_some (g : Regs) (d : Nat) (x : XO) : bnd g d (some x) = th (evv g x) intOf := by
  simp only [bnd, th]
  cases evv g x with
  | none => rfl
  | some a => cases a <;> rfl

def sstrV (g : Regs) (l h : Option XO) : AV → Option AV
  | .str s => (bnd g 0 l).bind fun lo => (bnd g s.length h).bind fun hi =>
          if 0 ≤ lo ∧ lo ≤ hi ∧ hi ≤ s.length then some (.str ((s.drop lo.toNat).take (hi.toNat - lo.toNat))) else none
  | _ => none
theorem sstrV_str (g : Regs) (l h : Option XO) (s : List UInt8) : sstrV g l h (.str s) = th (bnd g 0 l) (fun lo => th (bnd g s.length h) (fun hi =>
          if 0 ≤ lo ∧ lo ≤ hi ∧ hi ≤ s.length then some (.str ((s.drop lo.toNat).take (hi.toNat - lo.toNat))) else none)) := rfl
theorem opK_sstr (E : Call) (x : XO) (l h : Option XO) (g : Regs) (M : Mem) (k : RV → Mem → Option R) :
    opK E (.sstr x l h) g M k = th (evv g x) (fun a => th (sstrV g l h a) (fun q => k (.v q) M)) := by
  rw [opK_pure _ _ _ _ _ rfl]; simp only [evP, th, Option.bind_assoc]
  cases evv g x with
  | none => rfl
  | some a =>
    simp only [Option.bind_some]
    cases a with
    | str s =>
      simp only [sstrV, Option.bind_assoc]
      cases bnd g 0 l with
      | none => rfl
      | some lo =>
        simp only [Option.bind_some]
        cases bnd g s.length h with
        | none => rfl
        | some hi => simp only [Option.bind_some]; split <;> rfl
    | _ => rfl

def idxV : AV → AV → Option AV
  | .str s, .int _ k => if 0 ≤ k ∧ k < s.length then some (.int .u8 ((s.getD k.toNat 0).toNat : Nat)) else none
  | _, _ => none
theorem idxV_str (s : List UInt8) (kd : IntKind) (k : Int) : idxV (.str s) (.int kd k) = if 0 ≤ k ∧ k < s.length then some (.int .u8 ((s.getD k.toNat 0).toNat : Nat)) else none := rfl
theorem opK_idx (E : Call) (x y : XO) (g : Regs) (M : Mem) (k : RV → Mem → Option R) :
    opK E (.idx x y) g M k = th (evv g x) (fun a => th (evv g y) (fun b => th (idxV a b) (fun q => k (.v q) M))) := by
  rw [opK_pure _ _ _ _ _ rfl]; simp only [evP, th, Option.bind_assoc]
  cases evv g x with
  | none => rfl
  | some a =>
    cases evv g y with
    | none => rfl
    | some b =>
      simp only [Option.bind_some]
      cases a with
      | str s => cases b with
        | int kd n => simp only [idxV]; split <;> rfl
        | _ => rfl
      | _ => rfl

def strOf : AV → Option (List UInt8)
  | .str s => some s
  | _ => none
theorem strOf_str (s : List UInt8) : strOf (.str s) = some s := rfl
theorem opK_s2b (E : Call) (x : XO) (g : Regs) (bx : Boxes) (st : Store) (k : RV → Mem → Option R) :
    opK E (.s2b x) g ⟨bx, st⟩ k = th (evv g x) (fun a => th (strOf a) (fun s => k (.v (.sl st.length 0 0 s.length)) ⟨bx, st ++ [⟨s.map fun b => [.int .u8 (b.toNat : Nat)], 1, 0, .own⟩]⟩)) := by
  rw [opK_pure _ _ _ _ _ rfl]; simp only [evP, th, Option.bind_assoc]
  cases evv g x with
  | none => rfl
  | some a => cases a <;> rfl
theorem opK_b2s (E : Call) (x : XO) (g : Regs) (M : Mem) (k : RV → Mem → Option R) :
    opK E (.b2s x) g M k = th (ev g x) (fun b => th (elsOf M 1 b) (fun els => th (allSome byteOfCell els) (fun s => k (.v (.str s)) M))) := by
  rw [opK_pure _ _ _ _ _ rfl]; simp only [evP, th, Option.bind_assoc]; rfl
theorem opK_cvt (E : Call) (kd : IntKind) (x : XO) (g : Regs) (M : Mem) (k : RV → Mem → Option R) :
    opK E (.cvt kd x) g M k = th (evv g x) (fun a => th (intOf a) (fun n => k (.v (.int kd (kd.wrap n))) M)) := by
  rw [opK_pure _ _ _ _ _ rfl]; simp only [evP, th, Option.bind_assoc]
  cases evv g x with
  | none => rfl
  | some a => cases a <;> rfl

def mksV (sz bytes : Nat) (z : List AV) (st : Store) : AV → AV → Option (AV × Store)
  | .int .i64 n, .int .i64 m => if 0 ≤ n ∧ n ≤ m ∧ m * bytes ≤ 140737488355328 ∧ m ≤ 140737488355328 then some (.sl st.length 0 0 n.toNat, st ++ [⟨List.replicate n.toNat z, sz, 0, .own⟩]) else none
  | _, _ => none
theorem mksV_int (sz bytes : Nat) (z : List AV) (st : Store) (n m : Int) : mksV sz bytes z st (.int .i64 n) (.int .i64 m) = if 0 ≤ n ∧ n ≤ m ∧ m * bytes ≤ 140737488355328 ∧ m ≤ 140737488355328 then some (.sl st.length 0 0 n.toNat, st ++ [⟨List.replicate n.toNat z, sz, 0, .own⟩]) else none := rfl
theorem opK_mks (E : Call) (sz bytes : Nat) (z : List AV) (l c : XO) (g : Regs) (bx : Boxes) (st : Store) (k : RV → Mem → Option R) :
    opK E (.mks sz bytes z l c) g ⟨bx, st⟩ k = th (evv g l) (fun a => th (evv g c) (fun b => th (mksV sz bytes z st a b) (fun q => k (.v q.1) ⟨bx, q.2⟩))) := by
  rw [opK_pure _ _ _ _ _ rfl]; simp only [evP, th, Option.bind_assoc]
  cases evv g l with
  | none => rfl
  | some a =>
    cases evv g c with
    | none => rfl
    | some b =>
      simp only [Option.bind_some]
      cases a with
      | int kd n => cases b with
        | int kd' m => cases kd <;> first | rfl | (cases kd' <;> first | rfl | (simp only [mksV]; split <;> rfl))
        | _ => cases kd <;> rfl
      | _ => rfl

def mxV (big : Bool) : AV → AV → Option AV
  | .int k p, .int k' q => if k = k' then some (.int k (if big then (if q > p then q else p) else (if q < p then q else p))) else none
  | _, _ => none
theorem mxV_max (k : IntKind) (p q : Int) : mxV true (.int k p) (.int k q) = some (.int k (if q > p then q else p)) := by simp [mxV]
theorem mxV_min (k : IntKind) (p q : Int) : mxV false (.int k p) (.int k q) = some (.int k (if q < p then q else p)) := by simp [mxV]
theorem opK_mx (E : Call) (big : Bool) (x y : XO) (g : Regs) (M : Mem) (k : RV → Mem → Option R) :
    opK E (.mx big x y) g M k = th (evv g x) (fun a => th (evv g y) (fun b => th (mxV big a b) (fun q => k (.v q) M))) := by
  rw [opK_pure _ _ _ _ _ rfl]; simp only [evP, th, Option.bind_assoc]
  cases evv g x with
  | none => rfl
  | some a =>
    cases evv g y with
    | none => rfl
    | some b =>
      simp only [Option.bind_some]
      cases a with
      | int ka p => cases b with
        | int kb q => simp only [mxV]; split <;> rfl
        | _ => rfl
      | _ => rfl

def nilcV : RV → Option RV
  | .v (.ptr r v i o) => some (.v (.ptr r v i o))
  | .lp t o => some (.lp t o)
  | _ => none
theorem nilcV_ptr (r v i o : Nat) : nilcV (.v (.ptr r v i o)) = some (.v (.ptr r v i o)) := rfl
theorem nilcV_lp (t o : Nat) : nilcV (.lp t o) = some (.lp t o) := rfl
theorem opK_nilc (E : Call) (x : XO) (g : Regs) (M : Mem) (k : RV → Mem → Option R) : opK E (.nilc x) g M k = th (ev g x) (fun p => th (nilcV p) (fun q => k q M)) := by
  rw [opK_pure _ _ _ _ _ rfl]; simp only [evP, th, Option.bind_assoc]
  cases ev g x with
  | none => rfl
  | some p => cases p with
    | v a => cases a <;> rfl
    | _ => rfl
theorem opK_mkf (E : Call) (f : FuncId) (cs : List XO) (g : Regs) (M : Mem) (k : RV → Mem → Option R) : opK E (.mkf f cs) g M k = th (evs g cs) (fun as => k (.v (.fn f as)) M) := by
  rw [opK_pure _ _ _ _ _ rfl]; simp only [evP, th, Option.bind_assoc]; rfl

/-! ### Loops -/

/-- A loop that stands at its head, with what lives there and no more. -/
noncomputable def loopK (E : Call) (live : List Nat) (c : XC) (s : S) (k : Out → S → Option R) : Option R :=
  ((exec E c s).bind fun | (.norm, s') => exec E (.loop live c) s' | (o, s') => some (o, s')).bind fun p => k p.1 p.2
/-- What a loop does behind its body. -/
noncomputable def lpK (E : Call) (live : List Nat) (c : XC) (k : Out → S → Option R) (o : Out) (s : S) : Option R := match o with | .norm => runK E (.loop live c) s k | o => k o s
theorem lpK_norm (E : Call) (live : List Nat) (c : XC) (k : Out → S → Option R) (s : S) : lpK E live c k .norm s = runK E (.loop live c) s k := rfl
theorem lpK_ret (E : Call) (live : List Nat) (c : XC) (k : Out → S → Option R) (s : S) : lpK E live c k .ret s = k .ret s := rfl
theorem lpK_exit (E : Call) (live : List Nat) (c : XC) (k : Out → S → Option R) (i : Nat) (s : S) : lpK E live c k (.exit i) s = k (.exit i) s := rfl
theorem runK_loop (E : Call) (live : List Nat) (c : XC) (g : Regs) (bx : Boxes) (st : Store) (k : Out → S → Option R) :
    runK E (.loop live c) (g, ⟨bx, st⟩) k = frK (projR g bx live) (projB g bx live) (fun g' bx' => loopK E live c (g', ⟨bx', st⟩) k) := by
  simp only [runK, loopK, frK]
  congr 1
  conv => lhs; rw [exec, iter_eq]
  rfl
theorem loopK_eq (E : Call) (live : List Nat) (c : XC) (s : S) (k : Out → S → Option R) : loopK E live c s k = runK E c s (lpK E live c k) := by
  simp only [loopK, runK, Option.bind_assoc]
  congr 1
  funext p
  obtain ⟨o, s'⟩ := p
  cases o <;> rfl
/-- One round; the loop's code stays under its name in what follows. -/
theorem loopK_step {c c' : XC} (h : c = c') (E : Call) (live : List Nat) (s : S) (k : Out → S → Option R) : loopK E live c s k = runK E c' s (lpK E live c k) := by
  subst h; exact loopK_eq E live c s k

end Go.X

/- GoX, part 17: regions that draw, handed on; slices as lists of elements. No statement of the seat is here. -/
set_option linter.unusedVariables false
set_option linter.unusedSimpArgs false
namespace Go.X
open Go
variable {α β R : Type}

/-! ### Regions that draw -/

def stT (E : Call) (ops : List XOper) (tr : List (Regs × Mem)) (ps : List (Nat × Nat)) : Prop := ∀ p ∈ ps, stable1 E ops tr p.1 p.2
/-- A reader sees the same before and behind a writer. -/
def same3 (a b c : Option (RV × Mem)) (Mi Mn : Mem) : Prop := ∀ v M', a = some (v, M') → b = some (v, Mi) ∧ c = some (v, Mn)
def st1 (E : Call) : Option XOper → Option (Regs × Mem) → Option (Regs × Mem) → Option (Regs × Mem) → Prop
  | some o, some (g, M), some (gi, Mi), some (gn, Mn) => same3 (evG E g M o) (evG E g Mi o) (evG E g Mn o) Mi Mn
  | _, _, _, _ => False
theorem st1_some (E : Call) (o : XOper) (g gi gn : Regs) (M Mi Mn : Mem) : st1 E (some o) (some (g, M)) (some (gi, Mi)) (some (gn, Mn)) = same3 (evG E g M o) (evG E g Mi o) (evG E g Mn o) Mi Mn := rfl
theorem stT_nil (E : Call) (ops : List XOper) (tr : List (Regs × Mem)) : stT E ops tr [] = True := by simp [stT]
theorem stT_cons (E : Call) (ops : List XOper) (tr : List (Regs × Mem)) (j i : Nat) (ps : List (Nat × Nat)) (h1 : st1 E (ops[j]?) (tr[j]?) (tr[i]?) (tr[i + 1]?)) (h2 : stT E ops tr ps) : stT E ops tr ((j, i) :: ps) := by
  intro p hp
  rcases List.mem_cons.1 hp with rfl | hp
  · intro o g M v M' gi Mi gn Mn e1 e2 e3 e4 e5
    simp only at e1 e2 e4 e5
    rw [e1, e2, e4, e5] at h1
    exact h1 v M' e3
  · exact h2 p hp
theorem stT_cons' (E : Call) (ops : List XOper) (tr : List (Regs × Mem)) (j i : Nat) (ps : List (Nat × Nat)) (h1 : st1 E (ops[j]?) (tr[j]?) (tr[i]?) (tr[i + 1]?)) : stT E ops tr ((j, i) :: ps) = stT E ops tr ps :=
  propext ⟨fun h p hp => h p (List.mem_cons_of_mem _ hp), stT_cons E ops tr j i ps h1⟩
theorem same3_eq (v : RV) (M Mi Mn : Mem) : same3 (some (v, M)) (some (v, Mi)) (some (v, Mn)) Mi Mn = True := by
  simp only [same3, eq_iff_iff, iff_true]
  intro v' M' e
  cases e
  exact ⟨rfl, rfl⟩
theorem same3_none (b c : Option (RV × Mem)) (Mi Mn : Mem) : same3 none b c Mi Mn = True := by
  simp only [same3, eq_iff_iff, iff_true]
  intro v' M' e
  cases e

/-- A demand. -/
noncomputable def iteP (p : Prop) (r : Option R) : Option R := by classical exact if p then r else none
theorem iteP_true (r : Option R) : iteP True r = r := by simp [iteP]
theorem iteP_none (p : Prop) : iteP p (none : Option R) = none := by simp [iteP]
theorem iteP_pos {p : Prop} (h : p) (r : Option R) : iteP p r = r := by simp [iteP, h]
theorem iteP_neg {p : Prop} (h : ¬ p) (r : Option R) : iteP p r = none := by simp [iteP, h]
noncomputable def opsT (E : Call) (ops : List XOper) (ps : List (Nat × Nat)) (os : List XOper) (acc : List (Regs × Mem)) (g : Regs) (M : Mem) (k : Regs → Mem → Option R) : Option R :=
  iteP (stT E ops (acc ++ trace E os g M) ps) ((execOps E os g M).bind (fun p => k p.1 p.2))
open Classical in
theorem runK_drawT (E : Call) (ops : List XOper) (live : List Nat) (p : Nat × Nat) (ps : List (Nat × Nat)) (g : Regs) (M : Mem) (k : Out → S → Option R) :
    runK E (.reg ops live (some (p :: ps))) (g, M) k = opsT E ops (p :: ps) ops [] g M (regK live k) := by
  simp only [runK, exec, opsT, List.nil_append]
  have e : stable E ops g M (p :: ps) = stT E ops (trace E ops g M) (p :: ps) := rfl
  rw [e]
  by_cases h : stT E ops (trace E ops g M) (p :: ps)
  · rw [if_pos h, iteP_pos h, Option.bind_assoc]; rfl
  · rw [if_neg h, iteP_neg h]; rfl
/-- What follows an operation of a region that draws. -/
noncomputable def nxtT (E : Call) (ops : List XOper) (ps : List (Nat × Nat)) (d : Option Nat) (os : List XOper) (acc : List (Regs × Mem)) (g : Regs) (M0 : Mem) (k : Regs → Mem → Option R) (v : RV) (M : Mem) : Option R := opsT E ops ps os (acc ++ [(g, M0)]) (putd g d v) M k
theorem nxtT_some (E : Call) (ops : List XOper) (ps : List (Nat × Nat)) (d : Nat) (os : List XOper) (acc : List (Regs × Mem)) (g : Regs) (M0 : Mem) (k : Regs → Mem → Option R) (v : RV) (M : Mem) :
    nxtT E ops ps (some d) os acc g M0 k v M = opsT E ops ps os (acc ++ [(g, M0)]) ((d, v) :: g) M k := rfl
theorem nxtT_none (E : Call) (ops : List XOper) (ps : List (Nat × Nat)) (os : List XOper) (acc : List (Regs × Mem)) (g : Regs) (M0 : Mem) (k : Regs → Mem → Option R) (v : RV) (M : Mem) :
    nxtT E ops ps none os acc g M0 k v M = opsT E ops ps os (acc ++ [(g, M0)]) g M k := rfl
/-- The end of a region that draws: what was read must not have met a writer. -/
noncomputable def endT (E : Call) (ops : List XOper) (ps : List (Nat × Nat)) (tr : List (Regs × Mem)) (r : Option R) : Option R := iteP (stT E ops tr ps) r
theorem endT_nil (E : Call) (ops : List XOper) (tr : List (Regs × Mem)) (r : Option R) : endT E ops [] tr r = r := by rw [endT, stT_nil, iteP_true]
theorem endT_cons (E : Call) (ops : List XOper) (tr : List (Regs × Mem)) (j i : Nat) (ps : List (Nat × Nat)) (r : Option R) (h1 : st1 E (ops[j]?) (tr[j]?) (tr[i]?) (tr[i + 1]?)) : endT E ops ((j, i) :: ps) tr r = endT E ops ps tr r := by
  rw [endT, stT_cons' E ops tr j i ps h1, endT]
theorem opsT_nil (E : Call) (ops : List XOper) (ps : List (Nat × Nat)) (acc : List (Regs × Mem)) (g : Regs) (M : Mem) (k : Regs → Mem → Option R) : opsT E ops ps [] acc g M k = endT E ops ps (acc ++ [(g, M)]) (k g M) := rfl

theorem opsT_step (E : Call) (ops : List XOper) (ps : List (Nat × Nat)) (o : XOper) (os : List XOper) (acc : List (Regs × Mem)) (g : Regs) (M : Mem) (k : Regs → Mem → Option R) :
    opsT E ops ps (o :: os) acc g M k = (evG E g M o).bind fun p => nxtT E ops ps o.dst os acc g M k p.1 p.2 := by
  simp only [opsT, nxtT, execOps, trace, Option.bind_assoc]
  cases evG E g M o with
  | none => exact iteP_none _
  | some p =>
    obtain ⟨v, M'⟩ := p
    simp only [Option.bind_some, List.append_assoc, List.singleton_append]
theorem opsT_op (E : Call) (ops : List XOper) (ps : List (Nat × Nat)) (d : Option Nat) (o : XOp) (os : List XOper) (acc : List (Regs × Mem)) (g : Regs) (M : Mem) (k : Regs → Mem → Option R) :
    opsT E ops ps (⟨d, o, none⟩ :: os) acc g M k = opK E o g M (nxtT E ops ps d os acc g M k) := by
  rw [opsT_step]
  simp only [evG, wants, Option.bind_some, opK]
theorem opsT_og (E : Call) (ops : List XOper) (ps : List (Nat × Nat)) (d : Option Nat) (o : XOp) (t : Nat) (b : Bool) (os : List XOper) (acc : List (Regs × Mem)) (g : Regs) (M : Mem) (k : Regs → Mem → Option R) :
    opsT E ops ps (⟨d, o, some (t, b)⟩ :: os) acc g M k = gdK (lk g t) b (opK E o g M (nxtT E ops ps d os acc g M k)) (nxtT E ops ps d os acc g M k (.v .undef) M) := by
  rw [opsT_step]
  simp only [evG, wants, opK]
  cases lk g t with
  | none => rfl
  | some v =>
    cases v with
    | v a =>
      cases a with
      | bool c =>
        simp only [gdK, Option.bind_some, ch]
        cases c <;> cases b <;> simp
      | undef => simp [gdK]
      | _ => rfl
    | lp t' o => rfl
    | ls els => rfl

/-- Readers. -/
theorem evG_load (E : Call) (g : Regs) (M : Mem) (d : Option Nat) (ag : Bool) (sz : Nat) (x : XO) : evG E g M ⟨d, .load ag sz x, none⟩ = th (ev g x) (fun p => th (place M p) (fun q => th (ld ag sz q.2 q.1) (fun a => some (.v a, M)))) := by
  simp only [evG, wants, Option.bind_some, evOp, evP, th]
theorem evG_iadr (E : Call) (g : Regs) (bx : Boxes) (st : Store) (d : Option Nat) (sz : Nat) (x i : XO) : evG E g ⟨bx, st⟩ ⟨d, .iadr sz x i, none⟩ = th (evv g x) (fun a => th (evv g i) (fun b => th (iadrV st sz a b) (fun q => some (.v q, ⟨bx, st⟩)))) := by
  have h := opK_iadr (R := RV × Mem) E sz x i g bx st (fun a M => some (a, M))
  simp only [opK] at h
  rw [← h]
  simp only [evG, wants, Option.bind_some]
  cases evOp E g ⟨bx, st⟩ (.iadr sz x i) <;> rfl
/-- A call that counts as a reader. -/
theorem evG_call (E : Call) (g : Regs) (M : Mem) (d : Option Nat) (f : FuncId) (args : List XO) : evG E g M ⟨d, .call f args, none⟩ = th (evs g args) (fun as => th (E f as M.st) (fun p => some (.v p.1, ⟨M.bx, p.2⟩))) := by
  have h := opK_call (R := RV × Mem) E f args g M (fun a M => some (a, M))
  simp only [opK] at h
  rw [← h]
  simp only [evG, wants, Option.bind_some]
  cases evOp E g M (.call f args) <;> rfl
/-- A guarded reader. -/
theorem evG_gd (E : Call) (g : Regs) (M : Mem) (d : Option Nat) (o : XOp) (t : Nat) (b : Bool) : evG E g M ⟨d, o, some (t, b)⟩ = gdK (lk g t) b (evG E g M ⟨d, o, none⟩) (some (.v .undef, M)) := by
  simp only [evG, wants]
  cases lk g t with
  | none => rfl
  | some v =>
    cases v with
    | v a =>
      cases a with
      | bool c =>
        simp only [gdK, Option.bind_some, ch]
        cases c <;> cases b <;> simp
      | undef => simp [gdK]
      | _ => rfl
    | lp t' o => rfl
    | ls els => rfl

/-! ### Slices as lists of elements -/

/-- Slice a holds these elements. -/
def SlAt (st : Store) (sz : Nat) (a : AV) (els : List (List AV)) : Prop := elsOf ⟨[], st⟩ sz (.v a) = some els

theorem elsOf_bx (bx : Boxes) (st : Store) (sz : Nat) (a : AV) : elsOf ⟨bx, st⟩ sz (.v a) = elsOf ⟨[], st⟩ sz (.v a) := by cases a <;> rfl

theorem SlAt.cases {st : Store} {sz : Nat} {a : AV} {els : List (List AV)} (h : SlAt st sz a els) :
    (a = .nilsl ∧ els = []) ∨ ∃ r v i n row, a = .sl r v i n ∧ rowAt st r v = some row ∧ row.sz = sz ∧ i + n ≤ row.els.length ∧ els = (row.els.drop i).take n ∧ els.length = n := by
  cases a with
  | nilsl => left; simp only [SlAt, elsOf, Option.some.injEq] at h; exact ⟨rfl, h.symm⟩
  | sl r v i n =>
    right
    simp only [SlAt, elsOf] at h
    cases hr : rowAt st r v with
    | none => simp [hr] at h
    | some row =>
      simp only [hr, Option.bind_some] at h
      split at h
      · rename_i hc
        simp only [Option.some.injEq] at h
        refine ⟨r, v, i, n, row, rfl, hr, hc.1, hc.2, h.symm, ?_⟩
        rw [← h]; simp; omega
      · simp at h
  | _ => simp [SlAt, elsOf] at h

theorem SlAt.mk {st : Store} {sz : Nat} {r v i n : Nat} {row : Row} (hr : rowAt st r v = some row) (hs : row.sz = sz) (hn : i + n ≤ row.els.length) : SlAt st sz (.sl r v i n) ((row.els.drop i).take n) := by
  simp [SlAt, elsOf, hr, hs, hn]
theorem SlAt.nil (st : Store) (sz : Nat) : SlAt st sz .nilsl [] := rfl

theorem SlAt.len {st : Store} {sz : Nat} {a : AV} {els : List (List AV)} (h : SlAt st sz a els) : lenV false a = some (.int .i64 els.length) := by
  rcases h.cases with ⟨rfl, rfl⟩ | ⟨r, v, i, n, row, rfl, _, _, _, _, hl⟩
  · rfl
  · rw [lenV_sl, hl]
theorem SlAt.cellsOf {st : Store} {sz : Nat} {a : AV} {els : List (List AV)} (h : SlAt st sz a els) : cellsOf a = some [a] := by
  rcases h.cases with ⟨rfl, rfl⟩ | ⟨r, v, i, n, row, rfl, _⟩ <;> rfl
theorem SlAt.els {st : Store} {sz : Nat} {a : AV} {els : List (List AV)} (h : SlAt st sz a els) (bx : Boxes) : elsOf ⟨bx, st⟩ sz (.v a) = some els := by rw [elsOf_bx]; exact h

/-- The pointer to element i. -/
def elP (a : AV) (i : Nat) : AV := match a with | .sl r v s _ => .ptr r v (s + i) 0 | _ => .nilptr
theorem SlAt.iadr {st : Store} {sz : Nat} {a : AV} {els : List (List AV)} (h : SlAt st sz a els) (k : IntKind) {i : Nat} (hi : i < els.length) : iadrV st sz a (.int k i) = some (elP a i) := by
  rcases h.cases with ⟨rfl, rfl⟩ | ⟨r, v, s, n, row, rfl, hr, hs, hn, he, hl⟩
  · simp at hi
  · simp only [iadrV, hr, Option.bind_some]
    rw [if_pos ⟨hs, by omega, by omega⟩]
    simp [elP]
theorem SlAt.iadr_int {st : Store} {sz : Nat} {a : AV} {els : List (List AV)} (h : SlAt st sz a els) (k : IntKind) {i : Int} (h0 : 0 ≤ i) (hi : i < els.length) : iadrV st sz a (.int k i) = some (elP a i.toNat) := by
  obtain ⟨n, rfl⟩ := Int.eq_ofNat_of_zero_le h0
  exact h.iadr k (by omega)
theorem SlAt.place {st : Store} {sz : Nat} {a : AV} {els : List (List AV)} (h : SlAt st sz a els) (bx : Boxes) {i : Nat} {cs : List AV} (hi : els[i]? = some cs) : Go.X.place ⟨bx, st⟩ (.v (elP a i)) = some (cs, 0) := by
  have hlt := (List.getElem?_eq_some_iff.1 hi).1
  rcases h.cases with ⟨rfl, rfl⟩ | ⟨r, v, s, n, row, rfl, hr, hs, hn, he, hl⟩
  · simp at hi
  · simp only [elP, Go.X.place, hr, Option.bind_some]
    have : row.els[s + i]? = some cs := by
      rw [he, List.getElem?_take, if_pos (by omega), List.getElem?_drop] at hi
      exact hi
    rw [this]; rfl
theorem SlAt.fadr {st : Store} {sz : Nat} {a : AV} {els : List (List AV)} (h : SlAt st sz a els) (bx : Boxes) {i : Nat} {cs : List AV} (hi : els[i]? = some cs) (o : Nat) :
    ∃ q, fadrV o (.v (elP a i)) = some (.v q) ∧ Go.X.place ⟨bx, st⟩ (.v q) = some (cs, o) := by
  have hlt := (List.getElem?_eq_some_iff.1 hi).1
  rcases h.cases with ⟨rfl, rfl⟩ | ⟨r, v, s, n, row, rfl, hr, hs, hn, he, hl⟩
  · simp at hi
  · refine ⟨.ptr r v (s + i) (0 + o), rfl, ?_⟩
    simp only [Go.X.place, hr, Option.bind_some]
    have : row.els[s + i]? = some cs := by
      rw [he, List.getElem?_take, if_pos (by omega), List.getElem?_drop] at hi
      exact hi
    rw [this]; simp

/-- The pointer to cell o of element i. -/
def elQ (a : AV) (i o : Nat) : AV := match a with | .sl r v s _ => .ptr r v (s + i) o | _ => .nilptr
theorem elP_Q (a : AV) (i : Nat) : elP a i = elQ a i 0 := by cases a <;> rfl
theorem SlAt.fadrQ {st : Store} {sz : Nat} {a : AV} {els : List (List AV)} (h : SlAt st sz a els) {i : Nat} (hi : i < els.length) (o : Nat) : fadrV o (.v (elP a i)) = some (.v (elQ a i o)) := by
  rcases h.cases with ⟨rfl, rfl⟩ | ⟨r, v, s, n, row, rfl, _⟩
  · simp at hi
  · simp [elP, elQ, fadrV]
theorem SlAt.nilcQ {st : Store} {sz : Nat} {a : AV} {els : List (List AV)} (h : SlAt st sz a els) {i : Nat} (hi : i < els.length) : nilcV (.v (elP a i)) = some (.v (elP a i)) := by
  rcases h.cases with ⟨rfl, rfl⟩ | ⟨r, v, s, n, row, rfl, _⟩
  · simp at hi
  · rfl
theorem SlAt.placeQ {st : Store} {sz : Nat} {a : AV} {els : List (List AV)} (h : SlAt st sz a els) (bx : Boxes) {i : Nat} {cs : List AV} (hi : els[i]? = some cs) (o : Nat) : Go.X.place ⟨bx, st⟩ (.v (elQ a i o)) = some (cs, o) := by
  obtain ⟨q, h1, h2⟩ := h.fadr bx hi o
  rw [h.fadrQ (List.getElem?_eq_some_iff.1 hi).1 o] at h1
  cases h1
  exact h2

/-! ### More rows -/

theorem rowAt_append {st : Store} {r v : Nat} {row : Row} (h : rowAt st r v = some row) (l : Store) : rowAt (st ++ l) r v = some row := by
  simp only [rowAt] at h ⊢
  cases hr : st[r]? with
  | none => simp [hr] at h
  | some row' =>
    rw [List.getElem?_append_left (List.getElem?_eq_some_iff.1 hr).1, hr]
    rw [hr] at h
    exact h
theorem SlAt.append {st : Store} {sz : Nat} {a : AV} {els : List (List AV)} (h : SlAt st sz a els) (l : Store) : SlAt (st ++ l) sz a els := by
  rcases h.cases with ⟨rfl, rfl⟩ | ⟨r, v, s, n, row, rfl, hr, hs, hn, he, hl⟩
  · rfl
  · rw [he]; exact SlAt.mk (rowAt_append hr l) hs hn
theorem SlAt.mono {st st' : Store} {sz : Nat} {a : AV} {els : List (List AV)} (h : SlAt st sz a els) (hp : st <+: st') : SlAt st' sz a els := by
  obtain ⟨l, rfl⟩ := hp
  exact h.append l
/-- A row that has just come. -/
theorem rowAt_new (st : Store) (els : List (List AV)) (sz : Nat) : rowAt (st ++ [⟨els, sz, 0, .own⟩]) st.length 0 = some ⟨els, sz, 0, .own⟩ := by
  simp [rowAt]
theorem SlAt.new (st : Store) (els : List (List AV)) (sz : Nat) : SlAt (st ++ [⟨els, sz, 0, .own⟩]) sz (.sl st.length 0 0 els.length) els := by
  have h := SlAt.mk (i := 0) (n := els.length) (rowAt_new st els sz) rfl (by simp)
  simpa using h
theorem set_new (st : Store) (a b : Row) : (st ++ [a]).set st.length b = st ++ [b] := by
  simp

/-! ### The rules, tied together -/

section
theorem PR0 :
    (∀ {R : Type} (E : Call) (a b : XC) (s : S) (k : Out → S → Option R), runK E (.seq a b) s k = runK E a s (seqK E b k)) ∧
    (∀ {R : Type} (E : Call) (ops : List XOper) (live : List Nat) (g : Regs) (M : Mem) (k : Out → S → Option R), runK E (.reg ops live none) (g, M) k = opsK E ops g M (regK live k)) ∧
    (∀ {R : Type} (E : Call) (ops : List XOper) (live : List Nat) (g : Regs) (M : Mem) (k : Out → S → Option R), runK E (.reg ops live (some [])) (g, M) k = opsK E ops g M (regK live k)) ∧
    (∀ {R : Type} (E : Call) (ops : List XOper) (live : List Nat) (p : Nat × Nat) (ps : List (Nat × Nat)) (g : Regs) (M : Mem) (k : Out → S → Option R), runK E (.reg ops live (some (p :: ps))) (g, M) k = opsT E ops (p :: ps) ops [] g M (regK live k)) ∧
    (∀ {R : Type} (E : Call) (i : Nat) (a : XC) (s : S) (k : Out → S → Option R), runK E (.block i a) s k = runK E a s (blkK i k)) ∧
    (∀ {R : Type} (E : Call) (x : XO) (a b : XC) (s : S) (k : Out → S → Option R), runK E (.cond x a b) s k = boolK (evv s.1 x) (runK E a s k) (runK E b s k)) ∧
    (∀ {R : Type} (E : Call) (live : List Nat) (c : XC) (g : Regs) (bx : Boxes) (st : Store) (k : Out → S → Option R), runK E (.loop live c) (g, ⟨bx, st⟩) k = frK (projR g bx live) (projB g bx live) (fun g' bx' => loopK E live c (g', ⟨bx', st⟩) k)) ∧
    (∀ {R : Type} (E : Call) (s : S) (k : Out → S → Option R), runK E .skip s k = k .norm s) ∧
    (∀ {R : Type} (E : Call) (s : S) (k : Out → S → Option R), runK E .ret s k = k .ret s) ∧
    (∀ {R : Type} (E : Call) (i : Nat) (s : S) (k : Out → S → Option R), runK E (.exit i) s k = k (.exit i) s) ∧
    (∀ {R : Type} (E : Call) (b : XC) (k : Out → S → Option R) (s : S), seqK E b k .norm s = runK E b s k) ∧
    (∀ {R : Type} (E : Call) (b : XC) (k : Out → S → Option R) (s : S), seqK E b k .ret s = k .ret s) ∧
    (∀ {R : Type} (E : Call) (b : XC) (k : Out → S → Option R) (i : Nat) (s : S), seqK E b k (.exit i) s = k (.exit i) s) ∧
    (∀ {R : Type} (i : Nat) (k : Out → S → Option R) (s : S), blkK i k .norm s = k .norm s) ∧
    (∀ {R : Type} (i : Nat) (k : Out → S → Option R) (s : S), blkK i k .ret s = k .ret s) ∧
    (∀ {R : Type} (i : Nat) (k : Out → S → Option R) (s : S), blkK i k (.exit i) s = k .norm s) ∧
    (∀ {R : Type} {i j : Nat} (h : j ≠ i) (k : Out → S → Option R) (s : S), blkK i k (.exit j) s = k (.exit j) s) ∧
    (∀ {R : Type} (E : Call) (live : List Nat) (c : XC) (k : Out → S → Option R) (s : S), lpK E live c k .norm s = runK E (.loop live c) s k) ∧
    (∀ {R : Type} (E : Call) (live : List Nat) (c : XC) (k : Out → S → Option R) (s : S), lpK E live c k .ret s = k .ret s) ∧
    (∀ {R : Type} (E : Call) (live : List Nat) (c : XC) (k : Out → S → Option R) (i : Nat) (s : S), lpK E live c k (.exit i) s = k (.exit i) s) ∧
    (∀ {R : Type} (live : List Nat) (k : Out → S → Option R) (g : Regs) (bx : Boxes) (st : Store), regK live k g ⟨bx, st⟩ = frK (projR g bx live) (projB g bx live) (fun g' bx' => k .norm (g', ⟨bx', st⟩))) ∧
    (∀ {R : Type} (E : Call) (d : Option Nat) (o : XOp) (os : List XOper) (g : Regs) (M : Mem) (k : Regs → Mem → Option R), opsK E (⟨d, o, none⟩ :: os) g M k = opK E o g M (nxtK E d os g k)) ∧
    (∀ {R : Type} (E : Call) (d : Option Nat) (o : XOp) (t : Nat) (b : Bool) (os : List XOper) (g : Regs) (M : Mem) (k : Regs → Mem → Option R), opsK E (⟨d, o, some (t, b)⟩ :: os) g M k = gdK (lk g t) b (opK E o g M (nxtK E d os g k)) (nxtK E d os g k (.v .undef) M)) ∧
    (∀ {R : Type} (E : Call) (g : Regs) (M : Mem) (k : Regs → Mem → Option R), opsK E [] g M k = k g M) ∧
    (∀ {R : Type} (E : Call) (d : Nat) (os : List XOper) (g : Regs) (k : Regs → Mem → Option R) (v : RV) (M : Mem), nxtK E (some d) os g k v M = opsK E os ((d, v) :: g) M k) ∧
    (∀ {R : Type} (E : Call) (os : List XOper) (g : Regs) (k : Regs → Mem → Option R) (v : RV) (M : Mem), nxtK E none os g k v M = opsK E os g M k) ∧
    (∀ {R : Type} (E : Call) (ops : List XOper) (ps : List (Nat × Nat)) (d : Option Nat) (o : XOp) (os : List XOper) (acc : List (Regs × Mem)) (g : Regs) (M : Mem) (k : Regs → Mem → Option R), opsT E ops ps (⟨d, o, none⟩ :: os) acc g M k = opK E o g M (nxtT E ops ps d os acc g M k)) ∧
    (∀ {R : Type} (E : Call) (ops : List XOper) (ps : List (Nat × Nat)) (d : Option Nat) (o : XOp) (t : Nat) (b : Bool) (os : List XOper) (acc : List (Regs × Mem)) (g : Regs) (M : Mem) (k : Regs → Mem → Option R), opsT E ops ps (⟨d, o, some (t, b)⟩ :: os) acc g M k = gdK (lk g t) b (opK E o g M (nxtT E ops ps d os acc g M k)) (nxtT E ops ps d os acc g M k (.v .undef) M)) ∧
    (∀ {R : Type} (E : Call) (ops : List XOper) (ps : List (Nat × Nat)) (acc : List (Regs × Mem)) (g : Regs) (M : Mem) (k : Regs → Mem → Option R), opsT E ops ps [] acc g M k = endT E ops ps (acc ++ [(g, M)]) (k g M)) ∧
    (∀ {R : Type} (E : Call) (ops : List XOper) (ps : List (Nat × Nat)) (d : Nat) (os : List XOper) (acc : List (Regs × Mem)) (g : Regs) (M0 : Mem) (k : Regs → Mem → Option R) (v : RV) (M : Mem), nxtT E ops ps (some d) os acc g M0 k v M = opsT E ops ps os (acc ++ [(g, M0)]) ((d, v) :: g) M k) :=
  ⟨@runK_seq, @runK_reg, @runK_draw0, @runK_drawT, @runK_block, @runK_cond, @runK_loop, @runK_skip, @runK_ret, @runK_exit, @seqK_norm, @seqK_ret, @seqK_exit, @blkK_norm, @blkK_ret, @blkK_hit, @blkK_miss, @lpK_norm, @lpK_ret, @lpK_exit, @regK_eq, @opsK_op, @opsK_og, @opsK_nil, @nxtK_some, @nxtK_none, @opsT_op, @opsT_og, @opsT_nil, @nxtT_some⟩
theorem PR1 :
    (∀ {R : Type} (E : Call) (ops : List XOper) (ps : List (Nat × Nat)) (os : List XOper) (acc : List (Regs × Mem)) (g : Regs) (M0 : Mem) (k : Regs → Mem → Option R) (v : RV) (M : Mem), nxtT E ops ps none os acc g M0 k v M = opsT E ops ps os (acc ++ [(g, M0)]) g M k) ∧
    (∀ {R : Type} (E : Call) (ops : List XOper) (tr : List (Regs × Mem)) (r : Option R), endT E ops [] tr r = r) ∧
    (∀ {R : Type} (E : Call) (x : XO) (g : Regs) (M : Mem) (k : RV → Mem → Option R), opK E (.mv x) g M k = th (ev g x) (fun a => k a M)) ∧
    (∀ {R : Type} (E : Call) (c a b : XO) (g : Regs) (M : Mem) (k : RV → Mem → Option R), opK E (.pick c a b) g M k = pickK (evv g c) (ev g a) (ev g b) (fun x => k x M)) ∧
    (∀ {R : Type} (E : Call) (ag : Bool) (sz : Nat) (x : XO) (g : Regs) (M : Mem) (k : RV → Mem → Option R), opK E (.load ag sz x) g M k = th (ev g x) (fun p => th (place M p) (fun q => th (ld ag sz q.2 q.1) (fun a => k (.v a) M)))) ∧
    (∀ {R : Type} (E : Call) (sz : Nat) (p x : XO) (g : Regs) (M : Mem) (k : RV → Mem → Option R), opK E (.store sz p x) g M k = th (ev g p) (fun p => th (evv g x) (fun a => th (cellsOf a) (fun y => if y.length = sz then th (putAt M p y) (fun M' => k (.v .undef) M') else none)))) ∧
    (∀ {R : Type} (E : Call) (o : BinOp) (x y : XO) (g : Regs) (M : Mem) (k : RV → Mem → Option R), opK E (.bin o x y) g M k = th (evv g x) (fun a => th (evv g y) (fun b => th (binV o a b) (fun c => k (.v c) M)))) ∧
    (∀ {R : Type} (E : Call) (o : Nat) (x : XO) (g : Regs) (M : Mem) (k : RV → Mem → Option R), opK E (.fadr o x) g M k = th (ev g x) (fun p => th (fadrV o p) (fun q => k q M))) ∧
    (∀ {R : Type} (E : Call) (t : Nat) (z : List AV) (g : Regs) (bx : Boxes) (st : Store) (k : RV → Mem → Option R), opK E (.alloc true t z) g ⟨bx, st⟩ k = if (lk bx t).isNone then k (.lp t 0) ⟨(t, z) :: bx, st⟩ else none) ∧
    (∀ {R : Type} (E : Call) (t : Nat) (z : List AV) (g : Regs) (bx : Boxes) (st : Store) (k : RV → Mem → Option R), opK E (.alloc false t z) g ⟨bx, st⟩ k = k (.v (.ptr st.length 0 0 0)) ⟨bx, st ++ [⟨[z], z.length, 0, .own⟩]⟩) ∧
    (∀ {R : Type} (E : Call) (t sz : Nat) (x : XO) (g : Regs) (bx : Boxes) (st : Store) (k : RV → Mem → Option R), opK E (.box true t sz x) g ⟨bx, st⟩ k = th (evv g x) (fun a => th (cellsOf a) (fun y => if (lk bx t).isNone ∧ y.length = sz then k (.lp t 0) ⟨(t, y) :: bx, st⟩ else none))) ∧
    (∀ {R : Type} (E : Call) (t sz : Nat) (x : XO) (g : Regs) (bx : Boxes) (st : Store) (k : RV → Mem → Option R), opK E (.box false t sz x) g ⟨bx, st⟩ k = th (evv g x) (fun a => th (cellsOf a) (fun y => if y.length = sz then k (.v (.ptr st.length 0 0 0)) ⟨bx, st ++ [⟨[y], sz, 0, .own⟩]⟩ else none))) ∧
    (∀ {R : Type} (E : Call) (sz : Nat) (x i : XO) (g : Regs) (bx : Boxes) (st : Store) (k : RV → Mem → Option R), opK E (.iadr sz x i) g ⟨bx, st⟩ k = th (evv g x) (fun a => th (evv g i) (fun b => th (iadrV st sz a b) (fun q => k (.v q) ⟨bx, st⟩)))) ∧
    (∀ {R : Type} (E : Call) (ag : Bool) (o sz : Nat) (x : XO) (g : Regs) (M : Mem) (k : RV → Mem → Option R), opK E (.fld ag o sz x) g M k = th (evv g x) (fun a => th (fldV ag o sz a) (fun q => k (.v q) M))) ∧
    (∀ {R : Type} (E : Call) (neg : Bool) (x y : XO) (g : Regs) (M : Mem) (k : RV → Mem → Option R), opK E (.beq neg x y) g M k = th (evv g x) (fun a => th (evv g y) (fun b => th (beqV neg a b) (fun q => k (.v q) M)))) ∧
    (∀ {R : Type} (E : Call) (neg : Bool) (ks : List CK) (x y : XO) (g : Regs) (M : Mem) (k : RV → Mem → Option R), opK E (.seq neg ks x y) g M k = th (evv g x) (fun a => th (evv g y) (fun b => th (seqV neg ks a b) (fun q => k (.v q) M)))) ∧
    (∀ {R : Type} (E : Call) (kd : NK) (neg : Bool) (x : XO) (g : Regs) (M : Mem) (k : RV → Mem → Option R), opK E (.isnil kd neg x) g M k = th (evv g x) (fun a => th (isnilV kd neg a) (fun q => k (.v q) M))) ∧
    (∀ {R : Type} (E : Call) (x : XO) (g : Regs) (M : Mem) (k : RV → Mem → Option R), opK E (.bnot x) g M k = th (evv g x) (fun a => th (bnotV a) (fun q => k (.v q) M))) ∧
    (∀ {R : Type} (E : Call) (x : XO) (g : Regs) (M : Mem) (k : RV → Mem → Option R), opK E (.neg x) g M k = th (evv g x) (fun a => th (negV a) (fun q => k (.v q) M))) ∧
    (∀ {R : Type} (E : Call) (st : Bool) (x : XO) (g : Regs) (M : Mem) (k : RV → Mem → Option R), opK E (.len st x) g M k = th (evv g x) (fun a => th (lenV st a) (fun q => k (.v q) M))) ∧
    (∀ {R : Type} (E : Call) (x : XO) (i : Nat) (g : Regs) (M : Mem) (k : RV → Mem → Option R), opK E (.ext x i) g M k = th (evv g x) (fun a => th (extV i a) (fun q => k (.v q) M))) ∧
    (∀ {R : Type} (E : Call) (z : List AV) (ps : List (Nat × Nat × XO)) (g : Regs) (M : Mem) (k : RV → Mem → Option R), opK E (.build z ps) g M k = th (fillP g z ps) (fun cs => k (.v (.agg cs)) M)) ∧
    (∀ {R : Type} (E : Call) (sz n : Nat) (z : List AV) (ps : List (Nat × XO)) (g : Regs) (M : Mem) (k : RV → Mem → Option R), opK E (.bsl true sz n z ps) g M k = th (fillS g sz (List.replicate n z) ps) (fun els => k (.ls els) M)) ∧
    (∀ {R : Type} (E : Call) (sz n : Nat) (z : List AV) (ps : List (Nat × XO)) (g : Regs) (bx : Boxes) (st : Store) (k : RV → Mem → Option R), opK E (.bsl false sz n z ps) g ⟨bx, st⟩ k = th (fillS g sz (List.replicate n z) ps) (fun els => k (.v (.sl st.length 0 0 n)) ⟨bx, st ++ [⟨els, sz, 0, .own⟩]⟩)) ∧
    (∀ {R : Type} (E : Call) (sz bytes : Nat) (x y : XO) (g : Regs) (bx : Boxes) (st : Store) (k : RV → Mem → Option R), opK E (.app sz bytes x y) g ⟨bx, st⟩ k = th (evv g x) (fun a => th (ev g y) (fun b => th (elsOf ⟨bx, st⟩ sz b) (fun ys => th (appV sz bytes st ys a) (fun q => k (.v q.1) ⟨bx, q.2⟩))))) ∧
    (∀ {R : Type} (E : Call) (sz : Nat) (x : XO) (l h : Option XO) (g : Regs) (bx : Boxes) (st : Store) (k : RV → Mem → Option R), opK E (.slc sz x l h) g ⟨bx, st⟩ k = th (evv g x) (fun a => th (slcV g st sz l h a) (fun q => k (.v q) ⟨bx, st⟩))) ∧
    (∀ {R : Type} (E : Call) (x : XO) (l h : Option XO) (g : Regs) (M : Mem) (k : RV → Mem → Option R), opK E (.sstr x l h) g M k = th (evv g x) (fun a => th (sstrV g l h a) (fun q => k (.v q) M))) ∧
    (∀ {R : Type} (E : Call) (x y : XO) (g : Regs) (M : Mem) (k : RV → Mem → Option R), opK E (.idx x y) g M k = th (evv g x) (fun a => th (evv g y) (fun b => th (idxV a b) (fun q => k (.v q) M)))) ∧
    (∀ {R : Type} (E : Call) (x : XO) (g : Regs) (bx : Boxes) (st : Store) (k : RV → Mem → Option R), opK E (.s2b x) g ⟨bx, st⟩ k = th (evv g x) (fun a => th (strOf a) (fun s => k (.v (.sl st.length 0 0 s.length)) ⟨bx, st ++ [⟨s.map fun b => [.int .u8 (b.toNat : Nat)], 1, 0, .own⟩]⟩))) ∧
    (∀ {R : Type} (E : Call) (x : XO) (g : Regs) (M : Mem) (k : RV → Mem → Option R), opK E (.b2s x) g M k = th (ev g x) (fun b => th (elsOf M 1 b) (fun els => th (allSome byteOfCell els) (fun s => k (.v (.str s)) M)))) :=
  ⟨@nxtT_none, @endT_nil, @opK_mv, @opK_pick, @opK_load, @opK_store, @opK_bin, @opK_fadr, @opK_alloc, @opK_allocE, @opK_box, @opK_boxE, @opK_iadr, @opK_fld, @opK_beq, @opK_seq, @opK_isnil, @opK_bnot, @opK_neg, @opK_len, @opK_ext, @opK_build, @opK_bsl, @opK_bslE, @opK_app, @opK_slc, @opK_sstr, @opK_idx, @opK_s2b, @opK_b2s⟩
theorem PR2 :
    (∀ {R : Type} (E : Call) (kd : IntKind) (x : XO) (g : Regs) (M : Mem) (k : RV → Mem → Option R), opK E (.cvt kd x) g M k = th (evv g x) (fun a => th (intOf a) (fun n => k (.v (.int kd (kd.wrap n))) M))) ∧
    (∀ {R : Type} (E : Call) (sz bytes : Nat) (z : List AV) (l c : XO) (g : Regs) (bx : Boxes) (st : Store) (k : RV → Mem → Option R), opK E (.mks sz bytes z l c) g ⟨bx, st⟩ k = th (evv g l) (fun a => th (evv g c) (fun b => th (mksV sz bytes z st a b) (fun q => k (.v q.1) ⟨bx, q.2⟩)))) ∧
    (∀ {R : Type} (E : Call) (x : XO) (g : Regs) (M : Mem) (k : RV → Mem → Option R), opK E (.nilc x) g M k = th (ev g x) (fun p => th (nilcV p) (fun q => k q M))) ∧
    (∀ {R : Type} (E : Call) (f : FuncId) (cs : List XO) (g : Regs) (M : Mem) (k : RV → Mem → Option R), opK E (.mkf f cs) g M k = th (evs g cs) (fun as => k (.v (.fn f as)) M)) ∧
    (∀ {R : Type} (E : Call) (f : FuncId) (args : List XO) (g : Regs) (M : Mem) (k : RV → Mem → Option R), opK E (.call f args) g M k = th (evs g args) (fun as => th (E f as M.st) (fun p => k (.v p.1) ⟨M.bx, p.2⟩))) ∧
    (∀ {R : Type} (E : Call) (x : XO) (args : List XO) (g : Regs) (M : Mem) (k : RV → Mem → Option R), opK E (.calld x args) g M k = fnK (evv g x) (fun f caps => th (evs g args) (fun as => th (E f (as ++ caps) M.st) (fun p => k (.v p.1) ⟨M.bx, p.2⟩)))) ∧
    (∀ {R : Type} (E : Call) (big : Bool) (x y : XO) (g : Regs) (M : Mem) (k : RV → Mem → Option R), opK E (.mx big x y) g M k = th (evv g x) (fun a => th (evv g y) (fun b => th (mxV big a b) (fun q => k (.v q) M)))) ∧
    (∀ (res : List XRes) (st : Store) (s : S), finK res false st .ret s = th (result s res) (fun a => some (a, s.2.st))) ∧
    (∀ (res : List XRes) (st : Store) (s : S), finK res false st .norm s = th (result s res) (fun a => some (a, s.2.st))) ∧
    (∀ {α : Type} (c : Bool) (a b : Option α), ch c a b = br c a b) ∧
    (∀ {α : Type} (a b : Option α), ch true a b = a) ∧
    (∀ {α : Type} (a b : Option α), ch false a b = b) ∧
    (∀ {α : Type} (a b : Option α), br true a b = a) ∧
    (∀ {α : Type} (a b : Option α), br false a b = b) ∧
    (∀ {α : Type} (c : Bool) (a b : Option α), br (!c) a b = br c b a) :=
  ⟨@opK_cvt, @opK_mks, @opK_nilc, @opK_mkf, @opK_call, @opK_calld, @opK_mx, @finK_ret, @finK_norm, @ch_br, @ch_true, @ch_false, @br_true, @br_false, @br_not⟩
theorem PO0 :
    (∀ {R : Type} (g : Regs) (bx : Boxes) (k : Regs → Boxes → Option R), frK g bx k = k g bx) ∧
    (∀ {α : Type} {β : Type} (a : α) (k : α → Option β), th (some a) k = k a) ∧
    (∀ {α : Type} {β : Type} (k : α → Option β), th (none : Option α) k = none) ∧
    (∀ {R : Type} (t : Bool) (a b : Option R), boolK (some (.bool t)) a b = ch t a b) ∧
    (∀ {R : Type} (c : Bool) (x y : Option R), gdK (some (.v (.bool c))) true x y = ch c x y) ∧
    (∀ {R : Type} (c : Bool) (x y : Option R), gdK (some (.v (.bool c))) false x y = ch c y x) ∧
    (∀ {R : Type} (b : Bool) (x y : Option R), gdK (some (.v .undef)) b x y = y) ∧
    (∀ {R : Type} (t x y : Bool) (k : RV → Option R), pickK (some (.bool t)) (some (.v (.bool x))) (some (.v (.bool y))) k = k (.v (.bool (bif t then x else y)))) ∧
    (∀ {R : Type} (t : Bool) (a b : RV) (k : RV → Option R), pickK (some (.bool t)) (some a) (some b) k = ch t (k a) (k b)) ∧
    (∀ {R : Type} (f : FuncId) (caps : List AV) (k : FuncId → List AV → Option R), fnK (some (.fn f caps)) k = k f caps) ∧
    (∀ (g : Regs) (n : Nat), ev g (.t n) = lk g n) ∧
    (∀ (g : Regs) (v : AV), ev g (.c v) = some (.v v)) ∧
    (∀ (g : Regs) (n : Nat), evv g (.t n) = th (lk g n) RV.av) ∧
    (∀ (g : Regs) (v : AV), evv g (.c v) = some v) ∧
    (∀ (g : Regs), evs g [] = some []) ∧
    (∀ (g : Regs) (x : XO) (l : List XO), evs g (x :: l) = th (evv g x) (fun a => th (evs g l) (fun as => some (a :: as)))) ∧
    (∀ (a : AV), RV.av (.v a) = some a) ∧
    (∀ {α : Type} (n : Nat) (a : α) (l : List (Nat × α)), lk ((n, a) :: l) n = some a) ∧
    (∀ {α : Type} {m n : Nat} (h : m ≠ n) (a : α) (l : List (Nat × α)), lk ((m, a) :: l) n = lk l n) ∧
    (∀ {α : Type} (n : Nat), lk ([] : List (Nat × α)) n = none) ∧
    (∀ (g : Regs) (bx : Boxes), projR g bx [] = []) ∧
    (∀ (g : Regs) (bx : Boxes) (t : Nat) (l : List Nat), projR g bx (t :: l) = pr1 (lk g t) t bx (projR g bx l)) ∧
    (∀ (g : Regs) (bx : Boxes), projB g bx [] = []) ∧
    (∀ (g : Regs) (bx : Boxes) (t : Nat) (l : List Nat), projB g bx (t :: l) = pb1 (lk g t) t (lk bx t) (projB g bx l)) ∧
    (∀ (a : AV) (t : Nat) (bx : Boxes) (r : Regs), pr1 (some (.v a)) t bx r = (t, .v a) :: r) ∧
    (∀ (t : Nat) (bx : Boxes) (r : Regs), pr1 none t bx r = r) ∧
    (∀ (t : Nat) (bx : Boxes) (r : Regs), pr1 (some (.lp t 0)) t bx r = match lk bx t with | some _ => (t, .lp t 0) :: r | none => r) ∧
    (∀ (els : List (List AV)) (t : Nat) (bx : Boxes) (r : Regs), pr1 (some (.ls els)) t bx r = r) ∧
    (∀ (a : AV) (t : Nat) (c : Option (List AV)) (r : Boxes), pb1 (some (.v a)) t c r = r) ∧
    (∀ (t : Nat) (c : Option (List AV)) (r : Boxes), pb1 none t c r = r) :=
  ⟨@frK_eq, @th_some, @th_none, @boolK_bool, @gdK_true, @gdK_false, @gdK_undef, @pickK_bb, @pickK_bool, @fnK_fn, @ev_t, @ev_c, @evv_t, @evv_c, @evs_nil, @evs_cons, @av_v, @lk_hit, @lk_miss, @lk_nil, @projR_nil, @projR_cons, @projB_nil, @projB_cons, @pr1_v, @pr1_none, @pr1_lp, @pr1_ls, @pb1_v, @pb1_none⟩
theorem PO1 :
    (∀ (v : Option RV) (t : Nat) (r : Boxes), pb1 v t none r = r) ∧
    (∀ (t : Nat) (cs : List AV) (r : Boxes), pb1 (some (.lp t 0)) t (some cs) r = (t, cs) :: r) ∧
    (∀ (k : IntKind) (a b : Int), binV .add (.int k a) (.int k b) = some (.int k (k.wrap (a + b)))) ∧
    (∀ (k : IntKind) (a b : Int), binV .sub (.int k a) (.int k b) = some (.int k (k.wrap (a - b)))) ∧
    (∀ (k : IntKind) (a b : Int), binV .mul (.int k a) (.int k b) = some (.int k (k.wrap (a * b)))) ∧
    (∀ (k : IntKind) (a b : Int), binV .eql (.int k a) (.int k b) = some (.bool (a == b))) ∧
    (∀ (k : IntKind) (a b : Int), binV .neq (.int k a) (.int k b) = some (.bool (a != b))) ∧
    (∀ (k : IntKind) (a b : Int), binV .lss (.int k a) (.int k b) = some (.bool (decide (a < b)))) ∧
    (∀ (k : IntKind) (a b : Int), binV .leq (.int k a) (.int k b) = some (.bool (decide (a ≤ b)))) ∧
    (∀ (k : IntKind) (a b : Int), binV .gtr (.int k a) (.int k b) = some (.bool (decide (b < a)))) ∧
    (∀ (k : IntKind) (a b : Int), binV .geq (.int k a) (.int k b) = some (.bool (decide (b ≤ a)))) ∧
    (∀ (a b : List UInt8), binV .eql (.str a) (.str b) = some (.bool (a == b))) ∧
    (∀ (a b : List UInt8), binV .neq (.str a) (.str b) = some (.bool (a != b))) ∧
    (∀ (a b : List UInt8), binV .lss (.str a) (.str b) = some (.bool (Op.bytesLess a b))) ∧
    (∀ (a b : List UInt8), binV .leq (.str a) (.str b) = some (.bool (Op.bytesLess a b || a == b))) ∧
    (∀ (a b : List UInt8), binV .gtr (.str a) (.str b) = some (.bool (!(Op.bytesLess a b || a == b)))) ∧
    (∀ (a b : List UInt8), binV .geq (.str a) (.str b) = some (.bool (!(Op.bytesLess a b)))) ∧
    (∀ (k : IntKind) (n : Int), cellsOf (.int k n) = some [.int k n]) ∧
    (∀ (b : Bool), cellsOf (.bool b) = some [.bool b]) ∧
    (∀ (s : List UInt8), cellsOf (.str s) = some [.str s]) ∧
    (∀ (cs : List AV), cellsOf (.agg cs) = some cs) ∧
    (∀ (r v i n : Nat), cellsOf (.sl r v i n) = some [.sl r v i n]) ∧
    (cellsOf .nilsl = some [.nilsl]) ∧
    (∀ (r v i n : Nat), cellsOf (.ptr r v i n) = some [.ptr r v i n]) ∧
    (cellsOf .nilptr = some [.nilptr]) ∧
    (∀ (f : FuncId) (cs : List AV), cellsOf (.fn f cs) = some [.fn f cs]) ∧
    (cellsOf .nilfn = some [.nilfn]) ∧
    (∀ (bx : Boxes) (st : Store) (t o : Nat), place ⟨bx, st⟩ (.lp t o) = th (lk bx t) (fun cs => some (cs, o))) ∧
    (∀ (sz o : Nat) (cs : List AV), ld false sz o cs = cs[o]?) ∧
    (∀ {sz o : Nat} {cs : List AV} (h : o + sz ≤ cs.length), ld true sz o cs = some (.agg ((cs.drop o).take sz))) :=
  ⟨@pb1_nob, @pb1_lp, @binV_add, @binV_sub, @binV_mul, @binV_eql, @binV_neq, @binV_lss, @binV_leq, @binV_gtr, @binV_geq, @binV_seql, @binV_sneq, @binV_slss, @binV_sleq, @binV_sgtr, @binV_sgeq, @cellsOf_int, @cellsOf_bool, @cellsOf_str, @cellsOf_agg, @cellsOf_sl, @cellsOf_nilsl, @cellsOf_ptr, @cellsOf_nilptr, @cellsOf_fn, @cellsOf_nilfn, @place_lp, @ld_cell, @ld_agg⟩
theorem PO2 :
    (∀ (bx : Boxes) (st : Store) (t o : Nat) (y : List AV), putAt ⟨bx, st⟩ (.lp t o) y = th (lk bx t) (fun cs => if o + y.length ≤ cs.length then some ⟨(t, upd cs o y) :: bx, st⟩ else none)) ∧
    (∀ (o t o' : Nat), fadrV o (.lp t o') = some (.lp t (o' + o))) ∧
    (∀ (o r v i o' : Nat), fadrV o (.v (.ptr r v i o')) = some (.v (.ptr r v i (o' + o)))) ∧
    (∀ (ag : Bool) (o sz : Nat) (cs : List AV), fldV ag o sz (.agg cs) = ld ag sz o cs) ∧
    (∀ (a b : Bool), beqV false (.bool a) (.bool b) = some (.bool (a == b))) ∧
    (∀ (a b : Bool), beqV true (.bool a) (.bool b) = some (.bool (!(a == b)))) ∧
    (∀ (ks : List CK) (a b : List AV), seqV false ks (.agg a) (.agg b) = th (cellsEq ks a b) (fun e => some (.bool e))) ∧
    (∀ (ks : List CK) (a b : List AV), seqV true ks (.agg a) (.agg b) = th (cellsEq ks a b) (fun e => some (.bool (!e)))) ∧
    (cellsEq [] [] [] = some true) ∧
    (∀ (k : CK) (ks : List CK) (a b : AV) (as bs : List AV), cellsEq (k :: ks) (a :: as) (b :: bs) = th (cellEq k a b) (fun x => th (cellsEq ks as bs) (fun y => some (x && y)))) ∧
    (∀ (k : IntKind) (a b : Int), cellEq .i (.int k a) (.int k b) = some (a == b)) ∧
    (∀ (a b : Bool), cellEq .b (.bool a) (.bool b) = some (a == b)) ∧
    (∀ (a b : List UInt8), cellEq .s (.str a) (.str b) = some (a == b)) ∧
    (∀ (kd : NK) (a : AV), isnilV kd false a = th (nilOf kd a) (fun b => some (.bool b))) ∧
    (∀ (kd : NK) (a : AV), isnilV kd true a = th (nilOf kd a) (fun b => some (.bool (!b)))) ∧
    (∀ (b : Bool), bnotV (.bool b) = some (.bool (!b))) ∧
    (∀ (k : IntKind) (n : Int), negV (.int k n) = some (.int k (k.wrap (0 - n)))) ∧
    (∀ (l : List UInt8), lenV true (.str l) = some (.int .i64 l.length)) ∧
    (∀ (r v i n : Nat), lenV false (.sl r v i n) = some (.int .i64 n)) ∧
    (lenV false .nilsl = some (.int .i64 0)) ∧
    (∀ (i : Nat) (vs : List AV), extV i (.tup vs) = vs[i]?) ∧
    (∀ (g : Regs) (cs : List AV), fillP g cs [] = some cs) ∧
    (∀ (g : Regs) (cs : List AV) (o sz : Nat) (x : XO) (l : List (Nat × Nat × XO)), fillP g cs ((o, sz, x) :: l) = th (evv g x) (fun a => th (cellsOf a) (fun y => if y.length = sz ∧ o + sz ≤ cs.length then fillP g (upd cs o y) l else none))) ∧
    (∀ (g : Regs) (sz : Nat) (els : List (List AV)), fillS g sz els [] = some els) ∧
    (∀ (g : Regs) (sz : Nat) (els : List (List AV)) (i : Nat) (x : XO) (l : List (Nat × XO)), fillS g sz els ((i, x) :: l) = th (evv g x) (fun a => th (cellsOf a) (fun y => if y.length = sz ∧ i < els.length then fillS g sz (els.set i y) l else none))) ∧
    (∀ (k : IntKind) (n : Int), intOf (.int k n) = some n) ∧
    (∀ (g : Regs) (d : Nat), bnd g d none = some (d : Int)) ∧
    (∀ (g : Regs) (d : Nat) (x : XO), bnd g d (some x) = th (evv g x) intOf) ∧
    (∀ (g : Regs) (l h : Option XO) (s : List UInt8), sstrV g l h (.str s) = th (bnd g 0 l) (fun lo => th (bnd g s.length h) (fun hi => if 0 ≤ lo ∧ lo ≤ hi ∧ hi ≤ s.length then some (.str ((s.drop lo.toNat).take (hi.toNat - lo.toNat))) else none))) ∧
    (∀ (s : List UInt8), strOf (.str s) = some s) :=
  ⟨@putAt_lp, @fadrV_lp, @fadrV_ptr, @fldV_agg, @beqV_eq, @beqV_ne, @seqV_eq, @seqV_ne, @cellsEq_nil, @cellsEq_cons, @cellEq_int, @cellEq_bool, @cellEq_str, @isnilV_eq, @isnilV_ne, @bnotV_bool, @negV_int, @lenV_str, @lenV_sl, @lenV_nilsl, @extV_tup, @fillP_nil, @fillP_cons, @fillS_nil, @fillS_cons, @intOf_int, @bnd_none, @bnd_some, @sstrV_str, @strOf_str⟩
theorem PO3 :
    (∀ (sz bytes : Nat) (z : List AV) (st : Store) (n m : Int), mksV sz bytes z st (.int .i64 n) (.int .i64 m) = if 0 ≤ n ∧ n ≤ m ∧ m * bytes ≤ 140737488355328 ∧ m ≤ 140737488355328 then some (.sl st.length 0 0 n.toNat, st ++ [⟨List.replicate n.toNat z, sz, 0, .own⟩]) else none) ∧
    (∀ (r v i o : Nat), nilcV (.v (.ptr r v i o)) = some (.v (.ptr r v i o))) ∧
    (∀ (t o : Nat), nilcV (.lp t o) = some (.lp t o)) ∧
    (∀ (k : IntKind) (p q : Int), mxV true (.int k p) (.int k q) = some (.int k (if q > p then q else p))) ∧
    (∀ (k : IntKind) (p q : Int), mxV false (.int k p) (.int k q) = some (.int k (if q < p then q else p))) ∧
    (∀ (E : Call) (ops : List XOper) (tr : List (Regs × Mem)), stT E ops tr [] = True) ∧
    (∀ (E : Call) (o : XOper) (g gi gn : Regs) (M Mi Mn : Mem), st1 E (some o) (some (g, M)) (some (gi, Mi)) (some (gn, Mn)) = same3 (evG E g M o) (evG E g Mi o) (evG E g Mn o) Mi Mn) ∧
    (∀ (E : Call) (g : Regs) (M : Mem) (d : Option Nat) (ag : Bool) (sz : Nat) (x : XO), evG E g M ⟨d, .load ag sz x, none⟩ = th (ev g x) (fun p => th (place M p) (fun q => th (ld ag sz q.2 q.1) (fun a => some (.v a, M))))) ∧
    (∀ (E : Call) (g : Regs) (M : Mem) (d : Option Nat) (f : FuncId) (args : List XO), evG E g M ⟨d, .call f args, none⟩ = th (evs g args) (fun as => th (E f as M.st) (fun p => some (.v p.1, ⟨M.bx, p.2⟩)))) ∧
    (∀ (E : Call) (g : Regs) (M : Mem) (d : Option Nat) (o : XOp) (t : Nat) (b : Bool), evG E g M ⟨d, o, some (t, b)⟩ = gdK (lk g t) b (evG E g M ⟨d, o, none⟩) (some (.v .undef, M))) ∧
    (∀ (v : RV) (M Mi Mn : Mem), same3 (some (v, M)) (some (v, Mi)) (some (v, Mn)) Mi Mn = True) ∧
    (∀ (b c : Option (RV × Mem)) (Mi Mn : Mem), same3 none b c Mi Mn = True) ∧
    (∀ {R : Type} (E : Call) (ops : List XOper) (tr : List (Regs × Mem)) (j i : Nat) (ps : List (Nat × Nat)) (r : Option R) (h1 : st1 E (ops[j]?) (tr[j]?) (tr[i]?) (tr[i + 1]?)), endT E ops ((j, i) :: ps) tr r = endT E ops ps tr r) ∧
    (∀ {α : Type} {a : α} {as : List α}, (a :: as).length = as.length + 1) ∧
    (∀ {α : Type}, ([] : List α).length = 0) ∧
    (∀ {α : Type} (as : List α), as ++ [] = as) ∧
    (∀ {α : Type} (as : List α), [] ++ as = as) ∧
    (∀ {α : Type} {a : α} {as bs : List α}, (a :: as) ++ bs = a :: (as ++ bs)) ∧
    (∀ {α : Type} {a : α} {l : List α}, (a :: l)[0]? = some a) ∧
    (∀ {α : Type} {a : α} {i : Nat} {l : List α}, (a :: l)[i + 1]? = l[i]?) ∧
    (∀ {α : Type} {l : List α}, l.drop 0 = l) ∧
    (∀ {α : Type} {a : α} {l : List α} {i : Nat}, (a :: l).drop (i + 1) = l.drop i) ∧
    (∀ {α : Type} {i : Nat}, ([] : List α).drop i = []) ∧
    (∀ {α : Type} {l : List α}, l.take 0 = []) ∧
    (∀ {α : Type} {a : α} {as : List α} {i : Nat}, (a :: as).take (i + 1) = a :: as.take i) ∧
    (∀ {α : Type} {i : Nat}, ([] : List α).take i = []) ∧
    (∀ {α : Type}, (none : Option α).isNone = true) ∧
    (∀ {α : Type} {a : α}, (some a).isNone = false) ∧
    (∀ {α : Type} {a : α}, (some a).isSome = true) :=
  ⟨@mksV_int, @nilcV_ptr, @nilcV_lp, @mxV_max, @mxV_min, @stT_nil, @st1_some, @evG_load, @evG_call, @evG_gd, @same3_eq, @same3_none, @endT_cons, @List.length_cons, @List.length_nil, @List.append_nil, @List.nil_append, @List.cons_append, @List.getElem?_cons_zero, @List.getElem?_cons_succ, @List.drop_zero, @List.drop_succ_cons, @List.drop_nil, @List.take_zero, @List.take_succ_cons, @List.take_nil, @Option.isNone_none, @Option.isNone_some, @Option.isSome_some⟩
end
end Go.X

/- GoX, part 18: lists that are held in slices; the functions that the exact laws' printer writes for each type of slice (sizes, copies, comparisons), each once for all types. No statement of the seat is here. -/
set_option linter.unusedVariables false
set_option linter.unusedSimpArgs false
set_option maxRecDepth 20000
namespace Go.X
open Go
variable {α β R : Type}

abbrev op (d : Nat) (o : XOp) : XOper := ⟨some d, o, none⟩
abbrev og (d : Nat) (o : XOp) (t : Nat) (b : Bool) : XOper := ⟨some d, o, some (t, b)⟩
abbrev int (n : Int) : AV := .int .i64 n
theorem wrap64 {x : Int} (h1 : -9223372036854775808 ≤ x) (h2 : x ≤ 9223372036854775807) : IntKind.i64.wrap x = x := by
  simp [IntKind.wrap, IntKind.bits, IntKind.signed]
  omega
theorem lk_mem {α : Type} : ∀ {l : List (Nat × α)} {n : Nat} {a : α}, lk l n = some a → (n, a) ∈ l
  | (k, b) :: l, n, a, h => by
    simp only [lk] at h
    split at h
    · rename_i e; subst e; cases h; exact List.mem_cons_self
    · exact List.mem_cons_of_mem _ (lk_mem h)

/-- What cells hold, in a store. -/
abbrev Rp (α : Type) := Store → α → List AV → Prop

inductive All2 {α β : Type} (P : α → β → Prop) : List α → List β → Prop where
  | nil : All2 P [] []
  | cons {a b l m} : P a b → All2 P l m → All2 P (a :: l) (b :: m)

theorem All2.length {P : α → β → Prop} {l : List α} {m : List β} (h : All2 P l m) : l.length = m.length := by
  induction h with
  | nil => rfl
  | cons _ _ ih => simp [ih]
theorem All2.imp {P Q : α → β → Prop} (hpq : ∀ a b, P a b → Q a b) {l : List α} {m : List β} (h : All2 P l m) : All2 Q l m := by
  induction h with
  | nil => exact .nil
  | cons h1 _ ih => exact .cons (hpq _ _ h1) ih
theorem All2.imp_mem {P Q : α → β → Prop} {l : List α} {m : List β} (h : All2 P l m) (hpq : ∀ a b, a ∈ l → P a b → Q a b) : All2 Q l m := by
  induction h with
  | nil => exact .nil
  | cons h1 _ ih => exact .cons (hpq _ _ (by simp) h1) (ih (fun a b ha => hpq a b (List.mem_cons_of_mem _ ha)))
theorem All2.get {P : α → β → Prop} {l : List α} {m : List β} (h : All2 P l m) : ∀ {i : Nat} {a : α}, l[i]? = some a → ∃ b, m[i]? = some b ∧ P a b := by
  induction h with
  | nil => intro i a hi; simp at hi
  | cons h1 _ ih =>
    intro i a hi
    cases i with
    | zero => simp at hi; subst hi; exact ⟨_, rfl, h1⟩
    | succ i => simpa using ih (by simpa using hi)
theorem All2.snoc {P : α → β → Prop} {l : List α} {m : List β} (h : All2 P l m) {a : α} {b : β} (hab : P a b) : All2 P (l ++ [a]) (m ++ [b]) := by
  induction h with
  | nil => exact .cons hab .nil
  | cons h1 _ ih => exact .cons h1 ih
theorem All2.append {P : α → β → Prop} {l l' : List α} {m m' : List β} (h : All2 P l m) (h' : All2 P l' m') : All2 P (l ++ l') (m ++ m') := by
  induction h with
  | nil => exact h'
  | cons h1 _ ih => exact .cons h1 ih
theorem All2.map {P : α → β → Prop} {f : α → β} {l : List α} (h : ∀ a ∈ l, P a (f a)) : All2 P l (l.map f) := by
  induction l with
  | nil => exact .nil
  | cons a l ih => exact .cons (h a (by simp)) (ih (fun b hb => h b (List.mem_cons_of_mem _ hb)))
theorem All2.eq_map {f : α → β} {l : List α} {m : List β} (h : All2 (fun a b => b = f a) l m) : m = l.map f := by
  induction h with
  | nil => rfl
  | cons h1 _ ih => rw [h1, ih]; rfl
theorem All2.drop {P : α → β → Prop} {l : List α} {m : List β} (h : All2 P l m) : ∀ n, All2 P (l.drop n) (m.drop n) := by
  induction h with
  | nil => intro n; simp; exact .nil
  | cons h1 h2 ih =>
    intro n
    cases n with
    | zero => exact .cons h1 h2
    | succ n => exact ih n
theorem All2.take {P : α → β → Prop} {l : List α} {m : List β} (h : All2 P l m) : ∀ n, All2 P (l.take n) (m.take n) := by
  induction h with
  | nil => intro n; simp; exact .nil
  | cons h1 h2 ih =>
    intro n
    cases n with
    | zero => exact .nil
    | succ n => exact .cons h1 (ih n)

/-- A slice holds a list. -/
def RS (P : Rp α) (sz : Nat) (σ : Store) (l : List α) (a : AV) : Prop := ∃ els, SlAt σ sz a els ∧ All2 (P σ) l els
theorem RS.len {P : Rp α} {sz : Nat} {σ : Store} {l : List α} {a : AV} (h : RS P sz σ l a) : lenV false a = some (.int .i64 l.length) := by
  obtain ⟨els, h1, h2⟩ := h
  rw [h1.len, h2.length]
theorem RS.cellsOf {P : Rp α} {sz : Nat} {σ : Store} {l : List α} {a : AV} (h : RS P sz σ l a) : Go.X.cellsOf a = some [a] := by
  obtain ⟨els, h1, h2⟩ := h
  exact h1.cellsOf
theorem RS.iadr {P : Rp α} {sz : Nat} {σ : Store} {l : List α} {a : AV} (h : RS P sz σ l a) (k : IntKind) {i : Nat} (hi : i < l.length) : iadrV σ sz a (.int k i) = some (elP a i) := by
  obtain ⟨els, h1, h2⟩ := h
  exact h1.iadr k (by rw [← h2.length]; exact hi)
theorem RS.get {P : Rp α} {sz : Nat} {σ : Store} {l : List α} {a : AV} (h : RS P sz σ l a) {i : Nat} {m : α} (hi : l[i]? = some m) :
    ∃ cs, P σ m cs ∧ iadrV σ sz a (.int .i64 i) = some (elP a i) ∧ (∀ bx, place ⟨bx, σ⟩ (.v (elP a i)) = some (cs, 0)) ∧ (∀ o, fadrV o (.v (elP a i)) = some (.v (elQ a i o))) ∧ ∀ bx o, place ⟨bx, σ⟩ (.v (elQ a i o)) = some (cs, o) := by
  obtain ⟨els, h1, h2⟩ := h
  obtain ⟨cs, h3, h4⟩ := h2.get hi
  have hl := (List.getElem?_eq_some_iff.1 h3).1
  exact ⟨cs, h4, h1.iadr .i64 hl, fun bx => h1.place bx h3, fun o => h1.fadrQ hl o, fun bx o => h1.placeQ bx h3 o⟩

/-- It holds whatever the rows before lo are. -/
def FR (lo : Nat) (st : Store) (P : Store → Prop) : Prop := ∀ st' : Store, (∀ r, lo ≤ r → r < st.length → st'[r]? = st[r]?) → P st'
theorem FR.self {lo : Nat} {st : Store} {P : Store → Prop} (h : FR lo st P) : P st := h st (fun _ _ _ => rfl)
theorem FR.mono {lo lo' : Nat} {st st' : Store} {P : Store → Prop} (h : FR lo st P) (hl : lo' ≤ lo) (hs : st.length ≤ st'.length) (he : ∀ r, lo ≤ r → r < st.length → st'[r]? = st[r]?) : FR lo' st' P :=
  fun st2 h2 => h st2 (fun r h3 h4 => by rw [h2 r (Nat.le_trans hl h3) (Nat.lt_of_lt_of_le h4 hs)]; exact he r h3 h4)
theorem FR.imp {lo : Nat} {st : Store} {P Q : Store → Prop} (h : FR lo st P) (hpq : ∀ s, P s → Q s) : FR lo st Q := fun st' h' => hpq _ (h st' h')
theorem FR.of {lo : Nat} {st : Store} {P : Store → Prop} (h : ∀ s, P s) : FR lo st P := fun st' _ => h st'

theorem ld_all {sz : Nat} {cs : List AV} (h : cs.length = sz) : ld true sz 0 cs = some (.agg cs) := by
  subst h; simp [ld]

/-- A store into an element of the row that stands at the end of σ. -/
theorem putAt_row (σ t : Store) (els : List (List AV)) (sz i : Nat) (cs y : List AV) (bx : Boxes) (hi : els[i]? = some cs) (hl : y.length = cs.length) :
    putAt ⟨bx, σ ++ ⟨els, sz, 0, .own⟩ :: t⟩ (.v (elP (.sl σ.length 0 0 els.length) i)) y = some ⟨bx, σ ++ ⟨els.set i y, sz, 0, .own⟩ :: t⟩ := by
  have hr : rowAt (σ ++ ⟨els, sz, 0, .own⟩ :: t) σ.length 0 = some ⟨els, sz, 0, .own⟩ := by simp [rowAt]
  simp only [elP, Nat.zero_add, putAt, hr, Option.bind_some, hi]
  rw [if_pos ⟨trivial, by omega⟩]
  simp [upd, hl]
theorem iadr_row (σ t : Store) (els : List (List AV)) (sz n : Nat) (hn : n = els.length) (i : Nat) (hi : i < n) :
    iadrV (σ ++ ⟨els, sz, 0, .own⟩ :: t) sz (.sl σ.length 0 0 n) (.int .i64 i) = some (elP (.sl σ.length 0 0 n) i) := by
  have hr : rowAt (σ ++ ⟨els, sz, 0, .own⟩ :: t) σ.length 0 = some ⟨els, sz, 0, .own⟩ := by simp [rowAt]
  have h : SlAt (σ ++ ⟨els, sz, 0, .own⟩ :: t) sz (.sl σ.length 0 0 n) els := by
    have := SlAt.mk (i := 0) (n := n) hr rfl (by simp [hn])
    simpa [hn] using this
  exact h.iadr .i64 (by omega)

/-- What a box that has escaped holds. -/
theorem place_row (σ t : Store) (cs : List AV) (sz o : Nat) (bx : Boxes) : place ⟨bx, σ ++ ⟨[cs], sz, 0, .own⟩ :: t⟩ (.v (.ptr σ.length 0 0 o)) = some (cs, o) := by
  have hr : rowAt (σ ++ ⟨[cs], sz, 0, .own⟩ :: t) σ.length 0 = some ⟨[cs], sz, 0, .own⟩ := by simp [rowAt]
  simp [place, hr]
theorem putAt_box (σ t : Store) (cs : List AV) (sz o : Nat) (y : List AV) (bx : Boxes) (h : o + y.length ≤ cs.length) :
    putAt ⟨bx, σ ++ ⟨[cs], sz, 0, .own⟩ :: t⟩ (.v (.ptr σ.length 0 0 o)) y = some ⟨bx, σ ++ ⟨[upd cs o y], sz, 0, .own⟩ :: t⟩ := by
  have hr : rowAt (σ ++ ⟨[cs], sz, 0, .own⟩ :: t) σ.length 0 = some ⟨[cs], sz, 0, .own⟩ := by simp [rowAt]
  simp only [putAt, hr, Option.bind_some, List.getElem?_cons_zero]
  rw [if_pos ⟨trivial, h⟩]
  simp

/-! ### Who owns a slice's row -/

/-- The slice's row, if there is one, is as K says. -/
def KA (K : Nat → Row → Prop) (σ : Store) (a : AV) : Prop := ∀ r v i n, a = .sl r v i n → ∃ row, rowAt σ r v = some row ∧ K r row
/-- A row of the store's own, from lo on and before hi. -/
def ownK (lo hi : Nat) : Nat → Row → Prop := fun r row => lo ≤ r ∧ r < hi ∧ row.kd = .own
theorem KA.imp {K K' : Nat → Row → Prop} (hk : ∀ r row, K r row → K' r row) {σ : Store} {a : AV} (h : KA K σ a) : KA K' σ a := fun r v i n e => let ⟨row, h1, h2⟩ := h r v i n e; ⟨row, h1, hk r row h2⟩
theorem KA.wide {lo lo' hi hi' : Nat} (hl : lo' ≤ lo) (hh : hi ≤ hi') {σ : Store} {a : AV} (h : KA (ownK lo hi) σ a) : KA (ownK lo' hi') σ a := h.imp (fun r row ⟨h1, h2, h3⟩ => ⟨Nat.le_trans hl h1, Nat.lt_of_lt_of_le h2 hh, h3⟩)
theorem KA.mono {K : Nat → Row → Prop} {σ : Store} {a : AV} (h : KA K σ a) (ext : Store) : KA K (σ ++ ext) a := fun r v i n e => let ⟨row, h1, h2⟩ := h r v i n e; ⟨row, rowAt_append h1 ext, h2⟩
theorem KA.nil (K : Nat → Row → Prop) (σ : Store) : KA K σ .nilsl := fun _ _ _ _ e => by cases e
/-- Rows before lo and from hi on are as they were. -/
def Same (lo hi : Nat) (σ σ' : Store) : Prop := σ'.length = σ.length ∧ ∀ r, r < lo ∨ hi ≤ r → σ'[r]? = σ[r]?
theorem Same.refl (lo hi : Nat) (σ : Store) : Same lo hi σ σ := ⟨rfl, fun _ _ => rfl⟩
theorem Same.trans {lo hi : Nat} {a b c : Store} (h : Same lo hi a b) (k : Same lo hi b c) : Same lo hi a c := ⟨k.1.trans h.1, fun r hr => (k.2 r hr).trans (h.2 r hr)⟩

/-! ### Copies -/

def toSBody (sz : Nat) (f : FuncId) : XC := (.seq (.seq (.reg [op 8 (.mv (.t 4)), op 9 (.mv (.t 0)), op 10 (.len false (.t 9)), op 11 (.bin .lss (.t 8) (.t 10))] [0, 3, 4, 11] none) (.cond (.t 11) .skip (.exit 0))) (.seq (.block 1 (.reg [op 14 (.mv (.t 3)), op 15 (.mv (.t 4)), op 16 (.mv (.t 0)), op 17 (.mv (.t 4)), op 18 (.iadr sz (.t 16) (.t 17)), op 19 (.load true sz (.t 18)), op 20 (.call f [(.t 19)]), op 21 (.iadr sz (.t 14) (.t 15)), XOper.mk none (.store sz (.t 21) (.t 20)) none] [0, 3, 4] none)) (.reg [op 12 (.mv (.t 4)), op 13 (.bin .add (.t 12) (.c (.int .i64 1))), op 4 (.mv (.t 13))] [0, 3, 4] none)))
def toSFun (l : XC) (sz bytes : Nat) (z : List AV) : CFun := CFun.mk 1 (.seq (.reg [op 2 (.mv (.c .nilsl))] [0] none) (.seq (.reg [op 5 (.mv (.t 0)), op 6 (.len false (.t 5)), op 7 (.mks sz bytes z (.t 6) (.t 6)), op 3 (.mv (.t 7))] [0, 3] none) (.seq (.seq (.reg [op 4 (.mv (.c (.int .i64 0)))] [0, 3, 4] none) (.block 0 (.loop [0, 3, 4] l))) (.seq (.reg [op 22 (.mv (.t 3)), op 2 (.mv (.t 22))] [2] none) .ret)))) [(.t 2)] false

/-- What a copier of elements does. -/
def Copies (E : Call) (f : FuncId) (P : Rp α) (Q : Nat → Nat → Rp α) (sz : Nat) : Prop := ∀ σ m cs, P σ m cs → ∃ cs' ext, E f [.agg cs] σ = some (.agg cs', σ ++ ext) ∧ cs'.length = sz ∧ FR σ.length (σ ++ ext) (fun st => Q σ.length (σ ++ ext).length st m cs')
/-- What is owned within bounds is owned within wider ones. -/
def Wide (Q : Nat → Nat → Rp α) : Prop := ∀ lo lo' hi hi' σ m cs, lo' ≤ lo → hi ≤ hi' → Q lo hi σ m cs → Q lo' hi' σ m cs
/-- More rows do no harm. -/
def Mono (P : Rp α) : Prop := ∀ σ ext m cs, P σ m cs → P (σ ++ ext) m cs
def Sized (P : Rp α) (sz : Nat) : Prop := ∀ σ m cs, P σ m cs → cs.length = sz

theorem RS.mono {P : Rp α} (hP : Mono P) {sz : Nat} {σ : Store} {l : List α} {a : AV} (h : RS P sz σ l a) (ext : Store) : RS P sz (σ ++ ext) l a := by
  obtain ⟨els, h1, h2⟩ := h
  exact ⟨els, h1.append ext, h2.imp (fun m cs h => hP σ ext m cs h)⟩

section
variable {E : Call} {f : FuncId} {P : Rp α} {Q : Nat → Nat → Rp α} {sz : Nat}

theorem toS_loop (hf : Copies E f P Q sz) (hQ : Wide Q) (hM : Mono P) (hS : Sized P sz) (σ : Store) (a : AV) (l : List α) (ha : RS P sz σ l a) (z : List AV) (hz : z.length = sz) (hn : l.length ≤ 140737488355328) (k : Out → S → Option R) :
    ∀ (m i : Nat) (done : List (List AV)) (ext : Store), m = l.length - i → i ≤ l.length → All2 (fun m cs => cs.length = sz ∧ FR (σ.length + 1) (σ ++ ⟨done ++ List.replicate (l.length - i) z, sz, 0, .own⟩ :: ext) (fun st => Q σ.length (σ.length + 1 + ext.length) st m cs)) (l.take i) done →
      ∃ done' ext', All2 (fun m cs => cs.length = sz ∧ FR (σ.length + 1) (σ ++ ⟨done', sz, 0, .own⟩ :: ext') (fun st => Q σ.length (σ.length + 1 + ext'.length) st m cs)) l done' ∧
      loopK E [0, 3, 4] (toSBody sz f) ([(0, .v a), (3, .v (.sl σ.length 0 0 l.length)), (4, .v (int i))], ⟨[], σ ++ ⟨done ++ List.replicate (l.length - i) z, sz, 0, .own⟩ :: ext⟩) k =
        k (.exit 0) ([(0, .v a), (3, .v (.sl σ.length 0 0 l.length)), (4, .v (int l.length)), (11, .v (.bool false))], ⟨[], σ ++ ⟨done', sz, 0, .own⟩ :: ext'⟩) := by
  intro m
  induction m with
  | zero =>
    intro i done ext hm hi hd
    have e : i = l.length := by omega
    subst e
    refine ⟨done, ext, by simpa using hd, ?_⟩
    rw [loopK_step (toSBody.eq_1 sz f)]
    simp (config := {contextual := true, implicitDefEqProofs := false, maxSteps := 1000000}) only [
    ↓PR0, ↓PR1, ↓PR2, PO0, PO1, PO2, PO3, idxV_str, result, resOf, allSome, number, upd, List.map, Option.bind_some, Nat.reduceAdd, Nat.reduceSub, Nat.reduceLeDiff, Nat.reduceLT, Nat.reduceEqDiff, Nat.zero_add, Nat.add_zero, Nat.le_refl, 
    reduceIte, ne_eq, not_false_eq_true, and_self, true_and, and_true, reduceCtorEq, cond_true, cond_false, ha.len, Int.lt_irrefl, decide_false, Nat.sub_self, List.replicate_zero]
  | succ m ih =>
    intro i done ext hm hi hd
    have hlt : i < l.length := by omega
    have hlt' : (i : Int) < (l.length : Int) := by omega
    have hdl : done.length = i := by have := hd.length; simp at this; omega
    have hw : IntKind.i64.wrap ((i : Int) + 1) = ((i + 1 : Nat) : Int) := wrap64 (by omega) (by omega)
    obtain ⟨cs, hp, ha1, ha2⟩ := RS.get (RS.mono hM ha (⟨done ++ List.replicate (l.length - i) z, sz, 0, .own⟩ :: ext)) (List.getElem?_eq_getElem hlt)
    have hcs := hS _ _ _ hp
    obtain ⟨cs', ext2, hc, hl', hfr⟩ := hf _ _ _ hp
    have hst : (σ ++ ⟨done ++ List.replicate (l.length - i) z, sz, 0, .own⟩ :: ext) ++ ext2 = σ ++ ⟨done ++ List.replicate (l.length - i) z, sz, 0, .own⟩ :: (ext ++ ext2) := by simp
    rw [hst] at hc hfr
    have hels : (done ++ List.replicate (l.length - i) z).length = l.length := by simp; omega
    have hi2 : (done ++ List.replicate (l.length - i) z)[i]? = some z := by
      rw [List.getElem?_append_right (by omega), List.getElem?_replicate]
      rw [if_pos (by omega)]
    have hset : (done ++ List.replicate (l.length - i) z).set i cs' = (done ++ [cs']) ++ List.replicate (l.length - (i + 1)) z := by
      have e1 : l.length - i = (l.length - (i + 1)) + 1 := by omega
      rw [e1, List.replicate_succ, List.set_append_right _ _ (by omega)]
      simp [hdl]
    have hia := iadr_row σ (ext ++ ext2) (done ++ List.replicate (l.length - i) z) sz l.length hels.symm i hlt
    have hpu := putAt_row σ (ext ++ ext2) (done ++ List.replicate (l.length - i) z) sz i z cs' [] hi2 (by rw [hl', hz])
    rw [hels, hset] at hpu
    obtain ⟨done', ext', h1, h2⟩ := ih (i + 1) (done ++ [cs']) (ext ++ ext2) (by omega) (by omega) (by
      rw [List.take_add_one, List.getElem?_eq_getElem hlt]
      refine All2.snoc (hd.imp (fun m cs h => ⟨h.1, (h.2.mono (Nat.le_refl _) (by simp) (fun r h3 h4 => ?_)).imp (fun s hs => hQ _ _ _ _ s m cs (Nat.le_refl _) (by simp <;> omega) hs)⟩)) ⟨hl', (hfr.mono (by simp) (by simp) (fun r h3 h4 => ?_)).imp (fun s hs => hQ _ _ _ _ s _ cs' (by simp) (by simp <;> omega) hs)⟩
      · have hr : σ.length + 1 ≤ r := by simp at h3; omega
        rw [List.getElem?_append_right (by omega), List.getElem?_append_right (by omega)]
        obtain ⟨q, hq⟩ : ∃ q, r - σ.length = q + 1 := ⟨r - σ.length - 1, by omega⟩
        rw [hq]
        simp only [List.getElem?_cons_succ]
      · rw [List.getElem?_append_right (by omega), List.getElem?_append_right (by omega)]
        obtain ⟨q, hq⟩ : ∃ q, r - σ.length = q + 1 := ⟨r - σ.length - 1, by omega⟩
        rw [hq]
        simp only [List.getElem?_cons_succ]
        rw [List.getElem?_append_left (by simp at h4; omega)])
    refine ⟨done', ext', h1, ?_⟩
    rw [← h2, loopK_step (toSBody.eq_1 sz f)]
    simp (config := {contextual := true, implicitDefEqProofs := false, maxSteps := 1000000}) only [
    ↓PR0, ↓PR1, ↓PR2, PO0, PO1, PO2, PO3, idxV_str, result, resOf, allSome, number, upd, List.map, Option.bind_some, Nat.reduceAdd, Nat.reduceSub, Nat.reduceLeDiff, Nat.reduceLT, Nat.reduceEqDiff, Nat.zero_add, Nat.add_zero, Nat.le_refl, 
    reduceIte, ne_eq, not_false_eq_true, and_self, true_and, and_true, reduceCtorEq, cond_true, cond_false, ha.len, hlt', decide_true, ha1, ha2, ld_all hcs, hc, hl', hia, hpu, hw]

/-- A list that is held in rows of the store's own. -/
def RSO (Q : Nat → Nat → Rp α) (sz lo hi : Nat) (σ : Store) (l : List α) (a : AV) : Prop := RS (Q lo hi) sz σ l a ∧ KA (ownK lo hi) σ a
theorem RSO.wide (hQ : Wide Q) {lo lo' hi hi' : Nat} (hl : lo' ≤ lo) (hh : hi ≤ hi') {σ : Store} {l : List α} {a : AV} (h : RSO Q sz lo hi σ l a) : RSO Q sz lo' hi' σ l a := by
  obtain ⟨⟨els, h1, h2⟩, h3⟩ := h
  exact ⟨⟨els, h1, h2.imp (fun m cs h => hQ _ _ _ _ σ m cs hl hh h)⟩, h3.wide hl hh⟩

/-- A copier of slices. -/
theorem toS {C : FuncId → Option CFun} {X : Call} {fS : FuncId} {bytes : Nat} {z : List AV} (hC : C fS = some (toSFun (toSBody sz f) sz bytes z)) (hf : Copies (Ex C X) f P Q sz) (hQ : Wide Q) (hM : Mono P) (hS : Sized P sz) (hz : z.length = sz)
    (σ : Store) (a : AV) (l : List α) (ha : RS P sz σ l a) (hn : l.length * bytes ≤ 140737488355328) (hn' : l.length ≤ 140737488355328) :
    ∃ a' ext, Ex C X fS [a] σ = some (a', σ ++ ext) ∧ FR σ.length (σ ++ ext) (fun st => RSO Q sz σ.length (σ ++ ext).length st l a') ∧ Go.X.cellsOf a' = some [a'] := by
  obtain ⟨done', ext', h1, h2⟩ := toS_loop (E := Ex C X) (R := AV × Store) hf hQ hM hS σ a l ha z hz hn' (blkK 0 (seqK (Ex C X) (.seq (.reg [op 22 (.mv (.t 3)), op 2 (.mv (.t 22))] [2] none) .ret) (finK [.t 2] false σ))) l.length 0 [] [] (by omega) (by omega) (by simpa using All2.nil)
  refine ⟨.sl σ.length 0 0 l.length, ⟨done', sz, 0, .own⟩ :: ext', ?_, ?_, rfl⟩
  · rw [Ex_run hC rfl]
    have hb : ((l.length : Nat) : Int) * (bytes : Int) ≤ 140737488355328 := by rw [← Int.natCast_mul]; omega
    have hc : (0 : Int) ≤ (l.length : Nat) ∧ ((l.length : Nat) : Int) ≤ (l.length : Nat) ∧ ((l.length : Nat) : Int) * (bytes : Int) ≤ 140737488355328 ∧ ((l.length : Nat) : Int) ≤ 140737488355328 := ⟨by omega, by omega, hb, by omega⟩
    have e0 : (0 : Int) = ((0 : Nat) : Int) := rfl
    simp only [List.nil_append, Nat.sub_zero] at h2
    simp (config := {contextual := true, implicitDefEqProofs := false, maxSteps := 1000000}) only [
    ↓PR0, ↓PR1, ↓PR2, PO0, PO1, PO2, PO3, idxV_str, result, resOf, allSome, number, upd, List.map, Option.bind_some, Nat.reduceAdd, Nat.reduceSub, Nat.reduceLeDiff, Nat.reduceLT, Nat.reduceEqDiff, Nat.zero_add, Nat.add_zero, Nat.le_refl, 
    reduceIte, ne_eq, not_false_eq_true, and_self, true_and, and_true, reduceCtorEq, cond_true, cond_false, toSFun, ha.len, hc, Int.toNat_natCast]
    refine h2.trans ?_
    simp (config := {contextual := true, implicitDefEqProofs := false, maxSteps := 1000000}) only [
    ↓PR0, ↓PR1, ↓PR2, PO0, PO1, PO2, PO3, idxV_str, result, resOf, allSome, number, upd, List.map, Option.bind_some, Nat.reduceAdd, Nat.reduceSub, Nat.reduceLeDiff, Nat.reduceLT, Nat.reduceEqDiff, Nat.zero_add, Nat.add_zero, Nat.le_refl, 
    reduceIte, ne_eq, not_false_eq_true, and_self, true_and, and_true, reduceCtorEq, cond_true, cond_false]
  · intro st' he
    have hr : rowAt st' σ.length 0 = some ⟨done', sz, 0, .own⟩ := by
      have := he σ.length (Nat.le_refl _) (by simp)
      simp [rowAt, this]
    have hlen : (σ ++ (⟨done', sz, 0, .own⟩ : Row) :: ext').length = σ.length + 1 + ext'.length := by simp; omega
    rw [hlen]
    refine ⟨⟨done', ?_, h1.imp (fun m cs h => h.2 st' (fun r h3 h4 => he r (by omega) h4))⟩, fun r v i n e => ?_⟩
    · have := SlAt.mk (i := 0) (n := l.length) hr rfl (by simp [h1.length])
      simpa [h1.length] using this
    · cases e
      exact ⟨_, hr, Nat.le_refl _, by omega, rfl⟩
end

end Go.X

/- GoX, part 19: sizes and comparisons of slices, each once for all types. No statement of the seat is here. -/
set_option linter.unusedVariables false
set_option linter.unusedSimpArgs false
set_option maxRecDepth 20000
namespace Go.X
open Go
variable {α β R : Type}

/-! ### Sizes -/

def szSBody (sz : Nat) (f : FuncId) : XC := (.seq (.seq (.reg [op 12 (.mv (.t 5)), op 13 (.mv (.t 0)), op 14 (.len false (.t 13)), op 15 (.bin .lss (.t 12) (.t 14))] [0, 1, 5, 15] none) (.cond (.t 15) .skip (.exit 0))) (.seq (.block 1 (.seq (.reg [op 18 (.mv (.t 0)), op 19 (.mv (.t 5)), op 20 (.iadr sz (.t 18) (.t 19)), op 21 (.load true sz (.t 20)), op 22 (.mv (.t 1)), op 23 (.call f [(.t 21), (.t 22)]), op 1 (.mv (.t 23))] [0, 1, 5] none) (.seq (.reg [op 24 (.mv (.t 1)), op 25 (.bin .lss (.t 24) (.c (.int .i64 0)))] [0, 1, 5, 25] none) (.cond (.t 25) (.seq (.reg [op 4 (.mv (.c (.int .i64 (-1))))] [4] none) .ret) .skip)))) (.reg [op 16 (.mv (.t 5)), op 17 (.bin .add (.t 16) (.c (.int .i64 1))), op 5 (.mv (.t 17))] [0, 1, 5] none)))
def szSFun (l : XC) : CFun := CFun.mk 2 (.seq (.reg [op 4 (.mv (.c (.int .i64 0)))] [0, 1] none) (.seq (.reg [op 6 (.mv (.t 1)), op 7 (.mv (.t 0)), op 8 (.len false (.t 7)), op 9 (.bin .sub (.t 6) (.t 8)), op 1 (.mv (.t 9))] [0, 1] none) (.seq (.seq (.reg [op 10 (.mv (.t 1)), op 11 (.bin .lss (.t 10) (.c (.int .i64 0)))] [0, 1, 11] none) (.cond (.t 11) (.seq (.reg [op 4 (.mv (.c (.int .i64 (-1))))] [4] none) .ret) .skip)) (.seq (.seq (.reg [op 5 (.mv (.c (.int .i64 0)))] [0, 1, 5] none) (.block 0 (.loop [0, 1, 5] l))) (.seq (.reg [op 26 (.mv (.t 1)), op 4 (.mv (.t 26))] [4] none) .ret))))) [(.t 4)] false

def sumS (size : α → Nat) : List α → Nat
  | [] => 0
  | a :: l => size a + sumS size l
theorem sumS_mem {size : α → Nat} {l : List α} {a : α} (h : a ∈ l) : size a ≤ sumS size l := by
  induction l with
  | nil => cases h
  | cons b l ih =>
    rcases List.mem_cons.1 h with rfl | h
    · simp [sumS]
    · have := ih h; simp [sumS]; omega

/-- What is told of a size: too much, or at least so much less is left. -/
def Left (left w : Int) (n : Nat) : Prop := -1 ≤ w ∧ (w < 0 ∨ w + n ≤ left)
/-- What a function of sizes does. -/
def Sizes (E : Call) (f : FuncId) (P : Rp α) (size : α → Nat) : Prop := ∀ σ m cs left, P σ m cs → 0 ≤ left → left ≤ 1048576 → ∃ w, E f [.agg cs, int left] σ = some (int w, σ) ∧ Left left w (size m)
def SizesS (E : Call) (f : FuncId) (P : Rp α) (sz : Nat) (size : α → Nat) : Prop := ∀ σ l a left, RS P sz σ l a → l.length ≤ 9223372036854775807 → 0 ≤ left → left ≤ 1048576 → ∃ w, E f [a, int left] σ = some (int w, σ) ∧ Left left w (l.length + sumS size l)

section
variable {E : Call} {f : FuncId} {P : Rp α} {sz : Nat} {size : α → Nat}
theorem szS_loop (hf : Sizes E f P size) (hS : Sized P sz) (σ : Store) (a : AV) (l : List α) (ha : RS P sz σ l a) (hn : l.length ≤ 9223372036854775807) (k : Out → S → Option R) :
    ∀ (m i : Nat) (left : Int), m = l.length - i → i ≤ l.length → 0 ≤ left → left ≤ 1048576 →
      loopK E [0, 1, 5] (szSBody sz f) ([(0, .v a), (1, .v (int left)), (5, .v (int i))], ⟨[], σ⟩) k = k .ret ([(4, .v (int (-1)))], ⟨[], σ⟩) ∨
      ∃ w, 0 ≤ w ∧ w + sumS size (l.drop i) ≤ left ∧ loopK E [0, 1, 5] (szSBody sz f) ([(0, .v a), (1, .v (int left)), (5, .v (int i))], ⟨[], σ⟩) k =
        k (.exit 0) ([(0, .v a), (1, .v (int w)), (5, .v (int l.length)), (15, .v (.bool false))], ⟨[], σ⟩) := by
  intro m
  induction m with
  | zero =>
    intro i left hm hi h0 h1
    have e : i = l.length := by omega
    subst e
    refine .inr ⟨left, h0, by simp [sumS], ?_⟩
    rw [loopK_step (szSBody.eq_1 sz f)]
    simp (config := {contextual := true, implicitDefEqProofs := false, maxSteps := 1000000}) only [
    ↓PR0, ↓PR1, ↓PR2, PO0, PO1, PO2, PO3, idxV_str, result, resOf, allSome, number, upd, List.map, Option.bind_some, Nat.reduceAdd, Nat.reduceSub, Nat.reduceLeDiff, Nat.reduceLT, Nat.reduceEqDiff, Nat.zero_add, Nat.add_zero, Nat.le_refl, 
    reduceIte, ne_eq, not_false_eq_true, and_self, true_and, and_true, reduceCtorEq, cond_true, cond_false, ha.len, Int.lt_irrefl, decide_false]
  | succ m ih =>
    intro i left hm hi h0 h1
    have hlt : i < l.length := by omega
    have hlt' : (i : Int) < (l.length : Int) := by omega
    have hw : IntKind.i64.wrap ((i : Int) + 1) = ((i + 1 : Nat) : Int) := wrap64 (by omega) (by omega)
    obtain ⟨cs, hp, ha1, ha2⟩ := ha.get (List.getElem?_eq_getElem hlt)
    have hcs := hS _ _ _ hp
    obtain ⟨w, hc, hw1, hw2⟩ := hf σ _ cs left hp h0 h1
    rw [List.drop_eq_getElem_cons hlt]
    by_cases hneg : w < 0
    · left
      rw [loopK_step (szSBody.eq_1 sz f)]
      simp (config := {contextual := true, implicitDefEqProofs := false, maxSteps := 1000000}) only [
    ↓PR0, ↓PR1, ↓PR2, PO0, PO1, PO2, PO3, idxV_str, result, resOf, allSome, number, upd, List.map, Option.bind_some, Nat.reduceAdd, Nat.reduceSub, Nat.reduceLeDiff, Nat.reduceLT, Nat.reduceEqDiff, Nat.zero_add, Nat.add_zero, Nat.le_refl, 
    reduceIte, ne_eq, not_false_eq_true, and_self, true_and, and_true, reduceCtorEq, cond_true, cond_false, ha.len, hlt', decide_true, ha1, ha2, ld_all hcs, hc, hneg]
    · have hw3 : w + size l[i] ≤ left := by rcases hw2 with h | h <;> omega
      rcases ih (i + 1) w (by omega) (by omega) (by omega) (by omega) with h | ⟨w', h2, h3, h4⟩
      · left
        rw [← h, loopK_step (szSBody.eq_1 sz f)]
        simp (config := {contextual := true, implicitDefEqProofs := false, maxSteps := 1000000}) only [
    ↓PR0, ↓PR1, ↓PR2, PO0, PO1, PO2, PO3, idxV_str, result, resOf, allSome, number, upd, List.map, Option.bind_some, Nat.reduceAdd, Nat.reduceSub, Nat.reduceLeDiff, Nat.reduceLT, Nat.reduceEqDiff, Nat.zero_add, Nat.add_zero, Nat.le_refl, 
    reduceIte, ne_eq, not_false_eq_true, and_self, true_and, and_true, reduceCtorEq, cond_true, cond_false, ha.len, hlt', decide_true, decide_false, ha1, ha2, ld_all hcs, hc, hneg, hw]
      · refine .inr ⟨w', h2, by simp only [sumS]; omega, ?_⟩
        rw [← h4, loopK_step (szSBody.eq_1 sz f)]
        simp (config := {contextual := true, implicitDefEqProofs := false, maxSteps := 1000000}) only [
    ↓PR0, ↓PR1, ↓PR2, PO0, PO1, PO2, PO3, idxV_str, result, resOf, allSome, number, upd, List.map, Option.bind_some, Nat.reduceAdd, Nat.reduceSub, Nat.reduceLeDiff, Nat.reduceLT, Nat.reduceEqDiff, Nat.zero_add, Nat.add_zero, Nat.le_refl, 
    reduceIte, ne_eq, not_false_eq_true, and_self, true_and, and_true, reduceCtorEq, cond_true, cond_false, ha.len, hlt', decide_true, decide_false, ha1, ha2, ld_all hcs, hc, hneg, hw]

theorem szS {C : FuncId → Option CFun} {X : Call} {fS : FuncId} (hC : C fS = some (szSFun (szSBody sz f))) (hf : Sizes (Ex C X) f P size) (hS : Sized P sz) : SizesS (Ex C X) fS P sz size := by
  intro σ l a left ha hn h0 h1
  have hw : IntKind.i64.wrap (left - (l.length : Int)) = left - (l.length : Int) := wrap64 (by omega) (by omega)
  by_cases hneg : left - (l.length : Int) < 0
  · refine ⟨-1, ?_, by omega, .inl (by omega)⟩
    rw [Ex_run hC rfl]
    simp (config := {contextual := true, implicitDefEqProofs := false, maxSteps := 1000000}) only [
    ↓PR0, ↓PR1, ↓PR2, PO0, PO1, PO2, PO3, idxV_str, result, resOf, allSome, number, upd, List.map, Option.bind_some, Nat.reduceAdd, Nat.reduceSub, Nat.reduceLeDiff, Nat.reduceLT, Nat.reduceEqDiff, Nat.zero_add, Nat.add_zero, Nat.le_refl, 
    reduceIte, ne_eq, not_false_eq_true, and_self, true_and, and_true, reduceCtorEq, cond_true, cond_false, szSFun, ha.len, hw, hneg, decide_true]
  · rcases szS_loop (E := Ex C X) (R := AV × Store) hf hS σ a l ha hn (blkK 0 (seqK (Ex C X) (.seq (.reg [op 26 (.mv (.t 1)), op 4 (.mv (.t 26))] [4] none) .ret) (finK [.t 4] false σ))) l.length 0 (left - (l.length : Int)) (by omega) (by omega) (by omega) (by omega) with h | ⟨w, h2, h3, h4⟩
    · refine ⟨-1, ?_, by omega, .inl (by omega)⟩
      rw [Ex_run hC rfl]
      simp (config := {contextual := true, implicitDefEqProofs := false, maxSteps := 1000000}) only [
    ↓PR0, ↓PR1, ↓PR2, PO0, PO1, PO2, PO3, idxV_str, result, resOf, allSome, number, upd, List.map, Option.bind_some, Nat.reduceAdd, Nat.reduceSub, Nat.reduceLeDiff, Nat.reduceLT, Nat.reduceEqDiff, Nat.zero_add, Nat.add_zero, Nat.le_refl, 
    reduceIte, ne_eq, not_false_eq_true, and_self, true_and, and_true, reduceCtorEq, cond_true, cond_false, szSFun, ha.len, hw, hneg, decide_false]
      refine h.trans ?_
      simp (config := {contextual := true, implicitDefEqProofs := false, maxSteps := 1000000}) only [
    ↓PR0, ↓PR1, ↓PR2, PO0, PO1, PO2, PO3, idxV_str, result, resOf, allSome, number, upd, List.map, Option.bind_some, Nat.reduceAdd, Nat.reduceSub, Nat.reduceLeDiff, Nat.reduceLT, Nat.reduceEqDiff, Nat.zero_add, Nat.add_zero, Nat.le_refl, 
    reduceIte, ne_eq, not_false_eq_true, and_self, true_and, and_true, reduceCtorEq, cond_true, cond_false]
    · refine ⟨w, ?_, by omega, .inr (by simp only [List.drop_zero] at h3; omega)⟩
      rw [Ex_run hC rfl]
      simp (config := {contextual := true, implicitDefEqProofs := false, maxSteps := 1000000}) only [
    ↓PR0, ↓PR1, ↓PR2, PO0, PO1, PO2, PO3, idxV_str, result, resOf, allSome, number, upd, List.map, Option.bind_some, Nat.reduceAdd, Nat.reduceSub, Nat.reduceLeDiff, Nat.reduceLT, Nat.reduceEqDiff, Nat.zero_add, Nat.add_zero, Nat.le_refl, 
    reduceIte, ne_eq, not_false_eq_true, and_self, true_and, and_true, reduceCtorEq, cond_true, cond_false, szSFun, ha.len, hw, hneg, decide_false]
      refine h4.trans ?_
      simp (config := {contextual := true, implicitDefEqProofs := false, maxSteps := 1000000}) only [
    ↓PR0, ↓PR1, ↓PR2, PO0, PO1, PO2, PO3, idxV_str, result, resOf, allSome, number, upd, List.map, Option.bind_some, Nat.reduceAdd, Nat.reduceSub, Nat.reduceLeDiff, Nat.reduceLT, Nat.reduceEqDiff, Nat.zero_add, Nat.add_zero, Nat.le_refl, 
    reduceIte, ne_eq, not_false_eq_true, and_self, true_and, and_true, reduceCtorEq, cond_true, cond_false]
end

/-! ### Comparisons -/

def eqSBody (sz : Nat) (f : FuncId) : XC := (.seq (.seq (.reg [op 11 (.mv (.t 5)), op 12 (.mv (.t 0)), op 13 (.len false (.t 12)), op 14 (.bin .lss (.t 11) (.t 13))] [0, 1, 5, 14] none) (.cond (.t 14) .skip (.exit 0))) (.seq (.block 1 (.seq (.reg [op 17 (.mv (.t 0)), op 18 (.mv (.t 5)), op 19 (.iadr sz (.t 17) (.t 18)), op 20 (.load true sz (.t 19)), op 21 (.mv (.t 1)), op 22 (.mv (.t 5)), op 23 (.iadr sz (.t 21) (.t 22)), op 24 (.load true sz (.t 23)), op 25 (.call f [(.t 20), (.t 24)]), op 26 (.bnot (.t 25))] [0, 1, 5, 26] (some [])) (.cond (.t 26) (.seq (.reg [op 4 (.mv (.c (.bool false)))] [4] none) .ret) .skip))) (.reg [op 15 (.mv (.t 5)), op 16 (.bin .add (.t 15) (.c (.int .i64 1))), op 5 (.mv (.t 16))] [0, 1, 5] none)))
def eqPBody : XC := (.seq (.seq (.reg [op 11 (.mv (.t 5)), op 12 (.mv (.t 0)), op 13 (.len false (.t 12)), op 14 (.bin .lss (.t 11) (.t 13))] [0, 1, 5, 14] none) (.cond (.t 14) .skip (.exit 0))) (.seq (.block 1 (.seq (.reg [op 17 (.mv (.t 0)), op 18 (.mv (.t 5)), op 19 (.iadr 1 (.t 17) (.t 18)), op 20 (.load false 1 (.t 19)), op 21 (.mv (.t 1)), op 22 (.mv (.t 5)), op 23 (.iadr 1 (.t 21) (.t 22)), op 24 (.load false 1 (.t 23)), op 25 (.bin .neq (.t 20) (.t 24))] [0, 1, 5, 25] (some [])) (.cond (.t 25) (.seq (.reg [op 4 (.mv (.c (.bool false)))] [4] none) .ret) .skip))) (.reg [op 15 (.mv (.t 5)), op 16 (.bin .add (.t 15) (.c (.int .i64 1))), op 5 (.mv (.t 16))] [0, 1, 5] none)))
def eqSFun (l : XC) : CFun := CFun.mk 2 (.seq (.reg [op 4 (.mv (.c (.bool false)))] [0, 1] none) (.seq (.seq (.reg [op 6 (.mv (.t 0)), op 7 (.len false (.t 6)), op 8 (.mv (.t 1)), op 9 (.len false (.t 8)), op 10 (.bin .neq (.t 7) (.t 9))] [0, 1, 10] none) (.cond (.t 10) (.seq (.reg [op 4 (.mv (.c (.bool false)))] [4] none) .ret) .skip)) (.seq (.seq (.reg [op 5 (.mv (.c (.int .i64 0)))] [0, 1, 5] none) (.block 0 (.loop [0, 1, 5] l))) (.seq (.reg [op 4 (.mv (.c (.bool true)))] [4] none) .ret)))) [(.t 4)] false

/-- What a comparison does. -/
def Eqs (E : Call) (f : FuncId) (P : Rp α) [BEq α] : Prop := ∀ σ m cs m' cs', P σ m cs → P σ m' cs' → E f [.agg cs, .agg cs'] σ = some (.bool (m == m'), σ)
def EqsS (E : Call) (f : FuncId) (P : Rp α) (sz : Nat) [BEq α] : Prop := ∀ σ l a l' a', RS P sz σ l a → RS P sz σ l' a' → l.length ≤ 9223372036854775807 → E f [a, a'] σ = some (.bool (l == l'), σ)

theorem beq_drop [BEq α] (l l' : List α) (i : Nat) (h1 : i < l.length) (h2 : i < l'.length) : (l.drop i == l'.drop i) = (l[i] == l'[i] && l.drop (i + 1) == l'.drop (i + 1)) := by
  rw [List.drop_eq_getElem_cons h1, List.drop_eq_getElem_cons h2]
  rfl
theorem beq_len [BEq α] : ∀ (l l' : List α), l.length ≠ l'.length → (l == l') = false
  | [], [], h => by simp at h
  | [], _ :: _, _ => rfl
  | _ :: _, [], _ => rfl
  | a :: l, b :: l', h => by
    have := beq_len l l' (by simpa using h)
    show (a == b && l == l') = false
    rw [this, Bool.and_false]

section
variable {E : Call} {f : FuncId} {P : Rp α} {sz : Nat} [BEq α]
theorem eqS_loop (hf : Eqs E f P) (hS : Sized P sz) (σ : Store) (a a' : AV) (l l' : List α) (ha : RS P sz σ l a) (ha' : RS P sz σ l' a') (hl : l.length = l'.length) (hn : l.length ≤ 9223372036854775807) (k : Out → S → Option R) :
    ∀ (m i : Nat), m = l.length - i → i ≤ l.length →
      loopK E [0, 1, 5] (eqSBody sz f) ([(0, .v a), (1, .v a'), (5, .v (int i))], ⟨[], σ⟩) k =
        if (l.drop i == l'.drop i) = true then k (.exit 0) ([(0, .v a), (1, .v a'), (5, .v (int l.length)), (14, .v (.bool false))], ⟨[], σ⟩) else k .ret ([(4, .v (.bool false))], ⟨[], σ⟩) := by
  intro m
  induction m with
  | zero =>
    intro i hm hi
    have e : i = l.length := by omega
    subst e
    have hd : (l.drop l.length == l'.drop l.length) = true := by rw [List.drop_length, hl, List.drop_length]; rfl
    rw [loopK_step (eqSBody.eq_1 sz f), if_pos hd]
    simp (config := {contextual := true, implicitDefEqProofs := false, maxSteps := 1000000}) only [
    ↓PR0, ↓PR1, ↓PR2, PO0, PO1, PO2, PO3, idxV_str, result, resOf, allSome, number, upd, List.map, Option.bind_some, Nat.reduceAdd, Nat.reduceSub, Nat.reduceLeDiff, Nat.reduceLT, Nat.reduceEqDiff, Nat.zero_add, Nat.add_zero, Nat.le_refl, 
    reduceIte, ne_eq, not_false_eq_true, and_self, true_and, and_true, reduceCtorEq, cond_true, cond_false, ha.len, Int.lt_irrefl, decide_false]
  | succ m ih =>
    intro i hm hi
    have hlt : i < l.length := by omega
    have hlt2 : i < l'.length := by omega
    have hlt' : (i : Int) < (l.length : Int) := by omega
    have hw : IntKind.i64.wrap ((i : Int) + 1) = ((i + 1 : Nat) : Int) := wrap64 (by omega) (by omega)
    obtain ⟨cs, hp, ha1, ha2⟩ := ha.get (List.getElem?_eq_getElem hlt)
    obtain ⟨cs', hp', ha1', ha2'⟩ := ha'.get (List.getElem?_eq_getElem hlt2)
    have hcs := hS _ _ _ hp
    have hcs' := hS _ _ _ hp'
    have hc := hf σ _ cs _ cs' hp hp'
    have ih' := ih (i + 1) (by omega) (by omega)
    rw [beq_drop l l' i hlt hlt2]
    rw [loopK_step (eqSBody.eq_1 sz f)]
    cases hb : l[i] == l'[i] with
    | true =>
      simp (config := {contextual := true, implicitDefEqProofs := false, maxSteps := 1000000}) only [
    ↓PR0, ↓PR1, ↓PR2, PO0, PO1, PO2, PO3, idxV_str, result, resOf, allSome, number, upd, List.map, Option.bind_some, Nat.reduceAdd, Nat.reduceSub, Nat.reduceLeDiff, Nat.reduceLT, Nat.reduceEqDiff, Nat.zero_add, Nat.add_zero, Nat.le_refl, 
    reduceIte, ne_eq, not_false_eq_true, and_self, true_and, and_true, reduceCtorEq, cond_true, cond_false, ha.len, hlt', decide_true, ha1, ha2, ld_all hcs, ha1', ha2', ld_all hcs', hc, hb, Bool.not_true, Bool.true_and, hw, ih']
    | false =>
      simp (config := {contextual := true, implicitDefEqProofs := false, maxSteps := 1000000}) only [
    ↓PR0, ↓PR1, ↓PR2, PO0, PO1, PO2, PO3, idxV_str, result, resOf, allSome, number, upd, List.map, Option.bind_some, Nat.reduceAdd, Nat.reduceSub, Nat.reduceLeDiff, Nat.reduceLT, Nat.reduceEqDiff, Nat.zero_add, Nat.add_zero, Nat.le_refl, 
    reduceIte, ne_eq, not_false_eq_true, and_self, true_and, and_true, reduceCtorEq, cond_true, cond_false, ha.len, hlt', decide_true, ha1, ha2, ld_all hcs, ha1', ha2', ld_all hcs', hc, hb, Bool.not_false, Bool.false_and, hw, 
    Bool.false_eq_true]

theorem eqS {C : FuncId → Option CFun} {X : Call} {fS : FuncId} (hC : C fS = some (eqSFun (eqSBody sz f))) (hf : Eqs (Ex C X) f P) (hS : Sized P sz) : EqsS (Ex C X) fS P sz := by
  intro σ l a l' a' ha ha' hn
  rw [Ex_run hC rfl]
  by_cases hl : l.length = l'.length
  · have h := eqS_loop (E := Ex C X) (R := AV × Store) hf hS σ a a' l l' ha ha' hl hn (blkK 0 (seqK (Ex C X) (.seq (.reg [op 4 (.mv (.c (.bool true)))] [4] none) .ret) (finK [.t 4] false σ))) l.length 0 (by omega) (by omega)
    simp only [List.drop_zero] at h
    have hne : ((l.length : Int) != (l'.length : Int)) = false := by rw [hl]; simp
    simp (config := {contextual := true, implicitDefEqProofs := false, maxSteps := 1000000}) only [
    ↓PR0, ↓PR1, ↓PR2, PO0, PO1, PO2, PO3, idxV_str, result, resOf, allSome, number, upd, List.map, Option.bind_some, Nat.reduceAdd, Nat.reduceSub, Nat.reduceLeDiff, Nat.reduceLT, Nat.reduceEqDiff, Nat.zero_add, Nat.add_zero, Nat.le_refl, 
    reduceIte, ne_eq, not_false_eq_true, and_self, true_and, and_true, reduceCtorEq, cond_true, cond_false, eqSFun, ha.len, ha'.len, hne]
    refine h.trans ?_
    cases hb : l == l' with
    | true => simp (config := {contextual := true, implicitDefEqProofs := false, maxSteps := 1000000}) only [
    ↓PR0, ↓PR1, ↓PR2, PO0, PO1, PO2, PO3, idxV_str, result, resOf, allSome, number, upd, List.map, Option.bind_some, Nat.reduceAdd, Nat.reduceSub, Nat.reduceLeDiff, Nat.reduceLT, Nat.reduceEqDiff, Nat.zero_add, Nat.add_zero, Nat.le_refl, 
    reduceIte, ne_eq, not_false_eq_true, and_self, true_and, and_true, reduceCtorEq, cond_true, cond_false]
    | false => simp (config := {contextual := true, implicitDefEqProofs := false, maxSteps := 1000000}) only [
    ↓PR0, ↓PR1, ↓PR2, PO0, PO1, PO2, PO3, idxV_str, result, resOf, allSome, number, upd, List.map, Option.bind_some, Nat.reduceAdd, Nat.reduceSub, Nat.reduceLeDiff, Nat.reduceLT, Nat.reduceEqDiff, Nat.zero_add, Nat.add_zero, Nat.le_refl, 
    reduceIte, ne_eq, not_false_eq_true, and_self, true_and, and_true, reduceCtorEq, cond_true, cond_false, Bool.false_eq_true]
  · have hne : ((l.length : Int) != (l'.length : Int)) = true := by rw [bne_iff_ne]; omega
    rw [beq_len l l' hl]
    simp (config := {contextual := true, implicitDefEqProofs := false, maxSteps := 1000000}) only [
    ↓PR0, ↓PR1, ↓PR2, PO0, PO1, PO2, PO3, idxV_str, result, resOf, allSome, number, upd, List.map, Option.bind_some, Nat.reduceAdd, Nat.reduceSub, Nat.reduceLeDiff, Nat.reduceLT, Nat.reduceEqDiff, Nat.zero_add, Nat.add_zero, Nat.le_refl, 
    reduceIte, ne_eq, not_false_eq_true, and_self, true_and, and_true, reduceCtorEq, cond_true, cond_false, eqSFun, ha.len, ha'.len, hne]
end

end Go.X

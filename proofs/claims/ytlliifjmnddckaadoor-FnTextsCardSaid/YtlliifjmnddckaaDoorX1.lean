/- GoX, part 1: abstract values, an abstract store, a resolved form of the model's code, and an executor that knows no tape, no block numbers and no order of evaluation. No statement of the seat is here. -/
import Derived.Below
namespace Go.X
open Go

/-- Abstract values. A slice names its row, the row's version, where it begins and how long it is; a pointer names row, version, element, cell. -/
inductive AV where
  | un
  | undef
  | int (k : IntKind) (n : Int)
  | bool (b : Bool)
  | str (l : List UInt8)
  | agg (cs : List AV)
  | tup (vs : List AV)
  | ptr (r v i o : Nat)
  | nilptr
  | sl (r v i n : Nat)
  | nilsl
  | fn (f : FuncId) (caps : List AV)
  | nilfn
  | ifc (t : TypeId) (x : AV)
  | nilifc
  | mp (r v : Nat)
  | nilmp
  deriving Inhabited

inductive RK where
  | ro
  | own
  | map
  deriving DecidableEq, Inhabited

/-- A row of the abstract store: elements of sz cells each. -/
structure Row where
  els : List (List AV)
  sz : Nat
  ver : Nat
  kd : RK
  deriving Inhabited

abbrev Store := List Row

/-- What a register holds: a value; a pointer into a box of the frame's own; a slice literal that is only appended. -/
inductive RV where
  | v (a : AV)
  | lp (t o : Nat)
  | ls (els : List (List AV))
  deriving Inhabited

/-- What can be nil: pointers, slices, interface values, functions, maps. -/
inductive NK where
  | p
  | s
  | i
  | f
  | m
  deriving DecidableEq, Inhabited

/-- Kinds of cells that can be compared. -/
inductive CK where
  | i
  | b
  | s
  deriving DecidableEq, Inhabited

inductive XO where
  | t (n : Nat)
  | c (v : AV)
  deriving Inhabited

inductive XOp where
  | mv (x : XO)
  | pick (c a b : XO)
  | alloc (lo : Bool) (t : Nat) (zero : List AV)
  | box (lo : Bool) (t : Nat) (sz : Nat) (x : XO)
  | load (ag : Bool) (sz : Nat) (x : XO)
  | store (sz : Nat) (a x : XO)
  | fadr (o : Nat) (x : XO)
  | iadr (sz : Nat) (x i : XO)
  | fld (ag : Bool) (o sz : Nat) (x : XO)
  | bin (b : BinOp) (x y : XO)
  | beq (neg : Bool) (x y : XO)
  | seq (neg : Bool) (ks : List CK) (x y : XO)
  | isnil (k : NK) (neg : Bool) (x : XO)
  | bnot (x : XO)
  | neg (x : XO)
  | len (st : Bool) (x : XO)
  | ext (x : XO) (i : Nat)
  | build (zero : List AV) (parts : List (Nat × Nat × XO))
  | bsl (lo : Bool) (sz n : Nat) (zero : List AV) (parts : List (Nat × XO))
  | app (sz bytes : Nat) (x y : XO)
  | slc (sz : Nat) (x : XO) (l h : Option XO)
  | sstr (x : XO) (l h : Option XO)
  | idx (x i : XO)
  | s2b (x : XO)
  | b2s (x : XO)
  | cvt (k : IntKind) (x : XO)
  | mks (sz bytes : Nat) (zero : List AV) (l c : XO)
  | nilc (x : XO)
  | mx (big : Bool) (x y : XO)
  | mkf (f : FuncId) (caps : List XO)
  | call (f : FuncId) (args : List XO)
  | calld (x : XO) (args : List XO)
  deriving Inhabited

structure XOper where
  dst : Option Nat
  op : XOp
  gd : Option (Nat × Bool)
  deriving Inhabited

inductive XC where
  | skip
  | reg (ops : List XOper) (live : List Nat) (pairs : Option (List (Nat × Nat)))
  | seq (a b : XC)
  | cond (x : XO) (a b : XC)
  | block (id : Nat) (c : XC)
  | loop (live : List Nat) (c : XC)
  | exit (id : Nat)
  | ret
  deriving Inhabited

inductive XRes where
  | t (n : Nat)
  | cell (n : Nat) (ag : Bool) (sz : Nat)
  deriving Inhabited

structure CFun where
  np : Nat
  code : XC
  res : List XRes
  pop : Bool
  deriving Inhabited

/-! ### Looking up -/

def lk {α : Type} : List (Nat × α) → Nat → Option α
  | [], _ => none
  | (k, a) :: l, n => if k = n then some a else lk l n

abbrev Regs := List (Nat × RV)
abbrev Boxes := List (Nat × List AV)
structure Mem where
  bx : Boxes
  st : Store

abbrev Call := FuncId → List AV → Store → Option (AV × Store)

def ev (g : Regs) : XO → Option RV
  | .c v => some (.v v)
  | .t n => lk g n

def RV.av : RV → Option AV
  | .v a => some a
  | _ => none

def evv (g : Regs) (x : XO) : Option AV := (ev g x).bind RV.av

def evs (g : Regs) : List XO → Option (List AV)
  | [] => some []
  | x :: l => (evv g x).bind fun a => (evs g l).bind fun as => some (a :: as)

/-- The cells of a value; of what is not known: none. -/
def cellsOf : AV → Option (List AV)
  | .un => none
  | .undef => none
  | .agg cs => some cs
  | .tup _ => none
  | a => some [a]

def ld (ag : Bool) (sz o : Nat) (cs : List AV) : Option AV :=
  if ag then (if o + sz ≤ cs.length then some (.agg ((cs.drop o).take sz)) else none) else cs[o]?

def upd (cs : List AV) (o : Nat) (y : List AV) : List AV := cs.take o ++ y ++ cs.drop (o + y.length)

/-- A row that is there, at its version, and is one of cells. -/
def rowAt (s : Store) (r v : Nat) : Option Row :=
  (s[r]?).bind fun row => if row.ver = v ∧ row.kd ≠ .map then some row else none

/-- What a pointer or a pointer into a box leads to: the element's cells, and the offset. -/
def place (M : Mem) : RV → Option (List AV × Nat)
  | .v (.ptr r v i o) => (rowAt M.st r v).bind fun row => (row.els[i]?).bind fun cs => some (cs, o)
  | .lp t o => (lk M.bx t).bind fun cs => some (cs, o)
  | _ => none

def putAt (M : Mem) (x : RV) (y : List AV) : Option Mem :=
  match x with
  | .v (.ptr r v i o) => (rowAt M.st r v).bind fun row => (row.els[i]?).bind fun cs =>
      if row.kd = .own ∧ o + y.length ≤ cs.length then some { M with st := M.st.set r { row with els := row.els.set i (upd cs o y) } } else none
  | .lp t o => (lk M.bx t).bind fun cs => if o + y.length ≤ cs.length then some { M with bx := (t, upd cs o y) :: M.bx } else none
  | _ => none

/-- The elements of a slice. -/
def elsOf (M : Mem) (sz : Nat) : RV → Option (List (List AV))
  | .v .nilsl => some []
  | .v (.sl r v i n) => (rowAt M.st r v).bind fun row => if row.sz = sz ∧ i + n ≤ row.els.length then some ((row.els.drop i).take n) else none
  | .ls els => if els.all (fun e => e.length == sz) = true then some els else none
  | _ => none

def newRow (M : Mem) (els : List (List AV)) (sz : Nat) : Mem := { M with st := M.st ++ [⟨els, sz, 0, .own⟩] }

def binV (op : BinOp) : AV → AV → Option AV
  | .int k a, .int k' b =>
    if k = k' then
      match op with
      | .add => some (.int k (k.wrap (a + b)))
      | .sub => some (.int k (k.wrap (a - b)))
      | .mul => some (.int k (k.wrap (a * b)))
      | .quo => if b = 0 then none else some (.int k (k.wrap (a.tdiv b)))
      | .rem => if b = 0 then none else some (.int k (a.tmod b))
      | .eql => some (.bool (a == b))
      | .neq => some (.bool (a != b))
      | .lss => some (.bool (decide (a < b)))
      | .leq => some (.bool (decide (a ≤ b)))
      | .gtr => some (.bool (decide (a > b)))
      | .geq => some (.bool (decide (a ≥ b)))
      | _ => none
    else none
  | .str a, .str b =>
    match op with
    | .add => if a.length + b.length ≤ 140737488355328 then some (.str (a ++ b)) else none
    | .eql => some (.bool (a == b))
    | .neq => some (.bool (!(a == b)))
    | .lss => some (.bool (Op.bytesLess a b))
    | .leq => some (.bool (Op.bytesLess a b || a == b))
    | .gtr => some (.bool (!(Op.bytesLess a b || a == b)))
    | .geq => some (.bool (!(Op.bytesLess a b)))
    | _ => none
  | _, _ => none

def nilOf : NK → AV → Option Bool
  | .p, .nilptr => some true
  | .p, .ptr .. => some false
  | .s, .nilsl => some true
  | .s, .sl .. => some false
  | .i, .nilifc => some true
  | .i, .ifc .. => some false
  | .f, .nilfn => some true
  | .f, .fn .. => some false
  | .m, .nilmp => some true
  | .m, .mp .. => some false
  | _, _ => none

/-- Cells of whole numbers, bools and strings, one by one. -/
def cellEq : CK → AV → AV → Option Bool
  | .i, .int k a, .int k' b => if k = k' then some (a == b) else none
  | .b, .bool a, .bool b => some (a == b)
  | .s, .str a, .str b => some (a == b)
  | _, _, _ => none

def cellsEq : List CK → List AV → List AV → Option Bool
  | [], [], [] => some true
  | k :: ks, a :: as, b :: bs => (cellEq k a b).bind fun x => (cellsEq ks as bs).bind fun y => some (x && y)
  | _, _, _ => none

def fillP (g : Regs) : List AV → List (Nat × Nat × XO) → Option (List AV)
  | cs, [] => some cs
  | cs, (o, sz, x) :: l => (evv g x).bind fun a => (cellsOf a).bind fun y =>
      if y.length = sz ∧ o + sz ≤ cs.length then fillP g (upd cs o y) l else none

def fillS (g : Regs) (sz : Nat) : List (List AV) → List (Nat × XO) → Option (List (List AV))
  | els, [] => some els
  | els, (i, x) :: l => (evv g x).bind fun a => (cellsOf a).bind fun y =>
      if y.length = sz ∧ i < els.length then fillS g sz (els.set i y) l else none

def bnd (g : Regs) (dflt : Nat) : Option XO → Option Int
  | none => some dflt
  | some x => (evv g x).bind fun | .int _ n => some n | _ => none

def byteOfCell : List AV → Option UInt8
  | [.int .u8 n] => some (UInt8.ofNat n.toNat)
  | _ => none

def allSome {α β : Type} (f : α → Option β) : List α → Option (List β)
  | [] => some []
  | a :: l => (f a).bind fun b => (allSome f l).bind fun bs => some (b :: bs)

/-- One operation that calls nothing. -/
def evP (g : Regs) (M : Mem) : XOp → Option (RV × Mem)
  | .mv x => (ev g x).bind fun a => some (a, M)
  | .pick c a b => (evv g c).bind fun | .bool t => (if t then ev g a else ev g b).bind fun x => some (x, M) | _ => none
  | .alloc true t zero => if (lk M.bx t).isNone then some (.lp t 0, { M with bx := (t, zero) :: M.bx }) else none
  | .alloc false _ zero => some (.v (.ptr M.st.length 0 0 0), newRow M [zero] zero.length)
  | .box true t sz x => (evv g x).bind fun a => (cellsOf a).bind fun y =>
      if (lk M.bx t).isNone ∧ y.length = sz then some (.lp t 0, { M with bx := (t, y) :: M.bx }) else none
  | .box false _ sz x => (evv g x).bind fun a => (cellsOf a).bind fun y =>
      if y.length = sz then some (.v (.ptr M.st.length 0 0 0), newRow M [y] sz) else none
  | .load ag sz x => (ev g x).bind fun p => (place M p).bind fun (cs, o) => (ld ag sz o cs).bind fun a => some (.v a, M)
  | .store sz p x => (ev g p).bind fun p => (evv g x).bind fun a => (cellsOf a).bind fun y =>
      if y.length = sz then (putAt M p y).bind fun M' => some (.v .undef, M') else none
  | .fadr o x => (ev g x).bind fun | .v (.ptr r v i o') => some (.v (.ptr r v i (o' + o)), M) | .lp t o' => some (.lp t (o' + o), M) | _ => none
  | .iadr sz x i => (evv g x).bind fun a => (evv g i).bind fun b =>
      match a, b with
      | .sl r v s n, .int _ k => (rowAt M.st r v).bind fun row =>
          if row.sz = sz ∧ 0 ≤ k ∧ k < n then some (.v (.ptr r v (s + k.toNat) 0), M) else none
      | _, _ => none
  | .fld ag o sz x => (evv g x).bind fun | .agg cs => (ld ag sz o cs).bind fun a => some (.v a, M) | _ => none
  | .bin op x y => (evv g x).bind fun a => (evv g y).bind fun b => (binV op a b).bind fun c => some (.v c, M)
  | .beq neg x y => (evv g x).bind fun a => (evv g y).bind fun b =>
      match a, b with
      | .bool a, .bool b => some (.v (.bool (if neg then !(a == b) else a == b)), M)
      | _, _ => none
  | .seq neg ks x y => (evv g x).bind fun a => (evv g y).bind fun b =>
      match a, b with
      | .agg a, .agg b => (cellsEq ks a b).bind fun e => some (.v (.bool (if neg then !e else e)), M)
      | _, _ => none
  | .isnil k neg x => (evv g x).bind fun a => (nilOf k a).bind fun b => some (.v (.bool (if neg then !b else b)), M)
  | .bnot x => (evv g x).bind fun | .bool b => some (.v (.bool (!b)), M) | _ => none
  | .neg x => (evv g x).bind fun | .int k n => some (.v (.int k (k.wrap (0 - n))), M) | _ => none
  | .len true x => (evv g x).bind fun
      | .str l => some (.v (.int .i64 l.length), M)
      | _ => none
  | .len false x => (evv g x).bind fun
      | .sl _ _ _ n => some (.v (.int .i64 n), M)
      | .nilsl => some (.v (.int .i64 0), M)
      | _ => none
  | .ext x i => (evv g x).bind fun | .tup vs => (vs[i]?).bind fun a => some (.v a, M) | _ => none
  | .build zero parts => (fillP g zero parts).bind fun cs => some (.v (.agg cs), M)
  | .bsl lo sz n zero parts => (fillS g sz (List.replicate n zero) parts).bind fun els =>
      if lo then some (.ls els, M) else some (.v (.sl M.st.length 0 0 n), newRow M els sz)
  | .app sz bytes x y => (evv g x).bind fun a => (ev g y).bind fun b => (elsOf M sz b).bind fun ys =>
      match a with
      | .nilsl => if ys.length * bytes ≤ 140737488355328 then
            (match ys with
             | [] => some (.v .nilsl, M)
             | _ => some (.v (.sl M.st.length 0 0 ys.length), newRow M ys sz)) else none
      | .sl r v i n => (rowAt M.st r v).bind fun row =>
          if row.kd = .own ∧ row.sz = sz ∧ i + n ≤ row.els.length ∧ (n + ys.length) * bytes ≤ 140737488355328 then
            some (.v (.sl r (v + 1) 0 (n + ys.length)), { M with st := M.st.set r { row with els := (row.els.drop i).take n ++ ys, ver := v + 1 } })
          else none
      | _ => none
  | .slc sz x l h => (evv g x).bind fun
      | .sl r v i n => (M.st[r]?).bind fun row => (bnd g 0 l).bind fun lo => (bnd g n h).bind fun hi =>
          if row.sz = sz ∧ 0 ≤ lo ∧ lo ≤ hi ∧ hi ≤ n then some (.v (.sl r v (i + lo.toNat) (hi.toNat - lo.toNat)), M) else none
      | .nilsl => (bnd g 0 l).bind fun lo => (bnd g 0 h).bind fun hi => if lo = 0 ∧ hi = 0 then some (.v .nilsl, M) else none
      | _ => none
  | .sstr x l h => (evv g x).bind fun
      | .str s => (bnd g 0 l).bind fun lo => (bnd g s.length h).bind fun hi =>
          if 0 ≤ lo ∧ lo ≤ hi ∧ hi ≤ s.length then some (.v (.str ((s.drop lo.toNat).take (hi.toNat - lo.toNat))), M) else none
      | _ => none
  | .idx x i => (evv g x).bind fun a => (evv g i).bind fun b =>
      match a, b with
      | .str s, .int _ k => if 0 ≤ k ∧ k < s.length then some (.v (.int .u8 ((s.getD k.toNat 0).toNat : Nat)), M) else none
      | _, _ => none
  | .s2b x => (evv g x).bind fun
      | .str s => some (.v (.sl M.st.length 0 0 s.length), newRow M (s.map fun b => [.int .u8 (b.toNat : Nat)]) 1)
      | _ => none
  | .b2s x => (ev g x).bind fun b => (elsOf M 1 b).bind fun els => (allSome byteOfCell els).bind fun s => some (.v (.str s), M)
  | .cvt k x => (evv g x).bind fun | .int _ n => some (.v (.int k (k.wrap n)), M) | _ => none
  | .mks sz bytes zero l c => (evv g l).bind fun a => (evv g c).bind fun b =>
      match a, b with
      | .int .i64 n, .int .i64 m => if 0 ≤ n ∧ n ≤ m ∧ m * bytes ≤ 140737488355328 ∧ m ≤ 140737488355328 then some (.v (.sl M.st.length 0 0 n.toNat), newRow M (List.replicate n.toNat zero) sz) else none
      | _, _ => none
  | .nilc x => (ev g x).bind fun | .v (.ptr r v i o) => some (.v (.ptr r v i o), M) | .lp t o => some (.lp t o, M) | _ => none
  | .mkf f caps => (evs g caps).bind fun as => some (.v (.fn f as), M)
  | .mx big x y => (evv g x).bind fun a => (evv g y).bind fun b =>
      match a, b with
      | .int k p, .int k' q => if k = k' then some (.v (.int k (if big then (if q > p then q else p) else (if q < p then q else p))), M) else none
      | _, _ => none
  | .call .. => none
  | .calld .. => none

def evOp (E : Call) (g : Regs) (M : Mem) : XOp → Option (RV × Mem)
  | .call f args => (evs g args).bind fun as => (E f as M.st).bind fun (a, st) => some (.v a, { M with st := st })
  | .calld x args => (evv g x).bind fun
      | .fn f caps => (evs g args).bind fun as => (E f (as ++ caps) M.st).bind fun (a, st) => some (.v a, { M with st := st })
      | _ => none
  | op => evP g M op

def putd (g : Regs) : Option Nat → RV → Regs
  | none, _ => g
  | some d, v => (d, v) :: g

/-- Is a guarded operation wanted? -/
def wants (g : Regs) : Option (Nat × Bool) → Option Bool
  | none => some true
  | some (t, b) => match lk g t with
    | some (.v (.bool c)) => some (c == b)
    | some (.v .undef) => some false
    | _ => none

def evG (E : Call) (g : Regs) (M : Mem) (o : XOper) : Option (RV × Mem) :=
  (wants g o.gd).bind fun | true => evOp E g M o.op | false => some (.v .undef, M)

def execOps (E : Call) : List XOper → Regs → Mem → Option (Regs × Mem)
  | [], g, M => some (g, M)
  | o :: os, g, M => (evG E g M o).bind fun (v, M') => execOps E os (putd g o.dst v) M'

/-- What each operation of a region sees, in the text's order. -/
def trace (E : Call) : List XOper → Regs → Mem → List (Regs × Mem)
  | [], g, M => [(g, M)]
  | o :: os, g, M => (g, M) :: (match evG E g M o with | some (v, M') => trace E os (putd g o.dst v) M' | none => [])

/-- Operation j tells the same, and changes nothing, on both sides of operation i. -/
def stable1 (E : Call) (ops : List XOper) (tr : List (Regs × Mem)) (j i : Nat) : Prop :=
  ∀ o g M v M' gi Mi gn Mn, ops[j]? = some o → tr[j]? = some (g, M) → evG E g M o = some (v, M') → tr[i]? = some (gi, Mi) → tr[i + 1]? = some (gn, Mn) →
    evG E g Mi o = some (v, Mi) ∧ evG E g Mn o = some (v, Mn)

def stable (E : Call) (ops : List XOper) (g : Regs) (M : Mem) (pairs : List (Nat × Nat)) : Prop :=
  ∀ p ∈ pairs, stable1 E ops (trace E ops g M) p.1 p.2

def projR (g : Regs) (bx : Boxes) : List Nat → Regs
  | [] => []
  | t :: l => match lk g t with
    | some (.v a) => (t, .v a) :: projR g bx l
    | some (.lp t' 0) => if t' = t ∧ (lk bx t).isSome then (t, .lp t' 0) :: projR g bx l else projR g bx l
    | _ => projR g bx l

def projB (g : Regs) (bx : Boxes) : List Nat → Boxes
  | [] => []
  | t :: l => match lk g t, lk bx t with
    | some (.lp t' 0), some cs => if t' = t then (t, cs) :: projB g bx l else projB g bx l
    | _, _ => projB g bx l

def proj (live : List Nat) (s : Regs × Mem) : Regs × Mem := (projR s.1 s.2.bx live, { s.2 with bx := projB s.1 s.2.bx live })

inductive Out where
  | norm
  | ret
  | exit (id : Nat)
  deriving DecidableEq

abbrev S := Regs × Mem

def iterN (f : S → Option (Out × S)) : Nat → S → Option (Out × S)
  | 0, _ => none
  | n + 1, s => (f s).bind fun | (.norm, s') => iterN f n s' | (o, s') => some (o, s')

open Classical in
/-- A loop to its end, without a bound on rounds. -/
noncomputable def iter (f : S → Option (Out × S)) (s : S) : Option (Out × S) :=
  if h : ∃ r, ∃ n, iterN f n s = some r then some (Classical.choose h) else none

open Classical in
noncomputable def exec (E : Call) : XC → S → Option (Out × S)
  | .skip, s => some (.norm, s)
  | .reg ops live none, s => (execOps E ops s.1 s.2).bind fun s' => some (.norm, proj live s')
  | .reg ops live (some pairs), s => if stable E ops s.1 s.2 pairs then (execOps E ops s.1 s.2).bind fun s' => some (.norm, proj live s') else none
  | .seq a b, s => (exec E a s).bind fun | (.norm, s') => exec E b s' | (o, s') => some (o, s')
  | .cond x a b, s => (evv s.1 x).bind fun | .bool true => exec E a s | .bool false => exec E b s | _ => none
  | .block id c, s => (exec E c s).bind fun | (.exit id', s') => if id' = id then some (.norm, s') else some (.exit id', s') | (o, s') => some (o, s')
  | .loop live c, s => iter (fun s => exec E c (proj live s)) s
  | .exit id, s => some (.exit id, s)
  | .ret, s => some (.ret, s)

def resOf (s : S) : XRes → Option AV
  | .t n => evv s.1 (.t n)
  | .cell n ag sz => (ev s.1 (.t n)).bind fun p => (place s.2 p).bind fun (cs, o) => ld ag sz o cs

def result (s : S) (l : List XRes) : Option AV := (allSome (resOf s) l).bind fun | [a] => some a | as => some (.tup as)

mutual
/-- A value names no row from n on. -/
def below (n : Nat) : AV → Bool
  | .ptr r _ _ _ => r < n
  | .sl r _ _ _ => r < n
  | .mp r _ => r < n
  | .agg cs => belows n cs
  | .tup cs => belows n cs
  | .fn _ cs => belows n cs
  | .ifc _ x => below n x
  | _ => true
def belows (n : Nat) : List AV → Bool
  | [] => true
  | a :: l => below n a && belows n l
end

def number {α : Type} (k : Nat) : List α → List (Nat × α)
  | [] => []
  | a :: l => (k, a) :: number (k + 1) l

open Classical in
noncomputable def bodyX (E : Call) (cf : CFun) (args : List AV) (st : Store) : Option (AV × Store) :=
  if args.length = cf.np then
    (exec E cf.code (number 0 (args.map RV.v), ⟨[], st⟩)).bind fun
      | (.exit _, _) => none
      | (_, s) => (result s cf.res).bind fun a =>
          if cf.pop then (if s.2.st.take st.length = st ∧ below st.length a = true then some (a, st) else none) else some (a, s.2.st)
  else none

/-- The functions, with a bound on how deep calls go. X: what is told of functions without code here. -/
noncomputable def exF (C : FuncId → Option CFun) (X : Call) : Nat → Call
  | 0 => fun _ _ _ => none
  | k + 1 => fun f args st => match C f with
    | some cf => bodyX (exF C X k) cf args st
    | none => X f args st

open Classical in
/-- The functions, without a bound. -/
noncomputable def Ex (C : FuncId → Option CFun) (X : Call) : Call := fun f args st =>
  if h : ∃ r, ∃ k, exF C X k f args st = some r then some (Classical.choose h) else none

/-! ### Loops: the unfolding equation -/

theorem iterN_mono {f : S → Option (Out × S)} : ∀ {n m : Nat} {s : S} {r}, iterN f n s = some r → n ≤ m → iterN f m s = some r := by
  intro n
  induction n with
  | zero => intro m s r h _; simp [iterN] at h
  | succ n ih =>
    intro m s r h hm
    obtain ⟨m, rfl⟩ : ∃ k, m = k + 1 := ⟨m - 1, by omega⟩
    simp only [iterN] at h ⊢
    cases hf : f s with
    | none => rw [hf] at h; simp at h
    | some p =>
      obtain ⟨o, s'⟩ := p
      rw [hf] at h
      simp only [Option.bind_some] at h ⊢
      cases o with
      | norm => exact ih h (by omega)
      | ret => exact h
      | exit id => exact h

theorem iter_some {f : S → Option (Out × S)} {s : S} {r} : iter f s = some r ↔ ∃ n, iterN f n s = some r := by
  unfold iter
  constructor
  · intro h
    split at h
    · rename_i he
      obtain ⟨n, hn⟩ := Classical.choose_spec he
      exact ⟨n, by rw [hn]; exact h⟩
    · simp at h
  · rintro ⟨n, hn⟩
    have he : ∃ r, ∃ n, iterN f n s = some r := ⟨r, n, hn⟩
    rw [dif_pos he]
    obtain ⟨m, hm⟩ := Classical.choose_spec he
    have h1 := iterN_mono hn (Nat.le_max_left n m)
    have h2 := iterN_mono hm (Nat.le_max_right n m)
    rw [h1] at h2
    exact h2.symm

theorem iter_eq (f : S → Option (Out × S)) (s : S) : iter f s = (f s).bind fun | (.norm, s') => iter f s' | (o, s') => some (o, s') := by
  apply Option.ext
  intro r
  rw [iter_some]
  constructor
  · rintro ⟨n, hn⟩
    cases n with
    | zero => simp [iterN] at hn
    | succ n =>
      simp only [iterN] at hn
      cases hf : f s with
      | none => rw [hf] at hn; simp at hn
      | some p =>
        obtain ⟨o, s'⟩ := p
        rw [hf] at hn
        simp only [Option.bind_some] at hn ⊢
        cases o with
        | norm => exact iter_some.2 ⟨n, hn⟩
        | ret => exact hn
        | exit id => exact hn
  · intro h
    cases hf : f s with
    | none => rw [hf] at h; simp at h
    | some p =>
      obtain ⟨o, s'⟩ := p
      rw [hf] at h
      simp only [Option.bind_some] at h
      cases o with
      | norm =>
        obtain ⟨n, hn⟩ := iter_some.1 h
        exact ⟨n + 1, by simp [iterN, hf, hn]⟩
      | ret => exact ⟨1, by simp [iterN, hf]; simpa using h⟩
      | exit id => exact ⟨1, by simp [iterN, hf]; simpa using h⟩

end Go.X

/- GoX, part 1: abstract values, an abstract store, a resolved form of the model's code, and an executor that knows no tape, no block numbers and no order of evaluation. No statement of the seat is here. -/
import Derived.Below
import Derived.Deep.AppendSrc
import Derived.WalkKit
namespace Go.X
open Go

/-- Abstract values. A slice names its row, the row's version, where it begins and how long it is; a pointer names row, version, element, cell. -/
inductive AV where
  | un
  | undef
  | int (k : IntKind) (n : Int)
  | bool (b : Bool)
  | str (l : List UInt8)
  | agg (cs : List AV)
  | tup (vs : List AV)
  | ptr (r v i o : Nat)
  | nilptr
  | sl (r v i n : Nat)
  | nilsl
  | fn (f : FuncId) (caps : List AV)
  | nilfn
  | ifc (t : TypeId) (x : AV)
  | nilifc
  | mp (r v : Nat)
  | nilmp
  deriving Inhabited

inductive RK where
  | ro
  | own
  | map
  deriving DecidableEq, Inhabited

/-- A row of the abstract store: elements of sz cells each. -/
structure Row where
  els : List (List AV)
  sz : Nat
  ver : Nat
  kd : RK
  deriving Inhabited

abbrev Store := List Row

/-- What a register holds: a value; a pointer into a box of the frame's own; a slice literal that is only appended. -/
inductive RV where
  | v (a : AV)
  | lp (t o : Nat)
  | ls (els : List (List AV))
  deriving Inhabited

/-- What can be nil: pointers, slices, interface values, functions, maps. -/
inductive NK where
  | p
  | s
  | i
  | f
  | m
  deriving DecidableEq, Inhabited

/-- Kinds of cells that can be compared. -/
inductive CK where
  | i
  | b
  | s
  deriving DecidableEq, Inhabited

inductive XO where
  | t (n : Nat)
  | c (v : AV)
  deriving Inhabited

inductive XOp where
  | mv (x : XO)
  | pick (c a b : XO)
  | alloc (lo : Bool) (t : Nat) (zero : List AV)
  | box (lo : Bool) (t : Nat) (sz : Nat) (x : XO)
  | load (ag : Bool) (sz : Nat) (x : XO)
  | store (sz : Nat) (a x : XO)
  | fadr (o : Nat) (x : XO)
  | iadr (sz : Nat) (x i : XO)
  | fld (ag : Bool) (o sz : Nat) (x : XO)
  | bin (b : BinOp) (x y : XO)
  | beq (neg : Bool) (x y : XO)
  | seq (neg : Bool) (ks : List CK) (x y : XO)
  | isnil (k : NK) (neg : Bool) (x : XO)
  | bnot (x : XO)
  | neg (x : XO)
  | len (st : Bool) (x : XO)
  | ext (x : XO) (i : Nat)
  | build (zero : List AV) (parts : List (Nat × Nat × XO))
  | bsl (lo : Bool) (sz n : Nat) (zero : List AV) (parts : List (Nat × XO))
  | app (sz bytes : Nat) (x y : XO)
  | slc (sz : Nat) (x : XO) (l h : Option XO)
  | sstr (x : XO) (l h : Option XO)
  | idx (x i : XO)
  | s2b (x : XO)
  | b2s (x : XO)
  | cvt (k : IntKind) (x : XO)
  | mks (sz bytes : Nat) (zero : List AV) (l c : XO)
  | nilc (x : XO)
  | mx (big : Bool) (x y : XO)
  | mkf (f : FuncId) (caps : List XO)
  | call (f : FuncId) (args : List XO)
  | calld (x : XO) (args : List XO)
  deriving Inhabited

structure XOper where
  dst : Option Nat
  op : XOp
  gd : Option (Nat × Bool)
  deriving Inhabited

inductive XC where
  | skip
  | reg (ops : List XOper) (live : List Nat) (pairs : Option (List (Nat × Nat)))
  | seq (a b : XC)
  | cond (x : XO) (a b : XC)
  | block (id : Nat) (c : XC)
  | loop (live : List Nat) (c : XC)
  | exit (id : Nat)
  | ret
  deriving Inhabited

inductive XRes where
  | t (n : Nat)
  | cell (n : Nat) (ag : Bool) (sz : Nat)
  deriving Inhabited

structure CFun where
  np : Nat
  code : XC
  res : List XRes
  pop : Bool
  deriving Inhabited

/-! ### Looking up -/

def lk {α : Type} : List (Nat × α) → Nat → Option α
  | [], _ => none
  | (k, a) :: l, n => if k = n then some a else lk l n

abbrev Regs := List (Nat × RV)
abbrev Boxes := List (Nat × List AV)
structure Mem where
  bx : Boxes
  st : Store

abbrev Call := FuncId → List AV → Store → Option (AV × Store)

def ev (g : Regs) : XO → Option RV
  | .c v => some (.v v)
  | .t n => lk g n

def RV.av : RV → Option AV
  | .v a => some a
  | _ => none

def evv (g : Regs) (x : XO) : Option AV := (ev g x).bind RV.av

def evs (g : Regs) : List XO → Option (List AV)
  | [] => some []
  | x :: l => (evv g x).bind fun a => (evs g l).bind fun as => some (a :: as)

/-- The cells of a value; of what is not known: none. -/
def cellsOf : AV → Option (List AV)
  | .un => none
  | .undef => none
  | .agg cs => some cs
  | .tup _ => none
  | a => some [a]

def ld (ag : Bool) (sz o : Nat) (cs : List AV) : Option AV :=
  if ag then (if o + sz ≤ cs.length then some (.agg ((cs.drop o).take sz)) else none) else cs[o]?

def upd (cs : List AV) (o : Nat) (y : List AV) : List AV := cs.take o ++ y ++ cs.drop (o + y.length)

/-- A row that is there, at its version, and is one of cells. -/
def rowAt (s : Store) (r v : Nat) : Option Row :=
  (s[r]?).bind fun row => if row.ver = v ∧ row.kd ≠ .map then some row else none

/-- What a pointer or a pointer into a box leads to: the element's cells, and the offset. -/
def place (M : Mem) : RV → Option (List AV × Nat)
  | .v (.ptr r v i o) => (rowAt M.st r v).bind fun row => (row.els[i]?).bind fun cs => some (cs, o)
  | .lp t o => (lk M.bx t).bind fun cs => some (cs, o)
  | _ => none

def putAt (M : Mem) (x : RV) (y : List AV) : Option Mem :=
  match x with
  | .v (.ptr r v i o) => (rowAt M.st r v).bind fun row => (row.els[i]?).bind fun cs =>
      if row.kd = .own ∧ o + y.length ≤ cs.length then some { M with st := M.st.set r { row with els := row.els.set i (upd cs o y) } } else none
  | .lp t o => (lk M.bx t).bind fun cs => if o + y.length ≤ cs.length then some { M with bx := (t, upd cs o y) :: M.bx } else none
  | _ => none

/-- The elements of a slice. -/
def elsOf (M : Mem) (sz : Nat) : RV → Option (List (List AV))
  | .v .nilsl => some []
  | .v (.sl r v i n) => (rowAt M.st r v).bind fun row => if row.sz = sz ∧ i + n ≤ row.els.length then some ((row.els.drop i).take n) else none
  | .ls els => if els.all (fun e => e.length == sz) = true then some els else none
  | _ => none

def newRow (M : Mem) (els : List (List AV)) (sz : Nat) : Mem := { M with st := M.st ++ [⟨els, sz, 0, .own⟩] }

def binV (op : BinOp) : AV → AV → Option AV
  | .int k a, .int k' b =>
    if k = k' then
      match op with
      | .add => some (.int k (k.wrap (a + b)))
      | .sub => some (.int k (k.wrap (a - b)))
      | .mul => some (.int k (k.wrap (a * b)))
      | .quo => if b = 0 then none else some (.int k (k.wrap (a.tdiv b)))
      | .rem => if b = 0 then none else some (.int k (a.tmod b))
      | .xor => some (.int k (k.wrap ((BitVec.ofInt k.bits a ^^^ BitVec.ofInt k.bits b).toNat : Nat)))
      | .eql => some (.bool (a == b))
      | .neq => some (.bool (a != b))
      | .lss => some (.bool (decide (a < b)))
      | .leq => some (.bool (decide (a ≤ b)))
      | .gtr => some (.bool (decide (a > b)))
      | .geq => some (.bool (decide (a ≥ b)))
      | _ => none
    else none
  | .str a, .str b =>
    match op with
    | .add => if a.length + b.length ≤ 140737488355328 then some (.str (a ++ b)) else none
    | .eql => some (.bool (a == b))
    | .neq => some (.bool (!(a == b)))
    | .lss => some (.bool (Op.bytesLess a b))
    | .leq => some (.bool (Op.bytesLess a b || a == b))
    | .gtr => some (.bool (!(Op.bytesLess a b || a == b)))
    | .geq => some (.bool (!(Op.bytesLess a b)))
    | _ => none
  | _, _ => none

def nilOf : NK → AV → Option Bool
  | .p, .nilptr => some true
  | .p, .ptr .. => some false
  | .s, .nilsl => some true
  | .s, .sl .. => some false
  | .i, .nilifc => some true
  | .i, .ifc .. => some false
  | .f, .nilfn => some true
  | .f, .fn .. => some false
  | .m, .nilmp => some true
  | .m, .mp .. => some false
  | _, _ => none

/-- Cells of whole numbers, bools and strings, one by one. -/
def cellEq : CK → AV → AV → Option Bool
  | .i, .int k a, .int k' b => if k = k' then some (a == b) else none
  | .b, .bool a, .bool b => some (a == b)
  | .s, .str a, .str b => some (a == b)
  | _, _, _ => none

def cellsEq : List CK → List AV → List AV → Option Bool
  | [], [], [] => some true
  | k :: ks, a :: as, b :: bs => (cellEq k a b).bind fun x => (cellsEq ks as bs).bind fun y => some (x && y)
  | _, _, _ => none

def fillP (g : Regs) : List AV → List (Nat × Nat × XO) → Option (List AV)
  | cs, [] => some cs
  | cs, (o, sz, x) :: l => (evv g x).bind fun a => (cellsOf a).bind fun y =>
      if y.length = sz ∧ o + sz ≤ cs.length then fillP g (upd cs o y) l else none

def fillS (g : Regs) (sz : Nat) : List (List AV) → List (Nat × XO) → Option (List (List AV))
  | els, [] => some els
  | els, (i, x) :: l => (evv g x).bind fun a => (cellsOf a).bind fun y =>
      if y.length = sz ∧ i < els.length then fillS g sz (els.set i y) l else none

def bnd (g : Regs) (dflt : Nat) : Option XO → Option Int
  | none => some dflt
  | some x => (evv g x).bind fun | .int _ n => some n | _ => none

def byteOfCell : List AV → Option UInt8
  | [.int .u8 n] => some (UInt8.ofNat n.toNat)
  | _ => none

def allSome {α β : Type} (f : α → Option β) : List α → Option (List β)
  | [] => some []
  | a :: l => (f a).bind fun b => (allSome f l).bind fun bs => some (b :: bs)

/-- One operation that calls nothing. -/
def evP (g : Regs) (M : Mem) : XOp → Option (RV × Mem)
  | .mv x => (ev g x).bind fun a => some (a, M)
  | .pick c a b => (evv g c).bind fun | .bool t => (if t then ev g a else ev g b).bind fun x => some (x, M) | _ => none
  | .alloc true t zero => if (lk M.bx t).isNone then some (.lp t 0, { M with bx := (t, zero) :: M.bx }) else none
  | .alloc false _ zero => some (.v (.ptr M.st.length 0 0 0), newRow M [zero] zero.length)
  | .box true t sz x => (evv g x).bind fun a => (cellsOf a).bind fun y =>
      if (lk M.bx t).isNone ∧ y.length = sz then some (.lp t 0, { M with bx := (t, y) :: M.bx }) else none
  | .box false _ sz x => (evv g x).bind fun a => (cellsOf a).bind fun y =>
      if y.length = sz then some (.v (.ptr M.st.length 0 0 0), newRow M [y] sz) else none
  | .load ag sz x => (ev g x).bind fun p => (place M p).bind fun (cs, o) => (ld ag sz o cs).bind fun a => some (.v a, M)
  | .store sz p x => (ev g p).bind fun p => (evv g x).bind fun a => (cellsOf a).bind fun y =>
      if y.length = sz then (putAt M p y).bind fun M' => some (.v .undef, M') else none
  | .fadr o x => (ev g x).bind fun | .v (.ptr r v i o') => some (.v (.ptr r v i (o' + o)), M) | .lp t o' => some (.lp t (o' + o), M) | _ => none
  | .iadr sz x i => (evv g x).bind fun a => (evv g i).bind fun b =>
      match a, b with
      | .sl r v s n, .int _ k => (rowAt M.st r v).bind fun row =>
          if row.sz = sz ∧ 0 ≤ k ∧ k < n then some (.v (.ptr r v (s + k.toNat) 0), M) else none
      | _, _ => none
  | .fld ag o sz x => (evv g x).bind fun | .agg cs => (ld ag sz o cs).bind fun a => some (.v a, M) | _ => none
  | .bin op x y => (evv g x).bind fun a => (evv g y).bind fun b => (binV op a b).bind fun c => some (.v c, M)
  | .beq neg x y => (evv g x).bind fun a => (evv g y).bind fun b =>
      match a, b with
      | .bool a, .bool b => some (.v (.bool (if neg then !(a == b) else a == b)), M)
      | _, _ => none
  | .seq neg ks x y => (evv g x).bind fun a => (evv g y).bind fun b =>
      match a, b with
      | .agg a, .agg b => (cellsEq ks a b).bind fun e => some (.v (.bool (if neg then !e else e)), M)
      | _, _ => none
  | .isnil k neg x => (evv g x).bind fun a => (nilOf k a).bind fun b => some (.v (.bool (if neg then !b else b)), M)
  | .bnot x => (evv g x).bind fun | .bool b => some (.v (.bool (!b)), M) | _ => none
  | .neg x => (evv g x).bind fun | .int k n => some (.v (.int k (k.wrap (0 - n))), M) | _ => none
  | .len true x => (evv g x).bind fun
      | .str l => some (.v (.int .i64 l.length), M)
      | _ => none
  | .len false x => (evv g x).bind fun
      | .sl _ _ _ n => some (.v (.int .i64 n), M)
      | .nilsl => some (.v (.int .i64 0), M)
      | _ => none
  | .ext x i => (evv g x).bind fun | .tup vs => (vs[i]?).bind fun a => some (.v a, M) | _ => none
  | .build zero parts => (fillP g zero parts).bind fun cs => some (.v (.agg cs), M)
  | .bsl lo sz n zero parts => (fillS g sz (List.replicate n zero) parts).bind fun els =>
      if lo then some (.ls els, M) else some (.v (.sl M.st.length 0 0 n), newRow M els sz)
  | .app sz bytes x y => (evv g x).bind fun a => (ev g y).bind fun b => (elsOf M sz b).bind fun ys =>
      match a with
      | .nilsl => if ys.length * bytes ≤ 140737488355328 then
            (match ys with
             | [] => some (.v .nilsl, M)
             | _ => some (.v (.sl M.st.length 0 0 ys.length), newRow M ys sz)) else none
      | .sl r v i n => (rowAt M.st r v).bind fun row =>
          if row.kd = .own ∧ row.sz = sz ∧ i + n ≤ row.els.length ∧ (n + ys.length) * bytes ≤ 140737488355328 then
            some (.v (.sl r (v + 1) 0 (n + ys.length)), { M with st := M.st.set r { row with els := (row.els.drop i).take n ++ ys, ver := v + 1 } })
          else none
      | _ => none
  | .slc sz x l h => (evv g x).bind fun
      | .sl r v i n => (M.st[r]?).bind fun row => (bnd g 0 l).bind fun lo => (bnd g n h).bind fun hi =>
          if row.sz = sz ∧ 0 ≤ lo ∧ lo ≤ hi ∧ hi ≤ n then some (.v (.sl r v (i + lo.toNat) (hi.toNat - lo.toNat)), M) else none
      | .nilsl => (bnd g 0 l).bind fun lo => (bnd g 0 h).bind fun hi => if lo = 0 ∧ hi = 0 then some (.v .nilsl, M) else none
      | _ => none
  | .sstr x l h => (evv g x).bind fun
      | .str s => (bnd g 0 l).bind fun lo => (bnd g s.length h).bind fun hi =>
          if 0 ≤ lo ∧ lo ≤ hi ∧ hi ≤ s.length then some (.v (.str ((s.drop lo.toNat).take (hi.toNat - lo.toNat))), M) else none
      | _ => none
  | .idx x i => (evv g x).bind fun a => (evv g i).bind fun b =>
      match a, b with
      | .str s, .int _ k => if 0 ≤ k ∧ k < s.length then some (.v (.int .u8 ((s.getD k.toNat 0).toNat : Nat)), M) else none
      | _, _ => none
  | .s2b x => (evv g x).bind fun
      | .str s => some (.v (.sl M.st.length 0 0 s.length), newRow M (s.map fun b => [.int .u8 (b.toNat : Nat)]) 1)
      | _ => none
  | .b2s x => (ev g x).bind fun b => (elsOf M 1 b).bind fun els => (allSome byteOfCell els).bind fun s => some (.v (.str s), M)
  | .cvt k x => (evv g x).bind fun | .int _ n => some (.v (.int k (k.wrap n)), M) | _ => none
  | .mks sz bytes zero l c => (evv g l).bind fun a => (evv g c).bind fun b =>
      match a, b with
      | .int .i64 n, .int .i64 m => if 0 ≤ n ∧ n ≤ m ∧ m * bytes ≤ 140737488355328 ∧ m ≤ 140737488355328 then some (.v (.sl M.st.length 0 0 n.toNat), newRow M (List.replicate n.toNat zero) sz) else none
      | _, _ => none
  | .nilc x => (ev g x).bind fun | .v (.ptr r v i o) => some (.v (.ptr r v i o), M) | .lp t o => some (.lp t o, M) | _ => none
  | .mkf f caps => (evs g caps).bind fun as => some (.v (.fn f as), M)
  | .mx big x y => (evv g x).bind fun a => (evv g y).bind fun b =>
      match a, b with
      | .int k p, .int k' q => if k = k' then some (.v (.int k (if big then (if q > p then q else p) else (if q < p then q else p))), M) else none
      | _, _ => none
  | .call .. => none
  | .calld .. => none

def evOp (E : Call) (g : Regs) (M : Mem) : XOp → Option (RV × Mem)
  | .call f args => (evs g args).bind fun as => (E f as M.st).bind fun (a, st) => some (.v a, { M with st := st })
  | .calld x args => (evv g x).bind fun
      | .fn f caps => (evs g args).bind fun as => (E f (as ++ caps) M.st).bind fun (a, st) => some (.v a, { M with st := st })
      | _ => none
  | op => evP g M op

def putd (g : Regs) : Option Nat → RV → Regs
  | none, _ => g
  | some d, v => (d, v) :: g

/-- Is a guarded operation wanted? -/
def wants (g : Regs) : Option (Nat × Bool) → Option Bool
  | none => some true
  | some (t, b) => match lk g t with
    | some (.v (.bool c)) => some (c == b)
    | some (.v .undef) => some false
    | _ => none

def evG (E : Call) (g : Regs) (M : Mem) (o : XOper) : Option (RV × Mem) :=
  (wants g o.gd).bind fun | true => evOp E g M o.op | false => some (.v .undef, M)

def execOps (E : Call) : List XOper → Regs → Mem → Option (Regs × Mem)
  | [], g, M => some (g, M)
  | o :: os, g, M => (evG E g M o).bind fun (v, M') => execOps E os (putd g o.dst v) M'

/-- What each operation of a region sees, in the text's order. -/
def trace (E : Call) : List XOper → Regs → Mem → List (Regs × Mem)
  | [], g, M => [(g, M)]
  | o :: os, g, M => (g, M) :: (match evG E g M o with | some (v, M') => trace E os (putd g o.dst v) M' | none => [])

/-- Operation j tells the same, and changes nothing, on both sides of operation i. -/
def stable1 (E : Call) (ops : List XOper) (tr : List (Regs × Mem)) (j i : Nat) : Prop :=
  ∀ o g M v M' gi Mi gn Mn, ops[j]? = some o → tr[j]? = some (g, M) → evG E g M o = some (v, M') → tr[i]? = some (gi, Mi) → tr[i + 1]? = some (gn, Mn) →
    evG E g Mi o = some (v, Mi) ∧ evG E g Mn o = some (v, Mn)

def stable (E : Call) (ops : List XOper) (g : Regs) (M : Mem) (pairs : List (Nat × Nat)) : Prop :=
  ∀ p ∈ pairs, stable1 E ops (trace E ops g M) p.1 p.2

def projR (g : Regs) (bx : Boxes) : List Nat → Regs
  | [] => []
  | t :: l => match lk g t with
    | some (.v a) => (t, .v a) :: projR g bx l
    | some (.lp t' 0) => if t' = t ∧ (lk bx t).isSome then (t, .lp t' 0) :: projR g bx l else projR g bx l
    | _ => projR g bx l

def projB (g : Regs) (bx : Boxes) : List Nat → Boxes
  | [] => []
  | t :: l => match lk g t, lk bx t with
    | some (.lp t' 0), some cs => if t' = t then (t, cs) :: projB g bx l else projB g bx l
    | _, _ => projB g bx l

def proj (live : List Nat) (s : Regs × Mem) : Regs × Mem := (projR s.1 s.2.bx live, { s.2 with bx := projB s.1 s.2.bx live })

inductive Out where
  | norm
  | ret
  | exit (id : Nat)
  deriving DecidableEq

abbrev S := Regs × Mem

def iterN (f : S → Option (Out × S)) : Nat → S → Option (Out × S)
  | 0, _ => none
  | n + 1, s => (f s).bind fun | (.norm, s') => iterN f n s' | (o, s') => some (o, s')

open Classical in
/-- A loop to its end, without a bound on rounds. -/
noncomputable def iter (f : S → Option (Out × S)) (s : S) : Option (Out × S) :=
  if h : ∃ r, ∃ n, iterN f n s = some r then some (Classical.choose h) else none

open Classical in
noncomputable def exec (E : Call) : XC → S → Option (Out × S)
  | .skip, s => some (.norm, s)
  | .reg ops live none, s => (execOps E ops s.1 s.2).bind fun s' => some (.norm, proj live s')
  | .reg ops live (some pairs), s => if stable E ops s.1 s.2 pairs then (execOps E ops s.1 s.2).bind fun s' => some (.norm, proj live s') else none
  | .seq a b, s => (exec E a s).bind fun | (.norm, s') => exec E b s' | (o, s') => some (o, s')
  | .cond x a b, s => (evv s.1 x).bind fun | .bool true => exec E a s | .bool false => exec E b s | _ => none
  | .block id c, s => (exec E c s).bind fun | (.exit id', s') => if id' = id then some (.norm, s') else some (.exit id', s') | (o, s') => some (o, s')
  | .loop live c, s => iter (fun s => exec E c (proj live s)) s
  | .exit id, s => some (.exit id, s)
  | .ret, s => some (.ret, s)

def resOf (s : S) : XRes → Option AV
  | .t n => evv s.1 (.t n)
  | .cell n ag sz => (ev s.1 (.t n)).bind fun p => (place s.2 p).bind fun (cs, o) => ld ag sz o cs

def result (s : S) (l : List XRes) : Option AV := (allSome (resOf s) l).bind fun | [a] => some a | as => some (.tup as)

mutual
/-- A value names no row from n on. -/
def below (n : Nat) : AV → Bool
  | .ptr r _ _ _ => r < n
  | .sl r _ _ _ => r < n
  | .mp r _ => r < n
  | .agg cs => belows n cs
  | .tup cs => belows n cs
  | .fn _ cs => belows n cs
  | .ifc _ x => below n x
  | _ => true
def belows (n : Nat) : List AV → Bool
  | [] => true
  | a :: l => below n a && belows n l
end

def number {α : Type} (k : Nat) : List α → List (Nat × α)
  | [] => []
  | a :: l => (k, a) :: number (k + 1) l

open Classical in
noncomputable def bodyX (E : Call) (cf : CFun) (args : List AV) (st : Store) : Option (AV × Store) :=
  if args.length = cf.np then
    (exec E cf.code (number 0 (args.map RV.v), ⟨[], st⟩)).bind fun
      | (.exit _, _) => none
      | (_, s) => (result s cf.res).bind fun a =>
          if cf.pop then (if s.2.st.take st.length = st ∧ below st.length a = true then some (a, st) else none) else some (a, s.2.st)
  else none

/-- The functions, with a bound on how deep calls go. X: what is told of functions without code here. -/
noncomputable def exF (C : FuncId → Option CFun) (X : Call) : Nat → Call
  | 0 => fun _ _ _ => none
  | k + 1 => fun f args st => match C f with
    | some cf => bodyX (exF C X k) cf args st
    | none => X f args st

open Classical in
/-- The functions, without a bound. -/
noncomputable def Ex (C : FuncId → Option CFun) (X : Call) : Call := fun f args st =>
  if h : ∃ r, ∃ k, exF C X k f args st = some r then some (Classical.choose h) else none

/-! ### Loops: the unfolding equation -/

theorem iterN_mono {f : S → Option (Out × S)} : ∀ {n m : Nat} {s : S} {r}, iterN f n s = some r → n ≤ m → iterN f m s = some r := by
  intro n
  induction n with
  | zero => intro m s r h _; simp [iterN] at h
  | succ n ih =>
    intro m s r h hm
    obtain ⟨m, rfl⟩ : ∃ k, m = k + 1 := ⟨m - 1, by omega⟩
    simp only [iterN] at h ⊢
    cases hf : f s with
    | none => rw [hf] at h; simp at h
    | some p =>
      obtain ⟨o, s'⟩ := p
      rw [hf] at h
      simp only [Option.bind_some] at h ⊢
      cases o with
      | norm => exact ih h (by omega)
      | ret => exact h
      | exit id => exact h

theorem iter_some {f : S → Option (Out × S)} {s : S} {r} : iter f s = some r ↔ ∃ n, iterN f n s = some r := by
  unfold iter
  constructor
  · intro h
    split at h
    · rename_i he
      obtain ⟨n, hn⟩ := Classical.choose_spec he
      exact ⟨n, by rw [hn]; exact h⟩
    · simp at h
  · rintro ⟨n, hn⟩
    have he : ∃ r, ∃ n, iterN f n s = some r := ⟨r, n, hn⟩
    rw [dif_pos he]
    obtain ⟨m, hm⟩ := Classical.choose_spec he
    have h1 := iterN_mono hn (Nat.le_max_left n m)
    have h2 := iterN_mono hm (Nat.le_max_right n m)
    rw [h1] at h2
    exact h2.symm

theorem iter_eq (f : S → Option (Out × S)) (s : S) : iter f s = (f s).bind fun | (.norm, s') => iter f s' | (o, s') => some (o, s') := by
  apply Option.ext
  intro r
  rw [iter_some]
  constructor
  · rintro ⟨n, hn⟩
    cases n with
    | zero => simp [iterN] at hn
    | succ n =>
      simp only [iterN] at hn
      cases hf : f s with
      | none => rw [hf] at hn; simp at hn
      | some p =>
        obtain ⟨o, s'⟩ := p
        rw [hf] at hn
        simp only [Option.bind_some] at hn ⊢
        cases o with
        | norm => exact iter_some.2 ⟨n, hn⟩
        | ret => exact hn
        | exit id => exact hn
  · intro h
    cases hf : f s with
    | none => rw [hf] at h; simp at h
    | some p =>
      obtain ⟨o, s'⟩ := p
      rw [hf] at h
      simp only [Option.bind_some] at h
      cases o with
      | norm =>
        obtain ⟨n, hn⟩ := iter_some.1 h
        exact ⟨n + 1, by simp [iterN, hf, hn]⟩
      | ret => exact ⟨1, by simp [iterN, hf]; simpa using h⟩
      | exit id => exact ⟨1, by simp [iterN, hf]; simpa using h⟩

end Go.X

/- GoX, part 1b: the executor grows with its calls (mono), needs finitely many of them (cont), and so the functions without a bound obey their unfolding equation. No statement of the seat is here. -/
set_option linter.unusedVariables false
namespace Go.X
open Go

def Le (E E' : Call) : Prop := ∀ f a s r, E f a s = some r → E' f a s = some r

theorem Le.refl (E : Call) : Le E E := fun _ _ _ _ h => h
theorem Le.trans {E E' E'' : Call} (h : Le E E') (h' : Le E' E'') : Le E E'' := fun _ _ _ _ x => h' _ _ _ _ (h _ _ _ _ x)

theorem bind_some' {α β : Type} {o : Option α} {f : α → Option β} {b : β} : o.bind f = some b ↔ ∃ a, o = some a ∧ f a = some b := by
  cases o <;> simp

theorem evOp_mono {E E' : Call} (h : Le E E') {g : Regs} {M : Mem} {op : XOp} {r} (he : evOp E g M op = some r) : evOp E' g M op = some r := by
  cases op with
  | call f args =>
    simp only [evOp, bind_some'] at he ⊢
    obtain ⟨as, h1, ⟨a, st⟩, h2, h3⟩ := he
    exact ⟨as, h1, (a, st), h _ _ _ _ h2, h3⟩
  | calld x args =>
    simp only [evOp, bind_some'] at he ⊢
    obtain ⟨a, h1, h2⟩ := he
    refine ⟨a, h1, ?_⟩
    cases a <;> simp only [reduceCtorEq] at h2 ⊢
    simp only [bind_some'] at h2 ⊢
    obtain ⟨as, h1, ⟨a, st⟩, h2, h3⟩ := h2
    exact ⟨as, h1, (a, st), h _ _ _ _ h2, h3⟩
  | _ => exact he

theorem evG_mono {E E' : Call} (h : Le E E') {g : Regs} {M : Mem} {o : XOper} {r} (he : evG E g M o = some r) : evG E' g M o = some r := by
  simp only [evG, bind_some'] at he ⊢
  obtain ⟨b, h1, h2⟩ := he
  refine ⟨b, h1, ?_⟩
  cases b with
  | true => exact evOp_mono h h2
  | false => exact h2

theorem execOps_mono {E E' : Call} (h : Le E E') : ∀ {ops : List XOper} {g : Regs} {M : Mem} {r}, execOps E ops g M = some r → execOps E' ops g M = some r := by
  intro ops
  induction ops with
  | nil => intro g M r he; exact he
  | cons o os ih =>
    intro g M r he
    simp only [execOps, bind_some'] at he ⊢
    obtain ⟨p, h1, h2⟩ := he
    exact ⟨p, evG_mono h h1, ih h2⟩

/-- Where a region goes through, its trace grows no more. -/
theorem trace_mono {E E' : Call} (h : Le E E') : ∀ {ops : List XOper} {g : Regs} {M : Mem} {r}, execOps E ops g M = some r → trace E' ops g M = trace E ops g M := by
  intro ops
  induction ops with
  | nil => intro g M r _; rfl
  | cons o os ih =>
    intro g M r he
    simp only [execOps, bind_some'] at he
    obtain ⟨p, h1, h2⟩ := he
    obtain ⟨v, M'⟩ := p
    simp only [trace, h1, evG_mono h h1]
    rw [ih h2]

/-- At each place of a trace of a region that goes through the operation tells something. -/
theorem trace_some {E : Call} : ∀ {ops : List XOper} {g : Regs} {M : Mem} {r}, execOps E ops g M = some r → ∀ (j : Nat) (o : XOper) (g' : Regs) (M' : Mem), ops[j]? = some o → (trace E ops g M)[j]? = some (g', M') → ∃ p, evG E g' M' o = some p := by
  intro ops
  induction ops with
  | nil => intro g M r _ j o g' M' ho; simp at ho
  | cons o os ih =>
    intro g M r he j o' g' M' ho ht
    simp only [execOps, bind_some'] at he
    obtain ⟨p, h1, h2⟩ := he
    cases j with
    | zero =>
      simp only [List.getElem?_cons_zero, Option.some.injEq] at ho
      simp only [trace, List.getElem?_cons_zero, Option.some.injEq, Prod.mk.injEq] at ht
      obtain ⟨rfl, rfl⟩ := ht
      subst ho
      exact ⟨p, h1⟩
    | succ j =>
      simp only [List.getElem?_cons_succ] at ho
      simp only [trace, h1, List.getElem?_cons_succ] at ht
      exact ih h2 j o' g' M' ho ht

theorem stable_mono {E E' : Call} (h : Le E E') {ops : List XOper} {g : Regs} {M : Mem} {pairs} {r} (he : execOps E ops g M = some r) (hs : stable E ops g M pairs) : stable E' ops g M pairs := by
  intro p hp o g' M' v M'' gi Mi gn Mn ho ht hv hi hn
  rw [trace_mono h he] at ht hi hn
  obtain ⟨q, hq⟩ := trace_some he _ _ _ _ ho ht
  have := evG_mono h hq
  rw [hv] at this
  cases this
  obtain ⟨h1, h2⟩ := hs p hp o g' M' v M'' gi Mi gn Mn ho ht hq hi hn
  exact ⟨evG_mono h h1, evG_mono h h2⟩

theorem iterN_le {f f' : S → Option (Out × S)} (h : ∀ s r, f s = some r → f' s = some r) : ∀ {n : Nat} {s : S} {r}, iterN f n s = some r → iterN f' n s = some r := by
  intro n
  induction n with
  | zero => intro s r he; exact he
  | succ n ih =>
    intro s r he
    simp only [iterN, bind_some'] at he ⊢
    obtain ⟨⟨o, s'⟩, h1, h2⟩ := he
    refine ⟨(o, s'), h _ _ h1, ?_⟩
    cases o with
    | norm => exact ih h2
    | ret => exact h2
    | exit id => exact h2

theorem exec_mono {E E' : Call} (h : Le E E') : ∀ {c : XC} {s : S} {r}, exec E c s = some r → exec E' c s = some r := by
  intro c
  induction c with
  | skip => intro s r he; exact he
  | ret => intro s r he; exact he
  | exit id => intro s r he; exact he
  | reg ops live pairs =>
    intro s r he
    cases pairs with
    | none =>
      simp only [exec, bind_some'] at he ⊢
      obtain ⟨p, h1, h2⟩ := he
      exact ⟨p, execOps_mono h h1, h2⟩
    | some pairs =>
      simp only [exec] at he ⊢
      split at he
      · rename_i hs
        simp only [bind_some'] at he
        obtain ⟨p, h1, h2⟩ := he
        rw [if_pos (stable_mono h h1 hs)]
        simp only [bind_some']
        exact ⟨p, execOps_mono h h1, h2⟩
      · simp at he
  | seq a b iha ihb =>
    intro s r he
    simp only [exec, bind_some'] at he ⊢
    obtain ⟨⟨o, s'⟩, h1, h2⟩ := he
    refine ⟨(o, s'), iha h1, ?_⟩
    cases o with
    | norm => exact ihb h2
    | ret => exact h2
    | exit id => exact h2
  | cond x a b iha ihb =>
    intro s r he
    simp only [exec, bind_some'] at he ⊢
    obtain ⟨v, h1, h2⟩ := he
    refine ⟨v, h1, ?_⟩
    cases v with
    | bool t => cases t with
      | true => exact iha h2
      | false => exact ihb h2
    | _ => simp at h2
  | block id c ih =>
    intro s r he
    simp only [exec, bind_some'] at he ⊢
    obtain ⟨⟨o, s'⟩, h1, h2⟩ := he
    exact ⟨(o, s'), ih h1, h2⟩
  | loop live c ih =>
    intro s r he
    simp only [exec] at he ⊢
    obtain ⟨n, hn⟩ := iter_some.1 he
    exact iter_some.2 ⟨n, iterN_le (fun s r => ih) hn⟩

theorem bodyX_mono {E E' : Call} (h : Le E E') {cf : CFun} {args : List AV} {st : Store} {r} (he : bodyX E cf args st = some r) : bodyX E' cf args st = some r := by
  unfold bodyX at he ⊢
  split at he
  · rename_i hn
    rw [if_pos hn]
    simp only [bind_some'] at he ⊢
    obtain ⟨p, h1, h2⟩ := he
    exact ⟨p, exec_mono h h1, h2⟩
  · simp at he

theorem exF_succ {C : FuncId → Option CFun} {X : Call} : ∀ k, Le (exF C X k) (exF C X (k + 1)) := by
  intro k
  induction k with
  | zero => intro f a s r h; simp [exF] at h
  | succ k ih =>
    intro f a s r h
    unfold exF at h ⊢
    cases hc : C f with
    | none => rw [hc] at h; exact h
    | some cf => rw [hc] at h; exact bodyX_mono ih h

theorem exF_le {C : FuncId → Option CFun} {X : Call} {k m : Nat} (h : k ≤ m) : Le (exF C X k) (exF C X m) := by
  induction h with
  | refl => exact Le.refl _
  | step _ ih => exact ih.trans (exF_succ _)

theorem Ex_some {C : FuncId → Option CFun} {X : Call} {f a s r} : Ex C X f a s = some r ↔ ∃ k, exF C X k f a s = some r := by
  unfold Ex
  constructor
  · intro h
    split at h
    · rename_i he
      obtain ⟨k, hk⟩ := Classical.choose_spec he
      exact ⟨k, by rw [hk]; exact h⟩
    · simp at h
  · rintro ⟨k, hk⟩
    have he : ∃ r, ∃ k, exF C X k f a s = some r := ⟨r, k, hk⟩
    rw [dif_pos he]
    obtain ⟨m, hm⟩ := Classical.choose_spec he
    have h1 := exF_le (Nat.le_max_left k m) _ _ _ _ hk
    have h2 := exF_le (Nat.le_max_right k m) _ _ _ _ hm
    rw [h1] at h2
    exact h2.symm

/-! ### Finitely many calls are enough -/

structure Chain (G : Nat → Call) (E : Call) : Prop where
  step : ∀ k, Le (G k) (G (k + 1))
  sup : ∀ f a s r, E f a s = some r → ∃ k, G k f a s = some r

theorem Chain.le {G : Nat → Call} {E : Call} (c : Chain G E) {k m : Nat} (h : k ≤ m) : Le (G k) (G m) := by
  induction h with
  | refl => exact Le.refl _
  | step _ ih => exact ih.trans (c.step _)

section
variable {G : Nat → Call} {E : Call} (c : Chain G E)
include c

theorem evOp_cont {g : Regs} {M : Mem} {op : XOp} {r} (he : evOp E g M op = some r) : ∃ k, evOp (G k) g M op = some r := by
  cases op with
  | call f args =>
    simp only [evOp, bind_some'] at he ⊢
    obtain ⟨as, h1, ⟨a, st⟩, h2, h3⟩ := he
    obtain ⟨k, hk⟩ := c.sup _ _ _ _ h2
    exact ⟨k, as, h1, (a, st), hk, h3⟩
  | calld x args =>
    simp only [evOp, bind_some'] at he ⊢
    obtain ⟨a, h1, h2⟩ := he
    cases a <;> simp only [reduceCtorEq] at h2
    simp only [bind_some'] at h2
    obtain ⟨as, h3, ⟨a, st⟩, h4, h5⟩ := h2
    obtain ⟨k, hk⟩ := c.sup _ _ _ _ h4
    refine ⟨k, _, h1, ?_⟩
    simp only [bind_some']
    exact ⟨as, h3, (a, st), hk, h5⟩
  | _ => exact ⟨0, he⟩

theorem evG_cont {g : Regs} {M : Mem} {o : XOper} {r} (he : evG E g M o = some r) : ∃ k, evG (G k) g M o = some r := by
  simp only [evG, bind_some'] at he ⊢
  obtain ⟨b, h1, h2⟩ := he
  cases b with
  | true =>
    obtain ⟨k, hk⟩ := evOp_cont c h2
    exact ⟨k, true, h1, hk⟩
  | false => exact ⟨0, false, h1, h2⟩

theorem execOps_cont : ∀ {ops : List XOper} {g : Regs} {M : Mem} {r}, execOps E ops g M = some r → ∃ k, execOps (G k) ops g M = some r := by
  intro ops
  induction ops with
  | nil => intro g M r he; exact ⟨0, he⟩
  | cons o os ih =>
    intro g M r he
    simp only [execOps, bind_some'] at he ⊢
    obtain ⟨p, h1, h2⟩ := he
    obtain ⟨k, hk⟩ := evG_cont c h1
    obtain ⟨m, hm⟩ := ih h2
    exact ⟨max k m, p, evG_mono (c.le (Nat.le_max_left k m)) hk, execOps_mono (c.le (Nat.le_max_right k m)) hm⟩

theorem stable1_cont (hle : ∀ k, Le (G k) E) {ops : List XOper} {g : Regs} {M : Mem} {r} {j i : Nat} (hs : stable1 E ops (trace E ops g M) j i) :
    ∃ k, ∀ m, k ≤ m → execOps (G m) ops g M = some r → stable1 (G m) ops (trace E ops g M) j i := by
  by_cases hx : ∃ o g' M' v M'' gi Mi gn Mn, ops[j]? = some o ∧ (trace E ops g M)[j]? = some (g', M') ∧ evG E g' M' o = some (v, M'') ∧ (trace E ops g M)[i]? = some (gi, Mi) ∧ (trace E ops g M)[i + 1]? = some (gn, Mn)
  · obtain ⟨o, g', M', v, M'', gi, Mi, gn, Mn, ho, ht, hv, hi, hn⟩ := hx
    obtain ⟨h1, h2⟩ := hs o g' M' v M'' gi Mi gn Mn ho ht hv hi hn
    obtain ⟨k1, hk1⟩ := evG_cont c h1
    obtain ⟨k2, hk2⟩ := evG_cont c h2
    refine ⟨max k1 k2, fun m hm _ => ?_⟩
    intro o2 g2 M2 v2 M2' gi2 Mi2 gn2 Mn2 ho2 ht2 hv2 hi2 hn2
    rw [ho] at ho2; cases ho2
    rw [ht] at ht2; cases ht2
    rw [hi] at hi2; cases hi2
    rw [hn] at hn2; cases hn2
    have := evG_mono (hle m) hv2
    rw [hv] at this; cases this
    exact ⟨evG_mono (c.le (by omega)) hk1, evG_mono (c.le (by omega)) hk2⟩
  · refine ⟨0, fun m _ _ => ?_⟩
    intro o2 g2 M2 v2 M2' gi2 Mi2 gn2 Mn2 ho2 ht2 hv2 hi2 hn2
    exact absurd ⟨o2, g2, M2, v2, M2', gi2, Mi2, gn2, Mn2, ho2, ht2, evG_mono (hle m) hv2, hi2, hn2⟩ hx

theorem stable_cont (hle : ∀ k, Le (G k) E) {ops : List XOper} {g : Regs} {M : Mem} {r} (he : execOps E ops g M = some r) :
    ∀ {pairs : List (Nat × Nat)}, stable E ops g M pairs → ∃ k, ∀ m, k ≤ m → execOps (G m) ops g M = some r → stable (G m) ops g M pairs := by
  intro pairs
  induction pairs with
  | nil => intro _; exact ⟨0, fun m _ _ p hp => absurd hp (by simp)⟩
  | cons p ps ih =>
    intro hs
    obtain ⟨k1, h1⟩ := stable1_cont c hle (r := r) (hs p (by simp))
    obtain ⟨k2, h2⟩ := ih (fun q hq => hs q (by simp [hq]))
    refine ⟨max k1 k2, fun m hm hx q hq => ?_⟩
    have ht := trace_mono (hle m) hx
    rcases List.mem_cons.1 hq with rfl | hq
    · rw [← ht]; exact h1 m (by omega) hx
    · exact h2 m (by omega) hx q hq

omit c in
theorem iterN_cont {f : S → Option (Out × S)} {F : Nat → S → Option (Out × S)} (hm : ∀ k m s r, k ≤ m → F k s = some r → F m s = some r)
    (h : ∀ s r, f s = some r → ∃ k, F k s = some r) : ∀ {n : Nat} {s : S} {r}, iterN f n s = some r → ∃ k, iterN (F k) n s = some r := by
  intro n
  induction n with
  | zero => intro s r he; simp [iterN] at he
  | succ n ih =>
    intro s r he
    simp only [iterN, bind_some'] at he
    obtain ⟨⟨o, s'⟩, h1, h2⟩ := he
    obtain ⟨k, hk⟩ := h _ _ h1
    cases o with
    | norm =>
      obtain ⟨m, hm'⟩ := ih h2
      refine ⟨max k m, ?_⟩
      simp only [iterN, bind_some']
      exact ⟨(.norm, s'), hm _ _ _ _ (Nat.le_max_left k m) hk, iterN_le (fun s r => hm _ _ s r (Nat.le_max_right k m)) hm'⟩
    | ret => exact ⟨k, by simp only [iterN, bind_some']; exact ⟨_, hk, h2⟩⟩
    | exit id => exact ⟨k, by simp only [iterN, bind_some']; exact ⟨_, hk, h2⟩⟩

theorem exec_cont (hle : ∀ k, Le (G k) E) : ∀ {x : XC} {s : S} {r}, exec E x s = some r → ∃ k, exec (G k) x s = some r := by
  intro x
  induction x with
  | skip => intro s r he; exact ⟨0, he⟩
  | ret => intro s r he; exact ⟨0, he⟩
  | exit id => intro s r he; exact ⟨0, he⟩
  | reg ops live pairs =>
    intro s r he
    cases pairs with
    | none =>
      simp only [exec, bind_some'] at he ⊢
      obtain ⟨p, h1, h2⟩ := he
      obtain ⟨k, hk⟩ := execOps_cont c h1
      exact ⟨k, p, hk, h2⟩
    | some pairs =>
      simp only [exec] at he ⊢
      split at he
      · rename_i hs
        simp only [bind_some'] at he
        obtain ⟨p, h1, h2⟩ := he
        obtain ⟨k, hk⟩ := execOps_cont c h1
        obtain ⟨m, hm⟩ := stable_cont c hle h1 hs
        have hx := execOps_mono (c.le (Nat.le_max_left k m)) hk
        refine ⟨max k m, ?_⟩
        rw [if_pos (hm _ (Nat.le_max_right k m) hx)]
        simp only [bind_some']
        exact ⟨p, hx, h2⟩
      · simp at he
  | seq a b iha ihb =>
    intro s r he
    simp only [exec, bind_some'] at he
    obtain ⟨⟨o, s'⟩, h1, h2⟩ := he
    obtain ⟨k, hk⟩ := iha h1
    cases o with
    | norm =>
      obtain ⟨m, hm⟩ := ihb h2
      refine ⟨max k m, ?_⟩
      simp only [exec, bind_some']
      exact ⟨_, exec_mono (c.le (Nat.le_max_left k m)) hk, exec_mono (c.le (Nat.le_max_right k m)) hm⟩
    | ret => exact ⟨k, by simp only [exec, bind_some']; exact ⟨_, hk, h2⟩⟩
    | exit id => exact ⟨k, by simp only [exec, bind_some']; exact ⟨_, hk, h2⟩⟩
  | cond x a b iha ihb =>
    intro s r he
    simp only [exec, bind_some'] at he
    obtain ⟨v, h1, h2⟩ := he
    cases v with
    | bool t => cases t with
      | true =>
        obtain ⟨k, hk⟩ := iha h2
        exact ⟨k, by simp only [exec, bind_some']; exact ⟨_, h1, hk⟩⟩
      | false =>
        obtain ⟨k, hk⟩ := ihb h2
        exact ⟨k, by simp only [exec, bind_some']; exact ⟨_, h1, hk⟩⟩
    | _ => simp at h2
  | block id b ih =>
    intro s r he
    simp only [exec, bind_some'] at he
    obtain ⟨p, h1, h2⟩ := he
    obtain ⟨k, hk⟩ := ih h1
    exact ⟨k, by simp only [exec, bind_some']; exact ⟨_, hk, h2⟩⟩
  | loop live b ih =>
    intro s r he
    simp only [exec] at he ⊢
    obtain ⟨n, hn⟩ := iter_some.1 he
    obtain ⟨k, hk⟩ := iterN_cont (F := fun k s => exec (G k) b (proj live s)) (fun k m s r hkm hx => exec_mono (c.le hkm) hx) (fun s r hx => ih hx) hn
    exact ⟨k, iter_some.2 ⟨n, hk⟩⟩

theorem bodyX_cont (hle : ∀ k, Le (G k) E) {cf : CFun} {args : List AV} {st : Store} {r} (he : bodyX E cf args st = some r) : ∃ k, bodyX (G k) cf args st = some r := by
  unfold bodyX at he
  split at he
  · rename_i hn
    simp only [bind_some'] at he
    obtain ⟨p, h1, h2⟩ := he
    obtain ⟨k, hk⟩ := exec_cont c hle h1
    refine ⟨k, ?_⟩
    unfold bodyX
    rw [if_pos hn]
    simp only [bind_some']
    exact ⟨p, hk, h2⟩
  · simp at he
end

theorem Ex_chain (C : FuncId → Option CFun) (X : Call) : Chain (exF C X) (Ex C X) := ⟨exF_succ, fun _ _ _ _ h => Ex_some.1 h⟩

/-- THE UNFOLDING EQUATION. -/
theorem Ex_eq {C : FuncId → Option CFun} {X : Call} {f : FuncId} {cf : CFun} (hc : C f = some cf) (a : List AV) (s : Store) : Ex C X f a s = bodyX (Ex C X) cf a s := by
  have hle : ∀ k, Le (exF C X k) (Ex C X) := fun k f a s r h => Ex_some.2 ⟨k, h⟩
  apply Option.ext
  intro r
  constructor
  · intro h
    obtain ⟨k, hk⟩ := Ex_some.1 h
    cases k with
    | zero => simp [exF] at hk
    | succ k =>
      unfold exF at hk
      rw [hc] at hk
      exact bodyX_mono (hle k) hk
  · intro h
    obtain ⟨k, hk⟩ := bodyX_cont (Ex_chain C X) hle h
    refine Ex_some.2 ⟨k + 1, ?_⟩
    unfold exF
    rw [hc]
    exact hk

theorem Ex_ext {C : FuncId → Option CFun} {X : Call} {f : FuncId} (hc : C f = none) (a : List AV) (s : Store) : Ex C X f a s = X f a s := by
  apply Option.ext
  intro r
  constructor
  · intro h
    obtain ⟨k, hk⟩ := Ex_some.1 h
    cases k with
    | zero => simp [exF] at hk
    | succ k => unfold exF at hk; rw [hc] at hk; exact hk
  · intro h
    refine Ex_some.2 ⟨1, ?_⟩
    unfold exF
    rw [hc]
    exact h

end Go.X

/- GoX, part 2: what it means that the model's memory holds an abstract store, and how that is carried from one world to the next. No statement of the seat is here. -/
set_option linter.unusedVariables false
namespace Go.X
open Go

/-- Where rows lie (block, offset), the abstract store, the world. -/
structure Ctx where
  β : Nat → Nat × Nat
  σ : Store
  w : World

def wsize (w : World) (b : Nat) : Nat := ((w.shape? b).map (·.2)).getD 0

def Ctx.at (c : Ctx) (r v : Nat) (K : Row → Prop) : Prop := ∃ row, c.σ[r]? = some row ∧ v ≤ row.ver ∧ (v = row.ver → K row)

mutual
/-- The model's value is what the abstract value says. -/
def VR (c : Ctx) : AV → Value → Prop
  | .un, _ => True
  | .undef, x => x = Go.undef
  | .int k n, x => x = .int k n
  | .bool b, x => x = .bool b
  | .str l, x => ∃ s : ByteArray, x = .string s ∧ s.data.toList = l
  | .agg cs, x => ∃ xs : Array Value, x = .agg xs ∧ VRs c cs xs.toList ∧ ∀ y ∈ xs.toList, y.oneCell' = true
  | .tup cs, x => ∃ xs : Array Value, x = .tuple xs ∧ VRs c cs xs.toList
  | .ptr r v i o, x => ∃ a, x = .pointer (some a) ∧ c.at r v fun row => a = ⟨(c.β r).1, (c.β r).2 + i * row.sz + o, none⟩
  | .nilptr, x => x = .pointer none
  | .sl r v i n, x => ∃ a cap, x = .slice (some a) n cap ∧ n ≤ cap ∧ c.at r v fun row =>
      cap ≠ 0 → a = ⟨(c.β r).1, (c.β r).2 + i * row.sz, none⟩ ∧ (row.kd = .own → (c.β r).2 + (i + cap) * row.sz ≤ wsize c.w (c.β r).1)
  | .nilsl, x => x = .slice none 0 0
  | .fn f cs, x => ∃ xs : Array Value, x = .func (.func f) #[] xs ∧ VRs c cs xs.toList
  | .nilfn, x => x = .nilFunc
  | .ifc t a, x => ∃ y, x = .iface t y ∧ VR c a y
  | .nilifc, x => x = .nilIface
  | .mp r v, x => ∃ b, x = .map (some b) ∧ c.at r v fun _ => b = (c.β r).1
  | .nilmp, x => x = .map none
def VRs (c : Ctx) : List AV → List Value → Prop
  | [], [] => True
  | a :: as, x :: xs => VR c a x ∧ VRs c as xs
  | _, _ => False
end

theorem VRs_length {c : Ctx} : ∀ {as : List AV} {xs : List Value}, VRs c as xs → as.length = xs.length
  | [], [], _ => rfl
  | a :: as, x :: xs, h => by rw [VRs] at h; simp [VRs_length h.2]
  | [], _ :: _, h => by simp [VRs] at h
  | _ :: _, [], h => by simp [VRs] at h

theorem VRs_get {c : Ctx} : ∀ {as : List AV} {xs : List Value}, VRs c as xs → ∀ {i : Nat} {a : AV}, as[i]? = some a → ∃ x, xs[i]? = some x ∧ VR c a x
  | a :: as, x :: xs, h, 0, b, hb => by
    rw [VRs] at h
    simp at hb
    subst hb
    exact ⟨x, rfl, h.1⟩
  | a :: as, x :: xs, h, i + 1, b, hb => by
    rw [VRs] at h
    simp at hb
    obtain ⟨y, h1, h2⟩ := VRs_get h.2 hb
    exact ⟨y, by simpa using h1, h2⟩
  | [], [], _, i, b, hb => by simp at hb
  | [], _ :: _, h, _, _, _ => by simp [VRs] at h
  | _ :: _, [], h, _, _, _ => by simp [VRs] at h

theorem VRs_of {c : Ctx} : ∀ {as : List AV} {xs : List Value}, as.length = xs.length → (∀ (i : Nat) (a : AV) (x : Value), as[i]? = some a → xs[i]? = some x → VR c a x) → VRs c as xs
  | [], [], _, _ => by simp [VRs]
  | a :: as, x :: xs, hl, h => by
    rw [VRs]
    exact ⟨h 0 a x rfl rfl, VRs_of (by simpa using hl) fun i a x ha hx => h (i + 1) a x (by simpa using ha) (by simpa using hx)⟩
  | [], _ :: _, hl, _ => by simp at hl
  | _ :: _, [], hl, _ => by simp at hl

/-- From one context to the next: rows stay, versions rise, what keeps its version keeps its place. -/
def CtxLe (c c' : Ctx) : Prop := ∀ r row, c.σ[r]? = some row → ∃ row', c'.σ[r]? = some row' ∧ row'.sz = row.sz ∧ row'.kd = row.kd ∧ row.ver ≤ row'.ver ∧
  (row'.ver = row.ver → c'.β r = c.β r ∧ (row.kd = .own → wsize c'.w (c.β r).1 = wsize c.w (c.β r).1))

theorem CtxLe.refl (c : Ctx) : CtxLe c c := fun r row h => ⟨row, h, rfl, rfl, Nat.le_refl _, fun _ => ⟨rfl, fun _ => rfl⟩⟩

theorem CtxLe.trans {a b c : Ctx} (h : CtxLe a b) (k : CtxLe b c) : CtxLe a c := by
  intro r row hr
  obtain ⟨row1, h1, hs, hk, hv, hb⟩ := h r row hr
  obtain ⟨row2, h2, ks, kk, kv, kb⟩ := k r row1 h1
  refine ⟨row2, h2, ks.trans hs, kk.trans hk, by omega, fun e => ?_⟩
  obtain ⟨e1, e2⟩ := hb (by omega)
  obtain ⟨e3, e4⟩ := kb (by omega)
  refine ⟨e3.trans e1, fun ho => ?_⟩
  have e5 := e4 (by rw [hk]; exact ho)
  rw [e1] at e5
  exact e5.trans (e2 ho)

theorem Ctx.at_mono {c c' : Ctx} (h : CtxLe c c') {r v : Nat} {K K' : Row → Prop} (hc : c.at r v K)
    (hK : ∀ row row', c.σ[r]? = some row → row'.sz = row.sz → row'.kd = row.kd → c'.β r = c.β r → (row.kd = .own → wsize c'.w (c.β r).1 = wsize c.w (c.β r).1) → K row → K' row') : c'.at r v K' := by
  obtain ⟨row, h1, h2, h3⟩ := hc
  obtain ⟨row', k1, ks, kk, kv, kb⟩ := h r row h1
  refine ⟨row', k1, by omega, fun e => ?_⟩
  obtain ⟨e1, e2⟩ := kb (by omega)
  exact hK row row' h1 ks kk e1 e2 (h3 (by omega))

mutual
theorem VR_mono {c c' : Ctx} (h : CtxLe c c') : ∀ (a : AV) (x : Value), VR c a x → VR c' a x
  | .un, _, _ => by simp [VR]
  | .undef, _, hx => by simpa [VR] using hx
  | .int _ _, _, hx => by simpa [VR] using hx
  | .bool _, _, hx => by simpa [VR] using hx
  | .str _, _, hx => by simpa [VR] using hx
  | .agg cs, x, hx => by
    rw [VR] at hx ⊢
    obtain ⟨xs, e, h1, h2⟩ := hx
    exact ⟨xs, e, VRs_mono h cs _ h1, h2⟩
  | .tup cs, x, hx => by
    rw [VR] at hx ⊢
    obtain ⟨xs, e, h1⟩ := hx
    exact ⟨xs, e, VRs_mono h cs _ h1⟩
  | .ptr r v i o, x, hx => by
    rw [VR] at hx ⊢
    obtain ⟨a, e, h1⟩ := hx
    exact ⟨a, e, Ctx.at_mono h h1 fun row row' _ hs _ hb _ hk => by rw [hs, hb]; exact hk⟩
  | .nilptr, _, hx => by simpa [VR] using hx
  | .sl r v i n, x, hx => by
    rw [VR] at hx ⊢
    obtain ⟨a, cap, e, hn, h1⟩ := hx
    refine ⟨a, cap, e, hn, Ctx.at_mono h h1 fun row row' _ hs hk hb hw hK hc => ?_⟩
    obtain ⟨e1, e2⟩ := hK hc
    refine ⟨by rw [hs, hb]; exact e1, fun ho => ?_⟩
    have ho' : row.kd = .own := by rw [← hk]; exact ho
    rw [hb, hs, hw ho']
    exact e2 ho'
  | .nilsl, _, hx => by simpa [VR] using hx
  | .fn f cs, x, hx => by
    rw [VR] at hx ⊢
    obtain ⟨xs, e, h1⟩ := hx
    exact ⟨xs, e, VRs_mono h cs _ h1⟩
  | .nilfn, _, hx => by simpa [VR] using hx
  | .ifc t a, x, hx => by
    rw [VR] at hx ⊢
    obtain ⟨y, e, h1⟩ := hx
    exact ⟨y, e, VR_mono h a _ h1⟩
  | .nilifc, _, hx => by simpa [VR] using hx
  | .mp r v, x, hx => by
    rw [VR] at hx ⊢
    obtain ⟨b, e, h1⟩ := hx
    exact ⟨b, e, Ctx.at_mono h h1 fun row row' _ _ _ hb _ hk => by rw [hb]; exact hk⟩
  | .nilmp, _, hx => by simpa [VR] using hx
theorem VRs_mono {c c' : Ctx} (h : CtxLe c c') : ∀ (as : List AV) (xs : List Value), VRs c as xs → VRs c' as xs
  | [], [], _ => by simp [VRs]
  | a :: as, x :: xs, hx => by
    rw [VRs] at hx ⊢
    exact ⟨VR_mono h a x hx.1, VRs_mono h as xs hx.2⟩
  | [], _ :: _, hx => by simp [VRs] at hx
  | _ :: _, [], hx => by simp [VRs] at hx
end

mutual
/-- What names no row from n on speaks of the first n rows alone. -/
theorem VR_take {c : Ctx} (n : Nat) : ∀ (a : AV) (x : Value), below n a = true → VR c a x → VR ⟨c.β, c.σ.take n, c.w⟩ a x
  | .un, _, _, _ => by simp [VR]
  | .undef, _, _, hx => by simpa [VR] using hx
  | .int _ _, _, _, hx => by simpa [VR] using hx
  | .bool _, _, _, hx => by simpa [VR] using hx
  | .str _, _, _, hx => by simpa [VR] using hx
  | .agg cs, x, hb, hx => by
    rw [VR] at hx ⊢
    obtain ⟨xs, e, h1, h2⟩ := hx
    exact ⟨xs, e, VRs_take n cs _ (by simpa [below] using hb) h1, h2⟩
  | .tup cs, x, hb, hx => by
    rw [VR] at hx ⊢
    obtain ⟨xs, e, h1⟩ := hx
    exact ⟨xs, e, VRs_take n cs _ (by simpa [below] using hb) h1⟩
  | .ptr r v i o, x, hb, hx => by
    rw [VR] at hx ⊢
    obtain ⟨a, e, row, h1, h2, h3⟩ := hx
    exact ⟨a, e, row, by simpa [List.getElem?_take, below] using ⟨by simpa [below] using hb, h1⟩, h2, h3⟩
  | .nilptr, _, _, hx => by simpa [VR] using hx
  | .sl r v i m, x, hb, hx => by
    rw [VR] at hx ⊢
    obtain ⟨a, cap, e, hn, row, h1, h2, h3⟩ := hx
    exact ⟨a, cap, e, hn, row, by simpa [List.getElem?_take, below] using ⟨by simpa [below] using hb, h1⟩, h2, h3⟩
  | .nilsl, _, _, hx => by simpa [VR] using hx
  | .fn f cs, x, hb, hx => by
    rw [VR] at hx ⊢
    obtain ⟨xs, e, h1⟩ := hx
    exact ⟨xs, e, VRs_take n cs _ (by simpa [below] using hb) h1⟩
  | .nilfn, _, _, hx => by simpa [VR] using hx
  | .ifc t a, x, hb, hx => by
    rw [VR] at hx ⊢
    obtain ⟨y, e, h1⟩ := hx
    exact ⟨y, e, VR_take n a _ (by simpa [below] using hb) h1⟩
  | .nilifc, _, _, hx => by simpa [VR] using hx
  | .mp r v, x, hb, hx => by
    rw [VR] at hx ⊢
    obtain ⟨b, e, row, h1, h2, h3⟩ := hx
    exact ⟨b, e, row, by simpa [List.getElem?_take, below] using ⟨by simpa [below] using hb, h1⟩, h2, h3⟩
  | .nilmp, _, _, hx => by simpa [VR] using hx
theorem VRs_take {c : Ctx} (n : Nat) : ∀ (as : List AV) (xs : List Value), belows n as = true → VRs c as xs → VRs ⟨c.β, c.σ.take n, c.w⟩ as xs
  | [], [], _, _ => by simp [VRs]
  | a :: as, x :: xs, hb, hx => by
    rw [VRs] at hx ⊢
    rw [belows, Bool.and_eq_true] at hb
    exact ⟨VR_take n a x hb.1 hx.1, VRs_take n as xs hb.2 hx.2⟩
  | [], _ :: _, _, hx => by simp [VRs] at hx
  | _ :: _, [], _, hx => by simp [VRs] at hx
end

mutual
/-- What the model's memory holds names rows that are there. -/
theorem VR_below {c : Ctx} : ∀ (a : AV) (x : Value), VR c a x → below c.σ.length a = true
  | .un, _, _ => rfl
  | .undef, _, _ => rfl
  | .int _ _, _, _ => rfl
  | .bool _, _, _ => rfl
  | .str _, _, _ => rfl
  | .agg cs, x, hx => by
    rw [VR] at hx
    obtain ⟨xs, e, h1, h2⟩ := hx
    simpa [below] using VRs_below cs _ h1
  | .tup cs, x, hx => by
    rw [VR] at hx
    obtain ⟨xs, e, h1⟩ := hx
    simpa [below] using VRs_below cs _ h1
  | .ptr r v i o, x, hx => by
    rw [VR] at hx
    obtain ⟨a, e, row, h1, _⟩ := hx
    simpa [below] using (List.getElem?_eq_some_iff.1 h1).1
  | .nilptr, _, _ => rfl
  | .sl r v i m, x, hx => by
    rw [VR] at hx
    obtain ⟨a, cap, e, hn, row, h1, _⟩ := hx
    simpa [below] using (List.getElem?_eq_some_iff.1 h1).1
  | .nilsl, _, _ => rfl
  | .fn f cs, x, hx => by
    rw [VR] at hx
    obtain ⟨xs, e, h1⟩ := hx
    simpa [below] using VRs_below cs _ h1
  | .nilfn, _, _ => rfl
  | .ifc t a, x, hx => by
    rw [VR] at hx
    obtain ⟨y, e, h1⟩ := hx
    simpa [below] using VR_below a _ h1
  | .nilifc, _, _ => rfl
  | .mp r v, x, hx => by
    rw [VR] at hx
    obtain ⟨b, e, row, h1, _⟩ := hx
    simpa [below] using (List.getElem?_eq_some_iff.1 h1).1
  | .nilmp, _, _ => rfl
theorem VRs_below {c : Ctx} : ∀ (as : List AV) (xs : List Value), VRs c as xs → belows c.σ.length as = true
  | [], _, _ => rfl
  | a :: as, x :: xs, hx => by
    rw [VRs] at hx
    rw [belows, Bool.and_eq_true]
    exact ⟨VR_below a x hx.1, VRs_below as xs hx.2⟩
  | _ :: _, [], hx => by simp [VRs] at hx
end

/-! ### The store in memory -/

structure RowOk (base : Nat) (c : Ctx) (r : Nat) (row : Row) : Prop where
  pos : 0 < row.sz
  len : ∀ (i : Nat) (cs : List AV), row.els[i]? = some cs → cs.length = row.sz
  cells : ∀ (i : Nat) (cs : List AV) (j : Nat) (a : AV), row.els[i]? = some cs → cs[j]? = some a →
    ∃ x, c.w.cell? ⟨(c.β r).1, (c.β r).2 + i * row.sz + j, none⟩ = some x ∧ VR c a x ∧ x.oneCell' = true
  nomap : row.kd ≠ .map
  ro : row.kd = .ro → (c.β r).1 < base ∨ row.els = []
  own : row.kd = .own → base ≤ (c.β r).1 ∧ (c.β r).1 < c.w.heap.size ∧ (c.β r).2 + row.els.length * row.sz ≤ wsize c.w (c.β r).1 ∧
    ∀ o, o < wsize c.w (c.β r).1 → c.w.frozen? ⟨(c.β r).1, o, none⟩ = false

/-- A row whose block matters. -/
def Row.live (row : Row) : Prop := row.els ≠ [] ∨ row.kd = .own

def Own (c : Ctx) (b : Nat) : Prop := ∃ r row, c.σ[r]? = some row ∧ row.kd ≠ .ro ∧ (c.β r).1 = b

structure Sim (base : Nat) (c : Ctx) : Prop where
  size : base ≤ c.w.heap.size
  rows : ∀ r row, c.σ[r]? = some row → RowOk base c r row
  inj : ∀ r r' row row', c.σ[r]? = some row → c.σ[r']? = some row' → row.kd ≠ .ro → row'.kd ≠ .ro → (c.β r).1 = (c.β r').1 → r = r'

/-- From one state to a later one. X: blocks besides the store's own that may change. -/
structure Evo (X : Nat → Prop) (c c' : Ctx) : Prop where
  os : c'.w.os = c.w.os
  tape : c'.w.tape = c.w.tape
  output : c'.w.output = c.w.output
  size : c.w.heap.size ≤ c'.w.heap.size
  keep : ∀ b, b < c.w.heap.size → ¬ X b → ¬ Own c b → c'.w.heap[b]? = c.w.heap[b]?
  le : CtxLe c c'
  fresh : ∀ b, Own c' b → Own c b ∨ c.w.heap.size ≤ b

theorem Evo.refl (X : Nat → Prop) (c : Ctx) : Evo X c c := ⟨rfl, rfl, rfl, Nat.le_refl _, fun _ _ _ _ => rfl, CtxLe.refl c, fun _ h => .inl h⟩

theorem Evo.trans {X : Nat → Prop} {a b c : Ctx} (h : Evo X a b) (k : Evo X b c) : Evo X a c := by
  refine ⟨k.os.trans h.os, k.tape.trans h.tape, k.output.trans h.output, Nat.le_trans h.size k.size, ?_, h.le.trans k.le, ?_⟩
  · intro i hi hx ho
    rw [k.keep i (Nat.lt_of_lt_of_le hi h.size) hx (fun hb => ?_), h.keep i hi hx ho]
    rcases h.fresh i hb with h1 | h1
    · exact ho h1
    · omega
  · intro i hi
    rcases k.fresh i hi with h1 | h1
    · exact h.fresh i h1
    · exact .inr (Nat.le_trans h.size h1)

/-- A step within a stretch that began at c0: what may change of late blocks does not matter. -/
theorem Evo.step {X : Nat → Prop} {c0 c c' : Ctx} (h : Evo (fun _ => False) c0 c) (k : Evo X c c') (hX : ∀ b, X b → c0.w.heap.size ≤ b) : Evo (fun _ => False) c0 c' := by
  refine ⟨k.os.trans h.os, k.tape.trans h.tape, k.output.trans h.output, Nat.le_trans h.size k.size, ?_, h.le.trans k.le, ?_⟩
  · intro i hi hx ho
    rw [k.keep i (Nat.lt_of_lt_of_le hi h.size) (fun hX' => by have := hX i hX'; omega) (fun hb => ?_), h.keep i hi hx ho]
    rcases h.fresh i hb with h1 | h1
    · exact ho h1
    · omega
  · intro i hi
    rcases k.fresh i hi with h1 | h1
    · exact h.fresh i h1
    · exact .inr (Nat.le_trans h.size h1)

theorem wsize_of {w w' : World} {b : Nat} (h : w'.heap[b]? = w.heap[b]?) : wsize w' b = wsize w b := by simp [wsize, World.shape?, h]

/-- A row whose block did not change stands as it stood. -/
theorem RowOk.carry {base : Nat} {c c' : Ctx} (hle : CtxLe c c') {r : Nat} {row : Row} (h : RowOk base c r row) (hβ : c'.β r = c.β r) (hsz : c.w.heap.size ≤ c'.w.heap.size)
    (hb0 : row.live → c'.w.heap[(c.β r).1]? = c.w.heap[(c.β r).1]?) : RowOk base c' r row := by
  refine ⟨h.pos, h.len, ?_, h.nomap, fun hr => by rw [hβ]; exact h.ro hr, fun ho => ?_⟩
  · intro i cs j a h1 h2
    have hb := hb0 (.inl (fun e => by rw [e] at h1; simp at h1))
    obtain ⟨x, h3, h4, h5⟩ := h.cells i cs j a h1 h2
    refine ⟨x, ?_, VR_mono hle _ _ h4, h5⟩
    rw [hβ, World.cell?_of_block (w := c.w) (by exact hb)]
    exact h3
  · have hb := hb0 (.inr ho)
    obtain ⟨h1, h2, h3, h4⟩ := h.own ho
    rw [hβ, wsize_of hb]
    refine ⟨h1, by omega, h3, fun o hlt => ?_⟩
    rw [World.frozen?_of_block (w := c.w) (by exact hb)]
    exact h4 o hlt

theorem Sim.lt {base : Nat} {c : Ctx} (h : Sim base c) {r : Nat} {row : Row} (hr : c.σ[r]? = some row) (hl : row.live) : (c.β r).1 < c.w.heap.size := by
  have hk := h.rows r row hr
  cases e : row.kd with
  | ro =>
    have := h.size
    rcases hk.ro e with h1 | h1
    · omega
    · rcases hl with h2 | h2
      · exact absurd h1 h2
      · rw [e] at h2; cases h2
  | own => exact (hk.own e).2.1
  | map => exact absurd e hk.nomap

theorem Sim.notro {base : Nat} {c : Ctx} (h : Sim base c) {r : Nat} {row : Row} (hr : c.σ[r]? = some row) (hk : row.kd ≠ .ro) : row.live := by
  cases e : row.kd with
  | ro => exact absurd e hk
  | own => exact .inr e
  | map => exact absurd e (h.rows r row hr).nomap

/-- The world alone has changed, at blocks that no row lies in. -/
theorem Sim.world {base : Nat} {c : Ctx} (h : Sim base c) {X : Nat → Prop} {w' : World} (hos : w'.os = c.w.os) (htape : w'.tape = c.w.tape) (hout : w'.output = c.w.output) (hsz : c.w.heap.size ≤ w'.heap.size)
    (hX : ∀ b, X b → base ≤ b ∧ ¬ Own c b) (hkeep : ∀ b, b < c.w.heap.size → ¬ X b → w'.heap[b]? = c.w.heap[b]?) : Sim base ⟨c.β, c.σ, w'⟩ ∧ Evo X c ⟨c.β, c.σ, w'⟩ := by
  have hblk : ∀ r row, c.σ[r]? = some row → row.live → w'.heap[(c.β r).1]? = c.w.heap[(c.β r).1]? := by
    intro r row hr hl
    refine hkeep _ (h.lt hr hl) (fun hx => ?_)
    obtain ⟨h1, h2⟩ := hX _ hx
    cases e : row.kd with
    | ro =>
      rcases (h.rows r row hr).ro e with h3 | h3
      · omega
      · rcases hl with h4 | h4
        · exact h4 h3
        · rw [e] at h4; cases h4
    | own => exact h2 ⟨r, row, hr, by simp [e], rfl⟩
    | map => exact (h.rows r row hr).nomap e
  have hle : CtxLe c ⟨c.β, c.σ, w'⟩ := fun r row hr => ⟨row, hr, rfl, rfl, Nat.le_refl _, fun _ => ⟨rfl, fun ho => wsize_of (hblk r row hr (.inr ho))⟩⟩
  refine ⟨⟨Nat.le_trans h.size hsz, fun r row hr => (h.rows r row hr).carry hle rfl hsz (hblk r row hr), h.inj⟩, ⟨hos, htape, hout, hsz, fun b hb hx _ => hkeep b hb hx, hle, fun b hb => .inl hb⟩⟩

/-- A row has come. -/
theorem Sim.new {base : Nat} {c c' : Ctx} (h : Sim base c) (row : Row) (hσ : c'.σ = c.σ ++ [row]) (hβ : ∀ r, r < c.σ.length → c'.β r = c.β r)
    (hos : c'.w.os = c.w.os) (htape : c'.w.tape = c.w.tape) (hout : c'.w.output = c.w.output) (hsz : c.w.heap.size ≤ c'.w.heap.size)
    (hkeep : ∀ b, b < c.w.heap.size → c'.w.heap[b]? = c.w.heap[b]?) (hnew : c.w.heap.size ≤ (c'.β c.σ.length).1)
    (hrow : CtxLe c c' → RowOk base c' c.σ.length row) (X : Nat → Prop) : Sim base c' ∧ Evo X c c' := by
  have hold : ∀ r row, c.σ[r]? = some row → r < c.σ.length := fun r row hr => (List.getElem?_eq_some_iff.1 hr).1
  have hle : CtxLe c c' := fun r row hr => ⟨row, by rw [hσ, List.getElem?_append_left (hold r row hr)]; exact hr, rfl, rfl, Nat.le_refl _, fun _ => ⟨hβ r (hold r row hr), fun ho => wsize_of (hkeep _ (h.lt hr (.inr ho)))⟩⟩
  have hcase : ∀ r row', c'.σ[r]? = some row' → (r < c.σ.length ∧ c.σ[r]? = some row') ∨ (r = c.σ.length ∧ row' = row) := by
    intro r row' hr
    rw [hσ] at hr
    rcases Nat.lt_or_ge r c.σ.length with hlt | hge
    · rw [List.getElem?_append_left hlt] at hr
      exact .inl ⟨hlt, hr⟩
    · rw [List.getElem?_append_right hge] at hr
      have : r - c.σ.length < 1 := by simpa using (List.getElem?_eq_some_iff.1 hr).1
      have e : r = c.σ.length := by omega
      subst e
      simp at hr
      exact .inr ⟨rfl, hr.symm⟩
  refine ⟨⟨Nat.le_trans h.size hsz, ?_, ?_⟩, ⟨hos, htape, hout, hsz, fun b hb _ _ => hkeep b hb, hle, ?_⟩⟩
  · intro r row' hr
    rcases hcase r row' hr with ⟨hlt, hr'⟩ | ⟨rfl, rfl⟩
    · exact (h.rows r row' hr').carry hle (hβ r hlt) hsz (fun hl => hkeep _ (h.lt hr' hl))
    · exact hrow hle
  · intro r r' row1 row2 h1 h2 k1 k2 e
    rcases hcase r row1 h1 with ⟨hlt, hr⟩ | ⟨rfl, rfl⟩ <;> rcases hcase r' row2 h2 with ⟨hlt', hr'⟩ | ⟨rfl, rfl⟩
    · rw [hβ r hlt, hβ r' hlt'] at e
      exact h.inj r r' row1 row2 hr hr' k1 k2 e
    · rw [hβ r hlt] at e
      have := h.lt hr (h.notro hr k1)
      omega
    · rw [hβ r' hlt'] at e
      have := h.lt hr' (h.notro hr' k2)
      omega
    · rfl
  · rintro b ⟨r, row', h1, h2, rfl⟩
    rcases hcase r row' h1 with ⟨hlt, hr⟩ | ⟨rfl, rfl⟩
    · exact .inl ⟨r, row', hr, h2, by rw [hβ r hlt]⟩
    · exact .inr hnew

/-- A row of the store's own has changed. -/
theorem Sim.upd {base : Nat} {c c' : Ctx} (h : Sim base c) (r : Nat) (row row' : Row) (hr : c.σ[r]? = some row) (hσ : c'.σ = c.σ.set r row') (hown : row.kd = .own) (hown' : row'.kd = .own) (hsz' : row'.sz = row.sz) (hver : row.ver ≤ row'.ver)
    (hβ : ∀ q, q ≠ r → c'.β q = c.β q) (hsame : row'.ver = row.ver → c'.β r = c.β r ∧ wsize c'.w (c.β r).1 = wsize c.w (c.β r).1)
    (hos : c'.w.os = c.w.os) (htape : c'.w.tape = c.w.tape) (hout : c'.w.output = c.w.output) (hsz : c.w.heap.size ≤ c'.w.heap.size)
    (hkeep : ∀ b, b < c.w.heap.size → b ≠ (c.β r).1 → c'.w.heap[b]? = c.w.heap[b]?) (hnew : (c'.β r).1 = (c.β r).1 ∨ c.w.heap.size ≤ (c'.β r).1)
    (hrow : CtxLe c c' → RowOk base c' r row') (X : Nat → Prop) : Sim base c' ∧ Evo X c c' := by
  have hlt : r < c.σ.length := (List.getElem?_eq_some_iff.1 hr).1
  have hgr : c'.σ[r]? = some row' := by rw [hσ, List.getElem?_set_self hlt]
  have hgo : ∀ q, q ≠ r → c'.σ[q]? = c.σ[q]? := fun q hq => by rw [hσ, List.getElem?_set_ne (Ne.symm hq)]
  have hne : ∀ q rq, q ≠ r → c.σ[q]? = some rq → rq.live → (c.β q).1 ≠ (c.β r).1 := by
    intro q rq hq hqr hl e
    cases ek : rq.kd with
    | ro =>
      have h2 := ((h.rows r row hr).own hown).1
      rcases (h.rows q rq hqr).ro ek with h1 | h1
      · omega
      · rcases hl with h4 | h4
        · exact h4 h1
        · rw [ek] at h4; cases h4
    | own => exact hq (h.inj q r rq row hqr hr (by simp [ek]) (by simp [hown]) e)
    | map => exact (h.rows q rq hqr).nomap ek
  have hle : CtxLe c c' := by
    intro q rq hq
    by_cases e : q = r
    · subst e
      rw [hr] at hq; cases hq
      exact ⟨row', hgr, hsz', hown'.trans hown.symm, hver, fun ev => ⟨(hsame ev).1, fun _ => (hsame ev).2⟩⟩
    · exact ⟨rq, by rw [hgo q e]; exact hq, rfl, rfl, Nat.le_refl _, fun _ => ⟨hβ q e, fun ho => wsize_of (hkeep _ (h.lt hq (.inr ho)) (hne q rq e hq (.inr ho)))⟩⟩
  refine ⟨⟨Nat.le_trans h.size hsz, ?_, ?_⟩, ⟨hos, htape, hout, hsz, ?_, hle, ?_⟩⟩
  · intro q rq hq
    by_cases e : q = r
    · subst e
      rw [hgr] at hq; cases hq
      exact hrow hle
    · rw [hgo q e] at hq
      exact (h.rows q rq hq).carry hle (hβ q e) hsz (fun hl => hkeep _ (h.lt hq hl) (hne q rq e hq hl))
  · intro q q' rq rq' h1 h2 k1 k2 eb
    by_cases e : q = r <;> by_cases e' : q' = r
    · rw [e, e']
    · subst e
      rw [hgo q' e'] at h2
      rw [hβ q' e'] at eb
      rcases hnew with hn | hn
      · exact absurd (by rw [← eb, hn]) (hne q' rq' e' h2 (h.notro h2 k2))
      · have := h.lt h2 (h.notro h2 k2); omega
    · subst e'
      rw [hgo q e] at h1
      rw [hβ q e] at eb
      rcases hnew with hn | hn
      · exact absurd (by rw [eb, hn]) (hne q rq e h1 (h.notro h1 k1))
      · have := h.lt h1 (h.notro h1 k1); omega
    · rw [hgo q e] at h1
      rw [hgo q' e'] at h2
      rw [hβ q e, hβ q' e'] at eb
      exact h.inj q q' rq rq' h1 h2 k1 k2 eb
  · intro b hb _ ho
    exact hkeep b hb (fun e => ho ⟨r, row, hr, by simp [hown], e.symm⟩)
  · rintro b ⟨q, rq, h1, h2, rfl⟩
    by_cases e : q = r
    · subst e
      rcases hnew with hn | hn
      · exact .inl ⟨q, row, hr, by simp [hown], hn.symm⟩
      · exact .inr hn
    · rw [hgo q e] at h1
      exact .inl ⟨q, rq, h1, h2, by rw [hβ q e]⟩

end Go.X

/- GoX, part 3: the resolved code out of the model's own (comp), and what it means that a frame of the model holds what the executor's state says (FI). No statement of the seat is here. -/
set_option linter.unusedVariables false
namespace Go.X
open Go

/-! ### Resolving -/

def cvCell : Value → Option AV
  | .int k n => some (.int k n)
  | .bool b => some (.bool b)
  | .string s => some (.str s.data.toList)
  | .pointer none => some .nilptr
  | .slice none 0 0 => some .nilsl
  | .nilIface => some .nilifc
  | .nilFunc => some .nilfn
  | .map none => some .nilmp
  | .func (.func f) ⟨[]⟩ ⟨[]⟩ => some (.fn f [])
  | _ => none

def cvAV : Value → Option AV
  | .agg cs => (allSome cvCell cs.toList).map .agg
  | v => cvCell v

def cO : Operand → Option XO
  | .tmp t => some (.t t)
  | .const v => (cvAV v).map .c
  | .func f => some (.c (.fn f []))
  | .global _ => none

def szOf (P : Program) (t : TypeId) : Option Nat := (P.info? t).map (·.size)

def isAggT (P : Program) (t : TypeId) : Option Bool :=
  match P.underlying t with
  | some (.struct _) => some true
  | some (.array _ _) => some true
  | some _ => some false
  | none => none

def zeroOf (P : Program) (t : TypeId) : Option (List AV) := (P.info? t).bind fun i => i.zero.bind fun z => allSome cvCell z.cells.toList

/-- Fields that lie one behind the other from o on: the kinds of their cells. -/
def cmpFs (P : Program) (F : TypeId → Option (List CK)) : Nat → List Field → Option (List CK)
  | _, [] => some []
  | o, f :: fs => if f.offset = o ∧ f.name ≠ "_" then (F f.type).bind fun ks => if P.cellsOf f.type = ks.length ∧ ks.length ≠ 0 then (cmpFs P F (o + ks.length) fs).bind fun r => some (ks ++ r) else none else none

/-- A type whose cells are compared one by one (whole numbers, bools, strings, structs of these): the kinds of its cells. -/
def cmpT (P : Program) : Nat → TypeId → Option (List CK)
  | 0, _ => none
  | d + 1, t =>
    match P.underlying t with
    | some .bool => if P.cellsOf t = 1 then some [.b] else none
    | some (.int _) => if P.cellsOf t = 1 then some [.i] else none
    | some .string => if P.cellsOf t = 1 then some [.s] else none
    | some (.struct fs) => if P.stoodInHeld t = false then cmpFs P (cmpT P d) 0 fs.toList else none
    | _ => none

def optXO : Option Operand → Option (Option XO)
  | none => some none
  | some x => (cO x).map some

def nilKind : TypeDesc → Operand → Option NK
  | .pointer _, .const (.pointer none) => some .p
  | .slice _, .const (.slice none 0 0) => some .s
  | .interface _, .const .nilIface => some .i
  | .func .., .const .nilFunc => some .f
  | .map .., .const (.map none) => some .m
  | _, _ => none

def arithOp : BinOp → Bool
  | .add | .sub | .mul | .quo | .rem | .xor | .eql | .neq | .lss | .leq | .gtr | .geq => true
  | _ => false

def cBin (P : Program) (op : BinOp) (t : TypeId) (x y : Operand) : Option XOp :=
  (cO x).bind fun a => (cO y).bind fun b =>
  match P.underlying t with
  | some (.int _) => if arithOp op then some (.bin op a b) else none
  | some .string => if arithOp op then some (.bin op a b) else none
  | some .bool => match op with | .eql => some (.beq false a b) | .neq => some (.beq true a b) | _ => none
  | some (.struct _) => if P.eqGuardType P.depth t = false then (cmpT P 9 t).bind fun ks => (match op with | .eql => some (.seq false ks a b) | .neq => some (.seq true ks a b) | _ => none) else none
  | some d => (nilKind d y).bind fun k => (match op with | .eql => some (.isnil k false a) | .neq => some (.isnil k true a) | _ => none)
  | none => none

def cParts (f : Nat → Option (Nat × Nat)) : List (Nat × Operand) → Option (List (Nat × Nat × XO))
  | [] => some []
  | (i, x) :: l => (f i).bind fun (o, s) => (cO x).bind fun a => (cParts f l).bind fun r => some ((o, s, a) :: r)

def cPartsS : List (Nat × Operand) → Option (List (Nat × XO))
  | [] => some []
  | (i, x) :: l => (cO x).bind fun a => (cPartsS l).bind fun r => some ((i, a) :: r)

def places (P : Program) (fs : Array Field) : Option (List (Nat × Nat)) := allSome (fun f : Field => (szOf P f.type).map fun s => (f.offset, s)) fs.toList

def cCall (P : Program) (c : Go.Call) : Option XOp :=
  match c.callee with
  | .value (.func f) => (allSome cO c.args.toList).bind fun as => some (.call f as)
  | .value (.tmp t) => (allSome cO c.args.toList).bind fun as => some (.calld (.t t) as)
  | .builtin .len =>
    match c.args.toList, c.argTypes.toList with
    | [x], [t] => (match P.underlying t with | some .string => (cO x).map (.len true) | some (.slice _) => (cO x).map (.len false) | _ => none)
    | _, _ => none
  | .builtin .max => (match c.args.toList with | [x, y] => (cO x).bind fun a => (cO y).bind fun b => some (.mx true a b) | _ => none)
  | .builtin .min => (match c.args.toList with | [x, y] => (cO x).bind fun a => (cO y).bind fun b => some (.mx false a b) | _ => none)
  | .builtin .append =>
    match c.args.toList, c.argTypes.toList with
    | [x, y], [t, u] =>
      (match P.underlying t, P.underlying u with
       | some (.slice e), some (.slice e') => (P.info? e).bind fun i => i.zero.bind fun z => if i.size = z.cells.size ∧ 0 < i.size ∧ 0 < i.bytes then (cO x).bind fun a => (cO y).bind fun b => some (.app i.size i.bytes a b) else none
       | _, _ => none)
    | _, _ => none
  | _ => none

def compOp (P : Program) (lo : List Nat) (o : Oper) : Option XOp :=
  match o.op with
  | .move x => (cO x).map .mv
  | .assign x => (cO x).map .mv
  | .pick c a b => (cO c).bind fun c => (cO a).bind fun a => (cO b).bind fun b => some (.pick c a b)
  | .alloc e => (zeroOf P e).bind fun z => o.dst.bind fun d => if 0 < z.length then some (.alloc (lo.contains d) d z) else none
  | .box e x => (szOf P e).bind fun s => o.dst.bind fun d => (cO x).bind fun x => if 0 < s then some (.box (lo.contains d) d s x) else none
  | .load t a => (isAggT P t).bind fun ag => (szOf P t).bind fun s => (cO a).bind fun a => some (.load ag s a)
  | .store t a x => (szOf P t).bind fun s => (cO a).bind fun a => (cO x).bind fun x => some (.store s a x)
  | .fieldAddr s x f =>
    (match P.underlying s with
     | some (.struct fs) => (fs[f]?).bind fun fd => (szOf P fd.type).bind fun sz => if sz = 0 then none else (cO x).bind fun x => some (.fadr fd.offset x)
     | _ => none)
  | .indexAddr t x i =>
    (match P.underlying t with
     | some (.slice e) => (szOf P e).bind fun s => (cO x).bind fun x => (cO i).bind fun i => some (.iadr s x i)
     | _ => none)
  | .field t x f =>
    (match P.underlying t with
     | some (.struct fs) => (fs[f]?).bind fun fd => (isAggT P fd.type).bind fun ag => (szOf P fd.type).bind fun sz => (cO x).bind fun x => some (.fld ag fd.offset sz x)
     | _ => none)
  | .binOp op t x y _ => cBin P op t x y
  | .unOp .not _ x => (cO x).map .bnot
  | .unOp .neg _ x => (cO x).map .neg
  | .call c => cCall P c
  | .extract x i => (cO x).map fun x => .ext x i
  | .build t parts =>
    (match P.underlying t with
     | some (.struct fs) => (zeroOf P t).bind fun z => (places P fs).bind fun pl => (cParts (fun i => pl[i]?) parts.toList).bind fun ps => some (.build z ps)
     | _ => none)
  | .buildSlice t n parts =>
    (match P.underlying t with
     | some (.slice e) => (szOf P e).bind fun s => (zeroOf P e).bind fun z => o.dst.bind fun d => (cPartsS parts.toList).bind fun ps =>
         if 0 < s ∧ z.length = s ∧ n * s ≤ 16777216 then some (.bsl (lo.contains d) s n z ps) else none
     | _ => none)
  | .slice t x l h none =>
    (match P.underlying t with
     | some (.slice e) => (szOf P e).bind fun s => (cO x).bind fun x => (optXO l).bind fun l => (optXO h).bind fun h => some (.slc s x l h)
     | some .string => (cO x).bind fun x => (optXO l).bind fun l => (optXO h).bind fun h => some (.sstr x l h)
     | _ => none)
  | .index t x i => (match P.underlying t with | some .string => (cO x).bind fun x => (cO i).bind fun i => some (.idx x i) | _ => none)
  | .convert s d x =>
    (match P.underlying s, P.underlying d with
     | some (.int _), some (.int k) => (cO x).map (.cvt k)
     | some .string, some (.slice e) => (match P.underlying e with | some (.int .u8) => if szOf P e = some 1 then (cO x).map .s2b else none | _ => none)
     | some (.slice e), some .string => (match P.underlying e with | some (.int .u8) => (cO x).map .b2s | _ => none)
     | _, _ => none)
  | .makeSlice t l c =>
    (match P.underlying t with
     | some (.slice e) => (P.info? e).bind fun i => (zeroOf P e).bind fun z => (cO l).bind fun l => (cO c).bind fun c => if 0 < i.size ∧ z.length = i.size then some (.mks i.size i.bytes z l c) else none
     | _ => none)
  | .nilCheck x => (cO x).map .nilc
  | .makeFunc (.func f) first caps => if first.isEmpty then (allSome cO caps.toList).map (.mkf f) else none
  | _ => none

/-! ### The frame -/

def LsOk (c : Ctx) (γ : Nat → Nat) (bx : Boxes) (els : List (List AV)) (x : Value) : Prop :=
  ∃ b xs ty sz, x = .slice (some ⟨b, 0, none⟩) els.length els.length ∧ c.w.heap[b]? = some (.cells xs ty (0, 0)) ∧ ¬ Own c b ∧ (∀ t, (lk bx t).isSome = true → γ t ≠ b) ∧
    ∀ (i : Nat) (cs : List AV), els[i]? = some cs → cs.length = sz ∧ ∀ (j : Nat) (a : AV), cs[j]? = some a → ∃ y, xs[i * sz + j]? = some y ∧ VR c a y ∧ y.oneCell' = true

def RR (c : Ctx) (γ : Nat → Nat) (bx : Boxes) : RV → Value → Prop
  | .v a, x => VR c a x
  | .lp t o, x => (lk bx t).isSome = true ∧ x = .pointer (some ⟨γ t, o, none⟩)
  | .ls els, x => LsOk c γ bx els x

structure BoxOk (c : Ctx) (b : Nat) (cs : List AV) : Prop where
  lt : b < c.w.heap.size
  out : ¬ Own c b
  cells : ∃ xs ty, c.w.heap[b]? = some (.cells xs ty (0, 0)) ∧ xs.size = cs.length ∧ ∀ (j : Nat) (a : AV), cs[j]? = some a → ∃ y, xs[j]? = some y ∧ VR c a y ∧ y.oneCell' = true

/-- The invariant at each place within a function that began in the context c0. -/
structure FI (base : Nat) (c0 : Ctx) (n : Nat) (c : Ctx) (γ : Nat → Nat) (g : Regs) (bx : Boxes) (tmps : Array Value) : Prop where
  sim : Sim base c
  evo : Evo (fun _ => False) c0 c
  size : tmps.size = n
  regs : ∀ t rv, lk g t = some rv → RR c γ bx rv (tmps.getD t undef)
  boxes : ∀ t cs, lk bx t = some cs → c0.w.heap.size ≤ γ t ∧ BoxOk c (γ t) cs
  binj : ∀ t t', (lk bx t).isSome = true → (lk bx t').isSome = true → γ t = γ t' → t = t'

theorem RR.next {c c' : Ctx} {γ : Nat → Nat} {bx : Boxes} {rv : RV} {x : Value} (he : Evo (fun _ => False) c c') (h : RR c γ bx rv x) : RR c' γ bx rv x := by
  cases rv with
  | v a => exact VR_mono he.le _ _ h
  | lp t o => exact h
  | ls els =>
    obtain ⟨b, xs, ty, sz, e, hb, ho, hg, hc⟩ := h
    have hlt : b < c.w.heap.size := (Array.getElem?_eq_some_iff.1 hb).1
    refine ⟨b, xs, ty, sz, e, by rw [he.keep b hlt (fun h => h) ho]; exact hb, fun h => ?_, hg, fun i cs hi => ?_⟩
    · rcases he.fresh b h with h1 | h1
      · exact ho h1
      · omega
    · obtain ⟨h1, h2⟩ := hc i cs hi
      refine ⟨h1, fun j a hj => ?_⟩
      obtain ⟨y, h3, h4, h5⟩ := h2 j a hj
      exact ⟨y, h3, VR_mono he.le _ _ h4, h5⟩

theorem BoxOk.next {c c' : Ctx} {b : Nat} {cs : List AV} (he : Evo (fun _ => False) c c') (h : BoxOk c b cs) : BoxOk c' b cs := by
  obtain ⟨hlt, ho, xs, ty, hb, hs, hc⟩ := h
  refine ⟨Nat.lt_of_lt_of_le hlt he.size, fun h => ?_, xs, ty, by rw [he.keep b hlt (fun h => h) ho]; exact hb, hs, fun j a hj => ?_⟩
  · rcases he.fresh b h with h1 | h1
    · exact ho h1
    · omega
  · obtain ⟨y, h3, h4, h5⟩ := hc j a hj
    exact ⟨y, h3, VR_mono he.le _ _ h4, h5⟩

section
variable {base : Nat} {c0 : Ctx} {n : Nat} {c : Ctx} {γ : Nat → Nat} {g : Regs} {bx : Boxes} {tmps : Array Value}

/-- The store or the world has gone on; boxes and literals are as they were. -/
theorem FI.next (h : FI base c0 n c γ g bx tmps) {c' : Ctx} (hs : Sim base c') (he : Evo (fun _ => False) c c') : FI base c0 n c' γ g bx tmps :=
  ⟨hs, h.evo.trans he, h.size, fun t rv ht => (h.regs t rv ht).next he, fun t cs ht => ⟨(h.boxes t cs ht).1, (h.boxes t cs ht).2.next he⟩, h.binj⟩

theorem FI.put (h : FI base c0 n c γ g bx tmps) {rv : RV} {x : Value} (hr : RR c γ bx rv x) {d : Nat} (hd : d < n) : FI base c0 n c γ ((d, rv) :: g) bx (tmps.setIfInBounds d x) := by
  refine ⟨h.sim, h.evo, by simpa using h.size, ?_, h.boxes, h.binj⟩
  intro t rv' ht
  simp only [lk] at ht
  split at ht
  · rename_i e
    subst e
    cases ht
    have : d < tmps.size := by rw [h.size]; exact hd
    simpa [Array.getD_eq_getD_getElem?, this] using hr
  · rename_i e
    have := h.regs t rv' ht
    simpa [Array.getD_eq_getD_getElem?, Array.getElem?_setIfInBounds, e] using this

/-- A register that is forgotten, or that is not written at all. -/
theorem FI.sub (h : FI base c0 n c γ g bx tmps) {g' : Regs} (hg : ∀ t rv, lk g' t = some rv → lk g t = some rv) : FI base c0 n c γ g' bx tmps :=
  ⟨h.sim, h.evo, h.size, fun t rv ht => h.regs t rv (hg t rv ht), h.boxes, h.binj⟩

/-- A new box. -/
theorem FI.boxNew (h : FI base c0 n c γ g bx tmps) (hc0 : c0.w.heap.size ≤ c.w.heap.size) {t : Nat} (ht : lk bx t = none) (xs : Array Value) (ty : TypeId) (cs : List AV) (hl : xs.size = cs.length)
    (hv : ∀ (j : Nat) (a : AV), cs[j]? = some a → ∃ y, xs[j]? = some y ∧ VR c a y ∧ y.oneCell' = true) :
    FI base c0 n ⟨c.β, c.σ, c.w.alloc (.cells xs ty (0, 0))⟩ (fun q => if q = t then c.w.heap.size else γ q) g ((t, cs) :: bx) tmps := by
  obtain ⟨hs, he⟩ := h.sim.world (X := fun _ => False) (w' := c.w.alloc (.cells xs ty (0, 0))) rfl rfl rfl (by simp) (fun b hb => hb.elim) (fun b hb _ => Go.heap_alloc_old c.w _ hb)
  have hown : ∀ b, Own ⟨c.β, c.σ, c.w.alloc (.cells xs ty (0, 0))⟩ b → Own c b := fun b hb => hb
  have hlt : ∀ b, Own c b → b < c.w.heap.size := by
    rintro b ⟨r, row, h1, h2, rfl⟩
    exact h.sim.lt h1 (h.sim.notro h1 h2)
  have hbx : ∀ t', (lk bx t').isSome = true → t' ≠ t := by
    intro t' h1 e
    subst e
    rw [ht] at h1
    simp at h1
  refine ⟨hs, h.evo.trans he, h.size, ?_, ?_, ?_⟩
  · intro t' rv hr
    have h1 := (h.regs t' rv hr).next he
    cases rv with
    | v a => exact h1
    | lp q o =>
      refine ⟨?_, ?_⟩
      · simp only [lk]; split
        · rfl
        · exact h1.1
      · show _ = Value.pointer (some ⟨if q = t then c.w.heap.size else γ q, o, none⟩)
        rw [if_neg (hbx q h1.1)]; exact h1.2
    | ls els =>
      have h0 := h.regs t' _ hr
      obtain ⟨b0, _, _, _, e0, hb0, _⟩ := h0
      obtain ⟨b, xs', ty', sz, e, hb, ho, hg, hc⟩ := h1
      refine ⟨b, xs', ty', sz, e, hb, ho, ?_, hc⟩
      intro q hq
      show (if q = t then c.w.heap.size else γ q) ≠ b
      split
      · intro e2
        rw [e0] at e
        have e3 : b0 = b := by injection e with e3; injection e3 with e3; injection e3
        have := (Array.getElem?_eq_some_iff.1 hb0).1
        omega
      · rename_i hqt
        simp only [lk] at hq
        rw [if_neg (Ne.symm hqt)] at hq
        exact hg q hq
  · intro t' cs' hb
    simp only [lk] at hb
    split at hb
    · rename_i e
      subst e
      cases hb
      show c0.w.heap.size ≤ (if t = t then c.w.heap.size else γ t) ∧ BoxOk _ (if t = t then c.w.heap.size else γ t) cs
      rw [if_pos rfl]
      refine ⟨hc0, by simp, fun ho => ?_, xs, ty, heap_alloc_new _ _, hl, fun j a hj => ?_⟩
      · have := hlt _ ho; omega
      · obtain ⟨y, h3, h4, h5⟩ := hv j a hj
        exact ⟨y, h3, VR_mono he.le _ _ h4, h5⟩
    · rename_i e
      show c0.w.heap.size ≤ (if t' = t then c.w.heap.size else γ t') ∧ BoxOk _ (if t' = t then c.w.heap.size else γ t') cs'
      rw [if_neg (Ne.symm e)]
      exact ⟨(h.boxes t' cs' hb).1, (h.boxes t' cs' hb).2.next he⟩
  · intro q q' h1 h2 e
    simp only [lk] at h1 h2
    have hl' : ∀ q, (lk bx q).isSome = true → γ q < c.w.heap.size := by
      intro q hq
      obtain ⟨cs', hcs⟩ := Option.isSome_iff_exists.1 hq
      exact (h.boxes q cs' hcs).2.lt
    by_cases e1 : q = t <;> by_cases e2 : q' = t
    · rw [e1, e2]
    · simp only [e1, e2, if_true, if_false] at e
      rw [if_neg (Ne.symm e2)] at h2
      have := hl' q' h2; omega
    · simp only [e1, e2, if_true, if_false] at e
      rw [if_neg (Ne.symm e1)] at h1
      have := hl' q h1; omega
    · simp only [e1, e2, if_false] at e
      rw [if_neg (Ne.symm e1)] at h1
      rw [if_neg (Ne.symm e2)] at h2
      exact h.binj q q' h1 h2 e

/-- A box is written. -/
theorem FI.boxSet (h : FI base c0 n c γ g bx tmps) (hbase : base ≤ c0.w.heap.size) {t : Nat} {cs : List AV} (ht : lk bx t = some cs) (xs' : Array Value) (cs' : List AV) (hl : xs'.size = cs'.length)
    (w' : World) (hos : w'.os = c.w.os) (htape : w'.tape = c.w.tape) (hout : w'.output = c.w.output) (hsz : w'.heap.size = c.w.heap.size)
    (hkeep : ∀ b, b ≠ γ t → w'.heap[b]? = c.w.heap[b]?) (ty : TypeId) (hblk : w'.heap[γ t]? = some (.cells xs' ty (0, 0)))
    (hv : ∀ (j : Nat) (a : AV), cs'[j]? = some a → ∃ y, xs'[j]? = some y ∧ VR c a y ∧ y.oneCell' = true) :
    FI base c0 n ⟨c.β, c.σ, w'⟩ γ g ((t, cs') :: bx) tmps := by
  have hbt := h.boxes t cs ht
  obtain ⟨hs, he⟩ := h.sim.world (X := fun b => b = γ t) (w' := w') hos htape hout (by omega) (fun b hb => by subst hb; exact ⟨by have := hbt.1; omega, hbt.2.out⟩) (fun b hb hx => hkeep b hx)
  have hevo : Evo (fun _ => False) c0 ⟨c.β, c.σ, w'⟩ := h.evo.step he (fun b hb => by subst hb; exact hbt.1)
  refine ⟨hs, hevo, h.size, ?_, ?_, ?_⟩
  · intro t' rv hr
    have h1 := h.regs t' rv hr
    cases rv with
    | v a => exact VR_mono he.le _ _ h1
    | lp q o =>
      refine ⟨?_, h1.2⟩
      simp only [lk]; split
      · rfl
      · exact h1.1
    | ls els =>
      obtain ⟨b, xs, ty', sz, e, hb, ho, hg, hc⟩ := h1
      have hne : b ≠ γ t := fun e => hg t (by rw [ht]; rfl) e.symm
      refine ⟨b, xs, ty', sz, e, by rw [hkeep b hne]; exact hb, ho, fun q hq => ?_, fun i cs2 hi => ?_⟩
      · simp only [lk] at hq
        split at hq
        · rename_i e2; subst e2; exact Ne.symm hne
        · exact hg q hq
      · obtain ⟨h2, h3⟩ := hc i cs2 hi
        refine ⟨h2, fun j a hj => ?_⟩
        obtain ⟨y, h3, h4, h5⟩ := h3 j a hj
        exact ⟨y, h3, VR_mono he.le _ _ h4, h5⟩
  · intro t' cs2 hb
    simp only [lk] at hb
    split at hb
    · rename_i e
      subst e
      cases hb
      refine ⟨hbt.1, by rw [hsz]; exact hbt.2.lt, hbt.2.out, xs', ty, hblk, hl, fun j a hj => ?_⟩
      obtain ⟨y, h3, h4, h5⟩ := hv j a hj
      exact ⟨y, h3, VR_mono he.le _ _ h4, h5⟩
    · rename_i e
      obtain ⟨h1, h2, h3, xs2, ty2, h4, h5, h6⟩ := h.boxes t' cs2 hb
      have hne : γ t' ≠ γ t := fun e2 => e (h.binj t' t (by rw [hb]; rfl) (by rw [ht]; rfl) e2).symm
      refine ⟨h1, by rw [hsz]; exact h2, h3, xs2, ty2, by rw [hkeep _ hne]; exact h4, h5, fun j a hj => ?_⟩
      obtain ⟨y, h7, h8, h9⟩ := h6 j a hj
      exact ⟨y, h7, VR_mono he.le _ _ h8, h9⟩
  · intro q q' h1 h2 e
    have hz : ∀ q, (lk ((t, cs') :: bx) q).isSome = true → (lk bx q).isSome = true := by
      intro q hq
      simp only [lk] at hq
      split at hq
      · rename_i e2; subst e2; rw [ht]; rfl
      · exact hq
    exact h.binj q q' (hz q h1) (hz q' h2) e

end
end Go.X

/- GoX, part 4: each operation that calls nothing does in the model what the executor says. No statement of the seat is here. -/
set_option linter.unusedVariables false
set_option linter.unusedSimpArgs false
namespace Go.X
open Go

def OpRes (P : Program) (base : Nat) (c0 : Ctx) (n : Nat) (c : Ctx) (g : Regs) (tmps : Array Value) (a : Act) (o : Oper) (rv : RV) (M' : Mem) : Prop :=
  ∃ c' γ' y, ((execOp a.eval o).run P c.w = .ok (.value y) c'.w ∨ ((execOp a.eval o).run P c.w = .ok .skip c'.w ∧ y = undef)) ∧
    c'.σ = M'.st ∧ FI base c0 n c' γ' g M'.bx tmps ∧ RR c' γ' M'.bx rv y

/-! ### Operands -/

theorem allSome_get {α β : Type} {f : α → Option β} : ∀ {l : List α} {m : List β}, allSome f l = some m → l.length = m.length ∧ ∀ (i : Nat) (b : β), m[i]? = some b → ∃ a, l[i]? = some a ∧ f a = some b
  | [], m, h => by
    simp only [allSome, Option.some.injEq] at h
    subst h
    simp
  | a :: l, m, h => by
    simp only [allSome, bind_some', Option.some.injEq] at h
    obtain ⟨b, h1, bs, h2, rfl⟩ := h
    obtain ⟨h3, h4⟩ := allSome_get h2
    refine ⟨by simp [h3], fun i b' hb => ?_⟩
    cases i with
    | zero => simp at hb; subst hb; exact ⟨a, rfl, h1⟩
    | succ i =>
      simp at hb
      obtain ⟨a', h5, h6⟩ := h4 i b' hb
      exact ⟨a', by simpa using h5, h6⟩

theorem cvCell_sound {c : Ctx} {v : Value} {a : AV} (h : cvCell v = some a) : VR c a v ∧ v.oneCell' = true := by
  unfold cvCell at h
  split at h <;> first
    | (cases h; exact ⟨by simp [VR, VRs], rfl⟩)
    | simp at h

theorem cvAV_sound {c : Ctx} {v : Value} {a : AV} (h : cvAV v = some a) : VR c a v := by
  unfold cvAV at h
  split at h
  · rename_i cs
    simp only [Option.map_eq_some_iff] at h
    obtain ⟨as, h1, rfl⟩ := h
    obtain ⟨hl, hg⟩ := allSome_get h1
    rw [VR]
    refine ⟨cs, rfl, VRs_of hl.symm fun i a x ha hx => ?_, fun y hy => ?_⟩
    · obtain ⟨v, h2, h3⟩ := hg i a ha
      rw [h2] at hx; cases hx
      exact (cvCell_sound h3).1
    · obtain ⟨i, hi, rfl⟩ := List.getElem_of_mem hy
      have : i < as.length := by omega
      obtain ⟨v, h2, h3⟩ := hg i as[i] (List.getElem?_eq_getElem this)
      have := (List.getElem?_eq_some_iff.1 h2).2
      rw [this]
      exact (cvCell_sound (c := c) h3).2
  · exact (cvCell_sound h).1

section
variable {P : Program} {base : Nat} {c0 : Ctx} {n : Nat} {c : Ctx} {γ : Nat → Nat} {g : Regs} {bx : Boxes} {tmps : Array Value} {a : Act}

theorem opnd (h : FI base c0 n c γ g bx tmps) (ha : a.tmps = tmps) {x : Operand} {xo : XO} (hx : cO x = some xo) {rv : RV} (he : ev g xo = some rv) : RR c γ bx rv (a.eval x) := by
  cases x with
  | tmp t =>
    simp only [cO, Option.some.injEq] at hx
    subst hx
    have := h.regs t rv he
    rw [← ha] at this
    exact this
  | const v =>
    simp only [cO, Option.map_eq_some_iff] at hx
    obtain ⟨av, h1, rfl⟩ := hx
    simp only [ev, Option.some.injEq] at he
    subst he
    exact cvAV_sound h1
  | func f =>
    simp only [cO, Option.some.injEq] at hx
    subst hx
    simp only [ev, Option.some.injEq] at he
    subst he
    simp [RR, VR, VRs, Act.eval]
  | global q => simp [cO] at hx

theorem opndv (h : FI base c0 n c γ g bx tmps) (ha : a.tmps = tmps) {x : Operand} {xo : XO} (hx : cO x = some xo) {av : AV} (he : evv g xo = some av) : VR c av (a.eval x) := by
  unfold evv at he
  rw [bind_some'] at he
  obtain ⟨rv, h1, h2⟩ := he
  have := opnd h ha hx h1
  cases rv with
  | v b => simp only [RV.av, Option.some.injEq] at h2; subst h2; exact this
  | lp t o => simp [RV.av] at h2
  | ls els => simp [RV.av] at h2

theorem opndvs (h : FI base c0 n c γ g bx tmps) (ha : a.tmps = tmps) : ∀ {xs : List Operand} {xos : List XO}, allSome cO xs = some xos → ∀ {avs : List AV}, evs g xos = some avs → VRs c avs (xs.map a.eval)
  | [], xos, hx, avs, he => by
    simp only [allSome, Option.some.injEq] at hx
    subst hx
    simp only [evs, Option.some.injEq] at he
    subst he
    simp [VRs]
  | x :: xs, xos, hx, avs, he => by
    simp only [allSome, bind_some', Option.some.injEq] at hx
    obtain ⟨xo, h1, xos', h2, rfl⟩ := hx
    simp only [evs, bind_some', Option.some.injEq] at he
    obtain ⟨av, h3, avs', h4, rfl⟩ := he
    rw [List.map_cons, VRs]
    exact ⟨opndv h ha h1 h3, opndvs h ha h2 h4⟩

/-- An operation that changes nothing. -/
theorem OpRes.same (h : FI base c0 n c γ g bx tmps) {o : Oper} {rv : RV} {y : Value} (hr : (execOp a.eval o).run P c.w = .ok (.value y) c.w) (hy : RR c γ bx rv y) : OpRes P base c0 n c g tmps a o rv ⟨bx, c.σ⟩ :=
  ⟨c, γ, y, .inl hr, rfl, h, hy⟩

/-! ### Values -/

theorem cellsOf_sound {c : Ctx} {av : AV} {cs : List AV} (h : cellsOf av = some cs) {y : Value} (hy : VR c av y) : VRs c cs y.cells.toList ∧ ∀ z ∈ y.cells.toList, z.oneCell' = true := by
  cases av with
  | un => simp [cellsOf] at h
  | undef => simp [cellsOf] at h
  | tup _ => simp [cellsOf] at h
  | agg l =>
    simp only [cellsOf, Option.some.injEq] at h
    subst h
    rw [VR] at hy
    obtain ⟨xs, rfl, h1, h2⟩ := hy
    exact ⟨h1, h2⟩
  | int k m => simp only [cellsOf, Option.some.injEq] at h; subst h; have hy' := hy; rw [VR] at hy; subst hy; exact ⟨by simp [Value.cells, VRs, hy'], by simp [Value.cells, Value.oneCell']⟩
  | bool b => simp only [cellsOf, Option.some.injEq] at h; subst h; have hy' := hy; rw [VR] at hy; subst hy; exact ⟨by simp [Value.cells, VRs, hy'], by simp [Value.cells, Value.oneCell']⟩
  | str l => simp only [cellsOf, Option.some.injEq] at h; subst h; have hy' := hy; rw [VR] at hy; obtain ⟨s, rfl, _⟩ := hy; exact ⟨by simp [Value.cells, VRs, hy'], by simp [Value.cells, Value.oneCell']⟩
  | ptr r v i o => simp only [cellsOf, Option.some.injEq] at h; subst h; have hy' := hy; rw [VR] at hy; obtain ⟨s, rfl, _⟩ := hy; exact ⟨by simp [Value.cells, VRs, hy'], by simp [Value.cells, Value.oneCell']⟩
  | nilptr => simp only [cellsOf, Option.some.injEq] at h; subst h; have hy' := hy; rw [VR] at hy; subst hy; exact ⟨by simp [Value.cells, VRs, hy'], by simp [Value.cells, Value.oneCell']⟩
  | sl r v i m => simp only [cellsOf, Option.some.injEq] at h; subst h; have hy' := hy; rw [VR] at hy; obtain ⟨s, cap, rfl, _⟩ := hy; exact ⟨by simp [Value.cells, VRs, hy'], by simp [Value.cells, Value.oneCell']⟩
  | nilsl => simp only [cellsOf, Option.some.injEq] at h; subst h; have hy' := hy; rw [VR] at hy; subst hy; exact ⟨by simp [Value.cells, VRs, hy'], by simp [Value.cells, Value.oneCell']⟩
  | fn f l => simp only [cellsOf, Option.some.injEq] at h; subst h; have hy' := hy; rw [VR] at hy; obtain ⟨s, rfl, _⟩ := hy; exact ⟨by simp [Value.cells, VRs, hy'], by simp [Value.cells, Value.oneCell']⟩
  | nilfn => simp only [cellsOf, Option.some.injEq] at h; subst h; have hy' := hy; rw [VR] at hy; subst hy; exact ⟨by simp [Value.cells, VRs, hy'], by simp [Value.cells, Value.oneCell']⟩
  | ifc t x => simp only [cellsOf, Option.some.injEq] at h; subst h; have hy' := hy; rw [VR] at hy; obtain ⟨s, rfl, _⟩ := hy; exact ⟨by simp [Value.cells, VRs, hy'], by simp [Value.cells, Value.oneCell']⟩
  | nilifc => simp only [cellsOf, Option.some.injEq] at h; subst h; have hy' := hy; rw [VR] at hy; subst hy; exact ⟨by simp [Value.cells, VRs, hy'], by simp [Value.cells, Value.oneCell']⟩
  | mp r v => simp only [cellsOf, Option.some.injEq] at h; subst h; have hy' := hy; rw [VR] at hy; obtain ⟨s, rfl, _⟩ := hy; exact ⟨by simp [Value.cells, VRs, hy'], by simp [Value.cells, Value.oneCell']⟩
  | nilmp => simp only [cellsOf, Option.some.injEq] at h; subst h; have hy' := hy; rw [VR] at hy; subst hy; exact ⟨by simp [Value.cells, VRs, hy'], by simp [Value.cells, Value.oneCell']⟩

/-- Cells that lie in memory, one behind the other from (b, o) on. -/
def Lies (c : Ctx) (b o : Nat) (cs : List AV) : Prop := ∀ (j : Nat) (v : AV), cs[j]? = some v → ∃ x, c.w.cell? ⟨b, o + j, none⟩ = some x ∧ VR c v x ∧ x.oneCell' = true

theorem Lies.values {c : Ctx} {b o : Nat} {cs : List AV} (h : Lies c b o cs) : ∃ xs : List Value, xs.length = cs.length ∧ VRs c cs xs ∧ (∀ z ∈ xs, z.oneCell' = true) ∧ ∀ (j : Nat) (x : Value), xs[j]? = some x → c.w.cell? ⟨b, o + j, none⟩ = some x := by
  induction cs generalizing o with
  | nil => exact ⟨[], rfl, by simp [VRs], by simp, by simp⟩
  | cons v cs ih =>
    obtain ⟨x, h1, h2, h3⟩ := h 0 v rfl
    obtain ⟨xs, k1, k2, k3, k4⟩ := ih (o := o + 1) (fun j v hv => by
      have := h (j + 1) v (by simpa using hv)
      rwa [show o + (j + 1) = o + 1 + j by omega] at this)
    refine ⟨x :: xs, by simp [k1], by rw [VRs]; exact ⟨h2, k2⟩, ?_, ?_⟩
    · intro z hz
      rcases List.mem_cons.1 hz with rfl | hz
      · exact h3
      · exact k3 z hz
    · intro j y hy
      cases j with
      | zero => simp at hy; subst hy; simpa using h1
      | succ j =>
        simp at hy
        rw [show o + (j + 1) = o + 1 + j by omega]
        exact k4 j y hy

theorem Lies.part {c : Ctx} {b o : Nat} {cs : List AV} (h : Lies c b o cs) (k m : Nat) : Lies c b (o + k) ((cs.drop k).take m) := by
  intro j v hv
  rw [List.getElem?_take] at hv
  split at hv
  · rw [List.getElem?_drop] at hv
    have := h (k + j) v hv
    rwa [show o + (k + j) = o + k + j by omega] at this
  · simp at hv

theorem isAggT_run {t : TypeId} {ag : Bool} (h : isAggT P t = some ag) (w : World) : (isAgg t).run P w = .ok ag w := by
  unfold isAggT at h
  unfold isAgg
  split at h
  · rename_i fs hu; cases h; simp [run_underlying hu]
  · rename_i x y hu; cases h; simp [run_underlying hu]
  · rename_i d h1 h2 hu
    cases h
    simp only [Sem.run_bind, run_underlying hu, Result.andThen_ok]
    cases d <;> first | (exact absurd rfl (h1 _)) | (exact absurd rfl (h2 _ _)) | rfl
  · simp at h

theorem szOf_run {t : TypeId} {s : Nat} (h : szOf P t = some s) (w : World) : (sizeOf t).run P w = .ok s w := by
  unfold szOf at h
  rw [Option.map_eq_some_iff] at h
  obtain ⟨i, h1, rfl⟩ := h
  simp [sizeOf, typeInfo, h1]

/-- A load. -/
theorem load_sound {c : Ctx} {t : TypeId} {ag : Bool} {sz : Nat} (hag : isAggT P t = some ag) (hsz : szOf P t = some sz) {b o k : Nat} {cs : List AV} (hl : Lies c b o cs) {v : AV} (hv : ld ag sz k cs = some v) :
    ∃ y, (loadVar t ⟨b, o + k, none⟩).run P c.w = .ok y c.w ∧ VR c v y := by
  unfold loadVar
  simp only [Sem.run_bind, isAggT_run hag, Result.andThen_ok]
  unfold ld at hv
  cases ag with
  | true =>
    simp only [if_true] at hv ⊢
    split at hv
    · rename_i hle
      simp only [Option.some.injEq] at hv
      subst hv
      obtain ⟨xs, h1, h2, h3, h4⟩ := (hl.part k sz).values
      have hlen : xs.length = sz := by rw [h1, List.length_take, List.length_drop]; omega
      have hr := run_loadCells_list (P := P) c.w ⟨b, o + k, none⟩ xs (fun j x hx => by rw [Addr.add_lit]; exact h4 j x hx)
      refine ⟨.agg xs.toArray, ?_, ?_⟩
      · simp only [Sem.run_bind, szOf_run hsz, Result.andThen_ok]
        rw [hlen] at hr
        simp [hr]
      · rw [VR]
        exact ⟨xs.toArray, rfl, h2, h3⟩
    · simp at hv
  | false =>
    simp only [Bool.false_eq_true, if_false] at hv ⊢
    obtain ⟨x, h1, h2, h3⟩ := hl k v hv
    exact ⟨x, by simp [run_load, h1], h2⟩

/-- What a pointer leads to lies in memory. -/
theorem place_lies (h : FI base c0 n c γ g bx tmps) {rv : RV} {y : Value} (hr : RR c γ bx rv y) {cs : List AV} {k : Nat} (hp : place ⟨bx, c.σ⟩ rv = some (cs, k)) :
    ∃ b o, y = .pointer (some ⟨b, o + k, none⟩) ∧ Lies c b o cs := by
  cases rv with
  | v av =>
    cases av with
    | ptr r v i o =>
      simp only [place, rowAt, bind_some', Option.some.injEq, Prod.mk.injEq] at hp
      obtain ⟨row, ⟨row', h1, h2⟩, cs', h3, rfl, rfl⟩ := hp
      split at h2
      · rename_i hv
        cases h2
        simp only [RR, VR] at hr
        obtain ⟨a, rfl, row2, k1, k2, k3⟩ := hr
        rw [h1] at k1; cases k1
        refine ⟨(c.β r).1, (c.β r).2 + i * row.sz, by rw [k3 hv.1.symm], fun j v hj => ?_⟩
        exact (h.sim.rows r row h1).cells i cs' j v h3 hj
      · simp at h2
    | _ => simp [place] at hp
  | lp t o =>
    simp only [place, bind_some', Option.some.injEq, Prod.mk.injEq] at hp
    obtain ⟨cs', h1, rfl, rfl⟩ := hp
    obtain ⟨_, rfl⟩ := hr
    obtain ⟨_, hlt, ho, xs, ty, h2, h3, h4⟩ := h.boxes t cs' h1
    refine ⟨γ t, 0, by simp, fun j v hj => ?_⟩
    obtain ⟨y, h5, h6, h7⟩ := h4 j v hj
    exact ⟨y, by simp [World.cell?, h2, h5], h6, h7⟩
  | ls els => simp [place] at hp

end
end Go.X

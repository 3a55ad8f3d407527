/- GoX, part 16: the operations' equations, handed on. No statement of the seat is here. -/
import Derived.Test.YtlliifjmnddckaaDoorX15
set_option linter.unusedVariables false
set_option linter.unusedSimpArgs false
namespace Go.X
open Go
variable {α β R : Type}

theorem opK_alloc (E : Call) (t : Nat) (z : List AV) (g : Regs) (bx : Boxes) (st : Store) (k : RV → Mem → Option R) :
    opK E (.alloc true t z) g ⟨bx, st⟩ k = if (lk bx t).isNone then k (.lp t 0) ⟨(t, z) :: bx, st⟩ else none := by
  rw [opK_pure _ _ _ _ _ rfl]; simp only [evP, th]; split <;> rfl
theorem opK_allocE (E : Call) (t : Nat) (z : List AV) (g : Regs) (bx : Boxes) (st : Store) (k : RV → Mem → Option R) :
    opK E (.alloc false t z) g ⟨bx, st⟩ k = k (.v (.ptr st.length 0 0 0)) ⟨bx, st ++ [⟨[z], z.length, 0, .own⟩]⟩ := by
  rw [opK_pure _ _ _ _ _ rfl]; rfl
theorem opK_box (E : Call) (t sz : Nat) (x : XO) (g : Regs) (bx : Boxes) (st : Store) (k : RV → Mem → Option R) :
    opK E (.box true t sz x) g ⟨bx, st⟩ k = th (evv g x) (fun a => th (cellsOf a) (fun y => if (lk bx t).isNone ∧ y.length = sz then k (.lp t 0) ⟨(t, y) :: bx, st⟩ else none)) := by
  rw [opK_pure _ _ _ _ _ rfl]; simp only [evP, th]
  cases evv g x with
  | none => rfl
  | some a =>
    simp only [Option.bind_some]
    cases cellsOf a with
    | none => rfl
    | some y => simp only [Option.bind_some]; split <;> rfl
theorem opK_boxE (E : Call) (t sz : Nat) (x : XO) (g : Regs) (bx : Boxes) (st : Store) (k : RV → Mem → Option R) :
    opK E (.box false t sz x) g ⟨bx, st⟩ k = th (evv g x) (fun a => th (cellsOf a) (fun y => if y.length = sz then k (.v (.ptr st.length 0 0 0)) ⟨bx, st ++ [⟨[y], sz, 0, .own⟩]⟩ else none)) := by
  rw [opK_pure _ _ _ _ _ rfl]; simp only [evP, th]
  cases evv g x with
  | none => rfl
  | some a =>
    simp only [Option.bind_some]
    cases cellsOf a with
    | none => rfl
    | some y => simp only [Option.bind_some]; split <;> rfl

def iadrV (st : Store) (sz : Nat) : AV → AV → Option AV
  | .sl r v s n, .int _ k => (rowAt st r v).bind fun row => if row.sz = sz ∧ 0 ≤ k ∧ k < n then some (.ptr r v (s + k.toNat) 0) else none
  | _, _ => none
theorem opK_iadr (E : Call) (sz : Nat) (x i : XO) (g : Regs) (bx : Boxes) (st : Store) (k : RV → Mem → Option R) :
    opK E (.iadr sz x i) g ⟨bx, st⟩ k = th (evv g x) (fun a => th (evv g i) (fun b => th (iadrV st sz a b) (fun q => k (.v q) ⟨bx, st⟩))) := by
  rw [opK_pure _ _ _ _ _ rfl]; simp only [evP, th, Option.bind_assoc]
  cases evv g x with
  | none => rfl
  | some a =>
    cases evv g i with
    | none => rfl
    | some b =>
      simp only [Option.bind_some, Option.bind_assoc]
      cases a with
      | sl r v s n =>
        cases b with
        | int kk n' =>
          simp only [iadrV, Option.bind_assoc]
          cases rowAt st r v with
          | none => rfl
          | some row => simp only [Option.bind_some]; split <;> rfl
        | _ => rfl
      | _ => rfl

def fldV (ag : Bool) (o sz : Nat) : AV → Option AV
  | .agg cs => ld ag sz o cs
  | _ => none
theorem fldV_agg (ag : Bool) (o sz : Nat) (cs : List AV) : fldV ag o sz (.agg cs) = ld ag sz o cs := rfl
theorem opK_fld (E : Call) (ag : Bool) (o sz : Nat) (x : XO) (g : Regs) (M : Mem) (k : RV → Mem → Option R) :
    opK E (.fld ag o sz x) g M k = th (evv g x) (fun a => th (fldV ag o sz a) (fun q => k (.v q) M)) := by
  rw [opK_pure _ _ _ _ _ rfl]; simp only [evP, th, Option.bind_assoc]
  cases evv g x with
  | none => rfl
  | some a => cases a with
    | agg cs => simp only [Option.bind_some, fldV, Option.bind_assoc]
    | _ => rfl

def beqV (neg : Bool) : AV → AV → Option AV
  | .bool a, .bool b => some (.bool (if neg then !(a == b) else a == b))
  | _, _ => none
theorem beqV_eq (a b : Bool) : beqV false (.bool a) (.bool b) = some (.bool (a == b)) := rfl
theorem beqV_ne (a b : Bool) : beqV true (.bool a) (.bool b) = some (.bool (!(a == b))) := rfl
theorem opK_beq (E : Call) (neg : Bool) (x y : XO) (g : Regs) (M : Mem) (k : RV → Mem → Option R) :
    opK E (.beq neg x y) g M k = th (evv g x) (fun a => th (evv g y) (fun b => th (beqV neg a b) (fun q => k (.v q) M))) := by
  rw [opK_pure _ _ _ _ _ rfl]; simp only [evP, th, Option.bind_assoc]
  cases evv g x with
  | none => rfl
  | some a =>
    cases evv g y with
    | none => rfl
    | some b =>
      simp only [Option.bind_some]
      cases a with
      | bool a => cases b <;> rfl
      | _ => rfl

def seqV (neg : Bool) (ks : List CK) : AV → AV → Option AV
  | .agg a, .agg b => (cellsEq ks a b).bind fun e => some (.bool (if neg then !e else e))
  | _, _ => none
theorem opK_seq (E : Call) (neg : Bool) (ks : List CK) (x y : XO) (g : Regs) (M : Mem) (k : RV → Mem → Option R) :
    opK E (.seq neg ks x y) g M k = th (evv g x) (fun a => th (evv g y) (fun b => th (seqV neg ks a b) (fun q => k (.v q) M))) := by
  rw [opK_pure _ _ _ _ _ rfl]; simp only [evP, th, Option.bind_assoc]
  cases evv g x with
  | none => rfl
  | some a =>
    cases evv g y with
    | none => rfl
    | some b =>
      simp only [Option.bind_some]
      cases a with
      | agg a => cases b with
        | agg b => simp only [seqV, Option.bind_assoc]; rfl
        | _ => rfl
      | _ => rfl
theorem seqV_eq (ks : List CK) (a b : List AV) : seqV false ks (.agg a) (.agg b) = th (cellsEq ks a b) (fun e => some (.bool e)) := rfl
theorem seqV_ne (ks : List CK) (a b : List AV) : seqV true ks (.agg a) (.agg b) = th (cellsEq ks a b) (fun e => some (.bool (!e))) := rfl
theorem cellsEq_nil : cellsEq [] [] [] = some true := rfl
theorem cellsEq_cons (k : CK) (ks : List CK) (a b : AV) (as bs : List AV) : cellsEq (k :: ks) (a :: as) (b :: bs) = th (cellEq k a b) (fun x => th (cellsEq ks as bs) (fun y => some (x && y))) := rfl
theorem cellEq_int (k : IntKind) (a b : Int) : cellEq .i (.int k a) (.int k b) = some (a == b) := by simp [cellEq]
theorem cellEq_bool (a b : Bool) : cellEq .b (.bool a) (.bool b) = some (a == b) := rfl
theorem cellEq_str (a b : List UInt8) : cellEq .s (.str a) (.str b) = some (a == b) := rfl

def isnilV (kd : NK) (neg : Bool) (a : AV) : Option AV := (nilOf kd a).bind fun b => some (.bool (if neg then !b else b))
theorem isnilV_eq (kd : NK) (a : AV) : isnilV kd false a = th (nilOf kd a) (fun b => some (.bool b)) := rfl
theorem isnilV_ne (kd : NK) (a : AV) : isnilV kd true a = th (nilOf kd a) (fun b => some (.bool (!b))) := rfl
theorem opK_isnil (E : Call) (kd : NK) (neg : Bool) (x : XO) (g : Regs) (M : Mem) (k : RV → Mem → Option R) :
    opK E (.isnil kd neg x) g M k = th (evv g x) (fun a => th (isnilV kd neg a) (fun q => k (.v q) M)) := by
  rw [opK_pure _ _ _ _ _ rfl]; simp only [evP, th, Option.bind_assoc, isnilV]; rfl

def bnotV : AV → Option AV
  | .bool b => some (.bool (!b))
  | _ => none
theorem bnotV_bool (b : Bool) : bnotV (.bool b) = some (.bool (!b)) := rfl
theorem opK_bnot (E : Call) (x : XO) (g : Regs) (M : Mem) (k : RV → Mem → Option R) : opK E (.bnot x) g M k = th (evv g x) (fun a => th (bnotV a) (fun q => k (.v q) M)) := by
  rw [opK_pure _ _ _ _ _ rfl]; simp only [evP, th, Option.bind_assoc]
  cases evv g x with
  | none => rfl
  | some a => cases a <;> rfl

def negV : AV → Option AV
  | .int k n => some (.int k (k.wrap (0 - n)))
  | _ => none
theorem negV_int (k : IntKind) (n : Int) : negV (.int k n) = some (.int k (k.wrap (0 - n))) := rfl
theorem opK_neg (E : Call) (x : XO) (g : Regs) (M : Mem) (k : RV → Mem → Option R) : opK E (.neg x) g M k = th (evv g x) (fun a => th (negV a) (fun q => k (.v q) M)) := by
  rw [opK_pure _ _ _ _ _ rfl]; simp only [evP, th, Option.bind_assoc]
  cases evv g x with
  | none => rfl
  | some a => cases a <;> rfl

def lenV : Bool → AV → Option AV
  | true, .str l => some (.int .i64 l.length)
  | false, .sl _ _ _ n => some (.int .i64 n)
  | false, .nilsl => some (.int .i64 0)
  | _, _ => none
theorem lenV_str (l : List UInt8) : lenV true (.str l) = some (.int .i64 l.length) := rfl
theorem lenV_sl (r v i n : Nat) : lenV false (.sl r v i n) = some (.int .i64 n) := rfl
theorem lenV_nilsl : lenV false .nilsl = some (.int .i64 0) := rfl
theorem opK_len (E : Call) (st : Bool) (x : XO) (g : Regs) (M : Mem) (k : RV → Mem → Option R) : opK E (.len st x) g M k = th (evv g x) (fun a => th (lenV st a) (fun q => k (.v q) M)) := by
  rw [opK_pure _ _ _ _ _ rfl]
  cases st <;> simp only [evP, th, Option.bind_assoc] <;> cases evv g x with
  | none => rfl
  | some a => cases a <;> rfl

def extV (i : Nat) : AV → Option AV
  | .tup vs => vs[i]?
  | _ => none
theorem extV_tup (i : Nat) (vs : List AV) : extV i (.tup vs) = vs[i]? := rfl
theorem opK_ext (E : Call) (x : XO) (i : Nat) (g : Regs) (M : Mem) (k : RV → Mem → Option R) : opK E (.ext x i) g M k = th (evv g x) (fun a => th (extV i a) (fun q => k (.v q) M)) := by
  rw [opK_pure _ _ _ _ _ rfl]; simp only [evP, th, Option.bind_assoc]
  cases evv g x with
  | none => rfl
  | some a => cases a with
    | tup vs => simp only [Option.bind_some, extV, Option.bind_assoc]
    | _ => rfl

theorem opK_build (E : Call) (z : List AV) (ps : List (Nat × Nat × XO)) (g : Regs) (M : Mem) (k : RV → Mem → Option R) : opK E (.build z ps) g M k = th (fillP g z ps) (fun cs => k (.v (.agg cs)) M) := by
  rw [opK_pure _ _ _ _ _ rfl]; simp only [evP, th, Option.bind_assoc]; rfl
theorem fillP_nil (g : Regs) (cs : List AV) : fillP g cs [] = some cs := rfl
theorem fillP_cons (g : Regs) (cs : List AV) (o sz : Nat) (x : XO) (l : List (Nat × Nat × XO)) :
    fillP g cs ((o, sz, x) :: l) = th (evv g x) (fun a => th (cellsOf a) (fun y => if y.length = sz ∧ o + sz ≤ cs.length then fillP g (upd cs o y) l else none)) := rfl
theorem opK_bsl (E : Call) (sz n : Nat) (z : List AV) (ps : List (Nat × XO)) (g : Regs) (M : Mem) (k : RV → Mem → Option R) :
    opK E (.bsl true sz n z ps) g M k = th (fillS g sz (List.replicate n z) ps) (fun els => k (.ls els) M) := by
  rw [opK_pure _ _ _ _ _ rfl]; simp only [evP, th, Option.bind_assoc]; rfl
theorem opK_bslE (E : Call) (sz n : Nat) (z : List AV) (ps : List (Nat × XO)) (g : Regs) (bx : Boxes) (st : Store) (k : RV → Mem → Option R) :
    opK E (.bsl false sz n z ps) g ⟨bx, st⟩ k = th (fillS g sz (List.replicate n z) ps) (fun els => k (.v (.sl st.length 0 0 n)) ⟨bx, st ++ [⟨els, sz, 0, .own⟩]⟩) := by
  rw [opK_pure _ _ _ _ _ rfl]; simp only [evP, th, Option.bind_assoc]; rfl
theorem fillS_nil (g : Regs) (sz : Nat) (els : List (List AV)) : fillS g sz els [] = some els := rfl
theorem fillS_cons (g : Regs) (sz : Nat) (els : List (List AV)) (i : Nat) (x : XO) (l : List (Nat × XO)) :
    fillS g sz els ((i, x) :: l) = th (evv g x) (fun a => th (cellsOf a) (fun y => if y.length = sz ∧ i < els.length then fillS g sz (els.set i y) l else none)) := rfl

def appV (sz bytes : Nat) (st : Store) (ys : List (List AV)) : AV → Option (AV × Store)
  | .nilsl => if ys.length * bytes ≤ 140737488355328 then
            (match ys with
             | [] => some (.nilsl, st)
             | _ => some (.sl st.length 0 0 ys.length, st ++ [⟨ys, sz, 0, .own⟩])) else none
  | .sl r v i n => (rowAt st r v).bind fun row =>
          if row.kd = .own ∧ row.sz = sz ∧ i + n ≤ row.els.length ∧ (n + ys.length) * bytes ≤ 140737488355328 then
            some (.sl r (v + 1) 0 (n + ys.length), st.set r { row with els := (row.els.drop i).take n ++ ys, ver := v + 1 })
          else none
  | _ => none
theorem opK_app (E : Call) (sz bytes : Nat) (x y : XO) (g : Regs) (bx : Boxes) (st : Store) (k : RV → Mem → Option R) :
    opK E (.app sz bytes x y) g ⟨bx, st⟩ k = th (evv g x) (fun a => th (ev g y) (fun b => th (elsOf ⟨bx, st⟩ sz b) (fun ys => th (appV sz bytes st ys a) (fun q => k (.v q.1) ⟨bx, q.2⟩)))) := by
  rw [opK_pure _ _ _ _ _ rfl]; simp only [evP, th, Option.bind_assoc]
  cases evv g x with
  | none => rfl
  | some a =>
    cases ev g y with
    | none => rfl
    | some b =>
      simp only [Option.bind_some, Option.bind_assoc]
      cases elsOf ⟨bx, st⟩ sz b with
      | none => rfl
      | some ys =>
        simp only [Option.bind_some]
        cases a with
        | nilsl =>
          simp only [appV]
          split
          · cases ys <;> rfl
          · rfl
        | sl r v i n =>
          simp only [appV, Option.bind_assoc]
          cases rowAt st r v with
          | none => rfl
          | some row => simp only [Option.bind_some]; split <;> rfl
        | _ => rfl

def slcV (g : Regs) (st : Store) (sz : Nat) (l h : Option XO) : AV → Option AV
  | .sl r v i n => (st[r]?).bind fun row => (bnd g 0 l).bind fun lo => (bnd g n h).bind fun hi =>
          if row.sz = sz ∧ 0 ≤ lo ∧ lo ≤ hi ∧ hi ≤ n then some (.sl r v (i + lo.toNat) (hi.toNat - lo.toNat)) else none
  | .nilsl => (bnd g 0 l).bind fun lo => (bnd g 0 h).bind fun hi => if lo = 0 ∧ hi = 0 then some .nilsl else none
  | _ => none
theorem opK_slc (E : Call) (sz : Nat) (x : XO) (l h : Option XO) (g : Regs) (bx : Boxes) (st : Store) (k : RV → Mem → Option R) :
    opK E (.slc sz x l h) g ⟨bx, st⟩ k = th (evv g x) (fun a => th (slcV g st sz l h a) (fun q => k (.v q) ⟨bx, st⟩)) := by
  rw [opK_pure _ _ _ _ _ rfl]; simp only [evP, th, Option.bind_assoc]
  cases evv g x with
  | none => rfl
  | some a =>
    simp only [Option.bind_some]
    cases a with
    | sl r v i n =>
      simp only [slcV, Option.bind_assoc]
      cases st[r]? with
      | none => rfl
      | some row =>
        simp only [Option.bind_some]
        cases bnd g 0 l with
        | none => rfl
        | some lo =>
          simp only [Option.bind_some]
          cases bnd g n h with
          | none => rfl
          | some hi => simp only [Option.bind_some]; split <;> rfl
    | nilsl =>
      simp only [slcV, Option.bind_assoc]
      cases bnd g 0 l with
      | none => rfl
      | some lo =>
        simp only [Option.bind_some]
        cases bnd g 0 h with
        | none => rfl
        | some hi => simp only [Option.bind_some]; split <;> rfl
    | _ => rfl

def intOf : AV → Option Int
  | .int _ n => some n
  | _ => none
theorem intOf_int (k : IntKind) (n : Int) : intOf (.int k n) = some n := rfl
theorem bnd_none (g : Regs) (d : Nat) : bnd g d none = some (d : Int) := rfl
theorem bnd_some (g : Regs) (d : Nat) (x : XO) : bnd g d (some x) = th (evv g x) intOf := by
  simp only [bnd, th]
  cases evv g x with
  | none => rfl
  | some a => cases a <;> rfl

def sstrV (g : Regs) (l h : Option XO) : AV → Option AV
  | .str s => (bnd g 0 l).bind fun lo => (bnd g s.length h).bind fun hi =>
          if 0 ≤ lo ∧ lo ≤ hi ∧ hi ≤ s.length then some (.str ((s.drop lo.toNat).take (hi.toNat - lo.toNat))) else none
  | _ => none
theorem sstrV_str (g : Regs) (l h : Option XO) (s : List UInt8) : sstrV g l h (.str s) = th (bnd g 0 l) (fun lo => th (bnd g s.length h) (fun hi =>
          if 0 ≤ lo ∧ lo ≤ hi ∧ hi ≤ s.length then some (.str ((s.drop lo.toNat).take (hi.toNat - lo.toNat))) else none)) := rfl
theorem opK_sstr (E : Call) (x : XO) (l h : Option XO) (g : Regs) (M : Mem) (k : RV → Mem → Option R) :
    opK E (.sstr x l h) g M k = th (evv g x) (fun a => th (sstrV g l h a) (fun q => k (.v q) M)) := by
  rw [opK_pure _ _ _ _ _ rfl]; simp only [evP, th, Option.bind_assoc]
  cases evv g x with
  | none => rfl
  | some a =>
    simp only [Option.bind_some]
    cases a with
    | str s =>
      simp only [sstrV, Option.bind_assoc]
      cases bnd g 0 l with
      | none => rfl
      | some lo =>
        simp only [Option.bind_some]
        cases bnd g s.length h with
        | none => rfl
        | some hi => simp only [Option.bind_some]; split <;> rfl
    | _ => rfl

def idxV : AV → AV → Option AV
  | .str s, .int _ k => if 0 ≤ k ∧ k < s.length then some (.int .u8 ((s.getD k.toNat 0).toNat : Nat)) else none
  | _, _ => none
theorem idxV_str (s : List UInt8) (kd : IntKind) (k : Int) : idxV (.str s) (.int kd k) = if 0 ≤ k ∧ k < s.length then some (.int .u8 ((s.getD k.toNat 0).toNat : Nat)) else none := rfl
theorem opK_idx (E : Call) (x y : XO) (g : Regs) (M : Mem) (k : RV → Mem → Option R) :
    opK E (.idx x y) g M k = th (evv g x) (fun a => th (evv g y) (fun b => th (idxV a b) (fun q => k (.v q) M))) := by
  rw [opK_pure _ _ _ _ _ rfl]; simp only [evP, th, Option.bind_assoc]
  cases evv g x with
  | none => rfl
  | some a =>
    cases evv g y with
    | none => rfl
    | some b =>
      simp only [Option.bind_some]
      cases a with
      | str s => cases b with
        | int kd n => simp only [idxV]; split <;> rfl
        | _ => rfl
      | _ => rfl

def strOf : AV → Option (List UInt8)
  | .str s => some s
  | _ => none
theorem strOf_str (s : List UInt8) : strOf (.str s) = some s := rfl
theorem opK_s2b (E : Call) (x : XO) (g : Regs) (bx : Boxes) (st : Store) (k : RV → Mem → Option R) :
    opK E (.s2b x) g ⟨bx, st⟩ k = th (evv g x) (fun a => th (strOf a) (fun s => k (.v (.sl st.length 0 0 s.length)) ⟨bx, st ++ [⟨s.map fun b => [.int .u8 (b.toNat : Nat)], 1, 0, .own⟩]⟩)) := by
  rw [opK_pure _ _ _ _ _ rfl]; simp only [evP, th, Option.bind_assoc]
  cases evv g x with
  | none => rfl
  | some a => cases a <;> rfl
theorem opK_b2s (E : Call) (x : XO) (g : Regs) (M : Mem) (k : RV → Mem → Option R) :
    opK E (.b2s x) g M k = th (ev g x) (fun b => th (elsOf M 1 b) (fun els => th (allSome byteOfCell els) (fun s => k (.v (.str s)) M))) := by
  rw [opK_pure _ _ _ _ _ rfl]; simp only [evP, th, Option.bind_assoc]; rfl
theorem opK_cvt (E : Call) (kd : IntKind) (x : XO) (g : Regs) (M : Mem) (k : RV → Mem → Option R) :
    opK E (.cvt kd x) g M k = th (evv g x) (fun a => th (intOf a) (fun n => k (.v (.int kd (kd.wrap n))) M)) := by
  rw [opK_pure _ _ _ _ _ rfl]; simp only [evP, th, Option.bind_assoc]
  cases evv g x with
  | none => rfl
  | some a => cases a <;> rfl

def mksV (sz bytes : Nat) (z : List AV) (st : Store) : AV → AV → Option (AV × Store)
  | .int .i64 n, .int .i64 m => if 0 ≤ n ∧ n ≤ m ∧ m * bytes ≤ 140737488355328 ∧ m ≤ 140737488355328 then some (.sl st.length 0 0 n.toNat, st ++ [⟨List.replicate n.toNat z, sz, 0, .own⟩]) else none
  | _, _ => none
theorem mksV_int (sz bytes : Nat) (z : List AV) (st : Store) (n m : Int) : mksV sz bytes z st (.int .i64 n) (.int .i64 m) = if 0 ≤ n ∧ n ≤ m ∧ m * bytes ≤ 140737488355328 ∧ m ≤ 140737488355328 then some (.sl st.length 0 0 n.toNat, st ++ [⟨List.replicate n.toNat z, sz, 0, .own⟩]) else none := rfl
theorem opK_mks (E : Call) (sz bytes : Nat) (z : List AV) (l c : XO) (g : Regs) (bx : Boxes) (st : Store) (k : RV → Mem → Option R) :
    opK E (.mks sz bytes z l c) g ⟨bx, st⟩ k = th (evv g l) (fun a => th (evv g c) (fun b => th (mksV sz bytes z st a b) (fun q => k (.v q.1) ⟨bx, q.2⟩))) := by
  rw [opK_pure _ _ _ _ _ rfl]; simp only [evP, th, Option.bind_assoc]
  cases evv g l with
  | none => rfl
  | some a =>
    cases evv g c with
    | none => rfl
    | some b =>
      simp only [Option.bind_some]
      cases a with
      | int kd n => cases b with
        | int kd' m => cases kd <;> first | rfl | (cases kd' <;> first | rfl | (simp only [mksV]; split <;> rfl))
        | _ => cases kd <;> rfl
      | _ => rfl

def mxV (big : Bool) : AV → AV → Option AV
  | .int k p, .int k' q => if k = k' then some (.int k (if big then (if q > p then q else p) else (if q < p then q else p))) else none
  | _, _ => none
theorem mxV_max (k : IntKind) (p q : Int) : mxV true (.int k p) (.int k q) = some (.int k (if q > p then q else p)) := by simp [mxV]
theorem mxV_min (k : IntKind) (p q : Int) : mxV false (.int k p) (.int k q) = some (.int k (if q < p then q else p)) := by simp [mxV]
theorem opK_mx (E : Call) (big : Bool) (x y : XO) (g : Regs) (M : Mem) (k : RV → Mem → Option R) :
    opK E (.mx big x y) g M k = th (evv g x) (fun a => th (evv g y) (fun b => th (mxV big a b) (fun q => k (.v q) M))) := by
  rw [opK_pure _ _ _ _ _ rfl]; simp only [evP, th, Option.bind_assoc]
  cases evv g x with
  | none => rfl
  | some a =>
    cases evv g y with
    | none => rfl
    | some b =>
      simp only [Option.bind_some]
      cases a with
      | int ka p => cases b with
        | int kb q => simp only [mxV]; split <;> rfl
        | _ => rfl
      | _ => rfl

def nilcV : RV → Option RV
  | .v (.ptr r v i o) => some (.v (.ptr r v i o))
  | .lp t o => some (.lp t o)
  | _ => none
theorem nilcV_ptr (r v i o : Nat) : nilcV (.v (.ptr r v i o)) = some (.v (.ptr r v i o)) := rfl
theorem nilcV_lp (t o : Nat) : nilcV (.lp t o) = some (.lp t o) := rfl
theorem opK_nilc (E : Call) (x : XO) (g : Regs) (M : Mem) (k : RV → Mem → Option R) : opK E (.nilc x) g M k = th (ev g x) (fun p => th (nilcV p) (fun q => k q M)) := by
  rw [opK_pure _ _ _ _ _ rfl]; simp only [evP, th, Option.bind_assoc]
  cases ev g x with
  | none => rfl
  | some p => cases p with
    | v a => cases a <;> rfl
    | _ => rfl
theorem opK_mkf (E : Call) (f : FuncId) (cs : List XO) (g : Regs) (M : Mem) (k : RV → Mem → Option R) : opK E (.mkf f cs) g M k = th (evs g cs) (fun as => k (.v (.fn f as)) M) := by
  rw [opK_pure _ _ _ _ _ rfl]; simp only [evP, th, Option.bind_assoc]; rfl

/-! ### Loops -/

/-- A loop that stands at its head, with what lives there and no more. -/
noncomputable def loopK (E : Call) (live : List Nat) (c : XC) (s : S) (k : Out → S → Option R) : Option R :=
  ((exec E c s).bind fun | (.norm, s') => exec E (.loop live c) s' | (o, s') => some (o, s')).bind fun p => k p.1 p.2
/-- What a loop does behind its body. -/
noncomputable def lpK (E : Call) (live : List Nat) (c : XC) (k : Out → S → Option R) (o : Out) (s : S) : Option R := match o with | .norm => runK E (.loop live c) s k | o => k o s
theorem lpK_norm (E : Call) (live : List Nat) (c : XC) (k : Out → S → Option R) (s : S) : lpK E live c k .norm s = runK E (.loop live c) s k := rfl
theorem lpK_ret (E : Call) (live : List Nat) (c : XC) (k : Out → S → Option R) (s : S) : lpK E live c k .ret s = k .ret s := rfl
theorem lpK_exit (E : Call) (live : List Nat) (c : XC) (k : Out → S → Option R) (i : Nat) (s : S) : lpK E live c k (.exit i) s = k (.exit i) s := rfl
theorem runK_loop (E : Call) (live : List Nat) (c : XC) (g : Regs) (bx : Boxes) (st : Store) (k : Out → S → Option R) :
    runK E (.loop live c) (g, ⟨bx, st⟩) k = frK (projR g bx live) (projB g bx live) (fun g' bx' => loopK E live c (g', ⟨bx', st⟩) k) := by
  simp only [runK, loopK, frK]
  congr 1
  conv => lhs; rw [exec, iter_eq]
  rfl
theorem loopK_eq (E : Call) (live : List Nat) (c : XC) (s : S) (k : Out → S → Option R) : loopK E live c s k = runK E c s (lpK E live c k) := by
  simp only [loopK, runK, Option.bind_assoc]
  congr 1
  funext p
  obtain ⟨o, s'⟩ := p
  cases o <;> rfl
/-- One round; the loop's code stays under its name in what follows. -/
theorem loopK_step {c c' : XC} (h : c = c') (E : Call) (live : List Nat) (s : S) (k : Out → S → Option R) : loopK E live c s k = runK E c' s (lpK E live c k) := by
  subst h; exact loopK_eq E live c s k

end Go.X

/- GoX, part 5b: more operations that change nothing. No statement of the seat is here. -/
import Derived.Test.YtlliifjmnddckaaDoorX5
set_option linter.unusedVariables false
set_option linter.unusedSimpArgs false
namespace Go.X
open Go

section
variable {P : Program} {base : Nat} {c0 : Ctx} {n : Nat} {c : Ctx} {γ : Nat → Nat} {g : Regs} {bx : Boxes} {tmps : Array Value} {a : Act} {o : Oper}

theorem run_equal_bool {t : TypeId} (hu : P.underlying t = some .bool) (p q : Bool) (w : World) : (Op.equal t (.bool p) (.bool q)).run P w = .ok (p == q) w := by
  show (Op.equalIn (9999 + 1) t (.bool p) (.bool q)).run P w = _
  unfold Op.equalIn
  simp only [Sem.run_bind, run_underlying hu, Result.andThen_ok, Sem.run_pure]

theorem s_beq (h : FI base c0 n c γ g bx tmps) (ha : a.tmps = tmps) {t u : TypeId} {x y : Operand} {xo yo : XO} {neg : Bool} (ho : o.op = .binOp (if neg then .neq else .eql) t x y u) (hu : P.underlying t = some .bool) (hx : cO x = some xo) (hy : cO y = some yo) {rv : RV} {M' : Mem}
    (he : evP g ⟨bx, c.σ⟩ (.beq neg xo yo) = some (rv, M')) : OpRes P base c0 n c g tmps a o rv M' := by
  simp only [evP, bind_some'] at he
  obtain ⟨av, h1, bv, h2, h3⟩ := he
  have hv := opndv h ha hx h1
  have hw := opndv h ha hy h2
  cases av with
  | bool p =>
    cases bv with
    | bool q =>
      simp only [VR] at hv hw
      simp only [Option.some.injEq, Prod.mk.injEq] at h3
      obtain ⟨rfl, rfl⟩ := h3
      refine OpRes.same h ?_ RR_bool
      have hg := run_eqGuard_plain (P := P) (op := if neg then .neq else .eql) (t := t) (x := x) (y := y) (u := .bool p) (v := .bool q) rfl (by simp) c.w
      have hq := run_equal_bool (P := P) hu p q c.w
      cases neg <;> simp only [Bool.false_eq_true, if_false, if_true] at hg ho ⊢ <;> simp only [execOp, ho, hv, hw, hg, binOp, Sem.run_bind, Sem.run_pure, Result.andThen_ok, hq]
    | _ => simp at h3
  | _ => simp at h3

theorem s_bnot (h : FI base c0 n c γ g bx tmps) (ha : a.tmps = tmps) {t : TypeId} {x : Operand} {xo : XO} (ho : o.op = .unOp .not t x) (hx : cO x = some xo) {rv : RV} {M' : Mem}
    (he : evP g ⟨bx, c.σ⟩ (.bnot xo) = some (rv, M')) : OpRes P base c0 n c g tmps a o rv M' := by
  simp only [evP, bind_some'] at he
  obtain ⟨av, h1, h3⟩ := he
  have hv := opndv h ha hx h1
  cases av with
  | bool p =>
    simp only [VR] at hv
    simp only [Option.some.injEq, Prod.mk.injEq] at h3
    obtain ⟨rfl, rfl⟩ := h3
    exact OpRes.same h (by simp [execOp, ho, hv, Op.unary]) RR_bool
  | _ => simp at h3

theorem s_neg (h : FI base c0 n c γ g bx tmps) (ha : a.tmps = tmps) {t : TypeId} {x : Operand} {xo : XO} (ho : o.op = .unOp .neg t x) (hx : cO x = some xo) {rv : RV} {M' : Mem}
    (he : evP g ⟨bx, c.σ⟩ (.neg xo) = some (rv, M')) : OpRes P base c0 n c g tmps a o rv M' := by
  simp only [evP, bind_some'] at he
  obtain ⟨av, h1, h3⟩ := he
  have hv := opndv h ha hx h1
  cases av with
  | int k p =>
    simp only [VR] at hv
    simp only [Option.some.injEq, Prod.mk.injEq] at h3
    obtain ⟨rfl, rfl⟩ := h3
    exact OpRes.same h (by simp [execOp, ho, hv, Op.unary, Op.intArith]) RR_int
  | _ => simp at h3

theorem s_mx (h : FI base c0 n c γ g bx tmps) (ha : a.tmps = tmps) {big : Bool} {ts : Array TypeId} {as : Array Operand} {x y : Operand} {xo yo : XO} (ho : o.op = .call { callee := .builtin (if big then .max else .min), args := as, argTypes := ts }) (has : as.toList = [x, y]) (hx : cO x = some xo) (hy : cO y = some yo) {rv : RV} {M' : Mem}
    (he : evP g ⟨bx, c.σ⟩ (.mx big xo yo) = some (rv, M')) : OpRes P base c0 n c g tmps a o rv M' := by
  have e1 : as = #[x, y] := by apply Array.ext'; simpa using has
  subst e1
  simp only [evP, bind_some'] at he
  obtain ⟨av, h1, bv, h2, h3⟩ := he
  have hv := opndv h ha hx h1
  have hw := opndv h ha hy h2
  cases av with
  | int k p =>
    cases bv with
    | int k' q =>
      simp only [VR] at hv hw
      simp only at h3
      split at h3
      · rename_i hk
        subst hk
        simp only [Option.some.injEq, Prod.mk.injEq] at h3
        obtain ⟨rfl, rfl⟩ := h3
        refine OpRes.same h ?_ RR_int
        cases big with
        | true =>
          simp only [if_true] at ho ⊢
          simp [execOp, ho, resolve, invoke, builtin, Builtin.max_, Builtin.max2, hv, hw]
        | false =>
          simp only [Bool.false_eq_true, if_false] at ho ⊢
          simp [execOp, ho, resolve, invoke, builtin, Builtin.min_, Builtin.min2, hv, hw]
      · cases h3
    | _ => simp at h3
  | _ => simp at h3

theorem s_len (h : FI base c0 n c γ g bx tmps) (ha : a.tmps = tmps) {t : TypeId} {ts : Array TypeId} {as : Array Operand} {x : Operand} {xo : XO} {st : Bool} (ho : o.op = .call { callee := .builtin .len, args := as, argTypes := ts }) (has : as.toList = [x]) (hts : ts.toList = [t])
    (hu : if st then P.underlying t = some .string else ∃ e, P.underlying t = some (.slice e)) (hx : cO x = some xo) {rv : RV} {M' : Mem}
    (he : evP g ⟨bx, c.σ⟩ (.len st xo) = some (rv, M')) : OpRes P base c0 n c g tmps a o rv M' := by
  have e1 : as = #[x] := by apply Array.ext'; simpa using has
  have e2 : ts = #[t] := by apply Array.ext'; simpa using hts
  subst e1; subst e2
  cases st with
  | true =>
    simp only [if_true] at hu
    simp only [evP, bind_some'] at he
    obtain ⟨av, h1, h3⟩ := he
    have hv := opndv h ha hx h1
    cases av with
    | str l =>
      simp only [VR] at hv
      obtain ⟨s, e, rfl⟩ := hv
      simp only [Option.some.injEq, Prod.mk.injEq] at h3
      obtain ⟨rfl, rfl⟩ := h3
      refine OpRes.same h ?_ RR_int
      have : s.data.toList.length = s.size := by rw [Array.length_toList]; rfl
      rw [this]
      simp [execOp, ho, resolve, invoke, builtin, Builtin.len_, e, run_underlying hu, goInt]
    | _ => simp at h3
  | false =>
    simp only [Bool.false_eq_true, if_false] at hu
    obtain ⟨e', hu'⟩ := hu
    simp only [evP, bind_some'] at he
    obtain ⟨av, h1, h3⟩ := he
    have hv := opndv h ha hx h1
    cases av with
    | sl r v i m =>
      simp only [VR] at hv
      obtain ⟨ad, cap, e, _⟩ := hv
      simp only [Option.some.injEq, Prod.mk.injEq] at h3
      obtain ⟨rfl, rfl⟩ := h3
      exact OpRes.same h (by simp [execOp, ho, resolve, invoke, builtin, Builtin.len_, e, run_underlying hu', goInt]) RR_int
    | nilsl =>
      simp only [VR] at hv
      simp only [Option.some.injEq, Prod.mk.injEq] at h3
      obtain ⟨rfl, rfl⟩ := h3
      exact OpRes.same h (by simp [execOp, ho, resolve, invoke, builtin, Builtin.len_, hv, run_underlying hu', goInt]) RR_int
    | _ => simp at h3

theorem s_ext (h : FI base c0 n c γ g bx tmps) (ha : a.tmps = tmps) {x : Operand} {i : Nat} {xo : XO} (ho : o.op = .extract x i) (hx : cO x = some xo) {rv : RV} {M' : Mem}
    (he : evP g ⟨bx, c.σ⟩ (.ext xo i) = some (rv, M')) : OpRes P base c0 n c g tmps a o rv M' := by
  simp only [evP, bind_some'] at he
  obtain ⟨av, h1, h3⟩ := he
  have hv := opndv h ha hx h1
  cases av with
  | tup vs =>
    simp only [bind_some', Option.some.injEq, Prod.mk.injEq] at h3
    obtain ⟨v, h4, rfl, rfl⟩ := h3
    rw [VR] at hv
    obtain ⟨xs, e, h5⟩ := hv
    obtain ⟨y, h6, h7⟩ := VRs_get h5 h4
    have h6' : xs[i]? = some y := by simpa using h6
    exact OpRes.same h (by simp [execOp, ho, e, Instr.extract, h6']) h7
  | _ => simp at h3

theorem s_cvt (h : FI base c0 n c γ g bx tmps) (ha : a.tmps = tmps) {s d : TypeId} {ks k : IntKind} {x : Operand} {xo : XO} (ho : o.op = .convert s d x) (hs : P.underlying s = some (.int ks)) (hd : P.underlying d = some (.int k)) (hx : cO x = some xo) {rv : RV} {M' : Mem}
    (he : evP g ⟨bx, c.σ⟩ (.cvt k xo) = some (rv, M')) : OpRes P base c0 n c g tmps a o rv M' := by
  simp only [evP, bind_some'] at he
  obtain ⟨av, h1, h3⟩ := he
  have hv := opndv h ha hx h1
  cases av with
  | int k' p =>
    simp only [VR] at hv
    simp only [Option.some.injEq, Prod.mk.injEq] at h3
    obtain ⟨rfl, rfl⟩ := h3
    exact OpRes.same h (by simp [execOp, ho, hv, convert, run_underlying hs, run_underlying hd, Conv.intToInt]) RR_int
  | _ => simp at h3

theorem s_nilc (h : FI base c0 n c γ g bx tmps) (ha : a.tmps = tmps) {x : Operand} {xo : XO} (ho : o.op = .nilCheck x) (hx : cO x = some xo) {rv : RV} {M' : Mem}
    (he : evP g ⟨bx, c.σ⟩ (.nilc xo) = some (rv, M')) : OpRes P base c0 n c g tmps a o rv M' := by
  simp only [evP, bind_some'] at he
  obtain ⟨r, h1, h3⟩ := he
  have hv := opnd h ha hx h1
  cases r with
  | v av =>
    cases av with
    | ptr r v i k =>
      simp only [Option.some.injEq, Prod.mk.injEq] at h3
      obtain ⟨rfl, rfl⟩ := h3
      have hv' := hv
      simp only [RR, VR] at hv
      obtain ⟨ad, e, _⟩ := hv
      exact OpRes.same h (y := a.eval x) (by simp [execOp, ho, e]) hv'
    | _ => simp at h3
  | lp t k =>
    simp only [Option.some.injEq, Prod.mk.injEq] at h3
    obtain ⟨rfl, rfl⟩ := h3
    exact OpRes.same h (y := a.eval x) (by simp [execOp, ho, hv.2]) hv
  | ls els => simp at h3

theorem s_mkf (h : FI base c0 n c γ g bx tmps) (ha : a.tmps = tmps) {f : FuncId} {first caps : Array Operand} {xos : List XO} (ho : o.op = .makeFunc (.func f) first caps) (hf : first.isEmpty = true) (hx : allSome cO caps.toList = some xos) {rv : RV} {M' : Mem}
    (he : evP g ⟨bx, c.σ⟩ (.mkf f xos) = some (rv, M')) : OpRes P base c0 n c g tmps a o rv M' := by
  simp only [evP, bind_some', Option.some.injEq, Prod.mk.injEq] at he
  obtain ⟨as, h1, rfl, rfl⟩ := he
  have hv := opndvs h ha hx h1
  have hfe : first = #[] := by simpa using hf
  subst hfe
  refine OpRes.same h (y := .func (.func f) #[] (caps.map a.eval)) (by simp [execOp, ho, Instr.makeFunc]) ?_
  simp only [RR, VR]
  exact ⟨_, rfl, by simpa using hv⟩

theorem bnd_sound (h : FI base c0 n c γ g bx tmps) (ha : a.tmps = tmps) {x : Operand} {xo : XO} (hx : cO x = some xo) {d : Nat} {m : Int} (hb : bnd g d (some xo) = some m) : ∃ k, a.eval x = .int k m := by
  simp only [bnd, bind_some'] at hb
  obtain ⟨av, h1, h2⟩ := hb
  have hv := opndv h ha hx h1
  cases av with
  | int k q =>
    simp only [Option.some.injEq] at h2
    subst h2
    simp only [VR] at hv
    exact ⟨k, hv⟩
  | _ => simp at h2

/-- The bounds of a slice expression, where they are right. -/
theorem run_sliceBounds (h : FI base c0 n c γ g bx tmps) (ha : a.tmps = tmps) {l r : Option Operand} {lo ro : Option XO} (hl : optXO l = some lo) (hr : optXO r = some ro) {len cap : Nat} (hcap : len ≤ cap) {isS : Bool} {p q : Int}
    (hp : bnd g 0 lo = some p) (hq : bnd g len ro = some q) (h0 : 0 ≤ p) (hpq : p ≤ q) (hql : q ≤ len) :
    (Instr.sliceBounds isS len cap (l.map a.eval) (r.map a.eval) none).run P c.w = .ok (p.toNat, q.toNat, cap) c.w := by
  have hq0 : 0 ≤ q := by omega
  have hqc : q ≤ cap := by omega
  have e1 : (match (r.map a.eval) with | some v => Instr.sliceBound v cap (if isS then .sliceAcap else .sliceAlen) | none => pure len).run P c.w = .ok q.toNat c.w := by
    cases r with
    | none =>
      simp only [optXO, Option.some.injEq] at hr
      subst hr
      simp only [bnd, Option.some.injEq] at hq
      subst hq
      simp
    | some y =>
      simp only [optXO, Option.map_eq_some_iff] at hr
      obtain ⟨yo, hy, rfl⟩ := hr
      obtain ⟨k, e⟩ := bnd_sound h ha hy hq
      simp [e, Instr.sliceBound, asIntOf, hq0, hqc]
  have e2 : (match (l.map a.eval) with | some v => Instr.sliceBound v q.toNat .sliceB | none => pure 0).run P c.w = .ok p.toNat c.w := by
    cases l with
    | none =>
      simp only [optXO, Option.some.injEq] at hl
      subst hl
      simp only [bnd, Option.some.injEq] at hp
      subst hp
      simp
    | some y =>
      simp only [optXO, Option.map_eq_some_iff] at hl
      obtain ⟨yo, hy, rfl⟩ := hl
      obtain ⟨k, e⟩ := bnd_sound h ha hy hp
      have : p ≤ (q.toNat : Int) := by omega
      simp [e, Instr.sliceBound, asIntOf, h0, this]
      omega
  unfold Instr.sliceBounds
  cases r with
  | none =>
    simp only [Option.map_none, Sem.run_pure, Result.ok.injEq, and_true] at e1
    simp only [Option.map_none, Sem.run_bind, Sem.run_pure, Result.andThen_ok]
    rw [e1]
    cases l with
    | none => simp only [Option.map_none, Sem.run_pure, Result.ok.injEq, and_true] at e2 ⊢; simp [← e2]
    | some y => simp only [Option.map_some] at e2 ⊢; simp [e2]
  | some z =>
    simp only [Option.map_some] at e1
    simp only [Option.map_some, Sem.run_bind, Sem.run_pure, Result.andThen_ok, e1]
    cases l with
    | none => simp only [Option.map_none, Sem.run_pure, Result.ok.injEq, and_true] at e2 ⊢; simp [← e2]
    | some y => simp only [Option.map_some] at e2 ⊢; simp [e2]

theorem s_sstr (h : FI base c0 n c γ g bx tmps) (ha : a.tmps = tmps) {t : TypeId} {x : Operand} {l r : Option Operand} {xo : XO} {lo ro : Option XO} (ho : o.op = .slice t x l r none) (hu : P.underlying t = some .string) (hx : cO x = some xo) (hl : optXO l = some lo) (hr : optXO r = some ro) {rv : RV} {M' : Mem}
    (he : evP g ⟨bx, c.σ⟩ (.sstr xo lo ro) = some (rv, M')) : OpRes P base c0 n c g tmps a o rv M' := by
  simp only [evP, bind_some'] at he
  obtain ⟨av, h1, h3⟩ := he
  have hv := opndv h ha hx h1
  cases av with
  | str s =>
    simp only [bind_some'] at h3
    obtain ⟨p, h4, q, h5, h6⟩ := h3
    split at h6
    · rename_i hc
      simp only [Option.some.injEq, Prod.mk.injEq] at h6
      obtain ⟨rfl, rfl⟩ := h6
      simp only [VR] at hv
      obtain ⟨b, e, rfl⟩ := hv
      have hsz : b.data.toList.length = b.size := by rw [Array.length_toList]; rfl
      rw [hsz] at h5 hc
      have hb := run_sliceBounds (P := P) h ha hl hr (Nat.le_refl _) (isS := false) h4 h5 hc.1 hc.2.1 hc.2.2
      refine OpRes.same h (y := .string (b.extract p.toNat q.toNat)) ?_ ?_
      · simp [execOp, ho, Instr.sliceAt, run_underlying hu, Instr.slice, e, hb]
      · simp only [RR, VR]
        exact ⟨_, rfl, by simp [ByteArray.data_extract, List.extract_eq_take_drop]⟩
    · simp at h6
  | _ => simp at h3

theorem s_slc (h : FI base c0 n c γ g bx tmps) (ha : a.tmps = tmps) {t e : TypeId} {x : Operand} {l r : Option Operand} {xo : XO} {lo ro : Option XO} {sz : Nat} (ho : o.op = .slice t x l r none) (hu : P.underlying t = some (.slice e)) (hsz : szOf P e = some sz) (hx : cO x = some xo) (hl : optXO l = some lo) (hr : optXO r = some ro) {rv : RV} {M' : Mem}
    (he : evP g ⟨bx, c.σ⟩ (.slc sz xo lo ro) = some (rv, M')) : OpRes P base c0 n c g tmps a o rv M' := by
  simp only [evP, bind_some'] at he
  obtain ⟨av, h1, h3⟩ := he
  have hv := opndv h ha hx h1
  cases av with
  | sl r' v i m =>
    simp only [bind_some'] at h3
    obtain ⟨row, k0, p, h4, q, h5, h6⟩ := h3
    split at h6
    · rename_i hc
      obtain ⟨hs, hc⟩ := hc
      simp only [Option.some.injEq, Prod.mk.injEq] at h6
      obtain ⟨rfl, rfl⟩ := h6
      simp only [VR] at hv
      obtain ⟨ad, cap, e1, hn, row2, k1, k2, k3⟩ := hv
      rw [k0] at k1; cases k1
      have hb := run_sliceBounds (P := P) h ha hl hr hn (isS := true) h4 h5 hc.1 hc.2.1 hc.2.2
      refine OpRes.same h (y := .slice (some (if cap = p.toNat then ad else ad.add (p.toNat * sz))) (q.toNat - p.toNat) (cap - p.toNat)) ?_ ?_
      · simp only [execOp, ho, Instr.sliceAt, Instr.slice, e1, Sem.run_bind, run_underlying hu, Result.andThen_ok, Option.map_none, hb, szOf_run hsz, Sem.run_pure, Option.map_some]
        by_cases hcp : cap = p.toNat <;> simp [hcp]
      · simp only [RR, VR]
        refine ⟨_, _, rfl, by omega, row, k0, k2, fun hver hcap => ?_⟩
        have hcp : cap ≠ p.toNat := by omega
        rw [if_neg hcp]
        obtain ⟨e2, e3⟩ := k3 hver (by omega)
        refine ⟨?_, fun hown => ?_⟩
        · rw [e2, Addr.add_lit, hs, Nat.add_mul, Nat.add_assoc]
        · have := e3 hown
          have e4 : i + p.toNat + (cap - p.toNat) = i + cap := by omega
          rw [e4]
          exact this
    · simp at h6
  | nilsl =>
    simp only [bind_some'] at h3
    obtain ⟨p, h4, q, h5, h6⟩ := h3
    split at h6
    · rename_i hc
      simp only [Option.some.injEq, Prod.mk.injEq] at h6
      obtain ⟨rfl, rfl⟩ := h6
      obtain ⟨rfl, rfl⟩ := hc
      simp only [VR] at hv
      have hb := run_sliceBounds (P := P) h ha hl hr (Nat.le_refl 0) (isS := true) h4 h5 (by omega) (by omega) (by simp)
      refine OpRes.same h (y := .slice none 0 0) ?_ (by simp only [RR, VR])
      simp [execOp, ho, Instr.sliceAt, run_underlying hu, Instr.slice, hv, hb, szOf_run hsz]
    · simp at h6
  | _ => simp at h3

theorem s_idx (h : FI base c0 n c γ g bx tmps) (ha : a.tmps = tmps) {t : TypeId} {x i : Operand} {xo io : XO} (ho : o.op = .index t x i) (hu : P.underlying t = some .string) (hx : cO x = some xo) (hi : cO i = some io) {rv : RV} {M' : Mem}
    (he : evP g ⟨bx, c.σ⟩ (.idx xo io) = some (rv, M')) : OpRes P base c0 n c g tmps a o rv M' := by
  simp only [evP, bind_some'] at he
  obtain ⟨av, h1, bv, h2, h3⟩ := he
  have hv := opndv h ha hx h1
  have hw := opndv h ha hi h2
  cases av with
  | str s =>
    cases bv with
    | int k p =>
      simp only at h3
      split at h3
      · rename_i hc
        simp only [Option.some.injEq, Prod.mk.injEq] at h3
        obtain ⟨rfl, rfl⟩ := h3
        simp only [VR] at hv hw
        obtain ⟨b, e, rfl⟩ := hv
        have hsz : b.data.toList.length = b.size := by rw [Array.length_toList]; rfl
        rw [hsz] at hc
        have hlt : p.toNat < b.size := by omega
        have hg : b[p.toNat]? = some b[p.toNat] := getElem?_pos b p.toNat hlt
        have hd : b.data.toList.getD p.toNat 0 = b[p.toNat] := by
          have : p.toNat < b.data.toList.length := by rw [hsz]; exact hlt
          rw [List.getD_eq_getElem?_getD, List.getElem?_eq_getElem this]
          rfl
        refine OpRes.same h ?_ RR_int
        rw [hd]
        simp [execOp, ho, Instr.index, e, hw, asIntOf, run_underlying hu, hc.1, hg]
      · simp at h3
    | _ => simp at h3
  | _ => simp at h3

end
end Go.X

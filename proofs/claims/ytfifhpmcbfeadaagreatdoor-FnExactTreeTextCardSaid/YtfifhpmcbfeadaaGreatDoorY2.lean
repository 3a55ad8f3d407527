/- GoX, part 5: the operations that change nothing, each in the model and in the executor. No statement of the seat is here. -/
import Derived.Test.YtfifhpmcbfeadaaGreatDoorY1
import Derived.Laws.StructEq
import Derived.Laws.MakeOwn
import Derived.Laws.BytesArg
set_option linter.unusedVariables false
set_option linter.unusedSimpArgs false
namespace Go.X
open Go

section
variable {P : Program} {base : Nat} {c0 : Ctx} {n : Nat} {c : Ctx} {γ : Nat → Nat} {g : Regs} {bx : Boxes} {tmps : Array Value} {a : Act} {o : Oper}

theorem s_mv (h : FI base c0 n c γ g bx tmps) (ha : a.tmps = tmps) {x : Operand} {xo : XO} (ho : o.op = .move x ∨ o.op = .assign x) (hx : cO x = some xo) {rv : RV} {M' : Mem} (he : evP g ⟨bx, c.σ⟩ (.mv xo) = some (rv, M')) :
    OpRes P base c0 n c g tmps a o rv M' := by
  simp only [evP, bind_some', Option.some.injEq, Prod.mk.injEq] at he
  obtain ⟨r, h1, rfl, rfl⟩ := he
  refine OpRes.same h (y := a.eval x) ?_ (opnd h ha hx h1)
  rcases ho with ho | ho <;> simp [execOp, ho]

theorem s_pick (h : FI base c0 n c γ g bx tmps) (ha : a.tmps = tmps) {x y z : Operand} {xo yo zo : XO} (ho : o.op = .pick x y z) (hx : cO x = some xo) (hy : cO y = some yo) (hz : cO z = some zo) {rv : RV} {M' : Mem}
    (he : evP g ⟨bx, c.σ⟩ (.pick xo yo zo) = some (rv, M')) : OpRes P base c0 n c g tmps a o rv M' := by
  simp only [evP, bind_some'] at he
  obtain ⟨v, h1, h2⟩ := he
  have hv := opndv h ha hx h1
  cases v with
  | bool t =>
    simp only [VR] at hv
    simp only [bind_some', Option.some.injEq, Prod.mk.injEq] at h2
    obtain ⟨r, h3, rfl, rfl⟩ := h2
    cases t with
    | true => exact OpRes.same h (y := a.eval y) (by simp [execOp, ho, hv, asBool]) (opnd h ha hy h3)
    | false => exact OpRes.same h (y := a.eval z) (by simp [execOp, ho, hv, asBool]) (opnd h ha hz h3)
  | _ => simp at h2

theorem s_load (h : FI base c0 n c γ g bx tmps) (ha : a.tmps = tmps) {t : TypeId} {x : Operand} {xo : XO} {ag : Bool} {sz : Nat} (ho : o.op = .load t x) (hag : isAggT P t = some ag) (hsz : szOf P t = some sz) (hx : cO x = some xo) {rv : RV} {M' : Mem}
    (he : evP g ⟨bx, c.σ⟩ (.load ag sz xo) = some (rv, M')) : OpRes P base c0 n c g tmps a o rv M' := by
  simp only [evP, bind_some', Option.some.injEq, Prod.mk.injEq] at he
  obtain ⟨p, h1, ⟨cs, k⟩, h2, v, h3, rfl, rfl⟩ := he
  obtain ⟨b, off, hy, hl⟩ := place_lies h (opnd h ha hx h1) h2
  obtain ⟨y, hr, hv⟩ := load_sound (P := P) hag hsz hl h3
  exact OpRes.same h (y := y) (by simp [execOp, ho, Instr.loadAt, hy, Instr.sureAddr, hr]) hv

theorem s_fadr (h : FI base c0 n c γ g bx tmps) (ha : a.tmps = tmps) {t : TypeId} {x : Operand} {xo : XO} {f : Nat} {fs : Array Field} {fd : Field} {sz : Nat} (ho : o.op = .fieldAddr t x f) (hu : P.underlying t = some (.struct fs)) (hf : fs[f]? = some fd)
    (hsz : szOf P fd.type = some sz) (h0 : sz ≠ 0) (hx : cO x = some xo) {rv : RV} {M' : Mem} (he : evP g ⟨bx, c.σ⟩ (.fadr fd.offset xo) = some (rv, M')) : OpRes P base c0 n c g tmps a o rv M' := by
  simp only [evP, bind_some'] at he
  obtain ⟨p, h1, h2⟩ := he
  have hp := opnd h ha hx h1
  have run : ∀ b k, a.eval x = .pointer (some ⟨b, k, none⟩) → (execOp a.eval o).run P c.w = .ok (.value (.pointer (some ⟨b, k + fd.offset, none⟩))) c.w := by
    intro b k e
    simp [execOp, ho, e, Instr.fieldAt, run_underlying hu, hf, Instr.sureAddr, fieldPlace, szOf_run hsz, h0, Addr.add_lit]
  cases p with
  | v av =>
    cases av with
    | ptr r v i k =>
      simp only [Option.some.injEq, Prod.mk.injEq] at h2
      obtain ⟨rfl, rfl⟩ := h2
      simp only [RR, VR] at hp
      obtain ⟨ad, e, row, k1, k2, k3⟩ := hp
      -- a pointer whose version is gone may lead anywhere
      have e2 : ∃ b' k', ad = ⟨b', k', none⟩ ∨ True := ⟨0, 0, .inr trivial⟩
      by_cases hv : v = row.ver
      · rw [k3 hv] at e
        refine OpRes.same h (run _ _ e) ?_
        simp only [RR, VR]
        exact ⟨_, rfl, row, k1, k2, fun _ => by simp [Nat.add_assoc]⟩
      · refine OpRes.same h (y := .pointer (some (ad.add fd.offset))) ?_ ?_
        · simp [execOp, ho, e, Instr.fieldAt, run_underlying hu, hf, Instr.sureAddr, fieldPlace, szOf_run hsz, h0]
        · simp only [RR, VR]
          exact ⟨_, rfl, row, k1, k2, fun e => absurd e hv⟩
    | _ => simp at h2
  | lp t' k =>
    simp only [Option.some.injEq, Prod.mk.injEq] at h2
    obtain ⟨rfl, rfl⟩ := h2
    exact OpRes.same h (run _ _ hp.2) ⟨hp.1, rfl⟩
  | ls els => simp at h2

theorem s_iadr (h : FI base c0 n c γ g bx tmps) (ha : a.tmps = tmps) {t e : TypeId} {x i : Operand} {xo io : XO} {sz : Nat} (ho : o.op = .indexAddr t x i) (hu : P.underlying t = some (.slice e)) (hsz : szOf P e = some sz)
    (hx : cO x = some xo) (hi : cO i = some io) {rv : RV} {M' : Mem} (he : evP g ⟨bx, c.σ⟩ (.iadr sz xo io) = some (rv, M')) : OpRes P base c0 n c g tmps a o rv M' := by
  simp only [evP, bind_some'] at he
  obtain ⟨av, h1, bv, h2, h3⟩ := he
  have hv := opndv h ha hx h1
  have hw := opndv h ha hi h2
  cases av with
  | sl r v s m =>
    cases bv with
    | int kd k =>
      simp only [rowAt, bind_some'] at h3
      obtain ⟨row, ⟨row', k1, k2⟩, h4⟩ := h3
      split at k2
      · rename_i hver
        cases k2
        split at h4
        · rename_i hc
          simp only [Option.some.injEq, Prod.mk.injEq] at h4
          obtain ⟨rfl, rfl⟩ := h4
          simp only [VR] at hv hw
          obtain ⟨ad, cap, e1, hn, row2, j1, j2, j3⟩ := hv
          rw [k1] at j1; cases j1
          have hcap : cap ≠ 0 := by omega
          obtain ⟨e2, _⟩ := j3 hver.1.symm hcap
          subst e2
          refine OpRes.same h (y := .pointer (some ⟨(c.β r).1, (c.β r).2 + s * row.sz + k.toNat * sz, none⟩)) ?_ ?_
          · have hk : (0 ≤ k ∧ k < (m : Int)) := ⟨hc.2.1, hc.2.2⟩
            simp [execOp, ho, e1, hw, Instr.indexAt, asIntOf, run_underlying hu, hk, szOf_run hsz, Addr.add_lit]
          · simp only [RR, VR]
            exact ⟨_, rfl, row, k1, by omega, fun _ => by simp only [hc.1, Nat.add_mul, Nat.add_zero, Nat.add_assoc]⟩
        · simp at h4
      · simp at k2
    | _ => simp at h3
  | _ => simp at h3

theorem VRs_part {c : Ctx} {cs : List AV} {xs : List Value} (h : VRs c cs xs) (k m : Nat) : VRs c ((cs.drop k).take m) ((xs.drop k).take m) := by
  have hl := VRs_length h
  refine VRs_of (by simp [hl]) fun i v x hv hx => ?_
  rw [List.getElem?_take] at hv hx
  split at hv
  · rename_i hlt
    rw [if_pos hlt] at hx
    rw [List.getElem?_drop] at hv hx
    obtain ⟨y, h1, h2⟩ := VRs_get h hv
    rw [hx] at h1; cases h1
    exact h2
  · simp at hv

theorem s_fld (h : FI base c0 n c γ g bx tmps) (ha : a.tmps = tmps) {t : TypeId} {x : Operand} {xo : XO} {f : Nat} {fs : Array Field} {fd : Field} {ag : Bool} {sz : Nat} (ho : o.op = .field t x f) (hu : P.underlying t = some (.struct fs)) (hf : fs[f]? = some fd)
    (hag : isAggT P fd.type = some ag) (hsz : szOf P fd.type = some sz) (hx : cO x = some xo) {rv : RV} {M' : Mem} (he : evP g ⟨bx, c.σ⟩ (.fld ag fd.offset sz xo) = some (rv, M')) : OpRes P base c0 n c g tmps a o rv M' := by
  simp only [evP, bind_some'] at he
  obtain ⟨av, h1, h2⟩ := he
  have hv := opndv h ha hx h1
  cases av with
  | agg cs =>
    simp only [bind_some', Option.some.injEq, Prod.mk.injEq] at h2
    obtain ⟨v, h3, rfl, rfl⟩ := h2
    rw [VR] at hv
    obtain ⟨xs, e, h4, h5⟩ := hv
    have hl := VRs_length h4
    unfold ld at h3
    cases ag with
    | true =>
      simp only [if_true] at h3
      split at h3
      · rename_i hle
        simp only [Option.some.injEq] at h3
        subst h3
        refine OpRes.same h (y := .agg (xs.extract fd.offset (fd.offset + sz))) ?_ ?_
        · simp [execOp, ho, e, Instr.field, run_underlying hu, hf, part, asAgg, isAggT_run hag, szOf_run hsz]
        · simp only [RR, VR]
          refine ⟨_, rfl, ?_, ?_⟩
          · have := VRs_part h4 fd.offset sz
            simpa [List.drop_take, Array.toList_extract, List.extract_eq_take_drop, Nat.add_sub_cancel_left] using this
          · intro z hz
            refine h5 z ?_
            have : z ∈ (xs.toList.drop fd.offset).take sz := by simpa [List.extract_eq_take_drop, Nat.add_sub_cancel_left] using hz
            exact List.mem_of_mem_drop (List.mem_of_mem_take this)
      · simp at h3
    | false =>
      simp only [Bool.false_eq_true, if_false] at h3
      obtain ⟨y, h6, h7⟩ := VRs_get h4 h3
      refine OpRes.same h (y := y) ?_ h7
      have h6' : xs[fd.offset]? = some y := by simpa using h6
      simp [execOp, ho, e, Instr.field, run_underlying hu, hf, part, asAgg, isAggT_run hag, h6']
  | _ => simp at h2

theorem str_eq {s t : ByteArray} {l m : List UInt8} (hs : s.data.toList = l) (ht : t.data.toList = m) : (s.toList == t.toList) = (l == m) := by
  rw [ByteArray.toList_eq, ByteArray.toList_eq, hs, ht]

theorem run_eqGuard_plain {op : BinOp} {t : TypeId} {x y : Operand} {u v : Value} (hu : u.oneCell' = true) (hn : u ≠ .nilIface) (w : World) : (eqGuard op t x y u v).run P w = .ok () w := by
  unfold eqGuard
  cases op <;> first
    | rfl
    | (cases u <;> first | rfl | (exact absurd rfl hn) | (simp [Value.oneCell'] at hu; done) | (cases v <;> rfl))

theorem RR_int {k : IntKind} {m : Int} : RR c γ bx (.v (.int k m)) (.int k m) := by simp only [RR, VR]
theorem RR_bool {b : Bool} : RR c γ bx (.v (.bool b)) (.bool b) := by simp only [RR, VR]
theorem RR_str {s : ByteArray} : RR c γ bx (.v (.str s.data.toList)) (.string s) := by simp only [RR, VR]; exact ⟨s, rfl, rfl⟩

theorem s_bin (h : FI base c0 n c γ g bx tmps) (ha : a.tmps = tmps) {op : BinOp} {t u : TypeId} {x y : Operand} {xo yo : XO} (ho : o.op = .binOp op t x y u) (hop : arithOp op = true) (hx : cO x = some xo) (hy : cO y = some yo) {rv : RV} {M' : Mem}
    (he : evP g ⟨bx, c.σ⟩ (.bin op xo yo) = some (rv, M')) : OpRes P base c0 n c g tmps a o rv M' := by
  simp only [evP, bind_some', Option.some.injEq, Prod.mk.injEq] at he
  obtain ⟨av, h1, bv, h2, v, h3, rfl, rfl⟩ := he
  have hv := opndv h ha hx h1
  have hw := opndv h ha hy h2
  cases av with
  | int k p =>
    cases bv with
    | int k' q =>
      simp only [VR] at hv hw
      simp only [binV] at h3
      split at h3
      · rename_i hk
        subst hk
        have hg := run_eqGuard_plain (P := P) (op := op) (t := t) (x := x) (y := y) (u := .int k p) (v := .int k q) rfl (by simp) c.w
        cases op <;> (try simp only [reduceCtorEq, arithOp] at hop h3) <;> first
          | (simp only [Option.some.injEq] at h3; subst h3; refine OpRes.same h ?_ RR_int; simp [execOp, ho, hv, hw, hg, binOp, Op.intArith]; done)
          | (simp only [Option.some.injEq] at h3; subst h3; refine OpRes.same h ?_ RR_bool; simp [execOp, ho, hv, hw, hg, binOp, Op.intCmp]; done)
          | (simp only [Option.some.injEq] at h3; subst h3; refine OpRes.same h ?_ RR_int; simp [execOp, ho, hv, hw, hg, binOp, Op.intBits]; done)
          | (split at h3
             · simp at h3
             · rename_i hq
               simp only [Option.some.injEq] at h3; subst h3; refine OpRes.same h ?_ RR_int; simp [execOp, ho, hv, hw, hg, binOp, Op.intDiv, hq])
          | simp at hop
      · simp at h3
    | _ => simp [binV] at h3
  | str l =>
    cases bv with
    | str m =>
      simp only [VR] at hv hw
      obtain ⟨s, e1, rfl⟩ := hv
      obtain ⟨s', e2, rfl⟩ := hw
      have hg := run_eqGuard_plain (P := P) (op := op) (t := t) (x := x) (y := y) (u := .string s) (v := .string s') rfl (by simp) c.w
      have he := str_eq (s := s) (t := s') rfl rfl
      have hl : Op.bytesLess s.toList s'.toList = Op.bytesLess s.data.toList s'.data.toList := by rw [ByteArray.toList_eq, ByteArray.toList_eq]
      simp only [binV] at h3
      cases op <;> (try simp only [reduceCtorEq, arithOp] at hop h3) <;> first
        | (simp only [Option.some.injEq] at h3; subst h3; refine OpRes.same h ?_ RR_bool; simp only [execOp, ho, e1, e2, Sem.run_bind, hg, Result.andThen_ok, binOp, Op.stringOp, he, hl, Sem.run_pure]; done)
        | (split at h3
           · rename_i hq
             simp only [Option.some.injEq] at h3; subst h3
             have hq' : ¬ (((s.size + s'.size : Nat) : Int) > IntKind.i64.max) := by
               have : s.data.toList.length = s.size := by rw [Array.length_toList]; rfl
               have : s'.data.toList.length = s'.size := by rw [Array.length_toList]; rfl
               have : IntKind.i64.max = 9223372036854775807 := by decide
               omega
             refine OpRes.same h (y := .string (s ++ s')) ?_ ?_
             · simp only [execOp, ho, e1, e2, Sem.run_bind, hg, Result.andThen_ok, binOp, Op.stringOp, if_neg hq', Sem.run_pure]
             · simp only [RR, VR]
               exact ⟨_, rfl, by simp⟩
           · simp at h3)
        | simp at hop
    | _ => simp [binV] at h3
  | _ => simp [binV] at h3

end
end Go.X

/- GoX, part 5b: more operations that change nothing. No statement of the seat is here. -/
set_option linter.unusedVariables false
set_option linter.unusedSimpArgs false
namespace Go.X
open Go

section
variable {P : Program} {base : Nat} {c0 : Ctx} {n : Nat} {c : Ctx} {γ : Nat → Nat} {g : Regs} {bx : Boxes} {tmps : Array Value} {a : Act} {o : Oper}

theorem run_equal_bool {t : TypeId} (hu : P.underlying t = some .bool) (p q : Bool) (w : World) : (Op.equal t (.bool p) (.bool q)).run P w = .ok (p == q) w := by
  show (Op.equalIn (9999 + 1) t (.bool p) (.bool q)).run P w = _
  unfold Op.equalIn
  simp only [Sem.run_bind, run_underlying hu, Result.andThen_ok, Sem.run_pure]

theorem s_beq (h : FI base c0 n c γ g bx tmps) (ha : a.tmps = tmps) {t u : TypeId} {x y : Operand} {xo yo : XO} {neg : Bool} (ho : o.op = .binOp (if neg then .neq else .eql) t x y u) (hu : P.underlying t = some .bool) (hx : cO x = some xo) (hy : cO y = some yo) {rv : RV} {M' : Mem}
    (he : evP g ⟨bx, c.σ⟩ (.beq neg xo yo) = some (rv, M')) : OpRes P base c0 n c g tmps a o rv M' := by
  simp only [evP, bind_some'] at he
  obtain ⟨av, h1, bv, h2, h3⟩ := he
  have hv := opndv h ha hx h1
  have hw := opndv h ha hy h2
  cases av with
  | bool p =>
    cases bv with
    | bool q =>
      simp only [VR] at hv hw
      simp only [Option.some.injEq, Prod.mk.injEq] at h3
      obtain ⟨rfl, rfl⟩ := h3
      refine OpRes.same h ?_ RR_bool
      have hg := run_eqGuard_plain (P := P) (op := if neg then .neq else .eql) (t := t) (x := x) (y := y) (u := .bool p) (v := .bool q) rfl (by simp) c.w
      have hq := run_equal_bool (P := P) hu p q c.w
      cases neg <;> simp only [Bool.false_eq_true, if_false, if_true] at hg ho ⊢ <;> simp only [execOp, ho, hv, hw, hg, binOp, Sem.run_bind, Sem.run_pure, Result.andThen_ok, hq]
    | _ => simp at h3
  | _ => simp at h3

theorem s_bnot (h : FI base c0 n c γ g bx tmps) (ha : a.tmps = tmps) {t : TypeId} {x : Operand} {xo : XO} (ho : o.op = .unOp .not t x) (hx : cO x = some xo) {rv : RV} {M' : Mem}
    (he : evP g ⟨bx, c.σ⟩ (.bnot xo) = some (rv, M')) : OpRes P base c0 n c g tmps a o rv M' := by
  simp only [evP, bind_some'] at he
  obtain ⟨av, h1, h3⟩ := he
  have hv := opndv h ha hx h1
  cases av with
  | bool p =>
    simp only [VR] at hv
    simp only [Option.some.injEq, Prod.mk.injEq] at h3
    obtain ⟨rfl, rfl⟩ := h3
    exact OpRes.same h (by simp [execOp, ho, hv, Op.unary]) RR_bool
  | _ => simp at h3

theorem s_neg (h : FI base c0 n c γ g bx tmps) (ha : a.tmps = tmps) {t : TypeId} {x : Operand} {xo : XO} (ho : o.op = .unOp .neg t x) (hx : cO x = some xo) {rv : RV} {M' : Mem}
    (he : evP g ⟨bx, c.σ⟩ (.neg xo) = some (rv, M')) : OpRes P base c0 n c g tmps a o rv M' := by
  simp only [evP, bind_some'] at he
  obtain ⟨av, h1, h3⟩ := he
  have hv := opndv h ha hx h1
  cases av with
  | int k p =>
    simp only [VR] at hv
    simp only [Option.some.injEq, Prod.mk.injEq] at h3
    obtain ⟨rfl, rfl⟩ := h3
    exact OpRes.same h (by simp [execOp, ho, hv, Op.unary, Op.intArith]) RR_int
  | _ => simp at h3

theorem s_mx (h : FI base c0 n c γ g bx tmps) (ha : a.tmps = tmps) {big : Bool} {ts : Array TypeId} {as : Array Operand} {x y : Operand} {xo yo : XO} (ho : o.op = .call { callee := .builtin (if big then .max else .min), args := as, argTypes := ts }) (has : as.toList = [x, y]) (hx : cO x = some xo) (hy : cO y = some yo) {rv : RV} {M' : Mem}
    (he : evP g ⟨bx, c.σ⟩ (.mx big xo yo) = some (rv, M')) : OpRes P base c0 n c g tmps a o rv M' := by
  have e1 : as = #[x, y] := by apply Array.ext'; simpa using has
  subst e1
  simp only [evP, bind_some'] at he
  obtain ⟨av, h1, bv, h2, h3⟩ := he
  have hv := opndv h ha hx h1
  have hw := opndv h ha hy h2
  cases av with
  | int k p =>
    cases bv with
    | int k' q =>
      simp only [VR] at hv hw
      simp only at h3
      split at h3
      · rename_i hk
        subst hk
        simp only [Option.some.injEq, Prod.mk.injEq] at h3
        obtain ⟨rfl, rfl⟩ := h3
        refine OpRes.same h ?_ RR_int
        cases big with
        | true =>
          simp only [if_true] at ho ⊢
          simp [execOp, ho, resolve, invoke, builtin, Builtin.max_, Builtin.max2, hv, hw]
        | false =>
          simp only [Bool.false_eq_true, if_false] at ho ⊢
          simp [execOp, ho, resolve, invoke, builtin, Builtin.min_, Builtin.min2, hv, hw]
      · cases h3
    | _ => simp at h3
  | _ => simp at h3

theorem s_len (h : FI base c0 n c γ g bx tmps) (ha : a.tmps = tmps) {t : TypeId} {ts : Array TypeId} {as : Array Operand} {x : Operand} {xo : XO} {st : Bool} (ho : o.op = .call { callee := .builtin .len, args := as, argTypes := ts }) (has : as.toList = [x]) (hts : ts.toList = [t])
    (hu : if st then P.underlying t = some .string else ∃ e, P.underlying t = some (.slice e)) (hx : cO x = some xo) {rv : RV} {M' : Mem}
    (he : evP g ⟨bx, c.σ⟩ (.len st xo) = some (rv, M')) : OpRes P base c0 n c g tmps a o rv M' := by
  have e1 : as = #[x] := by apply Array.ext'; simpa using has
  have e2 : ts = #[t] := by apply Array.ext'; simpa using hts
  subst e1; subst e2
  cases st with
  | true =>
    simp only [if_true] at hu
    simp only [evP, bind_some'] at he
    obtain ⟨av, h1, h3⟩ := he
    have hv := opndv h ha hx h1
    cases av with
    | str l =>
      simp only [VR] at hv
      obtain ⟨s, e, rfl⟩ := hv
      simp only [Option.some.injEq, Prod.mk.injEq] at h3
      obtain ⟨rfl, rfl⟩ := h3
      refine OpRes.same h ?_ RR_int
      have : s.data.toList.length = s.size := by rw [Array.length_toList]; rfl
      rw [this]
      simp [execOp, ho, resolve, invoke, builtin, Builtin.len_, e, run_underlying hu, goInt]
    | _ => simp at h3
  | false =>
    simp only [Bool.false_eq_true, if_false] at hu
    obtain ⟨e', hu'⟩ := hu
    simp only [evP, bind_some'] at he
    obtain ⟨av, h1, h3⟩ := he
    have hv := opndv h ha hx h1
    cases av with
    | sl r v i m =>
      simp only [VR] at hv
      obtain ⟨ad, cap, e, _⟩ := hv
      simp only [Option.some.injEq, Prod.mk.injEq] at h3
      obtain ⟨rfl, rfl⟩ := h3
      exact OpRes.same h (by simp [execOp, ho, resolve, invoke, builtin, Builtin.len_, e, run_underlying hu', goInt]) RR_int
    | nilsl =>
      simp only [VR] at hv
      simp only [Option.some.injEq, Prod.mk.injEq] at h3
      obtain ⟨rfl, rfl⟩ := h3
      exact OpRes.same h (by simp [execOp, ho, resolve, invoke, builtin, Builtin.len_, hv, run_underlying hu', goInt]) RR_int
    | _ => simp at h3

theorem s_ext (h : FI base c0 n c γ g bx tmps) (ha : a.tmps = tmps) {x : Operand} {i : Nat} {xo : XO} (ho : o.op = .extract x i) (hx : cO x = some xo) {rv : RV} {M' : Mem}
    (he : evP g ⟨bx, c.σ⟩ (.ext xo i) = some (rv, M')) : OpRes P base c0 n c g tmps a o rv M' := by
  simp only [evP, bind_some'] at he
  obtain ⟨av, h1, h3⟩ := he
  have hv := opndv h ha hx h1
  cases av with
  | tup vs =>
    simp only [bind_some', Option.some.injEq, Prod.mk.injEq] at h3
    obtain ⟨v, h4, rfl, rfl⟩ := h3
    rw [VR] at hv
    obtain ⟨xs, e, h5⟩ := hv
    obtain ⟨y, h6, h7⟩ := VRs_get h5 h4
    have h6' : xs[i]? = some y := by simpa using h6
    exact OpRes.same h (by simp [execOp, ho, e, Instr.extract, h6']) h7
  | _ => simp at h3

theorem s_cvt (h : FI base c0 n c γ g bx tmps) (ha : a.tmps = tmps) {s d : TypeId} {ks k : IntKind} {x : Operand} {xo : XO} (ho : o.op = .convert s d x) (hs : P.underlying s = some (.int ks)) (hd : P.underlying d = some (.int k)) (hx : cO x = some xo) {rv : RV} {M' : Mem}
    (he : evP g ⟨bx, c.σ⟩ (.cvt k xo) = some (rv, M')) : OpRes P base c0 n c g tmps a o rv M' := by
  simp only [evP, bind_some'] at he
  obtain ⟨av, h1, h3⟩ := he
  have hv := opndv h ha hx h1
  cases av with
  | int k' p =>
    simp only [VR] at hv
    simp only [Option.some.injEq, Prod.mk.injEq] at h3
    obtain ⟨rfl, rfl⟩ := h3
    exact OpRes.same h (by simp [execOp, ho, hv, convert, run_underlying hs, run_underlying hd, Conv.intToInt]) RR_int
  | _ => simp at h3

theorem s_nilc (h : FI base c0 n c γ g bx tmps) (ha : a.tmps = tmps) {x : Operand} {xo : XO} (ho : o.op = .nilCheck x) (hx : cO x = some xo) {rv : RV} {M' : Mem}
    (he : evP g ⟨bx, c.σ⟩ (.nilc xo) = some (rv, M')) : OpRes P base c0 n c g tmps a o rv M' := by
  simp only [evP, bind_some'] at he
  obtain ⟨r, h1, h3⟩ := he
  have hv := opnd h ha hx h1
  cases r with
  | v av =>
    cases av with
    | ptr r v i k =>
      simp only [Option.some.injEq, Prod.mk.injEq] at h3
      obtain ⟨rfl, rfl⟩ := h3
      have hv' := hv
      simp only [RR, VR] at hv
      obtain ⟨ad, e, _⟩ := hv
      exact OpRes.same h (y := a.eval x) (by simp [execOp, ho, e]) hv'
    | _ => simp at h3
  | lp t k =>
    simp only [Option.some.injEq, Prod.mk.injEq] at h3
    obtain ⟨rfl, rfl⟩ := h3
    exact OpRes.same h (y := a.eval x) (by simp [execOp, ho, hv.2]) hv
  | ls els => simp at h3

theorem s_mkf (h : FI base c0 n c γ g bx tmps) (ha : a.tmps = tmps) {f : FuncId} {first caps : Array Operand} {xos : List XO} (ho : o.op = .makeFunc (.func f) first caps) (hf : first.isEmpty = true) (hx : allSome cO caps.toList = some xos) {rv : RV} {M' : Mem}
    (he : evP g ⟨bx, c.σ⟩ (.mkf f xos) = some (rv, M')) : OpRes P base c0 n c g tmps a o rv M' := by
  simp only [evP, bind_some', Option.some.injEq, Prod.mk.injEq] at he
  obtain ⟨as, h1, rfl, rfl⟩ := he
  have hv := opndvs h ha hx h1
  have hfe : first = #[] := by simpa using hf
  subst hfe
  refine OpRes.same h (y := .func (.func f) #[] (caps.map a.eval)) (by simp [execOp, ho, Instr.makeFunc]) ?_
  simp only [RR, VR]
  exact ⟨_, rfl, by simpa using hv⟩

theorem bnd_sound (h : FI base c0 n c γ g bx tmps) (ha : a.tmps = tmps) {x : Operand} {xo : XO} (hx : cO x = some xo) {d : Nat} {m : Int} (hb : bnd g d (some xo) = some m) : ∃ k, a.eval x = .int k m := by
  simp only [bnd, bind_some'] at hb
  obtain ⟨av, h1, h2⟩ := hb
  have hv := opndv h ha hx h1
  cases av with
  | int k q =>
    simp only [Option.some.injEq] at h2
    subst h2
    simp only [VR] at hv
    exact ⟨k, hv⟩
  | _ => simp at h2

/-- The bounds of a slice expression, where they are right. -/
theorem run_sliceBounds (h : FI base c0 n c γ g bx tmps) (ha : a.tmps = tmps) {l r : Option Operand} {lo ro : Option XO} (hl : optXO l = some lo) (hr : optXO r = some ro) {len cap : Nat} (hcap : len ≤ cap) {isS : Bool} {p q : Int}
    (hp : bnd g 0 lo = some p) (hq : bnd g len ro = some q) (h0 : 0 ≤ p) (hpq : p ≤ q) (hql : q ≤ len) :
    (Instr.sliceBounds isS len cap (l.map a.eval) (r.map a.eval) none).run P c.w = .ok (p.toNat, q.toNat, cap) c.w := by
  have hq0 : 0 ≤ q := by omega
  have hqc : q ≤ cap := by omega
  have e1 : (match (r.map a.eval) with | some v => Instr.sliceBound v cap (if isS then .sliceAcap else .sliceAlen) | none => pure len).run P c.w = .ok q.toNat c.w := by
    cases r with
    | none =>
      simp only [optXO, Option.some.injEq] at hr
      subst hr
      simp only [bnd, Option.some.injEq] at hq
      subst hq
      simp
    | some y =>
      simp only [optXO, Option.map_eq_some_iff] at hr
      obtain ⟨yo, hy, rfl⟩ := hr
      obtain ⟨k, e⟩ := bnd_sound h ha hy hq
      simp [e, Instr.sliceBound, asIntOf, hq0, hqc]
  have e2 : (match (l.map a.eval) with | some v => Instr.sliceBound v q.toNat .sliceB | none => pure 0).run P c.w = .ok p.toNat c.w := by
    cases l with
    | none =>
      simp only [optXO, Option.some.injEq] at hl
      subst hl
      simp only [bnd, Option.some.injEq] at hp
      subst hp
      simp
    | some y =>
      simp only [optXO, Option.map_eq_some_iff] at hl
      obtain ⟨yo, hy, rfl⟩ := hl
      obtain ⟨k, e⟩ := bnd_sound h ha hy hp
      have : p ≤ (q.toNat : Int) := by omega
      simp [e, Instr.sliceBound, asIntOf, h0, this]
      omega
  unfold Instr.sliceBounds
  cases r with
  | none =>
    simp only [Option.map_none, Sem.run_pure, Result.ok.injEq, and_true] at e1
    simp only [Option.map_none, Sem.run_bind, Sem.run_pure, Result.andThen_ok]
    rw [e1]
    cases l with
    | none => simp only [Option.map_none, Sem.run_pure, Result.ok.injEq, and_true] at e2 ⊢; simp [← e2]
    | some y => simp only [Option.map_some] at e2 ⊢; simp [e2]
  | some z =>
    simp only [Option.map_some] at e1
    simp only [Option.map_some, Sem.run_bind, Sem.run_pure, Result.andThen_ok, e1]
    cases l with
    | none => simp only [Option.map_none, Sem.run_pure, Result.ok.injEq, and_true] at e2 ⊢; simp [← e2]
    | some y => simp only [Option.map_some] at e2 ⊢; simp [e2]

theorem s_sstr (h : FI base c0 n c γ g bx tmps) (ha : a.tmps = tmps) {t : TypeId} {x : Operand} {l r : Option Operand} {xo : XO} {lo ro : Option XO} (ho : o.op = .slice t x l r none) (hu : P.underlying t = some .string) (hx : cO x = some xo) (hl : optXO l = some lo) (hr : optXO r = some ro) {rv : RV} {M' : Mem}
    (he : evP g ⟨bx, c.σ⟩ (.sstr xo lo ro) = some (rv, M')) : OpRes P base c0 n c g tmps a o rv M' := by
  simp only [evP, bind_some'] at he
  obtain ⟨av, h1, h3⟩ := he
  have hv := opndv h ha hx h1
  cases av with
  | str s =>
    simp only [bind_some'] at h3
    obtain ⟨p, h4, q, h5, h6⟩ := h3
    split at h6
    · rename_i hc
      simp only [Option.some.injEq, Prod.mk.injEq] at h6
      obtain ⟨rfl, rfl⟩ := h6
      simp only [VR] at hv
      obtain ⟨b, e, rfl⟩ := hv
      have hsz : b.data.toList.length = b.size := by rw [Array.length_toList]; rfl
      rw [hsz] at h5 hc
      have hb := run_sliceBounds (P := P) h ha hl hr (Nat.le_refl _) (isS := false) h4 h5 hc.1 hc.2.1 hc.2.2
      refine OpRes.same h (y := .string (b.extract p.toNat q.toNat)) ?_ ?_
      · simp [execOp, ho, Instr.sliceAt, run_underlying hu, Instr.slice, e, hb]
      · simp only [RR, VR]
        exact ⟨_, rfl, by simp [ByteArray.data_extract, List.extract_eq_take_drop]⟩
    · simp at h6
  | _ => simp at h3

theorem s_slc (h : FI base c0 n c γ g bx tmps) (ha : a.tmps = tmps) {t e : TypeId} {x : Operand} {l r : Option Operand} {xo : XO} {lo ro : Option XO} {sz : Nat} (ho : o.op = .slice t x l r none) (hu : P.underlying t = some (.slice e)) (hsz : szOf P e = some sz) (hx : cO x = some xo) (hl : optXO l = some lo) (hr : optXO r = some ro) {rv : RV} {M' : Mem}
    (he : evP g ⟨bx, c.σ⟩ (.slc sz xo lo ro) = some (rv, M')) : OpRes P base c0 n c g tmps a o rv M' := by
  simp only [evP, bind_some'] at he
  obtain ⟨av, h1, h3⟩ := he
  have hv := opndv h ha hx h1
  cases av with
  | sl r' v i m =>
    simp only [bind_some'] at h3
    obtain ⟨row, k0, p, h4, q, h5, h6⟩ := h3
    split at h6
    · rename_i hc
      obtain ⟨hs, hc⟩ := hc
      simp only [Option.some.injEq, Prod.mk.injEq] at h6
      obtain ⟨rfl, rfl⟩ := h6
      simp only [VR] at hv
      obtain ⟨ad, cap, e1, hn, row2, k1, k2, k3⟩ := hv
      rw [k0] at k1; cases k1
      have hb := run_sliceBounds (P := P) h ha hl hr hn (isS := true) h4 h5 hc.1 hc.2.1 hc.2.2
      refine OpRes.same h (y := .slice (some (if cap = p.toNat then ad else ad.add (p.toNat * sz))) (q.toNat - p.toNat) (cap - p.toNat)) ?_ ?_
      · simp only [execOp, ho, Instr.sliceAt, Instr.slice, e1, Sem.run_bind, run_underlying hu, Result.andThen_ok, Option.map_none, hb, szOf_run hsz, Sem.run_pure, Option.map_some]
        by_cases hcp : cap = p.toNat <;> simp [hcp]
      · simp only [RR, VR]
        refine ⟨_, _, rfl, by omega, row, k0, k2, fun hver hcap => ?_⟩
        have hcp : cap ≠ p.toNat := by omega
        rw [if_neg hcp]
        obtain ⟨e2, e3⟩ := k3 hver (by omega)
        refine ⟨?_, fun hown => ?_⟩
        · rw [e2, Addr.add_lit, hs, Nat.add_mul, Nat.add_assoc]
        · have := e3 hown
          have e4 : i + p.toNat + (cap - p.toNat) = i + cap := by omega
          rw [e4]
          exact this
    · simp at h6
  | nilsl =>
    simp only [bind_some'] at h3
    obtain ⟨p, h4, q, h5, h6⟩ := h3
    split at h6
    · rename_i hc
      simp only [Option.some.injEq, Prod.mk.injEq] at h6
      obtain ⟨rfl, rfl⟩ := h6
      obtain ⟨rfl, rfl⟩ := hc
      simp only [VR] at hv
      have hb := run_sliceBounds (P := P) h ha hl hr (Nat.le_refl 0) (isS := true) h4 h5 (by omega) (by omega) (by simp)
      refine OpRes.same h (y := .slice none 0 0) ?_ (by simp only [RR, VR])
      simp [execOp, ho, Instr.sliceAt, run_underlying hu, Instr.slice, hv, hb, szOf_run hsz]
    · simp at h6
  | _ => simp at h3

theorem s_idx (h : FI base c0 n c γ g bx tmps) (ha : a.tmps = tmps) {t : TypeId} {x i : Operand} {xo io : XO} (ho : o.op = .index t x i) (hu : P.underlying t = some .string) (hx : cO x = some xo) (hi : cO i = some io) {rv : RV} {M' : Mem}
    (he : evP g ⟨bx, c.σ⟩ (.idx xo io) = some (rv, M')) : OpRes P base c0 n c g tmps a o rv M' := by
  simp only [evP, bind_some'] at he
  obtain ⟨av, h1, bv, h2, h3⟩ := he
  have hv := opndv h ha hx h1
  have hw := opndv h ha hi h2
  cases av with
  | str s =>
    cases bv with
    | int k p =>
      simp only at h3
      split at h3
      · rename_i hc
        simp only [Option.some.injEq, Prod.mk.injEq] at h3
        obtain ⟨rfl, rfl⟩ := h3
        simp only [VR] at hv hw
        obtain ⟨b, e, rfl⟩ := hv
        have hsz : b.data.toList.length = b.size := by rw [Array.length_toList]; rfl
        rw [hsz] at hc
        have hlt : p.toNat < b.size := by omega
        have hg : b[p.toNat]? = some b[p.toNat] := getElem?_pos b p.toNat hlt
        have hd : b.data.toList.getD p.toNat 0 = b[p.toNat] := by
          have : p.toNat < b.data.toList.length := by rw [hsz]; exact hlt
          rw [List.getD_eq_getElem?_getD, List.getElem?_eq_getElem this]
          rfl
        refine OpRes.same h ?_ RR_int
        rw [hd]
        simp [execOp, ho, Instr.index, e, hw, asIntOf, run_underlying hu, hc.1, hg]
      · simp at h3
    | _ => simp at h3
  | _ => simp at h3

end
end Go.X

/- GoX, part 6: operations that make memory or write it. No statement of the seat is here. -/
set_option linter.unusedVariables false
set_option linter.unusedSimpArgs false
namespace Go.X
open Go

/-! ### Writing cells -/

theorem heap_setCells_other (b b' : Nat) (hne : b' ≠ b) : ∀ (vs : List Value) (o : Nat) (w : World), (w.setCells b o vs).heap[b']? = w.heap[b']?
  | [], _, _ => rfl
  | v :: r, o, w => by
    rw [World.setCells, heap_setCells_other b b' hne r (o + 1)]
    simp only [World.setCell, Array.getElem?_modify]
    rw [if_neg (Ne.symm hne)]

theorem size_setCells (b : Nat) : ∀ (vs : List Value) (o : Nat) (w : World), (w.setCells b o vs).heap.size = w.heap.size
  | [], _, _ => rfl
  | v :: r, o, w => by rw [World.setCells, size_setCells b r (o + 1)]; simp

theorem plain_setCells (b : Nat) : ∀ (vs : List Value) (o : Nat) (w : World), (w.setCells b o vs).os = w.os ∧ (w.setCells b o vs).tape = w.tape ∧ (w.setCells b o vs).output = w.output
  | [], _, _ => ⟨rfl, rfl, rfl⟩
  | v :: r, o, w => by rw [World.setCells]; exact plain_setCells b r (o + 1) _

theorem block_setCells (b : Nat) : ∀ (vs : List Value) (o : Nat) (w : World) (xs : Array Value) (ty : TypeId) (fz : Nat × Nat), w.heap[b]? = some (.cells xs ty fz) →
    ∃ xs', (w.setCells b o vs).heap[b]? = some (.cells xs' ty fz) ∧ xs'.size = xs.size
  | [], _, _, xs, ty, fz, h => ⟨xs, h, rfl⟩
  | v :: r, o, w, xs, ty, fz, h => by
    rw [World.setCells]
    have h1 : (w.setCell ⟨b, o, none⟩ v).heap[b]? = some (.cells (xs.setIfInBounds o v) ty fz) := by
      simp [World.setCell, Array.getElem?_modify, h]
    obtain ⟨xs', h2, h3⟩ := block_setCells b r (o + 1) _ _ ty fz h1
    exact ⟨xs', h2, by rw [h3]; simp⟩

theorem block_of_wsize {w : World} {b o : Nat} (h : o < wsize w b) : ∃ xs ty fz, w.heap[b]? = some (.cells xs ty fz) ∧ xs.size = wsize w b := by
  unfold wsize World.shape? at h ⊢
  cases hb : w.heap[b]? with
  | none => simp [hb] at h
  | some x =>
    cases x with
    | cells xs ty fz => exact ⟨xs, ty, fz, rfl, by simp⟩
    | _ => simp [hb] at h

theorem cell_some {w : World} {b o : Nat} (h : o < wsize w b) : (w.cell? ⟨b, o, none⟩).isSome = true := by
  obtain ⟨xs, ty, fz, h1, h2⟩ := block_of_wsize h
  simp [World.cell?, h1, h2, h]

theorem wsize_setCells (b b' : Nat) (vs : List Value) (o : Nat) (w : World) : wsize (w.setCells b o vs) b' = wsize w b' := by
  by_cases hne : b' = b
  · subst hne
    by_cases h0 : 0 < wsize w b'
    · obtain ⟨xs, ty, fz, h1, h2⟩ := block_of_wsize h0
      obtain ⟨xs', h3, h4⟩ := block_setCells b' vs o w xs ty fz h1
      simp [wsize, World.shape?, h1, h3, h4]
    · have : wsize w b' = 0 := by omega
      rw [this]
      by_cases h1 : 0 < wsize (w.setCells b' o vs) b'
      · exfalso
        -- a block that is none of cells does not become one; an empty one stays empty
        cases hb : w.heap[b']? with
        | none =>
          have hs : b' ≥ w.heap.size := by simpa [Array.getElem?_eq_none_iff] using hb
          obtain ⟨xs, ty, fz, h2, _⟩ := block_of_wsize h1
          have := (Array.getElem?_eq_some_iff.1 h2).1
          rw [size_setCells] at this
          omega
        | some x =>
          have key : ∀ (vs : List Value) (o : Nat) (w : World) (x : Obj), w.heap[b']? = some x → (∀ xs ty fz, x ≠ .cells xs ty fz) → (w.setCells b' o vs).heap[b']? = some x := by
            intro vs
            induction vs with
            | nil => intro o w x hx _; exact hx
            | cons v r ih =>
              intro o w x hx hn
              rw [World.setCells]
              refine ih _ _ x ?_ hn
              simp only [World.setCell, Array.getElem?_modify, hx]
              cases x <;> simp
              exact absurd rfl (hn _ _ _)
          by_cases hc : ∃ xs ty fz, x = .cells xs ty fz
          · obtain ⟨xs, ty, fz, rfl⟩ := hc
            obtain ⟨xs', h3, h4⟩ := block_setCells b' vs o w xs ty fz hb
            have hA : wsize (w.setCells b' o vs) b' = xs'.size := by simp [wsize, World.shape?, h3]
            have hB : wsize w b' = xs.size := by simp [wsize, World.shape?, hb]
            omega
          · have h3 := key vs o w x hb (fun xs ty fz e => hc ⟨xs, ty, fz, e⟩)
            obtain ⟨xs, ty, fz, h2, _⟩ := block_of_wsize h1
            rw [h3] at h2
            cases h2
            exact hc ⟨_, _, _, rfl⟩
      · omega
  · exact wsize_of (heap_setCells_other b b' hne vs o w)

/-- What lies in memory behind a write, cell by cell. -/
theorem cell_setCells {w : World} {b o : Nat} {vs : List Value} (h : o + vs.length ≤ wsize w b) (k : Nat) :
    (w.setCells b o vs).cell? ⟨b, k, none⟩ = if o ≤ k ∧ k < o + vs.length then vs[k - o]? else w.cell? ⟨b, k, none⟩ := by
  split
  · rename_i hk
    have hj : k - o < vs.length := by omega
    have := World.cell?_setCells_in b vs o w (fun j hj => cell_some (by omega)) (k - o) hj
    rw [show o + (k - o) = k by omega] at this
    rw [this, List.getElem?_eq_getElem hj]
  · rename_i hk
    exact World.cell?_setCells_out b vs o w _ (fun _ _ => by simp; omega)

theorem upd_length {cs : List AV} {k : Nat} {ys : List AV} (h : k + ys.length ≤ cs.length) : (upd cs k ys).length = cs.length := by
  simp [upd]; omega

theorem upd_get {cs : List AV} {k : Nat} {ys : List AV} (h : k + ys.length ≤ cs.length) (j : Nat) : (upd cs k ys)[j]? = if k ≤ j ∧ j < k + ys.length then ys[j - k]? else cs[j]? := by
  unfold upd
  have hk : (cs.take k).length = k := by simp; omega
  split
  · rename_i hj
    rw [List.append_assoc, List.getElem?_append_right (by omega), hk, List.getElem?_append_left (by omega)]
  · rename_i hj
    by_cases h1 : j < k
    · rw [List.append_assoc, List.getElem?_append_left (by omega), List.getElem?_take, if_pos h1]
    · rw [List.getElem?_append_right (by simp; omega)]
      simp only [List.length_append, hk, List.getElem?_drop]
      congr 1
      omega

section
variable {P : Program} {base : Nat} {c0 : Ctx} {n : Nat} {c : Ctx} {γ : Nat → Nat} {g : Regs} {bx : Boxes} {tmps : Array Value} {a : Act} {o : Oper}

theorem FI.c0size (h : FI base c0 n c γ g bx tmps) : c0.w.heap.size ≤ c.w.heap.size := h.evo.size

/-- A new row of the store's own. -/
theorem FI.rowNew (h : FI base c0 n c γ g bx tmps) {els : List (List AV)} {sz : Nat} {xs : Array Value} {ty : TypeId} {fz : Nat × Nat} {w' : World} (hpos : 0 < sz) (hlen : ∀ (i : Nat) (cs : List AV), els[i]? = some cs → cs.length = sz)
    (hfit : els.length * sz ≤ xs.size) (hcont : ∀ (i : Nat) (cs : List AV) (j : Nat) (v : AV), els[i]? = some cs → cs[j]? = some v → ∃ y, xs[i * sz + j]? = some y ∧ VR c v y ∧ y.oneCell' = true)
    (hheap : w'.heap = c.w.heap.push (.cells xs ty fz)) (hos : w'.os = c.w.os) (htape : w'.tape = c.w.tape) (hout : w'.output = c.w.output) (hfz : fz.2 ≤ fz.1 ∨ xs.size ≤ fz.1) :
    ∃ c', c'.w = w' ∧ c'.σ = c.σ ++ [⟨els, sz, 0, .own⟩] ∧ c'.β c.σ.length = (c.w.heap.size, 0) ∧ wsize w' c.w.heap.size = xs.size ∧ FI base c0 n c' γ g bx tmps := by
  have hnew : w'.heap[c.w.heap.size]? = some (.cells xs ty fz) := by rw [hheap]; simp
  have hold : ∀ b, b < c.w.heap.size → w'.heap[b]? = c.w.heap[b]? := by
    intro b hb
    rw [hheap, Array.getElem?_push]
    rw [if_neg (by omega)]
  have hws : wsize w' c.w.heap.size = xs.size := by simp [wsize, World.shape?, hnew]
  let c' : Ctx := ⟨fun r => if r = c.σ.length then (c.w.heap.size, 0) else c.β r, c.σ ++ [⟨els, sz, 0, .own⟩], w'⟩
  have hβ : c'.β c.σ.length = (c.w.heap.size, 0) := by simp [c']
  obtain ⟨h1, h2⟩ := h.sim.new (c' := c') ⟨els, sz, 0, .own⟩ rfl (fun r hr => by simp [c', Nat.ne_of_lt hr]) hos htape hout (by simp [c', hheap]) hold (by rw [hβ]; exact Nat.le_refl _) (fun hle => by
    refine ⟨hpos, hlen, ?_, by simp, by simp, fun _ => ?_⟩
    · intro i cs j v hi hj
      obtain ⟨y, h3, h4, h5⟩ := hcont i cs j v hi hj
      refine ⟨y, ?_, VR_mono hle _ _ h4, h5⟩
      rw [hβ]
      simp [World.cell?, c', hnew, h3]
    · rw [hβ]
      refine ⟨h.sim.size, by simp [c', hheap], by simp only [c', hws]; simpa using hfit, fun q hq => ?_⟩
      simp only [c', hws] at hq
      simp only [World.frozen?, c', hnew]
      obtain ⟨lo, hi⟩ := fz
      simp only at hfz
      simp
      omega) (fun _ => False)
  exact ⟨c', rfl, rfl, hβ, hws, h.next h1 h2⟩

theorem zeroOf_sound {t : TypeId} {zs : List AV} (hz : zeroOf P t = some zs) : ∃ i z, P.info? t = some i ∧ i.zero = some z ∧ z.cells.size = zs.length ∧ ∀ (c : Ctx) (j : Nat) (v : AV), zs[j]? = some v → ∃ y, z.cells[j]? = some y ∧ VR c v y ∧ y.oneCell' = true := by
  simp only [zeroOf, bind_some'] at hz
  obtain ⟨i, h1, z, h2, h3⟩ := hz
  obtain ⟨h4, h5⟩ := allSome_get h3
  refine ⟨i, z, h1, h2, by simpa using h4, fun c j v hv => ?_⟩
  obtain ⟨y, h6, h7⟩ := h5 j v hv
  exact ⟨y, by simpa using h6, cvCell_sound h7⟩

theorem s_alloc (h : FI base c0 n c γ g bx tmps) (ha : a.tmps = tmps) {t : TypeId} {lo : Bool} {d : Nat} {zs : List AV} (ho : o.op = .alloc t) (hz : zeroOf P t = some zs) (hpos : 0 < zs.length) {rv : RV} {M' : Mem}
    (he : evP g ⟨bx, c.σ⟩ (.alloc lo d zs) = some (rv, M')) : OpRes P base c0 n c g tmps a o rv M' := by
  obtain ⟨i, z, h1, h2, h3, h4⟩ := zeroOf_sound hz
  have hrun : (execOp a.eval o).run P c.w = .ok (.value (.pointer (some ⟨c.w.heap.size, 0, none⟩))) (c.w.alloc (.cells z.cells t (0, 0))) := by
    simp [execOp, ho, Instr.alloc, zeroValue, typeInfo, h1, h2, newVar, Go.newRow]
  cases lo with
  | true =>
    simp only [evP] at he
    split at he
    · rename_i hn
      simp only [Option.some.injEq, Prod.mk.injEq] at he
      obtain ⟨rfl, rfl⟩ := he
      refine ⟨⟨c.β, c.σ, c.w.alloc (.cells z.cells t (0, 0))⟩, _, _, .inl hrun, rfl, h.boxNew h.c0size (by simpa using hn) z.cells t zs h3 (h4 c), ?_⟩
      simp [RR, lk]
    · simp at he
  | false =>
    simp only [evP, Option.some.injEq, Prod.mk.injEq] at he
    obtain ⟨rfl, rfl⟩ := he
    obtain ⟨c', e1, e2, e3, e4, e5⟩ := h.rowNew (els := [zs]) (sz := zs.length) (xs := z.cells) (ty := t) (fz := (0, 0)) (w' := c.w.alloc (.cells z.cells t (0, 0))) hpos
      (fun i cs hi => by cases i with | zero => simp at hi; rw [← hi] | succ i => simp at hi)
      (by simp [h3])
      (fun i cs j v hi hj => by
        cases i with
        | zero => simp at hi; subst hi; simpa using h4 c j v hj
        | succ i => simp at hi) rfl rfl rfl rfl (.inl (Nat.le_refl _))
    refine ⟨c', γ, _, .inl (by rw [e1]; exact hrun), e2, e5, ?_⟩
    simp only [RR, VR]
    exact ⟨_, rfl, ⟨[zs], zs.length, 0, .own⟩, by rw [e2]; simp, Nat.le_refl _, fun _ => by rw [e3]; simp⟩

theorem s_box (h : FI base c0 n c γ g bx tmps) (ha : a.tmps = tmps) {t : TypeId} {lo : Bool} {d sz : Nat} {x : Operand} {xo : XO} (ho : o.op = .box t x) (hx : cO x = some xo) (hpos : 0 < sz) {rv : RV} {M' : Mem}
    (he : evP g ⟨bx, c.σ⟩ (.box lo d sz xo) = some (rv, M')) : OpRes P base c0 n c g tmps a o rv M' := by
  have hrun : (execOp a.eval o).run P c.w = .ok (.value (.pointer (some ⟨c.w.heap.size, 0, none⟩))) (c.w.alloc (.cells (a.eval x).cells t (0, 0))) := by
    simp [execOp, ho, Instr.box, newVar, Go.newRow]
  have content : ∀ {av : AV} {ys : List AV}, evv g xo = some av → cellsOf av = some ys → (a.eval x).cells.size = ys.length ∧ ∀ (j : Nat) (v : AV), ys[j]? = some v → ∃ y, (a.eval x).cells[j]? = some y ∧ VR c v y ∧ y.oneCell' = true := by
    intro av ys h1 h2
    obtain ⟨h3, h4⟩ := cellsOf_sound h2 (opndv h ha hx h1)
    refine ⟨by simpa using (VRs_length h3).symm, fun j v hv => ?_⟩
    obtain ⟨y, h5, h6⟩ := VRs_get h3 hv
    exact ⟨y, by simpa using h5, h6, h4 y (List.mem_of_getElem? h5)⟩
  cases lo with
  | true =>
    simp only [evP, bind_some'] at he
    obtain ⟨av, h1, ys, h2, h3⟩ := he
    split at h3
    · rename_i hn
      simp only [Option.some.injEq, Prod.mk.injEq] at h3
      obtain ⟨rfl, rfl⟩ := h3
      obtain ⟨h4, h5⟩ := content h1 h2
      refine ⟨⟨c.β, c.σ, c.w.alloc (.cells (a.eval x).cells t (0, 0))⟩, _, _, .inl hrun, rfl, h.boxNew h.c0size (by simpa using hn.1) _ t ys h4 h5, ?_⟩
      simp [RR, lk]
    · simp at h3
  | false =>
    simp only [evP, bind_some'] at he
    obtain ⟨av, h1, ys, h2, h3⟩ := he
    split at h3
    · rename_i hn
      simp only [Option.some.injEq, Prod.mk.injEq] at h3
      obtain ⟨rfl, rfl⟩ := h3
      obtain ⟨h4, h5⟩ := content h1 h2
      obtain ⟨c', e1, e2, e3, e4, e5⟩ := h.rowNew (els := [ys]) (sz := sz) (xs := (a.eval x).cells) (ty := t) (fz := (0, 0)) (w' := c.w.alloc (.cells (a.eval x).cells t (0, 0))) hpos
        (fun i cs hi => by cases i with | zero => simp at hi; rw [← hi]; exact hn | succ i => simp at hi)
        (by simp [h4, hn])
        (fun i cs j v hi hj => by
          cases i with
          | zero => simp at hi; subst hi; simpa using h5 j v hj
          | succ i => simp at hi) rfl rfl rfl rfl (.inl (Nat.le_refl _))
      refine ⟨c', γ, _, .inl (by rw [e1]; exact hrun), e2, e5, ?_⟩
      simp only [RR, VR]
      exact ⟨_, rfl, ⟨[ys], sz, 0, .own⟩, by rw [e2]; simp, Nat.le_refl _, fun _ => by rw [e3]; simp⟩
    · simp at h3

theorem s_store (h : FI base c0 n c γ g bx tmps) (hb0 : base ≤ c0.w.heap.size) (ha : a.tmps = tmps) {t : TypeId} {sz : Nat} {p x : Operand} {po xo : XO} (ho : o.op = .store t p x) (hsz : szOf P t = some sz) (hp : cO p = some po) (hx : cO x = some xo) {rv : RV} {M' : Mem}
    (he : evP g ⟨bx, c.σ⟩ (.store sz po xo) = some (rv, M')) : OpRes P base c0 n c g tmps a o rv M' := by
  simp only [evP, bind_some'] at he
  obtain ⟨pv, h1, av, h2, ys, h3, h4⟩ := he
  split at h4
  · rename_i hlen
    simp only [bind_some', Option.some.injEq, Prod.mk.injEq] at h4
    obtain ⟨M1, h5, rfl, rfl⟩ := h4
    obtain ⟨hvs, hone⟩ := cellsOf_sound h3 (opndv h ha hx h2)
    have hl := VRs_length hvs
    have hsize : (a.eval x).cells.size = sz := by rw [← hlen, hl]; simp
    have hpr := opnd h ha hp h1
    -- the run, once the place is known
    have run : ∀ b k, a.eval p = .pointer (some ⟨b, k, none⟩) → k + ys.length ≤ wsize c.w b → (∀ q, q < wsize c.w b → c.w.frozen? ⟨b, q, none⟩ = false) →
        (execOp a.eval o).run P c.w = .ok .skip (c.w.setCells b k (a.eval x).cells.toList) := by
      intro b k e hk hf
      have hst := run_storeCells_cells (P := P) b k (a.eval x).cells.toList 0 c.w (fun j hj => cell_some (by omega)) (fun j hj => hf _ (by omega)) hone
      simp only [Nat.add_zero] at hst
      simp [execOp, ho, e, Instr.storeAt, Instr.sureAddr, storeVar, szOf_run hsz, hsize, hst]
    cases pv with
    | v pav =>
      cases pav with
      | ptr r v i k =>
        simp only [putAt, rowAt, bind_some'] at h5
        obtain ⟨row, ⟨row', k1, k2⟩, cs, k3, k4⟩ := h5
        split at k2
        · rename_i hver
          cases k2
          split at k4
          · rename_i hc
            simp only [Option.some.injEq] at k4
            subst k4
            simp only [RR, VR] at hpr
            obtain ⟨ad, e, row2, j1, j2, j3⟩ := hpr
            rw [k1] at j1; cases j1
            rw [j3 hver.1.symm] at e
            have hro := h.sim.rows r row k1
            obtain ⟨hown1, hown2, hown3, hown4⟩ := hro.own hc.1
            have hcl := hro.len i cs k3
            have hi : i < row.els.length := (List.getElem?_eq_some_iff.1 k3).1
            have hmul : (i + 1) * row.sz ≤ row.els.length * row.sz := Nat.mul_le_mul_right _ hi
            rw [Nat.add_mul, Nat.one_mul] at hmul
            have hfit : (c.β r).2 + i * row.sz + k + ys.length ≤ wsize c.w (c.β r).1 := by omega
            have hrun := run _ _ e hfit hown4
            have hfit' : (c.β r).2 + i * row.sz + k + (a.eval x).cells.toList.length ≤ wsize c.w (c.β r).1 := by rw [← hl]; exact hfit
            let w' := c.w.setCells (c.β r).1 ((c.β r).2 + i * row.sz + k) (a.eval x).cells.toList
            let c' : Ctx := ⟨c.β, c.σ.set r { row with els := row.els.set i (upd cs k ys) }, w'⟩
            obtain ⟨p1, p2, p3⟩ := plain_setCells (c.β r).1 (a.eval x).cells.toList ((c.β r).2 + i * row.sz + k) c.w
            have hupd : k + ys.length ≤ cs.length := hc.2
            obtain ⟨hs, hev⟩ := h.sim.upd (c' := c') r row { row with els := row.els.set i (upd cs k ys) } k1 rfl hc.1 hc.1 rfl (Nat.le_refl _) (fun _ _ => rfl) (fun _ => ⟨rfl, wsize_setCells _ _ _ _ _⟩) p1 p2 p3
              (by simp [c', w', size_setCells]) (fun b _ hb => heap_setCells_other _ _ hb _ _ _) (.inl rfl) (fun hle => by
                refine ⟨hro.pos, ?_, ?_, hver.2, by simp [hc.1], fun _ => ?_⟩
                · intro i' cs' hi'
                  simp only [List.getElem?_set] at hi'
                  split at hi'
                  · rename_i ei
                    subst ei
                    try rw [if_pos hi] at hi'
                    simp only [Option.some.injEq] at hi'
                    rw [← hi', upd_length hupd, hcl]
                  · exact hro.len i' cs' hi'
                · intro i' cs' j v' hi' hj'
                  show ∃ y, w'.cell? ⟨(c.β r).1, (c.β r).2 + i' * row.sz + j, none⟩ = some y ∧ VR c' v' y ∧ y.oneCell' = true
                  simp only [w', cell_setCells hfit']
                  simp only [List.getElem?_set] at hi'
                  split at hi'
                  · rename_i ei
                    subst ei
                    try rw [if_pos hi] at hi'
                    simp only [Option.some.injEq] at hi'
                    subst hi'
                    rw [upd_get hupd] at hj'
                    split at hj'
                    · rename_i hin
                      obtain ⟨y, q1, q2⟩ := VRs_get hvs hj'
                      rw [if_pos ⟨by omega, by omega⟩]
                      refine ⟨y, ?_, VR_mono hle _ _ q2, hone y (List.mem_of_getElem? q1)⟩
                      rw [show (c.β r).2 + i * row.sz + j - ((c.β r).2 + i * row.sz + k) = j - k by omega]
                      exact q1
                    · rename_i hin
                      rw [if_neg (by omega)]
                      obtain ⟨y, q1, q2, q3⟩ := hro.cells i cs j v' k3 hj'
                      exact ⟨y, q1, VR_mono hle _ _ q2, q3⟩
                  · rename_i ei
                    have hj2 : j < row.sz := by rw [← hro.len i' cs' hi']; exact (List.getElem?_eq_some_iff.1 hj').1
                    have hne : ¬ ((c.β r).2 + i * row.sz + k ≤ (c.β r).2 + i' * row.sz + j ∧ (c.β r).2 + i' * row.sz + j < (c.β r).2 + i * row.sz + k + (a.eval x).cells.toList.length) := by
                      rintro ⟨q1, q2⟩
                      rw [← hl] at q2
                      rcases Nat.lt_or_gt_of_ne ei with hlt | hlt
                      · have : (i + 1) * row.sz ≤ i' * row.sz := Nat.mul_le_mul_right _ hlt
                        rw [Nat.add_mul, Nat.one_mul] at this
                        omega
                      · have : (i' + 1) * row.sz ≤ i * row.sz := Nat.mul_le_mul_right _ hlt
                        rw [Nat.add_mul, Nat.one_mul] at this
                        omega
                    rw [if_neg hne]
                    obtain ⟨y, q1, q2, q3⟩ := hro.cells i' cs' j v' hi' hj'
                    exact ⟨y, q1, VR_mono hle _ _ q2, q3⟩
                · refine ⟨hown1, by simp only [c', w', size_setCells]; exact hown2, ?_, ?_⟩
                  · simp only [c', w', wsize_setCells, List.length_set]; exact hown3
                  · intro q hq
                    simp only [c', w', wsize_setCells] at hq
                    simp only [c', w', World.frozen?_setCells]
                    exact hown4 q hq) (fun _ => False)
            exact ⟨c', γ, undef, .inr ⟨hrun, rfl⟩, rfl, h.next hs hev, by simp [RR, VR]⟩
          · simp at k4
        · simp at k2
      | _ => simp [putAt] at h5
    | lp t' k =>
      simp only [putAt, bind_some'] at h5
      obtain ⟨cs, k1, k2⟩ := h5
      split at k2
      · rename_i hc
        simp only [Option.some.injEq] at k2
        subst k2
        obtain ⟨hb1, hb2, hb3, xs, ty, q1, q2, q3⟩ := h.boxes t' cs k1
        have hws : wsize c.w (γ t') = xs.size := by simp [wsize, World.shape?, q1]
        have hfit : k + ys.length ≤ wsize c.w (γ t') := by omega
        have hfit' : k + (a.eval x).cells.toList.length ≤ wsize c.w (γ t') := by rw [← hl]; exact hfit
        have hrun := run _ _ hpr.2 hfit (fun q hq => by simp [World.frozen?, q1])
        obtain ⟨xs', r1, r2⟩ := block_setCells (γ t') (a.eval x).cells.toList k c.w xs ty (0, 0) q1
        obtain ⟨p1, p2, p3⟩ := plain_setCells (γ t') (a.eval x).cells.toList k c.w
        refine ⟨⟨c.β, c.σ, c.w.setCells (γ t') k (a.eval x).cells.toList⟩, γ, undef, .inr ⟨hrun, rfl⟩, rfl, ?_, by simp [RR, VR]⟩
        refine h.boxSet hb0 k1 xs' (upd cs k ys) (by rw [r2, q2, upd_length hc]) _ p1 p2 p3 (by rw [size_setCells]) (fun b hb => heap_setCells_other _ _ hb _ _ _) ty r1 ?_
        intro j v hj
        have hcell : (c.w.setCells (γ t') k (a.eval x).cells.toList).cell? ⟨γ t', j, none⟩ = xs'[j]? := by simp [World.cell?, r1]
        rw [← hcell, cell_setCells hfit']
        rw [upd_get hc] at hj
        split at hj
        · rename_i hin
          rw [if_pos ⟨hin.1, by rw [← hl]; exact hin.2⟩]
          obtain ⟨y, s1, s2⟩ := VRs_get hvs hj
          exact ⟨y, s1, s2, hone y (List.mem_of_getElem? s1)⟩
        · rename_i hin
          rw [if_neg (by rw [← hl]; exact hin)]
          obtain ⟨y, s1, s2, s3⟩ := q3 j v hj
          exact ⟨y, by simp [World.cell?, q1, s1], s2, s3⟩
      · simp at k2
    | ls els => simp [putAt] at h5
  · simp at h4

end
end Go.X

/- GoX, part 7: comparing structs, building values, slices out of literals, byte conversions, make. No statement of the seat is here. -/
set_option linter.unusedVariables false
set_option linter.unusedSimpArgs false
namespace Go.X
open Go

section
variable {P : Program} {base : Nat} {c0 : Ctx} {n : Nat} {c : Ctx} {γ : Nat → Nat} {g : Regs} {bx : Boxes} {tmps : Array Value} {a : Act} {o : Oper}

theorem cellsEq_length : ∀ {ks : List CK} {as bs : List AV} {e : Bool}, cellsEq ks as bs = some e → as.length = ks.length ∧ bs.length = ks.length
  | [], [], [], _, _ => ⟨rfl, rfl⟩
  | k :: ks, a :: as, b :: bs, e, h => by
    simp only [cellsEq, bind_some'] at h
    obtain ⟨x, _, y, h2, _⟩ := h
    have := cellsEq_length h2
    simp [this.1, this.2]
  | [], _ :: _, _, _, h => by simp [cellsEq] at h
  | [], [], _ :: _, _, h => by simp [cellsEq] at h
  | _ :: _, [], _, _, h => by simp [cellsEq] at h
  | _ :: _, _ :: _, [], _, h => by simp [cellsEq] at h

theorem cellsEq_append : ∀ {ks ks' : List CK} {as bs : List AV} {e : Bool}, cellsEq (ks ++ ks') as bs = some e →
    ∃ x y, cellsEq ks (as.take ks.length) (bs.take ks.length) = some x ∧ cellsEq ks' (as.drop ks.length) (bs.drop ks.length) = some y ∧ e = (x && y)
  | [], ks', as, bs, e, h => ⟨true, e, by simp [cellsEq], by simpa using h, by simp⟩
  | k :: ks, ks', a :: as, b :: bs, e, h => by
    simp only [List.cons_append, cellsEq, bind_some', Option.some.injEq] at h
    obtain ⟨x, h1, y, h2, rfl⟩ := h
    obtain ⟨x', y', h3, h4, rfl⟩ := cellsEq_append h2
    exact ⟨x && x', y', by simp [cellsEq, h1, h3], by simpa using h4, by simp [Bool.and_assoc]⟩
  | k :: ks, ks', [], bs, e, h => by simp [cellsEq] at h
  | k :: ks, ks', a :: as, [], e, h => by simp [cellsEq] at h

/-- A value of a type out of its cells. -/
def packT (P : Program) (t : TypeId) (xs : List Value) : Option Value :=
  match isAggT P t with
  | some true => some (.agg xs.toArray)
  | some false => (match xs with | [x] => some x | _ => none)
  | none => none

theorem run_part {t : TypeId} {xs : Array Value} {o s : Nat} (hs : szOf P t = some s) {v : Value} (hp : packT P t ((xs.toList.drop o).take s) = some v) (w : World) (h1 : s = 1 ∨ isAggT P t = some true) : (part t xs o).run P w = .ok v w := by
  unfold packT at hp
  unfold part
  split at hp
  · rename_i hag
    cases hp
    simp only [Sem.run_bind, isAggT_run hag, Result.andThen_ok, if_true, szOf_run hs, Sem.run_pure]
    congr 2
    apply Array.ext'
    simp [List.extract_eq_take_drop, Nat.add_sub_cancel_left]
  · rename_i hag
    have hs1 : s = 1 := by
      rcases h1 with h1 | h1
      · exact h1
      · rw [hag] at h1; cases h1
    subst hs1
    split at hp
    · rename_i x hx
      cases hp
      have : xs[o]? = some v := by
        have e : (xs.toList.drop o)[0]? = some v := by
          have : ((xs.toList.drop o).take 1)[0]? = some v := by rw [hx]; rfl
          rw [List.getElem?_take] at this
          simpa using this
        rw [List.getElem?_drop] at e
        simpa using e
      simp only [Sem.run_bind, isAggT_run hag, Result.andThen_ok, Bool.false_eq_true, if_false, this, Sem.run_pure]
    · simp at hp
  · simp at hp

theorem cellsOf_szOf {t : TypeId} {k : Nat} (h : P.cellsOf t = k) (hk : k ≠ 0) : szOf P t = some k := by
  unfold Program.cellsOf at h
  unfold szOf
  cases hi : P.info? t with
  | none => simp [hi] at h; omega
  | some i => simp [hi] at h ⊢; exact h

theorem cmpT_agg : ∀ {d : Nat} {t : TypeId} {ks : List CK}, cmpT P d t = some ks → (isAggT P t = some true) ∨ (isAggT P t = some false ∧ ks.length = 1)
  | d + 1, t, ks, h => by
    unfold cmpT at h
    unfold isAggT
    split at h
    · rename_i hu; rw [hu]; split at h <;> simp at h; subst h; exact .inr ⟨rfl, rfl⟩
    · rename_i hu; rw [hu]; split at h <;> simp at h; subst h; exact .inr ⟨rfl, rfl⟩
    · rename_i hu; rw [hu]; split at h <;> simp at h; subst h; exact .inr ⟨rfl, rfl⟩
    · rename_i hu; rw [hu]; exact .inl rfl
    · simp at h
  | 0, t, ks, h => by simp [cmpT] at h

theorem packT_some {d : Nat} {t : TypeId} {ks : List CK} (h : cmpT P d t = some ks) {xs : List Value} (hl : xs.length = ks.length) : ∃ v, packT P t xs = some v := by
  unfold packT
  rcases cmpT_agg h with h1 | ⟨h1, h2⟩
  · rw [h1]; exact ⟨_, rfl⟩
  · rw [h1]
    rw [h2] at hl
    obtain ⟨x, rfl⟩ := List.length_eq_one_iff.1 hl
    exact ⟨x, rfl⟩

/-- Comparing values cell by cell is what the model does. -/
theorem run_cmp : ∀ (d k : Nat) (t : TypeId) (ks : List CK), cmpT P d t = some ks → ∀ (as bs : List AV) (xs ys : List Value) (e : Bool), VRs c as xs → VRs c bs ys → cellsEq ks as bs = some e → ∀ u v, packT P t xs = some u → packT P t ys = some v →
    ∀ w, (Op.equalIn (d + k) t u v).run P w = .ok e w := by
  intro d
  induction d with
  | zero => intro k t ks h; simp [cmpT] at h
  | succ d ih =>
    intro k t ks hc as bs xs ys e hx hy he u v hu hv w
    obtain ⟨hla, hlb⟩ := cellsEq_length he
    have hlx := VRs_length hx
    have hly := VRs_length hy
    rw [show d + 1 + k = (d + k) + 1 by omega]
    have hc0 := hc
    unfold cmpT at hc
    -- the scalars: one cell
    have scalar : ∀ q : CK, ks = [q] → isAggT P t = some false → ∃ a b, VR c a u ∧ VR c b v ∧ cellEq q a b = some e := by
      intro q hk hag
      subst hk
      obtain ⟨a, rfl⟩ := List.length_eq_one_iff.1 hla
      obtain ⟨b, rfl⟩ := List.length_eq_one_iff.1 hlb
      obtain ⟨x, rfl⟩ := List.length_eq_one_iff.1 hlx.symm
      obtain ⟨y, rfl⟩ := List.length_eq_one_iff.1 hly.symm
      simp only [VRs, and_true] at hx hy
      simp only [packT, hag, Option.some.injEq] at hu hv
      subst hu; subst hv
      simp only [cellsEq, bind_some', Option.some.injEq] at he
      obtain ⟨z, h2, z', h3, h4⟩ := he
      subst h3
      exact ⟨a, b, hx, hy, by rw [h2]; simpa using h4⟩
    split at hc
    · rename_i hut
      split at hc <;> simp at hc
      obtain ⟨a', b', h3, h4, h5⟩ := scalar .b hc.symm (by simp [isAggT, hut])
      cases a' <;> cases b' <;> simp only [cellEq, reduceCtorEq, Option.some.injEq] at h5
      simp only [VR] at h3 h4
      subst h3; subst h4; subst h5
      exact run_equalIn_bool' w _ t _ _ hut
    · rename_i kd hut
      split at hc <;> simp at hc
      obtain ⟨a', b', h3, h4, h5⟩ := scalar .i hc.symm (by simp [isAggT, hut])
      cases a' <;> cases b' <;> simp only [cellEq, reduceCtorEq, Option.some.injEq] at h5
      split at h5
      · rename_i hk
        simp only [Option.some.injEq] at h5
        simp only [VR] at h3 h4
        subst h3; subst h4; subst h5; subst hk
        exact run_equalIn_int w _ t _ _ _ _ hut
      · simp at h5
    · rename_i hut
      split at hc <;> simp at hc
      obtain ⟨a', b', h3, h4, h5⟩ := scalar .s hc.symm (by simp [isAggT, hut])
      cases a' <;> cases b' <;> simp only [cellEq, reduceCtorEq, Option.some.injEq] at h5
      simp only [VR] at h3 h4
      obtain ⟨s, rfl, h6⟩ := h3
      obtain ⟨s', rfl, h7⟩ := h4
      subst h5
      rw [← str_eq h6 h7]
      exact run_equalIn_string w _ t _ _ hut
    · rename_i fs hut
      split at hc
      · rename_i hst
        have hag : isAggT P t = some true := by simp [isAggT, hut]
        simp only [packT, hag, Option.some.injEq] at hu hv
        subst hu; subst hv
        have hfo : P.fieldsOf t = fs := by simp [Program.fieldsOf, hut]
        rw [run_equalIn_struct w _ t _ _ (by rw [hfo]; exact hut) hst, hfo]
        -- field by field
        have key : ∀ (l : List Field) (o : Nat) (ks' : List CK) (e : Bool), cmpFs P (cmpT P d) o l = some ks' → cellsEq ks' (as.drop o) (bs.drop o) = some e → (Op.eqFields (d + k) xs.toArray ys.toArray l).run P w = .ok e w := by
          intro l
          induction l with
          | nil =>
            intro o ks' e h1 h2
            simp only [cmpFs, Option.some.injEq] at h1
            subst h1
            have : e = true := by
              cases ha : as.drop o <;> cases hb : bs.drop o <;> simp [ha, hb, cellsEq] at h2
              exact h2
            subst this
            simp [Op.eqFields]
          | cons f l ihl =>
            intro o ks' e h1 h2
            simp only [cmpFs] at h1
            split at h1
            · rename_i hf
              simp only [bind_some'] at h1
              obtain ⟨k1, h3, h4⟩ := h1
              split at h4
              · rename_i hsz
                simp only [bind_some', Option.some.injEq] at h4
                obtain ⟨r, h5, rfl⟩ := h4
                obtain ⟨x, y, h6, h7, rfl⟩ := cellsEq_append h2
                rw [List.drop_drop] at h7
                rw [List.drop_drop] at h7
                have hs := cellsOf_szOf hsz.1 hsz.2
                have hl6 := cellsEq_length h6
                have hxp := VRs_part hx o k1.length
                have hyp := VRs_part hy o k1.length
                obtain ⟨u', hu'⟩ := packT_some h3 (xs := (xs.drop o).take k1.length) (by rw [← VRs_length hxp]; exact hl6.1)
                obtain ⟨v', hv'⟩ := packT_some h3 (xs := (ys.drop o).take k1.length) (by rw [← VRs_length hyp]; exact hl6.2)
                have h1' : k1.length = 1 ∨ isAggT P f.type = some true := by
                  rcases cmpT_agg h3 with h | h
                  · exact .inr h
                  · exact .inl h.2
                have e1 := run_part (P := P) (xs := xs.toArray) hs (by simpa using hu') w h1'
                have e2 := run_part (P := P) (xs := ys.toArray) hs (by simpa using hv') w h1'
                have e3 := ih k f.type k1 h3 _ _ _ _ x hxp hyp h6 u' v' hu' hv' w
                have e4 := ihl (o + k1.length) r y h5 h7
                simp only [Op.eqFields, ne_eq, hf.2, not_false_eq_true, if_true, Sem.run_bind, hf.1, e1, Result.andThen_ok, e2, e3]
                cases x with
                | true => simpa using e4
                | false => simp
              · simp at h4
            · simp at h1
        exact key fs.toList 0 ks e hc (by simpa using he)
      · simp at hc
    · simp at hc

theorem s_seq (h : FI base c0 n c γ g bx tmps) (ha : a.tmps = tmps) {t u : TypeId} {x y : Operand} {xo yo : XO} {neg : Bool} {ks : List CK} {fs : Array Field} (ho : o.op = .binOp (if neg then .neq else .eql) t x y u) (hu : P.underlying t = some (.struct fs)) (hg0 : P.eqGuardType P.depth t = false)
    (hks : cmpT P 9 t = some ks) (hx : cO x = some xo) (hy : cO y = some yo) {rv : RV} {M' : Mem}
    (he : evP g ⟨bx, c.σ⟩ (.seq neg ks xo yo) = some (rv, M')) : OpRes P base c0 n c g tmps a o rv M' := by
  simp only [evP, bind_some'] at he
  obtain ⟨av, h1, bv, h2, h3⟩ := he
  have hv := opndv h ha hx h1
  have hw := opndv h ha hy h2
  cases av with
  | agg p =>
    cases bv with
    | agg q =>
      simp only [bind_some', Option.some.injEq, Prod.mk.injEq] at h3
      obtain ⟨e, h4, rfl, rfl⟩ := h3
      rw [VR] at hv hw
      obtain ⟨xs, e1, h5, _⟩ := hv
      obtain ⟨ys, e2, h6, _⟩ := hw
      have hag : isAggT P t = some true := by simp [isAggT, hu]
      have hq : (Op.equal t (.agg xs) (.agg ys)).run P c.w = .ok e c.w := by
        show (Op.equalIn (9 + 9991) t (.agg xs) (.agg ys)).run P c.w = _
        exact run_cmp 9 9991 t ks hks _ _ _ _ e h5 h6 h4 _ _ (by simp [packT, hag]) (by simp [packT, hag]) c.w
      have hgd : ∀ op, (eqGuard op t x y (.agg xs) (.agg ys)).run P c.w = .ok () c.w := by
        intro op
        unfold eqGuard
        cases op <;> first | rfl | (simp [run_program, hg0])
      refine OpRes.same h ?_ RR_bool
      cases neg <;> simp only [Bool.false_eq_true, if_false, if_true] at ho ⊢ <;> simp only [execOp, ho, e1, e2, hgd, binOp, Sem.run_bind, Sem.run_pure, Result.andThen_ok, hq]
    | _ => simp at h3
  | _ => simp at h3

theorem run_equal_nil {k : NK} {d : TypeDesc} {t : TypeId} {y : Operand} {av : AV} {b : Bool} (hu : P.underlying t = some d) (hk : nilKind d y = some k) (hn : nilOf k av = some b) {v : Value} (hv : VR c av v) (op : BinOp) (hop : op = .eql ∨ op = .neq) (x : Operand) (a : Act) (w : World) :
    (eqGuard op t x y v (a.eval y)).run P w = .ok () w ∧ (binOp op t v (a.eval y)).run P w = .ok (.bool (if op = .neq then !b else b)) w := by
  have fin : ∀ (u u' : Value) (e : Bool), (Op.equalIn (9999 + 1) t u u').run P w = .ok e w → (Op.equal t u u').run P w = .ok e w := fun _ _ _ h => h
  unfold nilKind at hk
  split at hk <;> simp only [reduceCtorEq, Option.some.injEq] at hk <;> subst hk <;> cases av <;> simp only [nilOf, reduceCtorEq, Option.some.injEq] at hn <;> simp only [VR] at hv
  all_goals
    first
      | subst hv
      | (obtain ⟨ad, rfl, _⟩ := hv)
      | (obtain ⟨ad, cap, rfl, _⟩ := hv)
    rcases hop with rfl | rfl
    all_goals
      refine ⟨by simp [eqGuard, Act.eval], ?_⟩
      simp only [Act.eval, binOp, Sem.run_bind, reduceCtorEq, if_false, if_true]
      rw [fin _ _ b (by subst hn; unfold Op.equalIn; simp [run_underlying hu])]
      simp

theorem s_isnil (h : FI base c0 n c γ g bx tmps) (ha : a.tmps = tmps) {t u : TypeId} {x y : Operand} {xo : XO} {neg : Bool} {d : TypeDesc} {k : NK} (ho : o.op = .binOp (if neg then .neq else .eql) t x y u) (hu : P.underlying t = some d) (hx : cO x = some xo) (hk : nilKind d y = some k) {rv : RV} {M' : Mem}
    (he : evP g ⟨bx, c.σ⟩ (.isnil k neg xo) = some (rv, M')) : OpRes P base c0 n c g tmps a o rv M' := by
  simp only [evP, bind_some', Option.some.injEq, Prod.mk.injEq] at he
  obtain ⟨av, h1, b, h2, rfl, rfl⟩ := he
  have hv := opndv h ha hx h1
  obtain ⟨e1, e2⟩ := run_equal_nil (P := P) hu hk h2 hv (if neg then .neq else .eql) (by cases neg <;> simp) x a c.w
  refine OpRes.same h ?_ RR_bool
  cases neg <;> simp only [Bool.false_eq_true, if_false, if_true, reduceCtorEq] at ho e1 e2 ⊢ <;> simp only [execOp, ho, Sem.run_bind, e1, e2, Result.andThen_ok, Sem.run_pure]

end
end Go.X

/- GoX, part 8: slices: what a slice's elements are in memory; append, literals, byte conversions, make, struct literals. No statement of the seat is here. -/
set_option linter.unusedVariables false
set_option linter.unusedSimpArgs false
namespace Go.X
open Go

/-- Cells xs are the elements els, sz cells each. -/
structure Flat (c : Ctx) (sz : Nat) (els : List (List AV)) (xs : List Value) : Prop where
  len : ∀ (i : Nat) (cs : List AV), els[i]? = some cs → cs.length = sz
  size : xs.length = els.length * sz
  cont : ∀ (i : Nat) (cs : List AV) (j : Nat) (v : AV), els[i]? = some cs → cs[j]? = some v → ∃ y, xs[i * sz + j]? = some y ∧ VR c v y ∧ y.oneCell' = true

theorem Flat.one {c : Ctx} {sz : Nat} {els : List (List AV)} {xs : List Value} (h : Flat c sz els xs) : ∀ y ∈ xs, y.oneCell' = true := by
  intro y hy
  obtain ⟨k, hk, rfl⟩ := List.getElem_of_mem hy
  rw [h.size] at hk
  by_cases hs : sz = 0
  · subst hs; simp at hk
  · have hi : k / sz < els.length := by rw [Nat.div_lt_iff_lt_mul (by omega)]; exact hk
    have hg := List.getElem?_eq_getElem hi
    have hl := h.len _ _ hg
    have hj : k % sz < els[k / sz].length := by rw [hl]; exact Nat.mod_lt _ (by omega)
    obtain ⟨y, h1, h2, h3⟩ := h.cont _ _ (k % sz) _ hg (List.getElem?_eq_getElem hj)
    rw [Nat.div_add_mod' k sz] at h1
    have := (List.getElem?_eq_some_iff.1 h1).2
    rw [this]
    exact h3

theorem Flat.nil (c : Ctx) (sz : Nat) : Flat c sz [] [] := ⟨by simp, by simp, by simp⟩

theorem Flat.append {c : Ctx} {sz : Nat} {els els' : List (List AV)} {xs xs' : List Value} (h : Flat c sz els xs) (h' : Flat c sz els' xs') : Flat c sz (els ++ els') (xs ++ xs') := by
  refine ⟨?_, by simp [h.size, h'.size, Nat.add_mul], ?_⟩
  · intro i cs hi
    rcases Nat.lt_or_ge i els.length with hlt | hge
    · rw [List.getElem?_append_left hlt] at hi; exact h.len i cs hi
    · rw [List.getElem?_append_right hge] at hi; exact h'.len _ cs hi
  · intro i cs j v hi hj
    rcases Nat.lt_or_ge i els.length with hlt | hge
    · rw [List.getElem?_append_left hlt] at hi
      obtain ⟨y, h1, h2, h3⟩ := h.cont i cs j v hi hj
      exact ⟨y, by rw [List.getElem?_append_left (List.getElem?_eq_some_iff.1 h1).1]; exact h1, h2, h3⟩
    · rw [List.getElem?_append_right hge] at hi
      obtain ⟨y, h1, h2, h3⟩ := h'.cont _ cs j v hi hj
      refine ⟨y, ?_, h2, h3⟩
      have e : i * sz + j = xs.length + ((i - els.length) * sz + j) := by
        rw [h.size]
        have : i * sz = els.length * sz + (i - els.length) * sz := by rw [← Nat.add_mul]; congr 1; omega
        omega
      rw [e, List.getElem?_append_right (by omega)]
      rw [show xs.length + ((i - els.length) * sz + j) - xs.length = (i - els.length) * sz + j by omega]
      exact h1

theorem Flat.mono {c c' : Ctx} (hle : CtxLe c c') {sz : Nat} {els : List (List AV)} {xs : List Value} (h : Flat c sz els xs) : Flat c' sz els xs :=
  ⟨h.len, h.size, fun i cs j v hi hj => let ⟨y, h1, h2, h3⟩ := h.cont i cs j v hi hj; ⟨y, h1, VR_mono hle _ _ h2, h3⟩⟩

section
variable {P : Program} {base : Nat} {c0 : Ctx} {n : Nat} {c : Ctx} {γ : Nat → Nat} {g : Regs} {bx : Boxes} {tmps : Array Value} {a : Act} {o : Oper}

/-- Elements that lie in a row, as values. -/
theorem RowOk.values {r : Nat} {row : Row} (h : RowOk base c r row) (i m : Nat) (him : i + m ≤ row.els.length) :
    ∃ xs, Flat c row.sz ((row.els.drop i).take m) xs ∧ ∀ (j : Nat) (x : Value), xs[j]? = some x → c.w.cell? ⟨(c.β r).1, (c.β r).2 + i * row.sz + j, none⟩ = some x := by
  induction m generalizing i with
  | zero => exact ⟨[], by simpa using Flat.nil c row.sz, by simp⟩
  | succ m ih =>
    obtain ⟨xs, h1, h2⟩ := ih (i + 1) (by omega)
    have hi : i < row.els.length := by omega
    have hg := List.getElem?_eq_getElem hi
    have hlies : Lies c (c.β r).1 ((c.β r).2 + i * row.sz) row.els[i] := fun j v hj => h.cells i _ j v hg hj
    obtain ⟨ys, k1, k2, k3, k4⟩ := hlies.values
    have hl := h.len i _ hg
    have hf : Flat c row.sz [row.els[i]] ys := by
      refine ⟨?_, by simp [k1, hl], ?_⟩
      · intro q cs hq
        cases q with
        | zero => simp at hq; subst hq; exact hl
        | succ q => simp at hq
      · intro q cs j v hq hj
        cases q with
        | zero =>
          simp at hq; subst hq
          obtain ⟨y, e1, e2⟩ := VRs_get k2 hj
          exact ⟨y, by simpa using e1, e2, k3 y (List.mem_of_getElem? e1)⟩
        | succ q => simp at hq
    refine ⟨ys ++ xs, ?_, ?_⟩
    · rw [List.drop_eq_getElem_cons hi, List.take_succ_cons]
      exact hf.append h1
    · intro j x hx
      rcases Nat.lt_or_ge j ys.length with hlt | hge
      · rw [List.getElem?_append_left hlt] at hx
        exact k4 j x hx
      · rw [List.getElem?_append_right hge] at hx
        have := h2 _ x hx
        rw [Nat.add_mul, Nat.one_mul] at this
        rw [k1, hl] at this hge
        rwa [show (c.β r).2 + (i * row.sz + row.sz) + (j - row.sz) = (c.β r).2 + i * row.sz + j by omega] at this

/-- What a slice's elements are in memory. -/
theorem els_lies (h : FI base c0 n c γ g bx tmps) {rv : RV} {y : Value} (hr : RR c γ bx rv y) {sz : Nat} {els : List (List AV)} (he : elsOf ⟨bx, c.σ⟩ sz rv = some els) :
    (y = .slice none 0 0 ∧ els = []) ∨ ∃ ad cap xs, y = .slice (some ad) els.length cap ∧ Flat c sz els xs ∧ ∀ (j : Nat) (x : Value), xs[j]? = some x → c.w.cell? (ad.add j) = some x := by
  cases rv with
  | v av =>
    cases av with
    | nilsl =>
      simp only [elsOf, Option.some.injEq] at he
      simp only [RR, VR] at hr
      exact .inl ⟨hr, he.symm⟩
    | sl r v i m =>
      simp only [elsOf, rowAt, bind_some'] at he
      obtain ⟨row, ⟨row', k1, k2⟩, k3⟩ := he
      split at k2
      · rename_i hver
        cases k2
        split at k3
        · rename_i hc
          simp only [Option.some.injEq] at k3
          simp only [RR, VR] at hr
          obtain ⟨ad, cap, e, hn, row2, j1, j2, j3⟩ := hr
          rw [k1] at j1; cases j1
          obtain ⟨xs, h1, h2⟩ := (h.sim.rows r row k1).values i m hc.2
          have hl : els.length = m := by rw [← k3, List.length_take, List.length_drop]; omega
          rw [hc.1] at h1 h2
          refine .inr ⟨ad, cap, xs, by rw [hl]; exact e, by rw [← k3]; exact h1, ?_⟩
          intro j x hx
          have hcap : cap ≠ 0 := by
            intro e0
            have : m = 0 := by omega
            subst this
            have := h1.size
            simp at this
            subst this
            simp at hx
          obtain ⟨e2, _⟩ := j3 hver.1.symm hcap
          rw [e2, Addr.add_lit, hc.1]
          exact h2 j x hx
        · simp at k3
      · simp at k2
    | _ => simp [elsOf] at he
  | lp t k => simp [elsOf] at he
  | ls l =>
    simp only [elsOf] at he
    split at he
    · rename_i hall
      simp only [Option.some.injEq] at he
      subst he
      obtain ⟨b, xs, ty, sz', e, hb, _, _, hc⟩ := hr
      by_cases hemp : l = []
      · subst hemp
        exact .inr ⟨_, _, [], e, Flat.nil c sz, by simp⟩
      · have hsz : sz' = sz := by
          obtain ⟨e0, l', rfl⟩ := List.exists_cons_of_ne_nil hemp
          have := (hc 0 e0 rfl).1
          simp at hall
          rw [← this]; exact hall.1
        subst hsz
        -- the cells, one by one
        have hget : ∀ k, k < l.length * sz' → ∃ y, xs[k]? = some y := by
          intro k hk
          by_cases hs : sz' = 0
          · subst hs; simp at hk
          · have hi : k / sz' < l.length := by rw [Nat.div_lt_iff_lt_mul (by omega)]; exact hk
            have hg := List.getElem?_eq_getElem hi
            obtain ⟨hl, h2⟩ := hc _ _ hg
            have hj : k % sz' < l[k / sz'].length := by rw [hl]; exact Nat.mod_lt _ (by omega)
            obtain ⟨y, h1, _⟩ := h2 (k % sz') _ (List.getElem?_eq_getElem hj)
            rw [Nat.div_add_mod' k sz'] at h1
            exact ⟨y, h1⟩
        have hlen : l.length * sz' ≤ xs.size := by
          by_cases h0 : l.length * sz' = 0
          · omega
          · obtain ⟨y, hy⟩ := hget (l.length * sz' - 1) (by omega)
            have := (Array.getElem?_eq_some_iff.1 hy).1
            omega
        refine .inr ⟨_, _, xs.toList.take (l.length * sz'), e, ⟨fun i cs hi => (hc i cs hi).1, by simp; omega, ?_⟩, ?_⟩
        · intro i cs j v hi hj
          obtain ⟨hl, h2⟩ := hc i cs hi
          obtain ⟨y, h3, h4, h5⟩ := h2 j v hj
          refine ⟨y, ?_, h4, h5⟩
          rw [List.getElem?_take, if_pos]
          · simpa using h3
          · have hi' := (List.getElem?_eq_some_iff.1 hi).1
            have hj' := (List.getElem?_eq_some_iff.1 hj).1
            rw [hl] at hj'
            have : (i + 1) * sz' ≤ l.length * sz' := Nat.mul_le_mul_right _ hi'
            rw [Nat.add_mul, Nat.one_mul] at this
            omega
        · intro j x hx
          rw [List.getElem?_take] at hx
          split at hx
          · rw [Addr.add_lit]
            simp [World.cell?, hb]
            simpa using hx
          · simp at hx
    · simp at he

theorem Src.of_els (h : FI base c0 n c γ g bx tmps) {rv : RV} {y : Value} (hr : RR c γ bx rv y) {sz : Nat} {els : List (List AV)} (he : elsOf ⟨bx, c.σ⟩ sz rv = some els) {tx e' : TypeId} (hk : P.underlying tx = some (.slice e')) :
    ∃ xs, Flat c sz els xs ∧ Src P sz tx y els.length xs c.w := by
  rcases els_lies h hr he with ⟨rfl, rfl⟩ | ⟨ad, cap, xs, rfl, h1, h2⟩
  · exact ⟨[], Flat.nil c sz, Src.ofNil c.w hk 0⟩
  · exact ⟨xs, h1, Src.ofSlice c.w hk ad _ cap xs h1.size h2 h1.one⟩

theorem cells_zero (z : Array Value) (k : Nat) : (Builtin.zeroCells z k).size = k * z.size := by simp [Builtin.zeroCells]

theorem s_app (h : FI base c0 n c γ g bx tmps) (ha : a.tmps = tmps) {t u e e' : TypeId} {i : TypeInfo} {z : Value} {x y : Operand} {xo yo : XO} {ts : Array TypeId} {as : Array Operand} (ho : o.op = .call { callee := .builtin .append, args := as, argTypes := ts }) (has : as.toList = [x, y]) (hts : ts.toList = [t, u])
    (ht : P.underlying t = some (.slice e)) (hu : P.underlying u = some (.slice e')) (hi : P.info? e = some i) (hz : i.zero = some z) (hsz : i.size = z.cells.size) (hpos : 0 < i.size) (hby : 0 < i.bytes) (hx : cO x = some xo) (hy : cO y = some yo) {rv : RV} {M' : Mem}
    (he : evP g ⟨bx, c.σ⟩ (.app i.size i.bytes xo yo) = some (rv, M')) : OpRes P base c0 n c g tmps a o rv M' := by
  simp only [evP, bind_some'] at he
  obtain ⟨av, h1, bv, h2, ys, h3, h4⟩ := he
  have hv := opndv h ha hx h1
  have hw := opnd h ha hy h2
  obtain ⟨news, hfl, hsrc⟩ := Src.of_els (P := P) h hw h3 hu
  have hexec : ∀ (v' : Value) (w' : World), (Builtin.append_ #[t, u] o.type #[a.eval x, a.eval y]).run P c.w = .ok v' w' → (execOp a.eval o).run P c.w = .ok (.value v') w' := by
    intro v' w' hr
    have e1 : as = #[x, y] := by apply Array.ext'; simpa using has
    have e2 : ts = #[t, u] := by apply Array.ext'; simpa using hts
    subst e1; subst e2
    simp [execOp, ho, resolve, invoke, builtin, hr]
  have hplain : ∀ (w : World) (ob : Obj), (w.drew.alloc ob).heap = w.heap.push ob := fun _ _ => rfl
  have bnd : ∀ k, k * i.bytes ≤ 140737488355328 → (k : Int) ≤ 9223372036854775807 := by
    intro k hk
    have : k ≤ k * i.bytes := Nat.le_mul_of_pos_right _ hby
    omega
  cases av with
  | nilsl =>
    simp only at h4
    split at h4
    · rename_i hb
      simp only [VR] at hv
      cases ys with
      | nil =>
        simp only [Option.some.injEq, Prod.mk.injEq] at h4
        obtain ⟨rfl, rfl⟩ := h4
        refine OpRes.same h (y := .slice none 0 0) (hexec _ _ ?_) (by simp only [RR, VR])
        have hn : news = [] := by have := hfl.size; simpa using this
        subst hn
        have hk := hsrc.cells
        simp only [List.length_nil] at hk
        simp [Builtin.append_, run_underlying ht, run_underlying hu, sizeOf, typeInfo, hi, hv, hsrc.len, hk]
      | cons y0 ys0 =>
        simp only [Option.some.injEq, Prod.mk.injEq] at h4
        obtain ⟨rfl, rfl⟩ := h4
        have hr := run_append_grow_src (P := P) c.w t u o.type e i z ht hi hz none 0 0 [] (run_firstCells_none c.w.drew i.size 0 0 0) (a.eval y) _ news hsrc (by simp) (by have := bnd _ hb; simpa using this) (by
          refine growslice_fits (by simp) ?_
          simpa using hb)
        rw [← hv] at hr
        have hcap := grownCap_ge c.w (0 + (y0 :: ys0).length) 0 e
        have hws : ((([] : List Value) ++ news).toArray ++ Builtin.zeroCells z.cells (grownCap c.w (0 + (y0 :: ys0).length) 0 e - (0 + (y0 :: ys0).length))).size = grownCap c.w (0 + (y0 :: ys0).length) 0 e * i.size := by
          simp only [Array.size_append, List.nil_append, List.size_toArray, cells_zero, hfl.size, ← hsz, ← Nat.add_mul]
          congr 1
          omega
        obtain ⟨c', e1, e2, e3, e4, e5⟩ := h.rowNew (els := y0 :: ys0) (sz := i.size) (ty := e) (fz := (0, 0)) hpos hfl.len (by
            rw [hws]; exact Nat.mul_le_mul_right _ (by omega)) (fun q cs j v hq hj => by
            obtain ⟨w1, k1, k2, k3⟩ := hfl.cont q cs j v hq hj
            refine ⟨w1, ?_, k2, k3⟩
            have hlt := (List.getElem?_eq_some_iff.1 k1).1
            rw [Array.getElem?_append_left (by simpa using hlt)]
            simpa using k1) (hplain c.w _) rfl rfl rfl (.inl (Nat.le_refl _))
        refine ⟨c', γ, _, .inl (by rw [e1]; exact hexec _ _ hr), e2, e5, ?_⟩
        simp only [RR, VR]
        have hcap' := grownCap_ge c.w (y0 :: ys0).length 0 e
        refine ⟨_, _, by rw [Nat.zero_add], hcap', ⟨y0 :: ys0, i.size, 0, .own⟩, by rw [e2]; simp, Nat.le_refl _, fun _ _ => ?_⟩
        rw [e3, e1]
        refine ⟨by simp, fun _ => ?_⟩
        rw [e4, hws]
        simp
    · simp at h4
  | sl r v k m =>
    simp only [rowAt, bind_some'] at h4
    obtain ⟨row, ⟨row', k1, k2⟩, h5⟩ := h4
    split at k2
    · rename_i hver
      cases k2
      split at h5
      · rename_i hc
        obtain ⟨hown, hrs, hkm, hbytes⟩ := hc
        simp only [Option.some.injEq, Prod.mk.injEq] at h5
        obtain ⟨rfl, rfl⟩ := h5
        simp only [VR] at hv
        obtain ⟨ad, cap, ex, hmc, row2, j1, j2, j3⟩ := hv
        rw [k1] at j1; cases j1
        have hro := h.sim.rows r row k1
        obtain ⟨o1, o2, o3, o4⟩ := hro.own hown
        obtain ⟨olds, f1, f2⟩ := hro.values k m hkm
        rw [hrs] at f1 f2
        have hfl1 := f1.append hfl
        have hlen1 : ((row.els.drop k).take m).length = m := by rw [List.length_take, List.length_drop]; omega
        by_cases hroom : m + ys.length ≤ cap
        · -- in place
          by_cases hcap : cap = 0
          · -- nothing at all
            have hm0 : m = 0 := by omega
            have hy0 : ys = [] := List.eq_nil_of_length_eq_zero (by omega)
            subst hm0; subst hy0; subst hcap
            have hn : news = [] := by have := hfl.size; simpa using this
            subst hn
            have hk := hsrc.cells
            simp only [List.length_nil] at hk
            have hr : (Builtin.append_ #[t, u] o.type #[a.eval x, a.eval y]).run P c.w = .ok (.slice (some ad) 0 0) c.w := by
              simp [Builtin.append_, run_underlying ht, run_underlying hu, sizeOf, typeInfo, hi, ex, hsrc.len, hk, storeCells]
            let row' : Row := { row with els := (row.els.drop k).take 0 ++ [], ver := v + 1 }
            let c' : Ctx := ⟨c.β, c.σ.set r row', c.w⟩
            obtain ⟨hs, hev⟩ := h.sim.upd (c' := c') r row row' k1 rfl hown hown rfl (by simp [row']; omega) (fun _ _ => rfl) (fun _ => ⟨rfl, rfl⟩) rfl rfl rfl (Nat.le_refl _) (fun _ _ _ => rfl) (.inl rfl) (fun hle => by
              refine ⟨hro.pos, by simp [row'], by simp [row'], hver.2, by simp [row', hown], fun _ => ⟨o1, o2, by simp [row', c']; omega, o4⟩⟩) (fun _ => False)
            refine ⟨c', γ, _, .inl (hexec _ _ hr), rfl, h.next hs hev, ?_⟩
            simp only [RR, VR]
            have hlt : r < c.σ.length := (List.getElem?_eq_some_iff.1 k1).1
            exact ⟨ad, 0, rfl, Nat.le_refl _, row', by simp [c', hlt], Nat.le_refl _, fun _ h0 => absurd rfl h0⟩
          · obtain ⟨e2, e3⟩ := j3 hver.1.symm hcap
            have hcapsz := e3 hown
            subst e2
            rw [hrs] at hcapsz ex
            have hfit : (c.β r).2 + k * i.size + m * i.size + news.length ≤ wsize c.w (c.β r).1 := by
              rw [hfl.size]
              have : (m + ys.length) * i.size ≤ cap * i.size := Nat.mul_le_mul_right _ hroom
              rw [Nat.add_mul] at this
              rw [Nat.add_mul] at hcapsz
              omega
            have hr := run_append_room_src (P := P) c.w t u o.type e i ht hi (c.β r).1 ((c.β r).2 + k * i.size) m cap (a.eval y) ys.length news hsrc hroom (fun j hj => cell_some (by omega)) (fun j hj => o4 _ (by omega))
            rw [← ex] at hr
            let row' : Row := { row with els := (row.els.drop k).take m ++ ys, ver := v + 1 }
            let w' := c.w.setCells (c.β r).1 ((c.β r).2 + k * i.size + m * i.size) news
            let c' : Ctx := ⟨fun q => if q = r then ((c.β r).1, (c.β r).2 + k * i.size) else c.β q, c.σ.set r row', w'⟩
            have hβ : c'.β r = ((c.β r).1, (c.β r).2 + k * i.size) := by simp [c']
            obtain ⟨p1, p2, p3⟩ := plain_setCells (c.β r).1 news ((c.β r).2 + k * i.size + m * i.size) c.w
            have hlt : r < c.σ.length := (List.getElem?_eq_some_iff.1 k1).1
            obtain ⟨hs, hev⟩ := h.sim.upd (c' := c') r row row' k1 rfl hown hown rfl (by simp [row']; omega) (fun q hq => by simp [c', hq]) (fun e => by simp [row'] at e; omega) p1 p2 p3
              (by simp [c', w', size_setCells]) (fun b _ hb => heap_setCells_other _ _ hb _ _ _) (.inl (by rw [hβ])) (fun hle => by
              have hfl2 := hfl1.mono hle
              refine ⟨hro.pos, by rw [show row'.sz = i.size from hrs]; exact hfl1.len, ?_, hver.2, by simp [row', hown], fun _ => ?_⟩
              · intro q cs j v' hq hj
                rw [hβ]
                show ∃ y, w'.cell? ⟨(c.β r).1, (c.β r).2 + k * i.size + q * row.sz + j, none⟩ = some y ∧ VR c' v' y ∧ y.oneCell' = true
                rw [hrs]
                obtain ⟨y, s1, s2, s3⟩ := hfl2.cont q cs j v' hq hj
                refine ⟨y, ?_, s2, s3⟩
                simp only [w', cell_setCells hfit]
                have hol : olds.length = m * i.size := by rw [f1.size, hlen1]
                rcases Nat.lt_or_ge (q * i.size + j) olds.length with hlt' | hge
                · rw [List.getElem?_append_left hlt'] at s1
                  rw [if_neg (by omega)]
                  have := f2 _ y s1
                  rwa [show (c.β r).2 + k * i.size + (q * i.size + j) = (c.β r).2 + k * i.size + q * i.size + j by omega] at this
                · have hlt2 := (List.getElem?_eq_some_iff.1 s1).1
                  rw [List.length_append] at hlt2
                  rw [List.getElem?_append_right hge] at s1
                  rw [if_pos ⟨by omega, by omega⟩]
                  rw [← s1]
                  congr 1
                  omega
              · rw [hβ]
                refine ⟨o1, by simp only [c', w', size_setCells]; exact o2, ?_, ?_⟩
                · simp only [c', w', wsize_setCells]
                  show (c.β r).2 + k * i.size + ((row.els.drop k).take m ++ ys).length * row.sz ≤ wsize c.w (c.β r).1
                  rw [hrs, List.length_append, hlen1, Nat.add_mul]
                  rw [hfl.size] at hfit
                  omega
                · intro q hq
                  simp only [c', w', wsize_setCells] at hq
                  simp only [c', w', World.frozen?_setCells]
                  exact o4 q hq) (fun _ => False)
            refine ⟨c', γ, _, .inl (hexec _ _ hr), rfl, h.next hs hev, ?_⟩
            simp only [RR, VR]
            refine ⟨_, _, rfl, hroom, row', by simp [c', hlt], Nat.le_refl _, fun _ _ => ?_⟩
            rw [hβ]
            refine ⟨by simp, fun _ => ?_⟩
            simp only [c', w', wsize_setCells]
            show (c.β r).2 + k * i.size + (0 + cap) * row.sz ≤ wsize c.w (c.β r).1
            rw [hrs, Nat.zero_add]
            rw [Nat.add_mul] at hcapsz
            omega
        · -- a new block
          have hold : (Builtin.firstCells i.size m (.slice (some ad) m cap)).run P c.w.drew = .ok olds.toArray c.w.drew := by
            refine run_firstCells_some (P := P) c.w.drew i.size m ad m cap olds (by rw [f1.size, hlen1]) (fun j x hx => ?_)
            by_cases hcap : cap = 0
            · have hm0 : m = 0 := by omega
              subst hm0
              have := f1.size
              simp at this
              subst this
              simp at hx
            · obtain ⟨e2, e3⟩ := j3 hver.1.symm hcap
              rw [e2, Addr.add_lit, hrs]
              exact f2 j x hx
          have hr := run_append_grow_src (P := P) c.w t u o.type e i z ht hi hz (some ad) m cap olds hold (a.eval y) ys.length news hsrc (by omega) (bnd _ hbytes) (growslice_fits (by omega) hbytes)
          rw [← ex] at hr
          have hcap := grownCap_ge c.w (m + ys.length) cap e
          let blk : Array Value := (olds ++ news).toArray ++ Builtin.zeroCells z.cells (grownCap c.w (m + ys.length) cap e - (m + ys.length))
          have hws : blk.size = grownCap c.w (m + ys.length) cap e * i.size := by
            have h1 := hfl1.size
            rw [List.length_append, List.length_append, hlen1] at h1
            simp only [blk, Array.size_append, List.size_toArray, List.length_append, cells_zero, h1, ← hsz, ← Nat.add_mul]
            congr 1
            omega
          let w' := c.w.drew.alloc (.cells blk e)
          let row' : Row := { row with els := (row.els.drop k).take m ++ ys, ver := v + 1 }
          let c' : Ctx := ⟨fun q => if q = r then (c.w.heap.size, 0) else c.β q, c.σ.set r row', w'⟩
          have hβ : c'.β r = (c.w.heap.size, 0) := by simp [c']
          have hlt : r < c.σ.length := (List.getElem?_eq_some_iff.1 k1).1
          have hnewb : w'.heap[c.w.heap.size]? = some (.cells blk e (0, 0)) := heap_alloc_new c.w.drew _
          have hwsz : wsize w' c.w.heap.size = blk.size := by simp [wsize, World.shape?, hnewb]
          obtain ⟨hs, hev⟩ := h.sim.upd (c' := c') r row row' k1 rfl hown hown rfl (by simp [row']; omega) (fun q hq => by simp [c', hq]) (fun e => by simp [row'] at e; omega) rfl rfl rfl
            (by simp [c', w']) (fun b hb _ => heap_alloc_old c.w.drew _ hb) (.inr (by rw [hβ]; exact Nat.le_refl _)) (fun hle => by
            have hfl2 := hfl1.mono hle
            refine ⟨hro.pos, by rw [show row'.sz = i.size from hrs]; exact hfl1.len, ?_, hver.2, by simp [row', hown], fun _ => ?_⟩
            · intro q cs j v' hq hj
              rw [hβ]
              show ∃ y, w'.cell? ⟨c.w.heap.size, 0 + q * row.sz + j, none⟩ = some y ∧ VR c' v' y ∧ y.oneCell' = true
              rw [hrs, Nat.zero_add]
              obtain ⟨y, s1, s2, s3⟩ := hfl2.cont q cs j v' hq hj
              refine ⟨y, ?_, s2, s3⟩
              have hlt' := (List.getElem?_eq_some_iff.1 s1).1
              simp only [World.cell?, hnewb]
              rw [Array.getElem?_append_left (by simpa using hlt')]
              simpa using s1
            · rw [hβ]
              refine ⟨h.sim.size, by simp [c', w'], ?_, ?_⟩
              · show 0 + ((row.els.drop k).take m ++ ys).length * row.sz ≤ wsize w' c.w.heap.size
                rw [hwsz, hws, hrs, List.length_append, hlen1, Nat.zero_add]
                exact Nat.mul_le_mul_right _ hcap
              · intro q hq
                simp [World.frozen?, c', hnewb]) (fun _ => False)
          refine ⟨c', γ, _, .inl (hexec _ _ hr), rfl, h.next hs hev, ?_⟩
          simp only [RR, VR]
          refine ⟨_, _, rfl, hcap, row', by simp [c', hlt], Nat.le_refl _, fun _ _ => ?_⟩
          rw [hβ]
          refine ⟨by simp, fun _ => ?_⟩
          show 0 + (0 + grownCap c.w (m + ys.length) cap e) * row.sz ≤ wsize w' c.w.heap.size
          rw [hwsz, hws, hrs]
          simp
      · simp at h5
    · simp at k2
  | _ => simp at h4

end
end Go.X

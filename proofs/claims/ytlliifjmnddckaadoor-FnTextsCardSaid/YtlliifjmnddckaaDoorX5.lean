/- GoX, part 5: the operations that change nothing, each in the model and in the executor. No statement of the seat is here. -/
import Derived.Test.YtlliifjmnddckaaDoorX4
set_option linter.unusedVariables false
set_option linter.unusedSimpArgs false
namespace Go.X
open Go

section
variable {P : Program} {base : Nat} {c0 : Ctx} {n : Nat} {c : Ctx} {γ : Nat → Nat} {g : Regs} {bx : Boxes} {tmps : Array Value} {a : Act} {o : Oper}

theorem s_mv (h : FI base c0 n c γ g bx tmps) (ha : a.tmps = tmps) {x : Operand} {xo : XO} (ho : o.op = .move x ∨ o.op = .assign x) (hx : cO x = some xo) {rv : RV} {M' : Mem} (he : evP g ⟨bx, c.σ⟩ (.mv xo) = some (rv, M')) :
    OpRes P base c0 n c g tmps a o rv M' := by
  simp only [evP, bind_some', Option.some.injEq, Prod.mk.injEq] at he
  obtain ⟨r, h1, rfl, rfl⟩ := he
  refine OpRes.same h (y := a.eval x) ?_ (opnd h ha hx h1)
  rcases ho with ho | ho <;> simp [execOp, ho]

theorem s_pick (h : FI base c0 n c γ g bx tmps) (ha : a.tmps = tmps) {x y z : Operand} {xo yo zo : XO} (ho : o.op = .pick x y z) (hx : cO x = some xo) (hy : cO y = some yo) (hz : cO z = some zo) {rv : RV} {M' : Mem}
    (he : evP g ⟨bx, c.σ⟩ (.pick xo yo zo) = some (rv, M')) : OpRes P base c0 n c g tmps a o rv M' := by
  simp only [evP, bind_some'] at he
  obtain ⟨v, h1, h2⟩ := he
  have hv := opndv h ha hx h1
  cases v with
  | bool t =>
    simp only [VR] at hv
    simp only [bind_some', Option.some.injEq, Prod.mk.injEq] at h2
    obtain ⟨r, h3, rfl, rfl⟩ := h2
    cases t with
    | true => exact OpRes.same h (y := a.eval y) (by simp [execOp, ho, hv, asBool]) (opnd h ha hy h3)
    | false => exact OpRes.same h (y := a.eval z) (by simp [execOp, ho, hv, asBool]) (opnd h ha hz h3)
  | _ => simp at h2

theorem s_load (h : FI base c0 n c γ g bx tmps) (ha : a.tmps = tmps) {t : TypeId} {x : Operand} {xo : XO} {ag : Bool} {sz : Nat} (ho : o.op = .load t x) (hag : isAggT P t = some ag) (hsz : szOf P t = some sz) (hx : cO x = some xo) {rv : RV} {M' : Mem}
    (he : evP g ⟨bx, c.σ⟩ (.load ag sz xo) = some (rv, M')) : OpRes P base c0 n c g tmps a o rv M' := by
  simp only [evP, bind_some', Option.some.injEq, Prod.mk.injEq] at he
  obtain ⟨p, h1, ⟨cs, k⟩, h2, v, h3, rfl, rfl⟩ := he
  obtain ⟨b, off, hy, hl⟩ := place_lies h (opnd h ha hx h1) h2
  obtain ⟨y, hr, hv⟩ := load_sound (P := P) hag hsz hl h3
  exact OpRes.same h (y := y) (by simp [execOp, ho, Instr.loadAt, hy, Instr.sureAddr, hr]) hv

theorem s_fadr (h : FI base c0 n c γ g bx tmps) (ha : a.tmps = tmps) {t : TypeId} {x : Operand} {xo : XO} {f : Nat} {fs : Array Field} {fd : Field} {sz : Nat} (ho : o.op = .fieldAddr t x f) (hu : P.underlying t = some (.struct fs)) (hf : fs[f]? = some fd)
    (hsz : szOf P fd.type = some sz) (h0 : sz ≠ 0) (hx : cO x = some xo) {rv : RV} {M' : Mem} (he : evP g ⟨bx, c.σ⟩ (.fadr fd.offset xo) = some (rv, M')) : OpRes P base c0 n c g tmps a o rv M' := by
  simp only [evP, bind_some'] at he
  obtain ⟨p, h1, h2⟩ := he
  have hp := opnd h ha hx h1
  have run : ∀ b k, a.eval x = .pointer (some ⟨b, k, none⟩) → (execOp a.eval o).run P c.w = .ok (.value (.pointer (some ⟨b, k + fd.offset, none⟩))) c.w := by
    intro b k e
    simp [execOp, ho, e, Instr.fieldAt, run_underlying hu, hf, Instr.sureAddr, fieldPlace, szOf_run hsz, h0, Addr.add_lit]
  cases p with
  | v av =>
    cases av with
    | ptr r v i k =>
      simp only [Option.some.injEq, Prod.mk.injEq] at h2
      obtain ⟨rfl, rfl⟩ := h2
      simp only [RR, VR] at hp
      obtain ⟨ad, e, row, k1, k2, k3⟩ := hp
      -- a pointer whose version is gone may lead anywhere
      have e2 : ∃ b' k', ad = ⟨b', k', none⟩ ∨ True := ⟨0, 0, .inr trivial⟩
      by_cases hv : v = row.ver
      · rw [k3 hv] at e
        refine OpRes.same h (run _ _ e) ?_
        simp only [RR, VR]
        exact ⟨_, rfl, row, k1, k2, fun _ => by simp [Nat.add_assoc]⟩
      · refine OpRes.same h (y := .pointer (some (ad.add fd.offset))) ?_ ?_
        · simp [execOp, ho, e, Instr.fieldAt, run_underlying hu, hf, Instr.sureAddr, fieldPlace, szOf_run hsz, h0]
        · simp only [RR, VR]
          exact ⟨_, rfl, row, k1, k2, fun e => absurd e hv⟩
    | _ => simp at h2
  | lp t' k =>
    simp only [Option.some.injEq, Prod.mk.injEq] at h2
    obtain ⟨rfl, rfl⟩ := h2
    exact OpRes.same h (run _ _ hp.2) ⟨hp.1, rfl⟩
  | ls els => simp at h2

theorem s_iadr (h : FI base c0 n c γ g bx tmps) (ha : a.tmps = tmps) {t e : TypeId} {x i : Operand} {xo io : XO} {sz : Nat} (ho : o.op = .indexAddr t x i) (hu : P.underlying t = some (.slice e)) (hsz : szOf P e = some sz)
    (hx : cO x = some xo) (hi : cO i = some io) {rv : RV} {M' : Mem} (he : evP g ⟨bx, c.σ⟩ (.iadr sz xo io) = some (rv, M')) : OpRes P base c0 n c g tmps a o rv M' := by
  simp only [evP, bind_some'] at he
  obtain ⟨av, h1, bv, h2, h3⟩ := he
  have hv := opndv h ha hx h1
  have hw := opndv h ha hi h2
  cases av with
  | sl r v s m =>
    cases bv with
    | int kd k =>
      simp only [rowAt, bind_some'] at h3
      obtain ⟨row, ⟨row', k1, k2⟩, h4⟩ := h3
      split at k2
      · rename_i hver
        cases k2
        split at h4
        · rename_i hc
          simp only [Option.some.injEq, Prod.mk.injEq] at h4
          obtain ⟨rfl, rfl⟩ := h4
          simp only [VR] at hv hw
          obtain ⟨ad, cap, e1, hn, row2, j1, j2, j3⟩ := hv
          rw [k1] at j1; cases j1
          have hcap : cap ≠ 0 := by omega
          obtain ⟨e2, _⟩ := j3 hver.1.symm hcap
          subst e2
          refine OpRes.same h (y := .pointer (some ⟨(c.β r).1, (c.β r).2 + s * row.sz + k.toNat * sz, none⟩)) ?_ ?_
          · have hk : (0 ≤ k ∧ k < (m : Int)) := ⟨hc.2.1, hc.2.2⟩
            simp [execOp, ho, e1, hw, Instr.indexAt, asIntOf, run_underlying hu, hk, szOf_run hsz, Addr.add_lit]
          · simp only [RR, VR]
            exact ⟨_, rfl, row, k1, by omega, fun _ => by simp only [hc.1, Nat.add_mul, Nat.add_zero, Nat.add_assoc]⟩
        · simp at h4
      · simp at k2
    | _ => simp at h3
  | _ => simp at h3

theorem VRs_part {c : Ctx} {cs : List AV} {xs : List Value} (h : VRs c cs xs) (k m : Nat) : VRs c ((cs.drop k).take m) ((xs.drop k).take m) := by
  have hl := VRs_length h
  refine VRs_of (by simp [hl]) fun i v x hv hx => ?_
  rw [List.getElem?_take] at hv hx
  split at hv
  · rename_i hlt
    rw [if_pos hlt] at hx
    rw [List.getElem?_drop] at hv hx
    obtain ⟨y, h1, h2⟩ := VRs_get h hv
    rw [hx] at h1; cases h1
    exact h2
  · simp at hv

theorem s_fld (h : FI base c0 n c γ g bx tmps) (ha : a.tmps = tmps) {t : TypeId} {x : Operand} {xo : XO} {f : Nat} {fs : Array Field} {fd : Field} {ag : Bool} {sz : Nat} (ho : o.op = .field t x f) (hu : P.underlying t = some (.struct fs)) (hf : fs[f]? = some fd)
    (hag : isAggT P fd.type = some ag) (hsz : szOf P fd.type = some sz) (hx : cO x = some xo) {rv : RV} {M' : Mem} (he : evP g ⟨bx, c.σ⟩ (.fld ag fd.offset sz xo) = some (rv, M')) : OpRes P base c0 n c g tmps a o rv M' := by
  simp only [evP, bind_some'] at he
  obtain ⟨av, h1, h2⟩ := he
  have hv := opndv h ha hx h1
  cases av with
  | agg cs =>
    simp only [bind_some', Option.some.injEq, Prod.mk.injEq] at h2
    obtain ⟨v, h3, rfl, rfl⟩ := h2
    rw [VR] at hv
    obtain ⟨xs, e, h4, h5⟩ := hv
    have hl := VRs_length h4
    unfold ld at h3
    cases ag with
    | true =>
      simp only [if_true] at h3
      split at h3
      · rename_i hle
        simp only [Option.some.injEq] at h3
        subst h3
        refine OpRes.same h (y := .agg (xs.extract fd.offset (fd.offset + sz))) ?_ ?_
        · simp [execOp, ho, e, Instr.field, run_underlying hu, hf, part, asAgg, isAggT_run hag, szOf_run hsz]
        · simp only [RR, VR]
          refine ⟨_, rfl, ?_, ?_⟩
          · have := VRs_part h4 fd.offset sz
            simpa [List.drop_take, Array.toList_extract, List.extract_eq_take_drop, Nat.add_sub_cancel_left] using this
          · intro z hz
            refine h5 z ?_
            have : z ∈ (xs.toList.drop fd.offset).take sz := by simpa [List.extract_eq_take_drop, Nat.add_sub_cancel_left] using hz
            exact List.mem_of_mem_drop (List.mem_of_mem_take this)
      · simp at h3
    | false =>
      simp only [Bool.false_eq_true, if_false] at h3
      obtain ⟨y, h6, h7⟩ := VRs_get h4 h3
      refine OpRes.same h (y := y) ?_ h7
      have h6' : xs[fd.offset]? = some y := by simpa using h6
      simp [execOp, ho, e, Instr.field, run_underlying hu, hf, part, asAgg, isAggT_run hag, h6']
  | _ => simp at h2

theorem str_eq {s t : ByteArray} {l m : List UInt8} (hs : s.data.toList = l) (ht : t.data.toList = m) : (s.toList == t.toList) = (l == m) := by
  rw [ByteArray.toList_eq, ByteArray.toList_eq, hs, ht]

theorem run_eqGuard_plain {op : BinOp} {t : TypeId} {x y : Operand} {u v : Value} (hu : u.oneCell' = true) (hn : u ≠ .nilIface) (w : World) : (eqGuard op t x y u v).run P w = .ok () w := by
  unfold eqGuard
  cases op <;> first
    | rfl
    | (cases u <;> first | rfl | (exact absurd rfl hn) | (simp [Value.oneCell'] at hu; done) | (cases v <;> rfl))

theorem RR_int {k : IntKind} {m : Int} : RR c γ bx (.v (.int k m)) (.int k m) := by simp only [RR, VR]
theorem RR_bool {b : Bool} : RR c γ bx (.v (.bool b)) (.bool b) := by simp only [RR, VR]
theorem RR_str {s : ByteArray} : RR c γ bx (.v (.str s.data.toList)) (.string s) := by simp only [RR, VR]; exact ⟨s, rfl, rfl⟩

theorem s_bin (h : FI base c0 n c γ g bx tmps) (ha : a.tmps = tmps) {op : BinOp} {t u : TypeId} {x y : Operand} {xo yo : XO} (ho : o.op = .binOp op t x y u) (hop : arithOp op = true) (hx : cO x = some xo) (hy : cO y = some yo) {rv : RV} {M' : Mem}
    (he : evP g ⟨bx, c.σ⟩ (.bin op xo yo) = some (rv, M')) : OpRes P base c0 n c g tmps a o rv M' := by
  simp only [evP, bind_some', Option.some.injEq, Prod.mk.injEq] at he
  obtain ⟨av, h1, bv, h2, v, h3, rfl, rfl⟩ := he
  have hv := opndv h ha hx h1
  have hw := opndv h ha hy h2
  cases av with
  | int k p =>
    cases bv with
    | int k' q =>
      simp only [VR] at hv hw
      simp only [binV] at h3
      split at h3
      · rename_i hk
        subst hk
        have hg := run_eqGuard_plain (P := P) (op := op) (t := t) (x := x) (y := y) (u := .int k p) (v := .int k q) rfl (by simp) c.w
        cases op <;> (try simp only [reduceCtorEq, arithOp] at hop h3) <;> first
          | (simp only [Option.some.injEq] at h3; subst h3; refine OpRes.same h ?_ RR_int; simp [execOp, ho, hv, hw, hg, binOp, Op.intArith]; done)
          | (simp only [Option.some.injEq] at h3; subst h3; refine OpRes.same h ?_ RR_bool; simp [execOp, ho, hv, hw, hg, binOp, Op.intCmp]; done)
          | (split at h3
             · simp at h3
             · rename_i hq
               simp only [Option.some.injEq] at h3; subst h3; refine OpRes.same h ?_ RR_int; simp [execOp, ho, hv, hw, hg, binOp, Op.intDiv, hq])
          | simp at hop
      · simp at h3
    | _ => simp [binV] at h3
  | str l =>
    cases bv with
    | str m =>
      simp only [VR] at hv hw
      obtain ⟨s, e1, rfl⟩ := hv
      obtain ⟨s', e2, rfl⟩ := hw
      have hg := run_eqGuard_plain (P := P) (op := op) (t := t) (x := x) (y := y) (u := .string s) (v := .string s') rfl (by simp) c.w
      have he := str_eq (s := s) (t := s') rfl rfl
      have hl : Op.bytesLess s.toList s'.toList = Op.bytesLess s.data.toList s'.data.toList := by rw [ByteArray.toList_eq, ByteArray.toList_eq]
      simp only [binV] at h3
      cases op <;> (try simp only [reduceCtorEq, arithOp] at hop h3) <;> first
        | (simp only [Option.some.injEq] at h3; subst h3; refine OpRes.same h ?_ RR_bool; simp only [execOp, ho, e1, e2, Sem.run_bind, hg, Result.andThen_ok, binOp, Op.stringOp, he, hl, Sem.run_pure]; done)
        | (split at h3
           · rename_i hq
             simp only [Option.some.injEq] at h3; subst h3
             have hq' : ¬ (((s.size + s'.size : Nat) : Int) > IntKind.i64.max) := by
               have : s.data.toList.length = s.size := by rw [Array.length_toList]; rfl
               have : s'.data.toList.length = s'.size := by rw [Array.length_toList]; rfl
               have : IntKind.i64.max = 9223372036854775807 := by decide
               omega
             refine OpRes.same h (y := .string (s ++ s')) ?_ ?_
             · simp only [execOp, ho, e1, e2, Sem.run_bind, hg, Result.andThen_ok, binOp, Op.stringOp, if_neg hq', Sem.run_pure]
             · simp only [RR, VR]
               exact ⟨_, rfl, by simp⟩
           · simp at h3)
        | simp at hop
    | _ => simp [binV] at h3
  | _ => simp [binV] at h3

end
end Go.X

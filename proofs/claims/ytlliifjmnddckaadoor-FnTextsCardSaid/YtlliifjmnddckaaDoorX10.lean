/- GoX, part 10: every resolved operation, calls among them, does in the model what the executor says. No statement of the seat is here. -/
import Derived.Test.YtlliifjmnddckaaDoorX9
set_option linter.unusedVariables false
set_option linter.unusedSimpArgs false
namespace Go.X
open Go

def Callable (P : Program) (f : FuncId) : Prop := ∃ fn, P.funcs[f]? = some fn ∧ (fn.name == "runtime.NumGoroutine") = false ∧ fn.body.isNone = false

/-- What lay below base when the outmost call began lies there still. -/
def Old (base : Nat) (W0 w : World) : Prop := ∀ b, b < base → w.heap[b]? = W0.heap[b]?
/-- What the executor tells of a call is what the model's call comes to. -/
def SoundCall (P : Program) (base : Nat) (W0 : World) (E : Call) : Prop := ∀ f as st r st', E f as st = some (r, st') → Callable P f ∧
  ∀ c xs, Sim base c → Old base W0 c.w → c.σ = st → VRs c as xs → Calls P f xs.toArray c.w fun e w' => ∃ c' y, e = .returned y ∧ c'.w = w' ∧ c'.σ = st' ∧ Sim base c' ∧ Evo (fun _ => False) c c' ∧ VR c' r y

section
variable {P : Program} {base : Nat} {W0 : World} {c0 : Ctx} {n : Nat} {c : Ctx} {γ : Nat → Nat} {g : Regs} {bx : Boxes} {tmps : Array Value} {a : Act} {o : Oper}

theorem cBin_sound (h : FI base c0 n c γ g bx tmps) (ha : a.tmps = tmps) {op : BinOp} {t u : TypeId} {x y : Operand} {xop : XOp} (ho : o.op = .binOp op t x y u) (hc : cBin P op t x y = some xop) {rv : RV} {M' : Mem} (he : evP g ⟨bx, c.σ⟩ xop = some (rv, M')) : OpRes P base c0 n c g tmps a o rv M' := by
  simp only [cBin, bind_some'] at hc
  obtain ⟨xo, h1, yo, h2, h3⟩ := hc
  split at h3
  · split at h3
    · rename_i hop; cases h3; exact s_bin h ha ho hop h1 h2 he
    · simp at h3
  · split at h3
    · rename_i hop; cases h3; exact s_bin h ha ho hop h1 h2 he
    · simp at h3
  · rename_i hu
    split at h3
    · cases h3; exact s_beq (neg := false) h ha ho hu h1 h2 he
    · cases h3; exact s_beq (neg := true) h ha ho hu h1 h2 he
    · simp at h3
  · rename_i fs hu
    split at h3
    · rename_i hg
      simp only [bind_some'] at h3
      obtain ⟨ks, h4, h5⟩ := h3
      split at h5
      · cases h5; exact s_seq (neg := false) h ha ho hu hg h4 h1 h2 he
      · cases h5; exact s_seq (neg := true) h ha ho hu hg h4 h1 h2 he
      · simp at h5
    · simp at h3
  · rename_i d _ _ _ _ hu
    simp only [bind_some'] at h3
    obtain ⟨k, h4, h5⟩ := h3
    split at h5
    · cases h5; exact s_isnil (neg := false) h ha ho hu h1 h4 he
    · cases h5; exact s_isnil (neg := true) h ha ho hu h1 h4 he
    · simp at h5
  · simp at h3

/-- The operations that call nothing. -/
theorem evP_sound (h : FI base c0 n c γ g bx tmps) (hb0 : base ≤ c0.w.heap.size) (ha : a.tmps = tmps) {lo : List Nat} {xop : XOp} (hc : compOp P lo o = some xop) {rv : RV} {M' : Mem} (he : evP g ⟨bx, c.σ⟩ xop = some (rv, M')) : OpRes P base c0 n c g tmps a o rv M' := by
  unfold compOp at hc
  split at hc
  · rename_i x ho
    simp only [Option.map_eq_some_iff] at hc
    obtain ⟨xo, h1, rfl⟩ := hc
    exact s_mv h ha (.inl ho) h1 he
  · rename_i x ho
    simp only [Option.map_eq_some_iff] at hc
    obtain ⟨xo, h1, rfl⟩ := hc
    exact s_mv h ha (.inr ho) h1 he
  · rename_i x y z ho
    simp only [bind_some', Option.some.injEq] at hc
    obtain ⟨xo, h1, yo, h2, zo, h3, rfl⟩ := hc
    exact s_pick h ha ho h1 h2 h3 he
  · rename_i e ho
    simp only [bind_some'] at hc
    obtain ⟨z, h1, d, h2, h3⟩ := hc
    split at h3
    · rename_i hp; cases h3; exact s_alloc h ha ho h1 hp he
    · simp at h3
  · rename_i e x ho
    simp only [bind_some'] at hc
    obtain ⟨s, h1, d, h2, xo, h3, h4⟩ := hc
    split at h4
    · rename_i hp; cases h4; exact s_box h ha ho h3 hp he
    · simp at h4
  · rename_i t x ho
    simp only [bind_some', Option.some.injEq] at hc
    obtain ⟨ag, h1, s, h2, xo, h3, rfl⟩ := hc
    exact s_load h ha ho h1 h2 h3 he
  · rename_i t p x ho
    simp only [bind_some', Option.some.injEq] at hc
    obtain ⟨s, h1, po, h2, xo, h3, rfl⟩ := hc
    exact s_store h hb0 ha ho h1 h2 h3 he
  · rename_i s x f ho
    split at hc
    · rename_i fs hu
      simp only [bind_some'] at hc
      obtain ⟨fd, h1, sz, h2, h3⟩ := hc
      split at h3
      · simp at h3
      · rename_i h0
        simp only [bind_some', Option.some.injEq] at h3
        obtain ⟨xo, h4, rfl⟩ := h3
        exact s_fadr h ha ho hu h1 h2 h0 h4 he
    · simp at hc
  · rename_i t x i ho
    split at hc
    · rename_i e hu
      simp only [bind_some', Option.some.injEq] at hc
      obtain ⟨s, h1, xo, h2, io, h3, rfl⟩ := hc
      exact s_iadr h ha ho hu h1 h2 h3 he
    · simp at hc
  · rename_i t x f ho
    split at hc
    · rename_i fs hu
      simp only [bind_some', Option.some.injEq] at hc
      obtain ⟨fd, h1, ag, h2, sz, h3, xo, h4, rfl⟩ := hc
      exact s_fld h ha ho hu h1 h2 h3 h4 he
    · simp at hc
  · rename_i op t x y u ho
    exact cBin_sound h ha ho hc he
  · rename_i t x ho
    simp only [Option.map_eq_some_iff] at hc
    obtain ⟨xo, h1, rfl⟩ := hc
    exact s_bnot h ha ho h1 he
  · rename_i t x ho
    simp only [Option.map_eq_some_iff] at hc
    obtain ⟨xo, h1, rfl⟩ := hc
    exact s_neg h ha ho h1 he
  · rename_i cl ho
    unfold cCall at hc
    split at hc
    · simp only [bind_some', Option.some.injEq] at hc
      obtain ⟨as, h1, rfl⟩ := hc
      simp [evP] at he
    · simp only [bind_some', Option.some.injEq] at hc
      obtain ⟨as, h1, rfl⟩ := hc
      simp [evP] at he
    · rename_i hcl
      split at hc
      · rename_i x t has hts
        have ho' : o.op = .call { callee := .builtin .len, args := cl.args, argTypes := cl.argTypes } := by rw [ho, ← hcl]
        split at hc
        · rename_i hu
          simp only [Option.map_eq_some_iff] at hc
          obtain ⟨xo, h1, rfl⟩ := hc
          exact s_len h ha ho' has hts (by simpa using hu) h1 he
        · rename_i e hu
          simp only [Option.map_eq_some_iff] at hc
          obtain ⟨xo, h1, rfl⟩ := hc
          exact s_len h ha ho' has hts (by simp [hu]) h1 he
        · simp at hc
      · simp at hc
    · rename_i hcl
      split at hc
      · rename_i x y has
        have ho' : o.op = .call { callee := .builtin (if true then .max else .min), args := cl.args, argTypes := cl.argTypes } := by rw [ho, if_pos rfl, ← hcl]
        simp only [bind_some', Option.some.injEq] at hc
        obtain ⟨xo, h1, yo, h2, rfl⟩ := hc
        exact s_mx h ha ho' has h1 h2 he
      · simp at hc
    · rename_i hcl
      split at hc
      · rename_i x y has
        have ho' : o.op = .call { callee := .builtin (if false then .max else .min), args := cl.args, argTypes := cl.argTypes } := by rw [ho, if_neg (by simp), ← hcl]
        simp only [bind_some', Option.some.injEq] at hc
        obtain ⟨xo, h1, yo, h2, rfl⟩ := hc
        exact s_mx h ha ho' has h1 h2 he
      · simp at hc
    · rename_i hcl
      split at hc
      · rename_i x y t u has hts
        have ho' : o.op = .call { callee := .builtin .append, args := cl.args, argTypes := cl.argTypes } := by rw [ho, ← hcl]
        split at hc
        · rename_i e e' ht hu
          simp only [bind_some'] at hc
          obtain ⟨i, h1, z, h2, h3⟩ := hc
          split at h3
          · rename_i hcnd
            simp only [bind_some', Option.some.injEq] at h3
            obtain ⟨xo, h4, yo, h5, rfl⟩ := h3
            exact s_app h ha ho' has hts ht hu h1 h2 hcnd.1 hcnd.2.1 hcnd.2.2 h4 h5 he
          · simp at h3
        · simp at hc
      · simp at hc
    · simp at hc
  · rename_i x i ho
    simp only [Option.map_eq_some_iff] at hc
    obtain ⟨xo, h1, rfl⟩ := hc
    exact s_ext h ha ho h1 he
  · rename_i t parts ho
    split at hc
    · rename_i fs hu
      simp only [bind_some', Option.some.injEq] at hc
      obtain ⟨z, h1, pl, h2, ps, h3, rfl⟩ := hc
      exact s_build h ha ho hu h1 h2 h3 he
    · simp at hc
  · rename_i t k parts ho
    split at hc
    · rename_i e hu
      simp only [bind_some'] at hc
      obtain ⟨s, h1, z, h2, d, h3, ps, h4, h5⟩ := hc
      split at h5
      · rename_i hcnd
        cases h5
        exact s_bsl h ha ho hu h1 h2 h4 hcnd.1 hcnd.2.1 hcnd.2.2 he
      · simp at h5
    · simp at hc
  · rename_i t x l r ho
    split at hc
    · rename_i e hu
      simp only [bind_some', Option.some.injEq] at hc
      obtain ⟨s, h1, xo, h2, lo', h3, hi', h4, rfl⟩ := hc
      exact s_slc h ha ho hu h1 h2 h3 h4 he
    · rename_i hu
      simp only [bind_some', Option.some.injEq] at hc
      obtain ⟨xo, h2, lo', h3, hi', h4, rfl⟩ := hc
      exact s_sstr h ha ho hu h2 h3 h4 he
    · simp at hc
  · rename_i t x i ho
    split at hc
    · rename_i hu
      simp only [bind_some', Option.some.injEq] at hc
      obtain ⟨xo, h1, io, h2, rfl⟩ := hc
      exact s_idx h ha ho hu h1 h2 he
    · simp at hc
  · rename_i s d x ho
    split at hc
    · rename_i ks k hs hd
      simp only [Option.map_eq_some_iff] at hc
      obtain ⟨xo, h1, rfl⟩ := hc
      exact s_cvt h ha ho hs hd h1 he
    · rename_i e hs hd
      split at hc
      · rename_i hu
        split at hc
        · rename_i hsz
          simp only [Option.map_eq_some_iff] at hc
          obtain ⟨xo, h1, rfl⟩ := hc
          exact s_s2b h ha ho hs hd hu hsz h1 he
        · simp at hc
      · simp at hc
    · rename_i e hs hd
      split at hc
      · rename_i hu
        simp only [Option.map_eq_some_iff] at hc
        obtain ⟨xo, h1, rfl⟩ := hc
        exact s_b2s h ha ho hs hd hu h1 he
      · simp at hc
    · simp at hc
  · rename_i t x y ho
    split at hc
    · rename_i e hu
      simp only [bind_some'] at hc
      obtain ⟨i, h1, z, h2, xo, h3, yo, h4, h5⟩ := hc
      split at h5
      · rename_i hcnd
        cases h5
        exact s_mks h ha ho hu h1 h2 hcnd.1 hcnd.2 h3 h4 he
      · simp at h5
    · simp at hc
  · rename_i x ho
    simp only [Option.map_eq_some_iff] at hc
    obtain ⟨xo, h1, rfl⟩ := hc
    exact s_nilc h ha ho h1 he
  · rename_i f first caps ho
    split at hc
    · rename_i hf
      simp only [Option.map_eq_some_iff] at hc
      obtain ⟨xos, h1, rfl⟩ := hc
      exact s_mkf h ha ho hf h1 he
    · simp at hc
  · simp at hc

theorem run_callFunc {f : FuncId} (hf : Callable P f) (args : Array Value) (w : World) : (callFunc f args).run P w = .ok (.enter f args) w := by
  obtain ⟨fn, h1, h2, h3⟩ := hf
  unfold callFunc
  simp only [Sem.run_bind, run_program, Result.andThen_ok, h1, h2, h3, Bool.false_eq_true, if_false, Sem.run_pure]

def XOp.isCall : XOp → Bool
  | .call .. => true
  | .calld .. => true
  | _ => false

theorem cBin_ncall {op : BinOp} {t : TypeId} {x y : Operand} {xop : XOp} (hc : cBin P op t x y = some xop) : xop.isCall = false := by
  simp only [cBin, bind_some'] at hc
  obtain ⟨xo, h1, yo, h2, h3⟩ := hc
  split at h3
  · split at h3
    · cases h3; rfl
    · simp at h3
  · split at h3
    · cases h3; rfl
    · simp at h3
  · split at h3
    · cases h3; rfl
    · cases h3; rfl
    · simp at h3
  · split at h3
    · simp only [bind_some'] at h3
      obtain ⟨ks, h4, h5⟩ := h3
      split at h5
      · cases h5; rfl
      · cases h5; rfl
      · simp at h5
    · simp at h3
  · simp only [bind_some'] at h3
    obtain ⟨k, h4, h5⟩ := h3
    split at h5
    · cases h5; rfl
    · cases h5; rfl
    · simp at h5
  · simp at h3

theorem isCall_of_some {α : Type} {o : Option α} {f : α → XOp} {xop : XOp} (h : o.map f = some xop) (hf : ∀ a, (f a).isCall = false) : xop.isCall = false := by
  rw [Option.map_eq_some_iff] at h
  obtain ⟨a, _, rfl⟩ := h
  exact hf a

theorem isCall_of_ite {c : Prop} [Decidable c] {x xop : XOp} (h : (if c then some x else none) = some xop) (hf : x.isCall = false) : xop.isCall = false := by
  split at h
  · cases h; exact hf
  · simp at h

theorem compOp_ncall {lo : List Nat} {xop : XOp} (hn : ∀ cl, o.op ≠ .call cl) (hc : compOp P lo o = some xop) : xop.isCall = false := by
  unfold compOp at hc
  split at hc
  all_goals try (exact absurd ‹_› (hn _))
  all_goals try (exact isCall_of_some hc (fun _ => rfl))
  all_goals try (exact cBin_ncall hc)
  all_goals try (simp at hc; done)
  · simp only [bind_some', Option.some.injEq] at hc; obtain ⟨_, _, _, _, _, _, rfl⟩ := hc; rfl
  · simp only [bind_some'] at hc; obtain ⟨_, _, _, _, h⟩ := hc; exact isCall_of_ite h rfl
  · simp only [bind_some'] at hc; obtain ⟨_, _, _, _, _, _, h⟩ := hc; exact isCall_of_ite h rfl
  · simp only [bind_some', Option.some.injEq] at hc; obtain ⟨_, _, _, _, _, _, rfl⟩ := hc; rfl
  · simp only [bind_some', Option.some.injEq] at hc; obtain ⟨_, _, _, _, _, _, rfl⟩ := hc; rfl
  · split at hc
    · simp only [bind_some'] at hc; obtain ⟨_, _, _, _, h⟩ := hc
      split at h
      · simp at h
      · simp only [bind_some', Option.some.injEq] at h; obtain ⟨_, _, rfl⟩ := h; rfl
    · simp at hc
  · split at hc
    · simp only [bind_some', Option.some.injEq] at hc; obtain ⟨_, _, _, _, _, _, rfl⟩ := hc; rfl
    · simp at hc
  · split at hc
    · simp only [bind_some', Option.some.injEq] at hc; obtain ⟨_, _, _, _, _, _, _, _, rfl⟩ := hc; rfl
    · simp at hc
  · split at hc
    · simp only [bind_some', Option.some.injEq] at hc; obtain ⟨_, _, _, _, _, _, rfl⟩ := hc; rfl
    · simp at hc
  · split at hc
    · simp only [bind_some'] at hc; obtain ⟨_, _, _, _, _, _, _, _, h⟩ := hc; exact isCall_of_ite h rfl
    · simp at hc
  · split at hc
    · simp only [bind_some', Option.some.injEq] at hc; obtain ⟨_, _, _, _, _, _, _, _, rfl⟩ := hc; rfl
    · simp only [bind_some', Option.some.injEq] at hc; obtain ⟨_, _, _, _, _, _, rfl⟩ := hc; rfl
    · simp at hc
  · split at hc
    · simp only [bind_some', Option.some.injEq] at hc; obtain ⟨_, _, _, _, rfl⟩ := hc; rfl
    · simp at hc
  · split at hc
    · exact isCall_of_some hc (fun _ => rfl)
    · split at hc
      · split at hc
        · exact isCall_of_some hc (fun _ => rfl)
        · simp at hc
      · simp at hc
    · split at hc
      · exact isCall_of_some hc (fun _ => rfl)
      · simp at hc
    · simp at hc
  · split at hc
    · simp only [bind_some'] at hc; obtain ⟨_, _, _, _, _, _, _, _, h⟩ := hc; exact isCall_of_ite h rfl
    · simp at hc
  · split at hc
    · exact isCall_of_some hc (fun _ => rfl)
    · simp at hc

/-- An operation, in the model's own form: whatever holds behind it. -/
theorem FI.old (h : FI base c0 n c γ g bx tmps) (hb0 : base ≤ c0.w.heap.size) (hw0 : Sim base c0 ∧ Old base W0 c0.w) : Old base W0 c.w := by
  intro b hb
  rw [h.evo.keep b (Nat.lt_of_lt_of_le hb hb0) (fun h => h) (by
    rintro ⟨r, row, h1, h2, h3⟩
    cases e : row.kd with
    | ro => exact h2 e
    | own => have := ((hw0.1.rows r row h1).own e).1; omega
    | map => exact (hw0.1.rows r row h1).nomap e)]
  exact hw0.2 b hb
theorem op_sound {E : Call} (hE : SoundCall P base W0 E) (hw0 : Sim base c0 ∧ Old base W0 c0.w) (h : FI base c0 n c γ g bx tmps) (hb0 : base ≤ c0.w.heap.size) (ha : a.tmps = tmps) {lo : List Nat} {xop : XOp} (hc : compOp P lo o = some xop) {rv : RV} {M' : Mem} (he : evOp E g ⟨bx, c.σ⟩ xop = some (rv, M'))
    {K : Act → World → Prop} {Q : Exit → Act → World → Prop} (hK : ∀ c' γ' y, c'.σ = M'.st → FI base c0 n c' γ' g M'.bx tmps → RR c' γ' M'.bx rv y → K (a.put o.dst y) c'.w) : o.wp P a c.w K Q := by
  have pure : (he' : evP g ⟨bx, c.σ⟩ xop = some (rv, M')) → o.wp P a c.w K Q := by
    intro he'
    obtain ⟨c', γ', y, hr, h1, h2, h3⟩ := evP_sound h hb0 ha hc he'
    have := hK c' γ' y h1 h2 h3
    unfold Oper.wp
    rcases hr with hr | ⟨hr, rfl⟩ <;> rw [hr] <;> exact this
  have call : ∀ (f : FuncId) (as : List AV) (xs : List Value) (r : AV) (st' : Store), E f as c.σ = some (r, st') → VRs c as xs → rv = .v r → M' = ⟨bx, st'⟩ →
      (execOp a.eval o).run P c.w = (callFunc f xs.toArray).run P c.w → o.wp P a c.w K Q := by
    intro f as xs r st' h1 h2 e1 e2 hrun
    obtain ⟨hf, hcl⟩ := hE f as c.σ r st' h1
    unfold Oper.wp
    rw [hrun, run_callFunc hf]
    show Calls P f xs.toArray c.w _
    refine (hcl c xs h.sim (h.old hb0 hw0) rfl h2).mono ?_
    rintro e w' ⟨c', y, rfl, rfl, h3, h4, h5, h6⟩
    subst e1; subst e2
    exact hK c' γ y h3 (h.next h4 h5) h6
  by_cases hn : ∃ cl, o.op = .call cl
  · obtain ⟨cl, ho⟩ := hn
    have hcc : cCall P cl = some xop := by
      unfold compOp at hc
      rw [ho] at hc
      exact hc
    unfold cCall at hcc
    split at hcc
    · rename_i f hcal
      simp only [bind_some', Option.some.injEq] at hcc
      obtain ⟨as, h1, rfl⟩ := hcc
      simp only [evOp, bind_some', Option.some.injEq, Prod.mk.injEq] at he
      obtain ⟨avs, h2, ⟨r, st'⟩, h3, rfl, rfl⟩ := he
      refine call f avs _ r st' h3 (opndvs h ha h1 h2) rfl rfl ?_
      have hm : (List.map a.eval cl.args.toList).toArray = cl.args.map a.eval := by apply Array.ext'; simp
      rw [hm]
      simp [execOp, ho, resolve, hcal, Deferred.ofValue, Act.eval, invoke]
    · rename_i t hcal
      simp only [bind_some', Option.some.injEq] at hcc
      obtain ⟨as, h1, rfl⟩ := hcc
      simp only [evOp, bind_some'] at he
      obtain ⟨fv, h2, h3⟩ := he
      have hfv := opndv (x := .tmp t) h ha rfl h2
      cases fv with
      | fn f caps =>
        simp only [bind_some', Option.some.injEq, Prod.mk.injEq] at h3
        obtain ⟨avs, h4, ⟨r, st'⟩, h5, rfl, rfl⟩ := h3
        rw [VR] at hfv
        obtain ⟨xs, e, h6⟩ := hfv
        have hargs := opndvs h ha h1 h4
        have happ : VRs c (avs ++ caps) ((cl.args.toList.map a.eval) ++ xs.toList) := by
          have l1 := VRs_length hargs
          have l2 := VRs_length h6
          refine VRs_of (by simp only [List.length_append, l1, l2]) fun i v x hv hx => ?_
          rcases Nat.lt_or_ge i avs.length with hlt | hge
          · rw [List.getElem?_append_left hlt] at hv
            rw [List.getElem?_append_left (by rw [← l1]; exact hlt)] at hx
            obtain ⟨y, k1, k2⟩ := VRs_get hargs hv
            rw [hx] at k1; cases k1; exact k2
          · rw [List.getElem?_append_right hge] at hv
            rw [List.getElem?_append_right (by rw [← l1]; exact hge), ← l1] at hx
            obtain ⟨y, k1, k2⟩ := VRs_get h6 hv
            rw [hx] at k1; cases k1; exact k2
        refine call f _ _ r st' h5 happ rfl rfl ?_
        have ht : a.eval (.tmp t) = .func (.func f) #[] xs := e
        simp only [execOp, ho, resolve, hcal, ht, Deferred.ofValue, invoke, Sem.run_bind, Sem.run_pure, Result.andThen_ok]
        congr 2
        apply Array.ext'
        simp
      | _ => simp at h3
    · split at hcc
      · split at hcc
        · exact pure (by
            simp only [Option.map_eq_some_iff] at hcc
            obtain ⟨xo, h1, rfl⟩ := hcc
            exact he)
        · exact pure (by
            simp only [Option.map_eq_some_iff] at hcc
            obtain ⟨xo, h1, rfl⟩ := hcc
            exact he)
        · simp at hcc
      · simp at hcc
    · split at hcc
      · simp only [bind_some', Option.some.injEq] at hcc
        obtain ⟨xo, h1, yo, h2, rfl⟩ := hcc
        exact pure he
      · simp at hcc
    · split at hcc
      · simp only [bind_some', Option.some.injEq] at hcc
        obtain ⟨xo, h1, yo, h2, rfl⟩ := hcc
        exact pure he
      · simp at hcc
    · split at hcc
      · split at hcc
        · simp only [bind_some'] at hcc
          obtain ⟨i, h1, z, h2, h3⟩ := hcc
          split at h3
          · simp only [bind_some', Option.some.injEq] at h3
            obtain ⟨xo, h4, yo, h5, rfl⟩ := h3
            exact pure he
          · simp at h3
        · simp at hcc
      · simp at hcc
    · simp at hcc
  · have hnc := compOp_ncall (fun cl e => hn ⟨cl, e⟩) hc
    refine pure ?_
    cases xop <;> first | exact he | (simp [XOp.isCall] at hnc)

end
end Go.X

/- GoX, part 4: each operation that calls nothing does in the model what the executor says. No statement of the seat is here. -/
import Derived.Test.YtlliifjmnddckaaDoorX3
set_option linter.unusedVariables false
set_option linter.unusedSimpArgs false
namespace Go.X
open Go

def OpRes (P : Program) (base : Nat) (c0 : Ctx) (n : Nat) (c : Ctx) (g : Regs) (tmps : Array Value) (a : Act) (o : Oper) (rv : RV) (M' : Mem) : Prop :=
  ∃ c' γ' y, ((execOp a.eval o).run P c.w = .ok (.value y) c'.w ∨ ((execOp a.eval o).run P c.w = .ok .skip c'.w ∧ y = undef)) ∧
    c'.σ = M'.st ∧ FI base c0 n c' γ' g M'.bx tmps ∧ RR c' γ' M'.bx rv y

/-! ### Operands -/

theorem allSome_get {α β : Type} {f : α → Option β} : ∀ {l : List α} {m : List β}, allSome f l = some m → l.length = m.length ∧ ∀ (i : Nat) (b : β), m[i]? = some b → ∃ a, l[i]? = some a ∧ f a = some b
  | [], m, h => by
    simp only [allSome, Option.some.injEq] at h
    subst h
    simp
  | a :: l, m, h => by
    simp only [allSome, bind_some', Option.some.injEq] at h
    obtain ⟨b, h1, bs, h2, rfl⟩ := h
    obtain ⟨h3, h4⟩ := allSome_get h2
    refine ⟨by simp [h3], fun i b' hb => ?_⟩
    cases i with
    | zero => simp at hb; subst hb; exact ⟨a, rfl, h1⟩
    | succ i =>
      simp at hb
      obtain ⟨a', h5, h6⟩ := h4 i b' hb
      exact ⟨a', by simpa using h5, h6⟩

theorem cvCell_sound {c : Ctx} {v : Value} {a : AV} (h : cvCell v = some a) : VR c a v ∧ v.oneCell' = true := by
  unfold cvCell at h
  split at h <;> first
    | (cases h; exact ⟨by simp [VR, VRs], rfl⟩)
    | simp at h

theorem cvAV_sound {c : Ctx} {v : Value} {a : AV} (h : cvAV v = some a) : VR c a v := by
  unfold cvAV at h
  split at h
  · rename_i cs
    simp only [Option.map_eq_some_iff] at h
    obtain ⟨as, h1, rfl⟩ := h
    obtain ⟨hl, hg⟩ := allSome_get h1
    rw [VR]
    refine ⟨cs, rfl, VRs_of hl.symm fun i a x ha hx => ?_, fun y hy => ?_⟩
    · obtain ⟨v, h2, h3⟩ := hg i a ha
      rw [h2] at hx; cases hx
      exact (cvCell_sound h3).1
    · obtain ⟨i, hi, rfl⟩ := List.getElem_of_mem hy
      have : i < as.length := by omega
      obtain ⟨v, h2, h3⟩ := hg i as[i] (List.getElem?_eq_getElem this)
      have := (List.getElem?_eq_some_iff.1 h2).2
      rw [this]
      exact (cvCell_sound (c := c) h3).2
  · exact (cvCell_sound h).1

section
variable {P : Program} {base : Nat} {c0 : Ctx} {n : Nat} {c : Ctx} {γ : Nat → Nat} {g : Regs} {bx : Boxes} {tmps : Array Value} {a : Act}

theorem opnd (h : FI base c0 n c γ g bx tmps) (ha : a.tmps = tmps) {x : Operand} {xo : XO} (hx : cO x = some xo) {rv : RV} (he : ev g xo = some rv) : RR c γ bx rv (a.eval x) := by
  cases x with
  | tmp t =>
    simp only [cO, Option.some.injEq] at hx
    subst hx
    have := h.regs t rv he
    rw [← ha] at this
    exact this
  | const v =>
    simp only [cO, Option.map_eq_some_iff] at hx
    obtain ⟨av, h1, rfl⟩ := hx
    simp only [ev, Option.some.injEq] at he
    subst he
    exact cvAV_sound h1
  | func f =>
    simp only [cO, Option.some.injEq] at hx
    subst hx
    simp only [ev, Option.some.injEq] at he
    subst he
    simp [RR, VR, VRs, Act.eval]
  | global q => simp [cO] at hx

theorem opndv (h : FI base c0 n c γ g bx tmps) (ha : a.tmps = tmps) {x : Operand} {xo : XO} (hx : cO x = some xo) {av : AV} (he : evv g xo = some av) : VR c av (a.eval x) := by
  unfold evv at he
  rw [bind_some'] at he
  obtain ⟨rv, h1, h2⟩ := he
  have := opnd h ha hx h1
  cases rv with
  | v b => simp only [RV.av, Option.some.injEq] at h2; subst h2; exact this
  | lp t o => simp [RV.av] at h2
  | ls els => simp [RV.av] at h2

theorem opndvs (h : FI base c0 n c γ g bx tmps) (ha : a.tmps = tmps) : ∀ {xs : List Operand} {xos : List XO}, allSome cO xs = some xos → ∀ {avs : List AV}, evs g xos = some avs → VRs c avs (xs.map a.eval)
  | [], xos, hx, avs, he => by
    simp only [allSome, Option.some.injEq] at hx
    subst hx
    simp only [evs, Option.some.injEq] at he
    subst he
    simp [VRs]
  | x :: xs, xos, hx, avs, he => by
    simp only [allSome, bind_some', Option.some.injEq] at hx
    obtain ⟨xo, h1, xos', h2, rfl⟩ := hx
    simp only [evs, bind_some', Option.some.injEq] at he
    obtain ⟨av, h3, avs', h4, rfl⟩ := he
    rw [List.map_cons, VRs]
    exact ⟨opndv h ha h1 h3, opndvs h ha h2 h4⟩

/-- An operation that changes nothing. -/
theorem OpRes.same (h : FI base c0 n c γ g bx tmps) {o : Oper} {rv : RV} {y : Value} (hr : (execOp a.eval o).run P c.w = .ok (.value y) c.w) (hy : RR c γ bx rv y) : OpRes P base c0 n c g tmps a o rv ⟨bx, c.σ⟩ :=
  ⟨c, γ, y, .inl hr, rfl, h, hy⟩

/-! ### Values -/

theorem cellsOf_sound {c : Ctx} {av : AV} {cs : List AV} (h : cellsOf av = some cs) {y : Value} (hy : VR c av y) : VRs c cs y.cells.toList ∧ ∀ z ∈ y.cells.toList, z.oneCell' = true := by
  cases av with
  | un => simp [cellsOf] at h
  | undef => simp [cellsOf] at h
  | tup _ => simp [cellsOf] at h
  | agg l =>
    simp only [cellsOf, Option.some.injEq] at h
    subst h
    rw [VR] at hy
    obtain ⟨xs, rfl, h1, h2⟩ := hy
    exact ⟨h1, h2⟩
  | int k m => simp only [cellsOf, Option.some.injEq] at h; subst h; have hy' := hy; rw [VR] at hy; subst hy; exact ⟨by simp [Value.cells, VRs, hy'], by simp [Value.cells, Value.oneCell']⟩
  | bool b => simp only [cellsOf, Option.some.injEq] at h; subst h; have hy' := hy; rw [VR] at hy; subst hy; exact ⟨by simp [Value.cells, VRs, hy'], by simp [Value.cells, Value.oneCell']⟩
  | str l => simp only [cellsOf, Option.some.injEq] at h; subst h; have hy' := hy; rw [VR] at hy; obtain ⟨s, rfl, _⟩ := hy; exact ⟨by simp [Value.cells, VRs, hy'], by simp [Value.cells, Value.oneCell']⟩
  | ptr r v i o => simp only [cellsOf, Option.some.injEq] at h; subst h; have hy' := hy; rw [VR] at hy; obtain ⟨s, rfl, _⟩ := hy; exact ⟨by simp [Value.cells, VRs, hy'], by simp [Value.cells, Value.oneCell']⟩
  | nilptr => simp only [cellsOf, Option.some.injEq] at h; subst h; have hy' := hy; rw [VR] at hy; subst hy; exact ⟨by simp [Value.cells, VRs, hy'], by simp [Value.cells, Value.oneCell']⟩
  | sl r v i m => simp only [cellsOf, Option.some.injEq] at h; subst h; have hy' := hy; rw [VR] at hy; obtain ⟨s, cap, rfl, _⟩ := hy; exact ⟨by simp [Value.cells, VRs, hy'], by simp [Value.cells, Value.oneCell']⟩
  | nilsl => simp only [cellsOf, Option.some.injEq] at h; subst h; have hy' := hy; rw [VR] at hy; subst hy; exact ⟨by simp [Value.cells, VRs, hy'], by simp [Value.cells, Value.oneCell']⟩
  | fn f l => simp only [cellsOf, Option.some.injEq] at h; subst h; have hy' := hy; rw [VR] at hy; obtain ⟨s, rfl, _⟩ := hy; exact ⟨by simp [Value.cells, VRs, hy'], by simp [Value.cells, Value.oneCell']⟩
  | nilfn => simp only [cellsOf, Option.some.injEq] at h; subst h; have hy' := hy; rw [VR] at hy; subst hy; exact ⟨by simp [Value.cells, VRs, hy'], by simp [Value.cells, Value.oneCell']⟩
  | ifc t x => simp only [cellsOf, Option.some.injEq] at h; subst h; have hy' := hy; rw [VR] at hy; obtain ⟨s, rfl, _⟩ := hy; exact ⟨by simp [Value.cells, VRs, hy'], by simp [Value.cells, Value.oneCell']⟩
  | nilifc => simp only [cellsOf, Option.some.injEq] at h; subst h; have hy' := hy; rw [VR] at hy; subst hy; exact ⟨by simp [Value.cells, VRs, hy'], by simp [Value.cells, Value.oneCell']⟩
  | mp r v => simp only [cellsOf, Option.some.injEq] at h; subst h; have hy' := hy; rw [VR] at hy; obtain ⟨s, rfl, _⟩ := hy; exact ⟨by simp [Value.cells, VRs, hy'], by simp [Value.cells, Value.oneCell']⟩
  | nilmp => simp only [cellsOf, Option.some.injEq] at h; subst h; have hy' := hy; rw [VR] at hy; subst hy; exact ⟨by simp [Value.cells, VRs, hy'], by simp [Value.cells, Value.oneCell']⟩

/-- Cells that lie in memory, one behind the other from (b, o) on. -/
def Lies (c : Ctx) (b o : Nat) (cs : List AV) : Prop := ∀ (j : Nat) (v : AV), cs[j]? = some v → ∃ x, c.w.cell? ⟨b, o + j, none⟩ = some x ∧ VR c v x ∧ x.oneCell' = true

theorem Lies.values {c : Ctx} {b o : Nat} {cs : List AV} (h : Lies c b o cs) : ∃ xs : List Value, xs.length = cs.length ∧ VRs c cs xs ∧ (∀ z ∈ xs, z.oneCell' = true) ∧ ∀ (j : Nat) (x : Value), xs[j]? = some x → c.w.cell? ⟨b, o + j, none⟩ = some x := by
  induction cs generalizing o with
  | nil => exact ⟨[], rfl, by simp [VRs], by simp, by simp⟩
  | cons v cs ih =>
    obtain ⟨x, h1, h2, h3⟩ := h 0 v rfl
    obtain ⟨xs, k1, k2, k3, k4⟩ := ih (o := o + 1) (fun j v hv => by
      have := h (j + 1) v (by simpa using hv)
      rwa [show o + (j + 1) = o + 1 + j by omega] at this)
    refine ⟨x :: xs, by simp [k1], by rw [VRs]; exact ⟨h2, k2⟩, ?_, ?_⟩
    · intro z hz
      rcases List.mem_cons.1 hz with rfl | hz
      · exact h3
      · exact k3 z hz
    · intro j y hy
      cases j with
      | zero => simp at hy; subst hy; simpa using h1
      | succ j =>
        simp at hy
        rw [show o + (j + 1) = o + 1 + j by omega]
        exact k4 j y hy

theorem Lies.part {c : Ctx} {b o : Nat} {cs : List AV} (h : Lies c b o cs) (k m : Nat) : Lies c b (o + k) ((cs.drop k).take m) := by
  intro j v hv
  rw [List.getElem?_take] at hv
  split at hv
  · rw [List.getElem?_drop] at hv
    have := h (k + j) v hv
    rwa [show o + (k + j) = o + k + j by omega] at this
  · simp at hv

theorem isAggT_run {t : TypeId} {ag : Bool} (h : isAggT P t = some ag) (w : World) : (isAgg t).run P w = .ok ag w := by
  unfold isAggT at h
  unfold isAgg
  split at h
  · rename_i fs hu; cases h; simp [run_underlying hu]
  · rename_i x y hu; cases h; simp [run_underlying hu]
  · rename_i d h1 h2 hu
    cases h
    simp only [Sem.run_bind, run_underlying hu, Result.andThen_ok]
    cases d <;> first | (exact absurd rfl (h1 _)) | (exact absurd rfl (h2 _ _)) | rfl
  · simp at h

theorem szOf_run {t : TypeId} {s : Nat} (h : szOf P t = some s) (w : World) : (sizeOf t).run P w = .ok s w := by
  unfold szOf at h
  rw [Option.map_eq_some_iff] at h
  obtain ⟨i, h1, rfl⟩ := h
  simp [sizeOf, typeInfo, h1]

/-- A load. -/
theorem load_sound {c : Ctx} {t : TypeId} {ag : Bool} {sz : Nat} (hag : isAggT P t = some ag) (hsz : szOf P t = some sz) {b o k : Nat} {cs : List AV} (hl : Lies c b o cs) {v : AV} (hv : ld ag sz k cs = some v) :
    ∃ y, (loadVar t ⟨b, o + k, none⟩).run P c.w = .ok y c.w ∧ VR c v y := by
  unfold loadVar
  simp only [Sem.run_bind, isAggT_run hag, Result.andThen_ok]
  unfold ld at hv
  cases ag with
  | true =>
    simp only [if_true] at hv ⊢
    split at hv
    · rename_i hle
      simp only [Option.some.injEq] at hv
      subst hv
      obtain ⟨xs, h1, h2, h3, h4⟩ := (hl.part k sz).values
      have hlen : xs.length = sz := by rw [h1, List.length_take, List.length_drop]; omega
      have hr := run_loadCells_list (P := P) c.w ⟨b, o + k, none⟩ xs (fun j x hx => by rw [Addr.add_lit]; exact h4 j x hx)
      refine ⟨.agg xs.toArray, ?_, ?_⟩
      · simp only [Sem.run_bind, szOf_run hsz, Result.andThen_ok]
        rw [hlen] at hr
        simp [hr]
      · rw [VR]
        exact ⟨xs.toArray, rfl, h2, h3⟩
    · simp at hv
  | false =>
    simp only [Bool.false_eq_true, if_false] at hv ⊢
    obtain ⟨x, h1, h2, h3⟩ := hl k v hv
    exact ⟨x, by simp [run_load, h1], h2⟩

/-- What a pointer leads to lies in memory. -/
theorem place_lies (h : FI base c0 n c γ g bx tmps) {rv : RV} {y : Value} (hr : RR c γ bx rv y) {cs : List AV} {k : Nat} (hp : place ⟨bx, c.σ⟩ rv = some (cs, k)) :
    ∃ b o, y = .pointer (some ⟨b, o + k, none⟩) ∧ Lies c b o cs := by
  cases rv with
  | v av =>
    cases av with
    | ptr r v i o =>
      simp only [place, rowAt, bind_some', Option.some.injEq, Prod.mk.injEq] at hp
      obtain ⟨row, ⟨row', h1, h2⟩, cs', h3, rfl, rfl⟩ := hp
      split at h2
      · rename_i hv
        cases h2
        simp only [RR, VR] at hr
        obtain ⟨a, rfl, row2, k1, k2, k3⟩ := hr
        rw [h1] at k1; cases k1
        refine ⟨(c.β r).1, (c.β r).2 + i * row.sz, by rw [k3 hv.1.symm], fun j v hj => ?_⟩
        exact (h.sim.rows r row h1).cells i cs' j v h3 hj
      · simp at h2
    | _ => simp [place] at hp
  | lp t o =>
    simp only [place, bind_some', Option.some.injEq, Prod.mk.injEq] at hp
    obtain ⟨cs', h1, rfl, rfl⟩ := hp
    obtain ⟨_, rfl⟩ := hr
    obtain ⟨_, hlt, ho, xs, ty, h2, h3, h4⟩ := h.boxes t cs' h1
    refine ⟨γ t, 0, by simp, fun j v hj => ?_⟩
    obtain ⟨y, h5, h6, h7⟩ := h4 j v hj
    exact ⟨y, by simp [World.cell?, h2, h5], h6, h7⟩
  | ls els => simp [place] at hp

end
end Go.X

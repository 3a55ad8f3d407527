/- GoX, part 13: regions, code, functions: what the executor tells of a call is what the model's call comes to. No statement of the seat is here. -/
import Derived.Test.YtlliifjmnddckaaDoorX12
import Derived.LoopN
set_option linter.unusedVariables false
set_option linter.unusedSimpArgs false
namespace Go.X
open Go

section
variable {P : Program} {base : Nat} {W0 : World} {c0 : Ctx} {n : Nat} {c : Ctx} {γ : Nat → Nat} {g : Regs} {bx : Boxes} {tmps : Array Value}

theorem wanted_sound (h : FI base c0 n c γ g bx tmps) {ops : Array Oper} {o : Oper} {gd : Option (Nat × Bool)} (hg : compGd ops o.guard = some gd) {w : Bool} (hw : wants g gd = some w) : Region.wanted o (yielded ops tmps) = w := by
  unfold Region.wanted
  cases hgu : o.guard with
  | none =>
    rw [hgu] at hg
    simp only [compGd, Option.some.injEq] at hg
    subst hg
    simp only [wants, Option.some.injEq] at hw
    simp only [hw]
  | some p =>
    obtain ⟨j, b⟩ := p
    rw [hgu] at hg
    simp only [compGd, bind_some', Option.some.injEq] at hg
    obtain ⟨oj, h1, t, h2, rfl⟩ := hg
    simp only [wants] at hw
    have hy : yielded ops tmps j = match tmps[t]? with | some (.bool b) => some b | _ => none := by
      unfold yielded
      rw [h1]
      simp only [Option.bind_some, h2]
      cases tmps[t]? with
      | none => rfl
      | some x => cases x <;> rfl
    simp only [hy]
    cases hl : lk g t with
    | none => rw [hl] at hw; simp at hw
    | some rv =>
      rw [hl] at hw
      have hr := h.regs t rv hl
      cases rv with
      | v av =>
        cases av with
        | bool q =>
          simp only [Option.some.injEq] at hw
          simp only [RR, VR] at hr
          have : tmps[t]? = some (.bool q) := by
            rw [Array.getD_eq_getD_getElem?] at hr
            cases ht : tmps[t]? with
            | none => rw [ht] at hr; simp [undef] at hr
            | some x => rw [ht] at hr; simpa using hr
          rw [this]
          simp only
          subst hw
          cases q <;> cases b <;> rfl
        | undef =>
          simp only [Option.some.injEq] at hw
          simp only [RR, VR] at hr
          subst hw
          rw [Array.getD_eq_getD_getElem?] at hr
          cases ht : tmps[t]? with
          | none => rfl
          | some x => rw [ht] at hr; simp only [Option.getD_some] at hr; subst hr; rfl
        | _ => simp at hw
      | lp t' k => simp at hw
      | ls els => simp at hw

theorem FI.putd (h : FI base c0 n c γ g bx tmps) {rv : RV} {x : Value} (hr : RR c γ bx rv x) (dfs : List Deferred) {d : Option Nat} (hd : ∀ k, d = some k → k < n) :
    FI base c0 n c γ (putd g d rv) bx ((⟨tmps, dfs⟩ : Act).put d x).tmps ∧ ((⟨tmps, dfs⟩ : Act).put d x) = ⟨((⟨tmps, dfs⟩ : Act).put d x).tmps, dfs⟩ := by
  cases d with
  | none => exact ⟨h, rfl⟩
  | some k => exact ⟨h.put hr (hd k rfl), rfl⟩

/-- One operation of a region. -/
theorem oper_sound {E : Call} (hE : SoundCall P base W0 E) (hw0 : Sim base c0 ∧ Old base W0 c0.w) (h : FI base c0 n c γ g bx tmps) (hb0 : base ≤ c0.w.heap.size) {lo : List Nat} {ops : Array Oper} {o : Oper} {x : XOper} (hc : compOper P n lo ops o = some x) {rv : RV} {M' : Mem} (he : evG E g ⟨bx, c.σ⟩ x = some (rv, M'))
    {K : Act → World → Prop} {Q : Exit → Act → World → Prop} {dfs : List Deferred} (hK : ∀ c' γ' tmps', c'.σ = M'.st → FI base c0 n c' γ' (putd g x.dst rv) M'.bx tmps' → K ⟨tmps', dfs⟩ c'.w) :
    if Region.wanted o (yielded ops tmps) then o.wp P ⟨tmps, dfs⟩ c.w K Q else K ((⟨tmps, dfs⟩ : Act).put o.dst undef) c.w := by
  obtain ⟨h1, h2, h3, h4⟩ := compOper_sound hc
  simp only [evG, bind_some'] at he
  obtain ⟨w, hw, he⟩ := he
  rw [wanted_sound h h3 hw]
  cases w with
  | true =>
    simp only [if_true]
    refine op_sound hE hw0 h hb0 (a := ⟨tmps, dfs⟩) rfl h2 he (fun c' γ' y e1 e2 e3 => ?_)
    obtain ⟨k1, k2⟩ := e2.putd e3 dfs h4
    rw [k2, ← h1] at *
    exact hK c' γ' _ e1 (by rw [h1]; exact k1)
  | false =>
    simp only [Option.some.injEq, Prod.mk.injEq] at he
    obtain ⟨rfl, rfl⟩ := he
    obtain ⟨k1, k2⟩ := h.putd (rv := .v .undef) (x := undef) (by simp [RR, VR]) dfs h4
    simp only [Bool.false_eq_true, if_false]
    rw [k2]
    exact hK c γ _ rfl (by rw [h1]; exact k1)

theorem ops_sound {E : Call} (hE : SoundCall P base W0 E) (hw0 : Sim base c0 ∧ Old base W0 c0.w) (hb0 : base ≤ c0.w.heap.size) {lo : List Nat} {ops : Array Oper} {Q : Exit → Act → World → Prop} {dfs : List Deferred} : ∀ {l : List Oper} {xs : List XOper}, allSome (compOper P n lo ops) l = some xs → ∀ {c : Ctx} {γ : Nat → Nat} {g : Regs} {bx : Boxes} {tmps : Array Value} {g' : Regs} {M' : Mem},
    execOps E xs g ⟨bx, c.σ⟩ = some (g', M') → FI base c0 n c γ g bx tmps → (∀ c' γ' tmps', c'.σ = M'.st → FI base c0 n c' γ' g' M'.bx tmps' → Q .normal ⟨tmps', dfs⟩ c'.w) → wpList P ops Q l ⟨tmps, dfs⟩ c.w
  | [], xs, hx, c, γ, g, bx, tmps, g', M', he, h, hQ => by
    simp only [allSome, Option.some.injEq] at hx
    subst hx
    simp only [execOps, Option.some.injEq, Prod.mk.injEq] at he
    obtain ⟨rfl, rfl⟩ := he
    exact hQ c γ tmps rfl h
  | o :: l, xs, hx, c, γ, g, bx, tmps, g', M', he, h, hQ => by
    simp only [allSome, bind_some', Option.some.injEq] at hx
    obtain ⟨x, h1, xs', h2, rfl⟩ := hx
    simp only [execOps, bind_some'] at he
    obtain ⟨⟨rv, M1⟩, h3, h4⟩ := he
    have := oper_sound (K := wpList P ops Q l) (Q := Q) (dfs := dfs) hE hw0 h hb0 h1 h3 (fun c' γ' tmps' e1 e2 => ops_sound hE hw0 hb0 h2 (by rw [e1]; exact h4) e2 hQ)
    unfold wpList
    split
    · rename_i hw; rw [if_pos hw] at this; exact .inl this
    · rename_i hw; rw [if_neg hw] at this; exact this

/-! ### Whatever the order -/

def cnt (Sx : Nat → Bool) : Nat → Nat
  | 0 => 0
  | k + 1 => cnt Sx k + if Sx k = true then 1 else 0

theorem cnt_le (Sx : Nat → Bool) : ∀ k, cnt Sx k ≤ k
  | 0 => Nat.le_refl _
  | k + 1 => by have := cnt_le Sx k; simp only [cnt]; split <;> omega

theorem cnt_full {Sx : Nat → Bool} : ∀ {m : Nat}, cnt Sx m = m → ∀ k, k < m → Sx k = true
  | 0, _, k, hk => by omega
  | m + 1, h, k, hk => by
    have hle := cnt_le Sx m
    simp only [cnt] at h
    split at h
    · rename_i hs
      rcases Nat.lt_or_ge k m with h1 | h1
      · exact cnt_full (by omega) k h1
      · rw [show k = m by omega]; exact hs
    · omega

theorem cnt_add {Sx : Nat → Bool} {i : Nat} (hi : Sx i = false) : ∀ m, cnt (fun j => j == i || Sx j) m = cnt Sx m + if i < m then 1 else 0
  | 0 => by simp [cnt]
  | m + 1 => by
    have ih := cnt_add hi m
    simp only [cnt, ih]
    by_cases e : m = i
    · subst e
      simp [hi]
    · have : (m == i) = false := by simpa using e
      simp only [this, Bool.false_or]
      by_cases h1 : i < m
      · have h2 : i < m + 1 := by omega
        simp only [h1, h2, if_true]; omega
      · have h2 : ¬ i < m + 1 := by omega
        simp only [h1, h2, if_false]; omega

theorem mem_ready' {ops : Array Oper} {listed : Array Bool} {i : Nat} : i ∈ Region.ready .any ops listed ↔ i < ops.size ∧ listed.getD i true = false ∧ ∃ o, ops[i]? = some o ∧ ∀ e ∈ depsOf o, listed.getD e false = true := by
  unfold Region.ready
  simp only [List.mem_filter, List.mem_range, Bool.and_eq_true, Bool.not_eq_true']
  refine and_congr_right fun hi => and_congr_right fun _ => ?_
  have ho : ops[i]? = some ops[i] := Array.getElem?_eq_getElem hi
  rw [ho]
  simp only [Option.map_some, Option.getD_some, Option.some.injEq, exists_eq_left', depsOf, List.mem_map, List.mem_filter, forall_exists_index, and_imp]
  rw [← Array.all_toList, List.all_eq_true]
  constructor
  · intro h e x hx hb he
    have := h x hx
    rw [hb] at this
    subst he
    simpa using this
  · intro h x hx
    cases hb : Region.binds .any x with
    | false => simp
    | true => simpa using h x.on x hx hb rfl

theorem draw_sound {E : Call} (hE : SoundCall P base W0 E) (hw0 : Sim base c0 ∧ Old base W0 c0.w) (hm : P.follows .mixedOrders = true) (hb0 : base ≤ c0.w.heap.size) {lo : List Nat} {id : Nat} {ops : Array Oper} {xs : List XOper} {pairs : List (Nat × Nat)} (hxs : allSome (compOper P n lo ops) ops.toList = some xs)
    (hok : drawOk ops.toList xs pairs = true) {g' : Regs} {M' : Mem} (he : execOps E xs g ⟨bx, c.σ⟩ = some (g', M')) (hst : stable E xs g ⟨bx, c.σ⟩ pairs) (h : FI base c0 n c γ g bx tmps) {Q : Exit → Act → World → Prop} {dfs : List Deferred}
    (hQ : ∀ c' γ' tmps', c'.σ = M'.st → FI base c0 n c' γ' g' M'.bx tmps' → Q .normal ⟨tmps', dfs⟩ c'.w) : (Code.region id ops true).wp P Q ⟨tmps, dfs⟩ c.w := by
  obtain ⟨hlen, hget⟩ := allSome_get hxs
  have F := drawOk_facts hlen.symm hok
  have hn : xs.length = ops.size := by rw [← hlen]; simp
  -- the draw itself
  obtain ⟨hs0, he0⟩ := h.sim.world (X := fun _ => False) (w' := { c.w with drawn := c.w.drawn + 1 }) rfl rfl rfl (Nat.le_refl _) (fun b hb => hb.elim) (fun b hb _ => rfl)
  have h0 := h.next hs0 he0
  refine wp_region_any hm ?_
  -- what has been done so far
  have key : ∀ (fuel : Nat) (listed : Array Bool) (c1 : Ctx) (γ1 : Nat → Nat) (g1 : Regs) (bx1 : Boxes) (tmps1 : Array Value), listed.size = ops.size → cnt (fun j => listed.getD j false) ops.size + fuel = ops.size →
      Closed ops.toList (fun j => listed.getD j false = true) → (trAt E xs g ⟨bx, c.σ⟩ (wl xs (fun j => listed.getD j false) xs.length)).2 = ⟨bx1, c1.σ⟩ →
      (∀ t, lk g1 t = valK E xs g ⟨bx, c.σ⟩ (fun j => listed.getD j false) xs.length t) → FI base c0 n c1 γ1 g1 bx1 tmps1 → wpAny P .any ops Q fuel listed ⟨tmps1, dfs⟩ c1.w := by
    intro fuel
    have fin : ∀ (listed : Array Bool) (c1 : Ctx) (γ1 : Nat → Nat) (g1 : Regs) (bx1 : Boxes) (tmps1 : Array Value), (∀ k, k < ops.size → listed.getD k false = true) → (trAt E xs g ⟨bx, c.σ⟩ (wl xs (fun j => listed.getD j false) xs.length)).2 = ⟨bx1, c1.σ⟩ →
        (∀ t, lk g1 t = valK E xs g ⟨bx, c.σ⟩ (fun j => listed.getD j false) xs.length t) → FI base c0 n c1 γ1 g1 bx1 tmps1 → Q .normal ⟨tmps1, dfs⟩ c1.w := by
      intro listed c1 γ1 g1 bx1 tmps1 hall hmem hreg hfi
      have htl := trace_last he
      have htr : trAt E xs g ⟨bx, c.σ⟩ xs.length = (g', M') := by simp [trAt, htl]
      have hM : M' = ⟨bx1, c1.σ⟩ := by
        rw [← hmem]
        have e1 : M' = (trAt E xs g ⟨bx, c.σ⟩ xs.length).2 := by rw [htr]
        rw [e1]
        rcases wl_spec xs (fun j => listed.getD j false) xs.length with ⟨k1, k2⟩ | ⟨q, k1, k2, k3, k4, k5⟩
        · rw [k1]; exact tr_same he (Nat.zero_le _) (Nat.le_refl _) (fun k _ hk => k2 k hk (hall k (by omega)))
        · rw [k2]; exact tr_same he (by omega) (Nat.le_refl _) (fun k hk1 hk2 => k5 k (by omega) hk2 (hall k (by omega)))
      have hR : ∀ t, lk g' t = lk g1 t := by
        intro t
        have e1 : lk g' t = lk (trAt E xs g ⟨bx, c.σ⟩ xs.length).1 t := by rw [htr]
        rw [e1, tr_reg he (Nat.le_refl _), hreg t]
        have : ∀ k, k ≤ xs.length → valK E xs g ⟨bx, c.σ⟩ (fun _ => true) k t = valK E xs g ⟨bx, c.σ⟩ (fun j => listed.getD j false) k t := by
          intro k
          induction k with
          | zero => intro _; rfl
          | succ k ih =>
            intro hk
            have := hall k (by omega)
            simp only [valK, true_and, this, ih (by omega)]
        exact this _ (Nat.le_refl _)
      subst hM
      exact hQ c1 γ1 tmps1 rfl (hfi.sub fun t rv ht => by rw [← hR t]; exact ht)
    induction fuel with
    | zero =>
      intro listed c1 γ1 g1 bx1 tmps1 hsz hcnt hcl hmem hreg hfi
      have hall := cnt_full (Sx := fun j => listed.getD j false) (m := ops.size) (by omega)
      refine ⟨?_, fin listed c1 γ1 g1 bx1 tmps1 hall hmem hreg hfi⟩
      cases hr : Region.ready .any ops listed with
      | nil => rfl
      | cons i l =>
        have : i ∈ Region.ready .any ops listed := by rw [hr]; simp
        obtain ⟨h1, h2, _⟩ := mem_ready'.1 this
        have h3 := hall i h1
        simp only [Array.getD_eq_getD_getElem?, Array.getElem?_eq_getElem (by omega : i < listed.size), Option.getD_some] at h2 h3
        rw [h2] at h3; exact absurd h3 (by simp)
    | succ fuel ih =>
      intro listed c1 γ1 g1 bx1 tmps1 hsz hcnt hcl hmem hreg hfi
      refine ⟨fun hr => ?_, fun i hi => ?_⟩
      · refine fin listed c1 γ1 g1 bx1 tmps1 (fun k => ?_) hmem hreg hfi
        induction k using Nat.strongRecOn with
        | _ k ihk =>
          intro hk
          cases hl : listed.getD k false with
          | true => rfl
          | false =>
            exfalso
            have : k ∈ Region.ready .any ops listed := by
              refine mem_ready'.2 ⟨hk, ?_, ops[k], Array.getElem?_eq_getElem hk, fun e he' => ?_⟩
              · simp only [Array.getD_eq_getD_getElem?, Array.getElem?_eq_getElem (by omega : k < listed.size), Option.getD_some] at hl ⊢
                exact hl
              · have := F.deps k ops[k] (by simp) e he'
                exact ihk e this (by omega)
            rw [hr] at this
            exact absurd this (by simp)
      · obtain ⟨h1, h2, o, ho, hd⟩ := mem_ready'.1 hi
        have hno : listed.getD i false = false := by
          simp only [Array.getD_eq_getD_getElem?, Array.getElem?_eq_getElem (by omega : i < listed.size), Option.getD_some] at h2 ⊢
          exact h2
        have hlo : ops.toList[i]? = some o := by simpa using ho
        have hrd : Ready ops.toList (fun j => listed.getD j false) i := ⟨by simpa using h1, hno, fun o' ho' => by rw [hlo] at ho'; cases ho'; exact hd⟩
        have hnext : ∀ j, (listed.setIfInBounds i true).getD j false = (j == i || listed.getD j false) := by
          intro j
          simp only [Array.getD_eq_getD_getElem?, Array.getElem?_setIfInBounds]
          by_cases e : i = j
          · subst e; simp [hsz, h1]
          · have : (j == i) = false := by simp; omega
            simp [e, this]
        have hfun : (fun j => (listed.setIfInBounds i true).getD j false) = fun j => j == i || listed.getD j false := funext hnext
        have hstep := step_same F he hst hrd hcl
        have hev : evG E g1 ⟨bx1, c1.σ⟩ (xs.getD i default) = some (vAt E xs g ⟨bx, c.σ⟩ i, (trAt E xs g ⟨bx, c.σ⟩ (wl xs (fun j => j == i || listed.getD j false) xs.length)).2) := by
          rw [hmem] at hstep
          rw [← hstep]
          exact evG_congr fun t ht => by rw [hreg t]; exact reads_same F he hrd hcl ht
        have hix : i < xs.length := by omega
        have hco : compOper P n lo ops o = some (xs.getD i default) := by
          obtain ⟨o', k1, k2⟩ := hget i (xs.getD i default) (by rw [List.getD_eq_getElem?_getD, List.getElem?_eq_getElem hix]; rfl)
          rw [hlo] at k1; cases k1
          exact k2
        have hop := oper_sound (K := wpAny P .any ops Q fuel (listed.setIfInBounds i true)) (Q := Q) (dfs := dfs) hE hw0 hfi hb0 hco hev (fun c' γ' tmps' e1 e2 => by
          refine ih (listed.setIfInBounds i true) c' γ' _ _ tmps' (by simpa using hsz) ?_ ?_ ?_ ?_ e2
          · rw [hfun, cnt_add (Sx := fun j => listed.getD j false) hno, if_pos h1]; omega
          · intro j o' hj ho' e he'
            rw [hnext] at hj ⊢
            rw [Bool.or_eq_true] at hj ⊢
            rcases hj with hj | hj
            · have : j = i := by simpa using hj
              subst this
              rw [hlo] at ho'; cases ho'
              exact .inr (hd e he')
            · exact .inr (hcl j o' hj ho' e he')
          · rw [hfun, e1]
          · intro t
            rw [hfun, val_put F hrd hcl t]
            cases hdst : (xs.getD i default).dst with
            | none => simp only [Go.X.putd, reduceCtorEq, if_false]; exact hreg t
            | some d =>
              simp only [Go.X.putd, lk]
              by_cases e : d = t
              · subst e; simp
              · rw [if_neg e, if_neg (by simpa using e)]; exact hreg t)
        unfold wpOp
        rw [ho]
        simp only
        split
        · rename_i hw; rw [if_pos hw] at hop; exact .inl hop
        · rename_i hw; rw [if_neg hw] at hop; exact hop
  have hz : ∀ j, (Array.replicate ops.size false).getD j false = false := by
    intro j
    rw [Array.getD_eq_getD_getElem?, Array.getElem?_replicate]
    split <;> rfl
  have hfz : (fun j => (Array.replicate ops.size false).getD j false) = fun _ => false := funext hz
  have c0z : ∀ m, cnt (fun _ => false) m = 0 := by
    intro m; induction m with
    | zero => rfl
    | succ m ih => simp [cnt, ih]
  refine key ops.size (Array.replicate ops.size false) ⟨c.β, c.σ, { c.w with drawn := c.w.drawn + 1 }⟩ γ g bx tmps (by simp) ?_ ?_ ?_ ?_ h0
  · rw [hfz, c0z]; omega
  · intro j o' hj; rw [hz] at hj; exact absurd hj (by simp)
  · rw [hfz]
    have : ∀ m, wl xs (fun _ => false) m = 0 := by
      intro m; induction m with
      | zero => rfl
      | succ m ih => simp [wl, ih]
    rw [this]
    simp [trAt, trace_zero]
  · intro t
    rw [hfz]
    have : ∀ m, valK E xs g ⟨bx, c.σ⟩ (fun _ => false) m t = lk g t := by
      intro m; induction m with
      | zero => rfl
      | succ m ih => simp [valK, ih]
    rw [this]

end
end Go.X

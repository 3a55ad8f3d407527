/- GoX, part 13: regions, code, functions: what the executor tells of a call is what the model's call comes to. No statement of the seat is here. -/
import Derived.Test.YtfifhpmcbfeadaaGreatDoorY3
import Derived.LoopN
set_option linter.unusedVariables false
set_option linter.unusedSimpArgs false
namespace Go.X
open Go

section
variable {P : Program} {base : Nat} {W0 : World} {c0 : Ctx} {n : Nat} {c : Ctx} {γ : Nat → Nat} {g : Regs} {bx : Boxes} {tmps : Array Value}

theorem wanted_sound (h : FI base c0 n c γ g bx tmps) {ops : Array Oper} {o : Oper} {gd : Option (Nat × Bool)} (hg : compGd ops o.guard = some gd) {w : Bool} (hw : wants g gd = some w) : Region.wanted o (yielded ops tmps) = w := by
  unfold Region.wanted
  cases hgu : o.guard with
  | none =>
    rw [hgu] at hg
    simp only [compGd, Option.some.injEq] at hg
    subst hg
    simp only [wants, Option.some.injEq] at hw
    simp only [hw]
  | some p =>
    obtain ⟨j, b⟩ := p
    rw [hgu] at hg
    simp only [compGd, bind_some', Option.some.injEq] at hg
    obtain ⟨oj, h1, t, h2, rfl⟩ := hg
    simp only [wants] at hw
    have hy : yielded ops tmps j = match tmps[t]? with | some (.bool b) => some b | _ => none := by
      unfold yielded
      rw [h1]
      simp only [Option.bind_some, h2]
      cases tmps[t]? with
      | none => rfl
      | some x => cases x <;> rfl
    simp only [hy]
    cases hl : lk g t with
    | none => rw [hl] at hw; simp at hw
    | some rv =>
      rw [hl] at hw
      have hr := h.regs t rv hl
      cases rv with
      | v av =>
        cases av with
        | bool q =>
          simp only [Option.some.injEq] at hw
          simp only [RR, VR] at hr
          have : tmps[t]? = some (.bool q) := by
            rw [Array.getD_eq_getD_getElem?] at hr
            cases ht : tmps[t]? with
            | none => rw [ht] at hr; simp [undef] at hr
            | some x => rw [ht] at hr; simpa using hr
          rw [this]
          simp only
          subst hw
          cases q <;> cases b <;> rfl
        | undef =>
          simp only [Option.some.injEq] at hw
          simp only [RR, VR] at hr
          subst hw
          rw [Array.getD_eq_getD_getElem?] at hr
          cases ht : tmps[t]? with
          | none => rfl
          | some x => rw [ht] at hr; simp only [Option.getD_some] at hr; subst hr; rfl
        | _ => simp at hw
      | lp t' k => simp at hw
      | ls els => simp at hw

theorem FI.putd (h : FI base c0 n c γ g bx tmps) {rv : RV} {x : Value} (hr : RR c γ bx rv x) (dfs : List Deferred) {d : Option Nat} (hd : ∀ k, d = some k → k < n) :
    FI base c0 n c γ (putd g d rv) bx ((⟨tmps, dfs⟩ : Act).put d x).tmps ∧ ((⟨tmps, dfs⟩ : Act).put d x) = ⟨((⟨tmps, dfs⟩ : Act).put d x).tmps, dfs⟩ := by
  cases d with
  | none => exact ⟨h, rfl⟩
  | some k => exact ⟨h.put hr (hd k rfl), rfl⟩

/-- One operation of a region. -/
theorem oper_sound {E : Call} (hE : SoundCall P base W0 E) (hw0 : Sim base c0 ∧ Old base W0 c0.w) (h : FI base c0 n c γ g bx tmps) (hb0 : base ≤ c0.w.heap.size) {lo : List Nat} {ops : Array Oper} {o : Oper} {x : XOper} (hc : compOper P n lo ops o = some x) {rv : RV} {M' : Mem} (he : evG E g ⟨bx, c.σ⟩ x = some (rv, M'))
    {K : Act → World → Prop} {Q : Exit → Act → World → Prop} {dfs : List Deferred} (hK : ∀ c' γ' tmps', c'.σ = M'.st → FI base c0 n c' γ' (putd g x.dst rv) M'.bx tmps' → K ⟨tmps', dfs⟩ c'.w) :
    if Region.wanted o (yielded ops tmps) then o.wp P ⟨tmps, dfs⟩ c.w K Q else K ((⟨tmps, dfs⟩ : Act).put o.dst undef) c.w := by
  obtain ⟨h1, h2, h3, h4⟩ := compOper_sound hc
  simp only [evG, bind_some'] at he
  obtain ⟨w, hw, he⟩ := he
  rw [wanted_sound h h3 hw]
  cases w with
  | true =>
    simp only [if_true]
    refine op_sound hE hw0 h hb0 (a := ⟨tmps, dfs⟩) rfl h2 he (fun c' γ' y e1 e2 e3 => ?_)
    obtain ⟨k1, k2⟩ := e2.putd e3 dfs h4
    rw [k2, ← h1] at *
    exact hK c' γ' _ e1 (by rw [h1]; exact k1)
  | false =>
    simp only [Option.some.injEq, Prod.mk.injEq] at he
    obtain ⟨rfl, rfl⟩ := he
    obtain ⟨k1, k2⟩ := h.putd (rv := .v .undef) (x := undef) (by simp [RR, VR]) dfs h4
    simp only [Bool.false_eq_true, if_false]
    rw [k2]
    exact hK c γ _ rfl (by rw [h1]; exact k1)

theorem ops_sound {E : Call} (hE : SoundCall P base W0 E) (hw0 : Sim base c0 ∧ Old base W0 c0.w) (hb0 : base ≤ c0.w.heap.size) {lo : List Nat} {ops : Array Oper} {Q : Exit → Act → World → Prop} {dfs : List Deferred} : ∀ {l : List Oper} {xs : List XOper}, allSome (compOper P n lo ops) l = some xs → ∀ {c : Ctx} {γ : Nat → Nat} {g : Regs} {bx : Boxes} {tmps : Array Value} {g' : Regs} {M' : Mem},
    execOps E xs g ⟨bx, c.σ⟩ = some (g', M') → FI base c0 n c γ g bx tmps → (∀ c' γ' tmps', c'.σ = M'.st → FI base c0 n c' γ' g' M'.bx tmps' → Q .normal ⟨tmps', dfs⟩ c'.w) → wpList P ops Q l ⟨tmps, dfs⟩ c.w
  | [], xs, hx, c, γ, g, bx, tmps, g', M', he, h, hQ => by
    simp only [allSome, Option.some.injEq] at hx
    subst hx
    simp only [execOps, Option.some.injEq, Prod.mk.injEq] at he
    obtain ⟨rfl, rfl⟩ := he
    exact hQ c γ tmps rfl h
  | o :: l, xs, hx, c, γ, g, bx, tmps, g', M', he, h, hQ => by
    simp only [allSome, bind_some', Option.some.injEq] at hx
    obtain ⟨x, h1, xs', h2, rfl⟩ := hx
    simp only [execOps, bind_some'] at he
    obtain ⟨⟨rv, M1⟩, h3, h4⟩ := he
    have := oper_sound (K := wpList P ops Q l) (Q := Q) (dfs := dfs) hE hw0 h hb0 h1 h3 (fun c' γ' tmps' e1 e2 => ops_sound hE hw0 hb0 h2 (by rw [e1]; exact h4) e2 hQ)
    unfold wpList
    split
    · rename_i hw; rw [if_pos hw] at this; exact .inl this
    · rename_i hw; rw [if_neg hw] at this; exact this

/-! ### Whatever the order -/

def cnt (Sx : Nat → Bool) : Nat → Nat
  | 0 => 0
  | k + 1 => cnt Sx k + if Sx k = true then 1 else 0

theorem cnt_le (Sx : Nat → Bool) : ∀ k, cnt Sx k ≤ k
  | 0 => Nat.le_refl _
  | k + 1 => by have := cnt_le Sx k; simp only [cnt]; split <;> omega

theorem cnt_full {Sx : Nat → Bool} : ∀ {m : Nat}, cnt Sx m = m → ∀ k, k < m → Sx k = true
  | 0, _, k, hk => by omega
  | m + 1, h, k, hk => by
    have hle := cnt_le Sx m
    simp only [cnt] at h
    split at h
    · rename_i hs
      rcases Nat.lt_or_ge k m with h1 | h1
      · exact cnt_full (by omega) k h1
      · rw [show k = m by omega]; exact hs
    · omega

theorem cnt_add {Sx : Nat → Bool} {i : Nat} (hi : Sx i = false) : ∀ m, cnt (fun j => j == i || Sx j) m = cnt Sx m + if i < m then 1 else 0
  | 0 => by simp [cnt]
  | m + 1 => by
    have ih := cnt_add hi m
    simp only [cnt, ih]
    by_cases e : m = i
    · subst e
      simp [hi]
    · have : (m == i) = false := by simpa using e
      simp only [this, Bool.false_or]
      by_cases h1 : i < m
      · have h2 : i < m + 1 := by omega
        simp only [h1, h2, if_true]; omega
      · have h2 : ¬ i < m + 1 := by omega
        simp only [h1, h2, if_false]; omega

theorem mem_ready' {ops : Array Oper} {listed : Array Bool} {i : Nat} : i ∈ Region.ready .any ops listed ↔ i < ops.size ∧ listed.getD i true = false ∧ ∃ o, ops[i]? = some o ∧ ∀ e ∈ depsOf o, listed.getD e false = true := by
  unfold Region.ready
  simp only [List.mem_filter, List.mem_range, Bool.and_eq_true, Bool.not_eq_true']
  refine and_congr_right fun hi => and_congr_right fun _ => ?_
  have ho : ops[i]? = some ops[i] := Array.getElem?_eq_getElem hi
  rw [ho]
  simp only [Option.map_some, Option.getD_some, Option.some.injEq, exists_eq_left', depsOf, List.mem_map, List.mem_filter, forall_exists_index, and_imp]
  rw [← Array.all_toList, List.all_eq_true]
  constructor
  · intro h e x hx hb he
    have := h x hx
    rw [hb] at this
    subst he
    simpa using this
  · intro h x hx
    cases hb : Region.binds .any x with
    | false => simp
    | true => simpa using h x.on x hx hb rfl

theorem draw_sound {E : Call} (hE : SoundCall P base W0 E) (hw0 : Sim base c0 ∧ Old base W0 c0.w) (hm : P.follows .mixedOrders = true) (hb0 : base ≤ c0.w.heap.size) {lo : List Nat} {id : Nat} {ops : Array Oper} {xs : List XOper} {pairs : List (Nat × Nat)} (hxs : allSome (compOper P n lo ops) ops.toList = some xs)
    (hok : drawOk ops.toList xs pairs = true) {g' : Regs} {M' : Mem} (he : execOps E xs g ⟨bx, c.σ⟩ = some (g', M')) (hst : stable E xs g ⟨bx, c.σ⟩ pairs) (h : FI base c0 n c γ g bx tmps) {Q : Exit → Act → World → Prop} {dfs : List Deferred}
    (hQ : ∀ c' γ' tmps', c'.σ = M'.st → FI base c0 n c' γ' g' M'.bx tmps' → Q .normal ⟨tmps', dfs⟩ c'.w) : (Code.region id ops true).wp P Q ⟨tmps, dfs⟩ c.w := by
  obtain ⟨hlen, hget⟩ := allSome_get hxs
  have F := drawOk_facts hlen.symm hok
  have hn : xs.length = ops.size := by rw [← hlen]; simp
  -- the draw itself
  obtain ⟨hs0, he0⟩ := h.sim.world (X := fun _ => False) (w' := { c.w with drawn := c.w.drawn + 1 }) rfl rfl rfl (Nat.le_refl _) (fun b hb => hb.elim) (fun b hb _ => rfl)
  have h0 := h.next hs0 he0
  refine wp_region_any hm ?_
  -- what has been done so far
  have key : ∀ (fuel : Nat) (listed : Array Bool) (c1 : Ctx) (γ1 : Nat → Nat) (g1 : Regs) (bx1 : Boxes) (tmps1 : Array Value), listed.size = ops.size → cnt (fun j => listed.getD j false) ops.size + fuel = ops.size →
      Closed ops.toList (fun j => listed.getD j false = true) → (trAt E xs g ⟨bx, c.σ⟩ (wl xs pairs (fun j => listed.getD j false) xs.length)).2 = ⟨bx1, c1.σ⟩ →
      (∀ t, lk g1 t = valK E xs g ⟨bx, c.σ⟩ (fun j => listed.getD j false) xs.length t) → FI base c0 n c1 γ1 g1 bx1 tmps1 → wpAny P .any ops Q fuel listed ⟨tmps1, dfs⟩ c1.w := by
    intro fuel
    have fin : ∀ (listed : Array Bool) (c1 : Ctx) (γ1 : Nat → Nat) (g1 : Regs) (bx1 : Boxes) (tmps1 : Array Value), (∀ k, k < ops.size → listed.getD k false = true) → (trAt E xs g ⟨bx, c.σ⟩ (wl xs pairs (fun j => listed.getD j false) xs.length)).2 = ⟨bx1, c1.σ⟩ →
        (∀ t, lk g1 t = valK E xs g ⟨bx, c.σ⟩ (fun j => listed.getD j false) xs.length t) → FI base c0 n c1 γ1 g1 bx1 tmps1 → Q .normal ⟨tmps1, dfs⟩ c1.w := by
      intro listed c1 γ1 g1 bx1 tmps1 hall hmem hreg hfi
      have htl := trace_last he
      have htr : trAt E xs g ⟨bx, c.σ⟩ xs.length = (g', M') := by simp [trAt, htl]
      have hM : M' = ⟨bx1, c1.σ⟩ := by
        rw [← hmem]
        have e1 : M' = (trAt E xs g ⟨bx, c.σ⟩ xs.length).2 := by rw [htr]
        rw [e1]
        rcases wl_spec xs pairs (fun j => listed.getD j false) xs.length with ⟨k1, k2⟩ | ⟨q, k1, k2, k3, k4, k5⟩
        · rw [k1]; exact tr_same he hst (Nat.zero_le _) (Nat.le_refl _) (fun k _ hk => k2 k hk (hall k (by omega)))
        · rw [k2]; exact tr_same he hst (by omega) (Nat.le_refl _) (fun k hk1 hk2 => k5 k (by omega) hk2 (hall k (by omega)))
      have hR : ∀ t, lk g' t = lk g1 t := by
        intro t
        have e1 : lk g' t = lk (trAt E xs g ⟨bx, c.σ⟩ xs.length).1 t := by rw [htr]
        rw [e1, tr_reg he (Nat.le_refl _), hreg t]
        have : ∀ k, k ≤ xs.length → valK E xs g ⟨bx, c.σ⟩ (fun _ => true) k t = valK E xs g ⟨bx, c.σ⟩ (fun j => listed.getD j false) k t := by
          intro k
          induction k with
          | zero => intro _; rfl
          | succ k ih =>
            intro hk
            have := hall k (by omega)
            simp only [valK, true_and, this, ih (by omega)]
        exact this _ (Nat.le_refl _)
      subst hM
      exact hQ c1 γ1 tmps1 rfl (hfi.sub fun t rv ht => by rw [← hR t]; exact ht)
    induction fuel with
    | zero =>
      intro listed c1 γ1 g1 bx1 tmps1 hsz hcnt hcl hmem hreg hfi
      have hall := cnt_full (Sx := fun j => listed.getD j false) (m := ops.size) (by omega)
      refine ⟨?_, fin listed c1 γ1 g1 bx1 tmps1 hall hmem hreg hfi⟩
      cases hr : Region.ready .any ops listed with
      | nil => rfl
      | cons i l =>
        have : i ∈ Region.ready .any ops listed := by rw [hr]; simp
        obtain ⟨h1, h2, _⟩ := mem_ready'.1 this
        have h3 := hall i h1
        simp only [Array.getD_eq_getD_getElem?, Array.getElem?_eq_getElem (by omega : i < listed.size), Option.getD_some] at h2 h3
        rw [h2] at h3; exact absurd h3 (by simp)
    | succ fuel ih =>
      intro listed c1 γ1 g1 bx1 tmps1 hsz hcnt hcl hmem hreg hfi
      refine ⟨fun hr => ?_, fun i hi => ?_⟩
      · refine fin listed c1 γ1 g1 bx1 tmps1 (fun k => ?_) hmem hreg hfi
        induction k using Nat.strongRecOn with
        | _ k ihk =>
          intro hk
          cases hl : listed.getD k false with
          | true => rfl
          | false =>
            exfalso
            have : k ∈ Region.ready .any ops listed := by
              refine mem_ready'.2 ⟨hk, ?_, ops[k], Array.getElem?_eq_getElem hk, fun e he' => ?_⟩
              · simp only [Array.getD_eq_getD_getElem?, Array.getElem?_eq_getElem (by omega : k < listed.size), Option.getD_some] at hl ⊢
                exact hl
              · have := F.deps k ops[k] (by simp) e he'
                exact ihk e this (by omega)
            rw [hr] at this
            exact absurd this (by simp)
      · obtain ⟨h1, h2, o, ho, hd⟩ := mem_ready'.1 hi
        have hno : listed.getD i false = false := by
          simp only [Array.getD_eq_getD_getElem?, Array.getElem?_eq_getElem (by omega : i < listed.size), Option.getD_some] at h2 ⊢
          exact h2
        have hlo : ops.toList[i]? = some o := by simpa using ho
        have hrd : Ready ops.toList (fun j => listed.getD j false) i := ⟨by simpa using h1, hno, fun o' ho' => by rw [hlo] at ho'; cases ho'; exact hd⟩
        have hnext : ∀ j, (listed.setIfInBounds i true).getD j false = (j == i || listed.getD j false) := by
          intro j
          simp only [Array.getD_eq_getD_getElem?, Array.getElem?_setIfInBounds]
          by_cases e : i = j
          · subst e; simp [hsz, h1]
          · have : (j == i) = false := by simp; omega
            simp [e, this]
        have hfun : (fun j => (listed.setIfInBounds i true).getD j false) = fun j => j == i || listed.getD j false := funext hnext
        have hstep := step_same F he hst hrd hcl
        have hev : evG E g1 ⟨bx1, c1.σ⟩ (xs.getD i default) = some (vAt E xs g ⟨bx, c.σ⟩ i, (trAt E xs g ⟨bx, c.σ⟩ (wl xs pairs (fun j => j == i || listed.getD j false) xs.length)).2) := by
          rw [hmem] at hstep
          rw [← hstep]
          exact evG_congr fun t ht => by rw [hreg t]; exact reads_same F he hrd hcl ht
        have hix : i < xs.length := by omega
        have hco : compOper P n lo ops o = some (xs.getD i default) := by
          obtain ⟨o', k1, k2⟩ := hget i (xs.getD i default) (by rw [List.getD_eq_getElem?_getD, List.getElem?_eq_getElem hix]; rfl)
          rw [hlo] at k1; cases k1
          exact k2
        have hop := oper_sound (K := wpAny P .any ops Q fuel (listed.setIfInBounds i true)) (Q := Q) (dfs := dfs) hE hw0 hfi hb0 hco hev (fun c' γ' tmps' e1 e2 => by
          refine ih (listed.setIfInBounds i true) c' γ' _ _ tmps' (by simpa using hsz) ?_ ?_ ?_ ?_ e2
          · rw [hfun, cnt_add (Sx := fun j => listed.getD j false) hno, if_pos h1]; omega
          · intro j o' hj ho' e he'
            rw [hnext] at hj ⊢
            rw [Bool.or_eq_true] at hj ⊢
            rcases hj with hj | hj
            · have : j = i := by simpa using hj
              subst this
              rw [hlo] at ho'; cases ho'
              exact .inr (hd e he')
            · exact .inr (hcl j o' hj ho' e he')
          · rw [hfun, e1]
          · intro t
            rw [hfun, val_put F hrd hcl t]
            cases hdst : (xs.getD i default).dst with
            | none => simp only [Go.X.putd, reduceCtorEq, if_false]; exact hreg t
            | some d =>
              simp only [Go.X.putd, lk]
              by_cases e : d = t
              · subst e; simp
              · rw [if_neg e, if_neg (by simpa using e)]; exact hreg t)
        unfold wpOp
        rw [ho]
        simp only
        split
        · rename_i hw; rw [if_pos hw] at hop; exact .inl hop
        · rename_i hw; rw [if_neg hw] at hop; exact hop
  have hz : ∀ j, (Array.replicate ops.size false).getD j false = false := by
    intro j
    rw [Array.getD_eq_getD_getElem?, Array.getElem?_replicate]
    split <;> rfl
  have hfz : (fun j => (Array.replicate ops.size false).getD j false) = fun _ => false := funext hz
  have c0z : ∀ m, cnt (fun _ => false) m = 0 := by
    intro m; induction m with
    | zero => rfl
    | succ m ih => simp [cnt, ih]
  refine key ops.size (Array.replicate ops.size false) ⟨c.β, c.σ, { c.w with drawn := c.w.drawn + 1 }⟩ γ g bx tmps (by simp) ?_ ?_ ?_ ?_ h0
  · rw [hfz, c0z]; omega
  · intro j o' hj; rw [hz] at hj; exact absurd hj (by simp)
  · rw [hfz]
    have : ∀ m, wl xs pairs (fun _ => false) m = 0 := by
      intro m; induction m with
      | zero => rfl
      | succ m ih => simp [wl, ih]
    rw [this]
    simp [trAt, trace_zero]
  · intro t
    rw [hfz]
    have : ∀ m, valK E xs g ⟨bx, c.σ⟩ (fun _ => false) m t = lk g t := by
      intro m; induction m with
      | zero => rfl
      | succ m ih => simp [valK, ih]
    rw [this]

end
end Go.X

/- GoX, part 13b: regions that draw and end in a box that escapes: its box is carried as one of the frame's own until all else has been done. No statement of the seat is here. -/
set_option linter.unusedVariables false
set_option linter.unusedSimpArgs false
namespace Go.X
open Go
section
variable {P : Program} {base : Nat} {W0 : World} {c0 : Ctx} {n : Nat} {c : Ctx} {γ : Nat → Nat} {g : Regs} {bx : Boxes} {tmps : Array Value}

/-- A box of the frame's own becomes a row of the store. -/
theorem FI.promote {d e0 : Nat} {z : List AV} (h : FI base c0 n c γ g ((e0, z) :: bx) tmps) (hb0 : base ≤ c0.w.heap.size) (hz : 0 < z.length) (hd : lk g d = some (.lp e0 0)) (hno : ∀ t q k, t ≠ d → lk g t = some (.lp q k) → q ≠ e0) (hbx : lk bx e0 = none) :
    ∃ c', c'.w = c.w ∧ c'.σ = c.σ ++ [⟨[z], z.length, 0, .own⟩] ∧ FI base c0 n c' γ ((d, .v (.ptr c.σ.length 0 0 0)) :: g) bx tmps := by
  obtain ⟨hγ, hlt, hout, xs, ty, hheap, hxs, hcells⟩ := h.boxes e0 z (by simp [lk])
  let c' : Ctx := ⟨fun r => if r = c.σ.length then (γ e0, 0) else c.β r, c.σ ++ [⟨[z], z.length, 0, .own⟩], c.w⟩
  have hβ : c'.β c.σ.length = (γ e0, 0) := by simp [c']
  have hws : wsize c.w (γ e0) = xs.size := by simp [wsize, World.shape?, hheap]
  have hle : CtxLe c c' := by
    intro r row hr
    have hr' := (List.getElem?_eq_some_iff.1 hr).1
    exact ⟨row, by simp only [c']; rw [List.getElem?_append_left hr']; exact hr, rfl, rfl, Nat.le_refl _, fun _ => ⟨by simp [c', Nat.ne_of_lt hr'], fun _ => rfl⟩⟩
  have hcase : ∀ r row', c'.σ[r]? = some row' → (r < c.σ.length ∧ c.σ[r]? = some row') ∨ (r = c.σ.length ∧ row' = ⟨[z], z.length, 0, .own⟩) := by
    intro r row' hr
    simp only [c'] at hr
    rcases Nat.lt_or_ge r c.σ.length with h1 | h1
    · rw [List.getElem?_append_left h1] at hr
      exact .inl ⟨h1, hr⟩
    · rw [List.getElem?_append_right h1] at hr
      have : r - c.σ.length < 1 := by simpa using (List.getElem?_eq_some_iff.1 hr).1
      have e : r = c.σ.length := by omega
      subst e
      simp at hr
      exact .inr ⟨rfl, hr.symm⟩
  have hown : ∀ b, Own c' b → Own c b ∨ b = γ e0 := by
    rintro b ⟨r, row, h1, h2, h3⟩
    rcases hcase r row h1 with ⟨k1, k2⟩ | ⟨k1, k2⟩
    · left; exact ⟨r, row, k2, h2, by rw [← h3]; simp [c', Nat.ne_of_lt k1]⟩
    · right; subst k1; rw [hβ] at h3; exact h3.symm
  have hsim : Sim base c' := by
    refine ⟨h.sim.size, fun r row hr => ?_, fun r r' row row' h1 h2 k1 k2 e => ?_⟩
    · rcases hcase r row hr with ⟨k1, k2⟩ | ⟨k1, k2⟩
      · exact (h.sim.rows r row k2).carry hle (by simp [c', Nat.ne_of_lt k1]) (Nat.le_refl _) (fun _ => rfl)
      · subst k1; subst k2
        refine ⟨hz, fun i cs hi => ?_, fun i cs j v hi hj => ?_, by simp, by simp, fun _ => ?_⟩
        · cases i with
          | zero => simp at hi; subst hi; rfl
          | succ i => simp at hi
        · cases i with
          | zero =>
            simp at hi; subst hi
            obtain ⟨y, h3, h4, h5⟩ := hcells j v hj
            refine ⟨y, ?_, VR_mono hle _ _ h4, h5⟩
            rw [hβ]
            simp [World.cell?, c', hheap, h3]
          | succ i => simp at hi
        · rw [hβ]
          refine ⟨Nat.le_trans hb0 hγ, hlt, by simp only [c', hws]; simp [hxs], fun q hq => ?_⟩
          simp [World.frozen?, c', hheap]
    · rcases hcase r row h1 with ⟨a1, a2⟩ | ⟨a1, a2⟩ <;> rcases hcase r' row' h2 with ⟨b1, b2⟩ | ⟨b1, b2⟩
      · simp only [c', Nat.ne_of_lt a1, Nat.ne_of_lt b1, if_false] at e
        exact h.sim.inj r r' row row' a2 b2 k1 k2 e
      · subst b1
        rw [hβ] at e
        simp only [c', Nat.ne_of_lt a1, if_false] at e
        exact absurd ⟨r, row, a2, k1, e⟩ hout
      · subst a1
        rw [hβ] at e
        simp only [c', Nat.ne_of_lt b1, if_false] at e
        exact absurd ⟨r', row', b2, k2, e.symm⟩ hout
      · rw [a1, b1]
  have hevo : Evo (fun _ => False) c0 c' := by
    refine ⟨h.evo.os, h.evo.tape, h.evo.output, h.evo.size, fun b hb hx ho => h.evo.keep b hb hx ho, h.evo.le.trans hle, fun b hb => ?_⟩
    rcases hown b hb with h1 | h1
    · exact h.evo.fresh b h1
    · exact .inr (by rw [h1]; exact hγ)
  have hbin : ∀ t, (lk bx t).isSome = true → t ≠ e0 ∧ γ t ≠ γ e0 := by
    intro t ht
    have hne : t ≠ e0 := by intro e; subst e; rw [hbx] at ht; simp at ht
    refine ⟨hne, fun e => hne (h.binj t e0 ?_ ?_ e)⟩
    · simp only [lk]; rw [if_neg (Ne.symm hne)]; exact ht
    · simp [lk]
  refine ⟨c', rfl, rfl, ⟨hsim, hevo, h.size, ?_, ?_, ?_⟩⟩
  · intro t rv ht
    simp only [lk] at ht
    split at ht
    · rename_i e
      subst e
      cases ht
      have h1 := (h.regs d _ hd).2
      simp only [RR, VR]
      rw [h1]
      exact ⟨_, rfl, ⟨[z], z.length, 0, .own⟩, by simp [c'], Nat.le_refl _, fun _ => by rw [hβ]; simp⟩
    · rename_i e
      have h1 := h.regs t rv ht
      cases rv with
      | v a => exact VR_mono hle _ _ h1
      | lp q k =>
        have hq := hno t q k (Ne.symm e) ht
        refine ⟨?_, h1.2⟩
        have h2 := h1.1
        simp only [lk] at h2
        rw [if_neg (Ne.symm hq)] at h2
        exact h2
      | ls els =>
        obtain ⟨b, xs', ty', sz, e1, hb, ho, hg, hc⟩ := h1
        refine ⟨b, xs', ty', sz, e1, hb, fun hb' => ?_, fun q hq => ?_, fun i cs hi => ?_⟩
        · rcases hown b hb' with h2 | h2
          · exact ho h2
          · exact hg e0 (by simp [lk]) h2.symm
        · refine hg q ?_
          simp only [lk]; split
          · rfl
          · exact hq
        · obtain ⟨k1, k2⟩ := hc i cs hi
          refine ⟨k1, fun j a hj => ?_⟩
          obtain ⟨y, k3, k4, k5⟩ := k2 j a hj
          exact ⟨y, k3, VR_mono hle _ _ k4, k5⟩
  · intro t cs ht
    obtain ⟨hne, hgm⟩ := hbin t (by rw [ht]; rfl)
    obtain ⟨k1, k2, k3, xs', ty', k4, k5, k6⟩ := h.boxes t cs (by simp only [lk]; rw [if_neg (Ne.symm hne)]; exact ht)
    refine ⟨k1, k2, fun hb' => ?_, xs', ty', k4, k5, fun j a hj => ?_⟩
    · rcases hown _ hb' with h2 | h2
      · exact k3 h2
      · exact hgm h2
    · obtain ⟨y, k7, k8, k9⟩ := k6 j a hj
      exact ⟨y, k7, VR_mono hle _ _ k8, k9⟩
  · intro t t' h1 h2 e
    obtain ⟨n1, _⟩ := hbin t h1
    obtain ⟨n2, _⟩ := hbin t' h2
    refine h.binj t t' ?_ ?_ e
    · simp only [lk]; rw [if_neg (Ne.symm n1)]; exact h1
    · simp only [lk]; rw [if_neg (Ne.symm n2)]; exact h2

/-! ### One box more -/

/-- It leaves boxes alone. -/
def boxFree : XOp → Bool
  | .alloc lo .. => !lo
  | .box lo .. => !lo
  | .store .. => false
  | _ => true

theorem place_box {bx : Boxes} {st : Store} {d : Nat} {z : List AV} {p : RV} (hp : ∀ q k, p = .lp q k → q ≠ d) : place ⟨(d, z) :: bx, st⟩ p = place ⟨bx, st⟩ p := by
  cases p with
  | lp q k =>
    have := hp q k rfl
    simp only [place, lk]
    rw [if_neg (Ne.symm this)]
  | v a => cases a <;> rfl
  | ls els => rfl
theorem elsOf_box (bx bx' : Boxes) (st : Store) (sz : Nat) (p : RV) : elsOf ⟨bx', st⟩ sz p = elsOf ⟨bx, st⟩ sz p := by
  cases p with
  | v a => cases a <;> rfl
  | _ => rfl

theorem evOp_box {E : Call} {g : Regs} {bx : Boxes} {st : Store} {op : XOp} {v : RV} {M' : Mem} (hf : boxFree op = true) {d : Nat} (z : List AV) (hlp : ∀ t ∈ opSl op, ∀ q k, lk g t = some (.lp q k) → q ≠ d) (h : evOp E g ⟨bx, st⟩ op = some (v, M')) :
    ∃ st', M' = ⟨bx, st'⟩ ∧ evOp E g ⟨(d, z) :: bx, st⟩ op = some (v, ⟨(d, z) :: bx, st'⟩) := by
  have ppl : ∀ {x : XO} {p : RV}, (∀ t ∈ oSl x, t ∈ opSl op) → ev g x = some p → ∀ q k, p = .lp q k → q ≠ d := by
    intro x p hx he q k e
    cases x with
    | t m => subst e; exact hlp m (hx m (by simp [oSl])) q k he
    | c a => simp only [ev, Option.some.injEq] at he; subst he; cases e
  cases hw : isW op with
  | false =>
    have hk := evOp_keeps hw h
    subst hk
    refine ⟨st, rfl, ?_⟩
    cases hr : isR op with
    | false => exact evOp_pure hw hr h
    | true =>
      cases op <;> first
        | (simp [isR] at hr; done)
        | skip
      case load ag sz x =>
        simp only [evOp, evP, bind_some', Option.some.injEq, Prod.mk.injEq] at h ⊢
        obtain ⟨p, e1, q, e2, a, e3, e4, _⟩ := h
        exact ⟨p, e1, q, by rw [place_box (ppl (fun t ht => by simpa [opSl] using ht) e1)]; exact e2, a, e3, e4, trivial⟩
      case iadr sz x i =>
        simp only [evOp, evP, bind_some'] at h ⊢
        obtain ⟨a, e1, b, e2, h⟩ := h
        refine ⟨a, e1, b, e2, ?_⟩
        split at h
        · simp only [bind_some'] at h ⊢
          obtain ⟨row, e3, h⟩ := h
          refine ⟨row, e3, ?_⟩
          split at h
          · rename_i hc
            rw [if_pos hc]
            simp only [Option.some.injEq, Prod.mk.injEq] at h ⊢
            exact ⟨h.1, trivial⟩
          · simp at h
        · simp at h
      case slc sz x l r =>
        simp only [evOp, evP, bind_some'] at h ⊢
        obtain ⟨a, e1, h⟩ := h
        refine ⟨a, e1, ?_⟩
        split at h
        · simp only [bind_some'] at h ⊢
          obtain ⟨row, e2, lo, e3, hi, e4, h⟩ := h
          refine ⟨row, e2, lo, e3, hi, e4, ?_⟩
          split at h
          · rename_i hc
            rw [if_pos hc]
            simp only [Option.some.injEq, Prod.mk.injEq] at h ⊢
            exact ⟨h.1, trivial⟩
          · simp at h
        · simp only [bind_some'] at h ⊢
          obtain ⟨lo, e3, hi, e4, h⟩ := h
          refine ⟨lo, e3, hi, e4, ?_⟩
          split at h
          · rename_i hc
            rw [if_pos hc]
            simp only [Option.some.injEq, Prod.mk.injEq] at h ⊢
            exact ⟨h.1, trivial⟩
          · simp at h
        · simp at h
      case b2s x =>
        simp only [evOp, evP, bind_some', Option.some.injEq, Prod.mk.injEq] at h ⊢
        obtain ⟨p, e1, els, e2, s, e3, e4, _⟩ := h
        exact ⟨p, e1, els, by rw [elsOf_box bx]; exact e2, s, e3, e4, trivial⟩
  | true =>
    cases op <;> first
      | (simp [isW] at hw; done)
      | (simp [boxFree] at hf; done)
      | skip
    case alloc lo t zz =>
      cases lo with
      | true => simp [boxFree] at hf
      | false =>
        simp only [evOp, evP, newRow, Option.some.injEq, Prod.mk.injEq] at h ⊢
        obtain ⟨rfl, rfl⟩ := h
        exact ⟨_, rfl, rfl, rfl⟩
    case box lo t sz x =>
      cases lo with
      | true => simp [boxFree] at hf
      | false =>
        simp only [evOp, evP, newRow, bind_some'] at h ⊢
        obtain ⟨a, e1, y, e2, h⟩ := h
        split at h
        · rename_i hc
          simp only [Option.some.injEq, Prod.mk.injEq] at h
          obtain ⟨rfl, rfl⟩ := h
          exact ⟨_, rfl, a, e1, y, e2, by rw [if_pos hc]⟩
        · simp at h
    case bsl lo sz k zz ps =>
      cases lo with
      | true => simp [isW] at hw
      | false =>
        simp only [evOp, evP, newRow, bind_some', Bool.false_eq_true, if_false, Option.some.injEq, Prod.mk.injEq] at h ⊢
        obtain ⟨els, e1, rfl, rfl⟩ := h
        exact ⟨_, rfl, els, e1, rfl, rfl⟩
    case app sz bytes x y =>
      simp only [evOp, evP, newRow, bind_some'] at h ⊢
      obtain ⟨a, e1, b, e2, ys, e3, h⟩ := h
      have e3' : elsOf ⟨(d, z) :: bx, st⟩ sz b = some ys := by rw [elsOf_box bx]; exact e3
      split at h
      · split at h
        · rename_i hc
          split at h
          · simp only [Option.some.injEq, Prod.mk.injEq] at h
            obtain ⟨rfl, rfl⟩ := h
            exact ⟨_, rfl, _, e1, b, e2, [], e3', by simp only; rw [if_pos hc]⟩
          · simp only [Option.some.injEq, Prod.mk.injEq] at h
            obtain ⟨rfl, rfl⟩ := h
            exact ⟨_, rfl, _, e1, b, e2, _, e3', by simp only; rw [if_pos hc]⟩
        · simp at h
      · simp only [bind_some'] at h
        obtain ⟨row, e4, h⟩ := h
        split at h
        · rename_i hc
          simp only [Option.some.injEq, Prod.mk.injEq] at h
          obtain ⟨rfl, rfl⟩ := h
          exact ⟨_, rfl, _, e1, b, e2, _, e3', by simp only [bind_some']; exact ⟨row, e4, by rw [if_pos hc]⟩⟩
        · simp at h
      · simp at h
    case s2b x =>
      simp only [evOp, evP, newRow, bind_some'] at h ⊢
      obtain ⟨a, e1, h⟩ := h
      cases a <;> simp only [reduceCtorEq, Option.some.injEq, Prod.mk.injEq] at h
      obtain ⟨rfl, rfl⟩ := h
      exact ⟨_, rfl, _, e1, rfl⟩
    case mks sz bytes zz l k =>
      simp only [evOp, evP, newRow, bind_some'] at h ⊢
      obtain ⟨a, e1, b, e2, h⟩ := h
      split at h
      · split at h
        · rename_i hc
          simp only [Option.some.injEq, Prod.mk.injEq] at h
          obtain ⟨rfl, rfl⟩ := h
          exact ⟨_, rfl, _, e1, _, e2, by simp only; rw [if_pos hc]⟩
        · simp at h
      · simp at h
    case call f as =>
      simp only [evOp, bind_some', Option.some.injEq, Prod.mk.injEq] at h ⊢
      obtain ⟨avs, e1, ⟨r, st'⟩, e2, rfl, rfl⟩ := h
      exact ⟨st', rfl, avs, e1, (r, st'), e2, rfl, rfl⟩
    case calld x as =>
      simp only [evOp, bind_some'] at h ⊢
      obtain ⟨fv, e1, h⟩ := h
      cases fv <;> simp only [reduceCtorEq, bind_some', Option.some.injEq, Prod.mk.injEq] at h
      obtain ⟨avs, e2, ⟨r, st'⟩, e3, rfl, rfl⟩ := h
      exact ⟨st', rfl, _, e1, by simp only [bind_some', Option.some.injEq, Prod.mk.injEq]; exact ⟨avs, e2, (r, st'), e3, rfl, rfl⟩⟩
end
end Go.X

/- GoX, part 13c: a region that draws and ends in a box that escapes. No statement of the seat is here. -/
set_option linter.unusedVariables false
set_option linter.unusedSimpArgs false
namespace Go.X
open Go

theorem lps_bound : ∀ g : Regs, ∃ m, ∀ t q k, lk g t = some (.lp q k) → q < m
  | [] => ⟨0, fun t q k h => by simp [lk] at h⟩
  | (a, r) :: g => by
    obtain ⟨m, hm⟩ := lps_bound g
    have hr : ∃ m', ∀ q k, r = .lp q k → q < m' := by
      cases r with
      | lp q k => exact ⟨q + 1, fun q' k' e => by cases e; omega⟩
      | v a => exact ⟨0, fun q k e => by cases e⟩
      | ls l => exact ⟨0, fun q k e => by cases e⟩
    obtain ⟨m', hm'⟩ := hr
    refine ⟨max m m', fun t q k h => ?_⟩
    simp only [lk] at h
    split at h
    · have := hm' q k (Option.some.inj h); omega
    · have := hm t q k h; omega
theorem evG_box {E : Call} {g g2 : Regs} {bx : Boxes} {st : Store} {o : XOper} {v : RV} {M' : Mem} (hf : boxFree o.op = true) {d : Nat} (z : List AV) (hg : ∀ t ∈ rdSl o, lk g2 t = lk g t) (hlp : ∀ t q k, lk g t = some (.lp q k) → q ≠ d) (h : evG E g ⟨bx, st⟩ o = some (v, M')) :
    ∃ st', M' = ⟨bx, st'⟩ ∧ evG E g2 ⟨(d, z) :: bx, st⟩ o = some (v, ⟨(d, z) :: bx, st'⟩) := by
  have e : evG E g2 ⟨(d, z) :: bx, st⟩ o = evG E g ⟨(d, z) :: bx, st⟩ o := evG_congr hg
  rw [e]
  simp only [evG, bind_some'] at h ⊢
  obtain ⟨w, hw, h⟩ := h
  cases w with
  | true =>
    obtain ⟨st', h1, h2⟩ := evOp_box hf z (fun t _ q k hk => hlp t q k hk) h
    exact ⟨st', h1, true, hw, h2⟩
  | false =>
    simp only [Option.some.injEq, Prod.mk.injEq] at h
    obtain ⟨rfl, rfl⟩ := h
    exact ⟨st, rfl, false, hw, rfl⟩
theorem evG_bx {E : Call} {g : Regs} {bx : Boxes} {st : Store} {o : XOper} {v : RV} {M' : Mem} (hf : boxFree o.op = true) (h : evG E g ⟨bx, st⟩ o = some (v, M')) : M'.bx = bx := by
  obtain ⟨m, hm⟩ := lps_bound g
  obtain ⟨st', h1, _⟩ := evG_box (d := m) hf [] (fun t _ => rfl) (fun t q k hk => by have := hm t q k hk; omega) h
  rw [h1]
theorem valK_of {E : Call} {xs : List XOper} {g : Regs} {M : Mem} {Sx : Nat → Bool} : ∀ {k t : Nat} {v : RV}, valK E xs g M Sx k t = some v → lk g t = some v ∨ ∃ j, j < k ∧ v = vAt E xs g M j
  | 0, t, v, h => .inl h
  | k + 1, t, v, h => by
    simp only [valK] at h
    split at h
    · exact .inr ⟨k, by omega, (Option.some.inj h).symm⟩
    · rcases valK_of h with h | ⟨j, h1, h2⟩
      · exact .inl h
      · exact .inr ⟨j, by omega, h2⟩
theorem valK_none {E : Call} {xs : List XOper} {g : Regs} {M : Mem} {Sx : Nat → Bool} {k t : Nat} (h : (xs.getD k default).dst = none) : valK E xs g M Sx (k + 1) t = valK E xs g M Sx k t := by
  simp only [valK, h, reduceCtorEq, and_false, if_false]
theorem vals_bound (f : Nat → RV) : ∀ n, ∃ m, ∀ j, j < n → ∀ q k, f j = .lp q k → q < m
  | 0 => ⟨0, fun j hj => by omega⟩
  | n + 1 => by
    obtain ⟨m, hm⟩ := vals_bound f n
    have hr : ∃ m', ∀ q k, f n = .lp q k → q < m' := by
      cases f n with
      | lp q k => exact ⟨q + 1, fun q' k' e => by cases e; omega⟩
      | v a => exact ⟨0, fun q k e => by cases e⟩
      | ls l => exact ⟨0, fun q k e => by cases e⟩
    obtain ⟨m', hm'⟩ := hr
    refine ⟨max m m', fun j hj q k e => ?_⟩
    rcases Nat.lt_or_ge j n with h | h
    · have := hm j h q k e; omega
    · have : j = n := by omega
      subst this
      have := hm' q k e; omega
theorem box_bound : ∀ bx : Boxes, ∃ m, ∀ e, m ≤ e → lk bx e = none
  | [] => ⟨0, fun e _ => rfl⟩
  | (a, b) :: l => by
    obtain ⟨m, hm⟩ := box_bound l
    refine ⟨max m (a + 1), fun e he => ?_⟩
    simp only [lk]
    rw [if_neg (by omega)]
    exact hm e (by omega)

/-! ### The region -/

theorem execOps_append {E : Call} : ∀ {A B : List XOper} {g : Regs} {M : Mem}, execOps E (A ++ B) g M = (execOps E A g M).bind fun p => execOps E B p.1 p.2
  | [], B, g, M => rfl
  | o :: A, B, g, M => by
    simp only [List.cons_append, execOps, Option.bind_assoc]
    congr 1
    funext p
    obtain ⟨v, M'⟩ := p
    exact execOps_append
theorem trace_pre {E : Call} (B B' : List XOper) : ∀ {A : List XOper} {g : Regs} {M : Mem}, ∀ j, j ≤ A.length → (trace E (A ++ B) g M)[j]? = (trace E (A ++ B') g M)[j]?
  | [], g, M, j, hj => by
    have : j = 0 := by simpa using hj
    subst this
    rw [trace_zero, trace_zero]
  | o :: A, g, M, j, hj => by
    cases j with
    | zero => rw [trace_zero, trace_zero]
    | succ j =>
      simp only [List.cons_append, trace, List.getElem?_cons_succ]
      cases evG E g M o with
      | none => rfl
      | some p => exact trace_pre B B' j (by simpa using hj)

def nop : XOper := ⟨none, .mv (.c .un), none⟩
def escTail (d : Nat) (z : List AV) (x : XO) : List XOper := [⟨some d, .alloc false d z, none⟩, ⟨none, .store z.length (.t d) x, none⟩]

section
variable {P : Program} {base : Nat} {W0 : World} {c0 : Ctx} {n : Nat} {c : Ctx} {γ : Nat → Nat} {g : Regs} {bx : Boxes} {tmps : Array Value}

/-- A region that ends in a box that escapes. -/
theorem esc_sound {E : Call} (hE : SoundCall P base W0 E) (hw0 : Sim base c0 ∧ Old base W0 c0.w) (hm : P.follows .mixedOrders = true) (hb0 : base ≤ c0.w.heap.size) {lo : List Nat} {id : Nat} {ops : Array Oper} {A : List XOper} {d : Nat} {z : List AV} {x : XO} {pairs : List (Nat × Nat)}
    (hxs : allSome (compOper P n lo ops) ops.toList = some (A ++ escTail d z x)) (hx : x ≠ .t d) (hz : 0 < z.length)
    (hal : ∃ o t, ops[A.length]? = some o ∧ o.op = .alloc t ∧ zeroOf P t = some z ∧ o.dst = some d ∧ o.guard = none)
    (hA : ∀ o ∈ A, boxFree o.op = true ∧ d ∉ rdSl o ∧ o.dst ≠ some d) (hlast : ∀ i, i < A.length + 1 → ((masks ops.toList []).getD (A.length + 1) 0).testBit i = true)
    (hok : drawOk ops.toList (A ++ [nop, nop]) pairs = true) {g' : Regs} {M' : Mem} (he : execOps E (A ++ escTail d z x) g ⟨bx, c.σ⟩ = some (g', M')) (hst : stable E (A ++ [nop, nop]) g ⟨bx, c.σ⟩ pairs) (h : FI base c0 n c γ g bx tmps) {Q : Exit → Act → World → Prop} {dfs : List Deferred}
    (hQ : ∀ c' γ' tmps', c'.σ = M'.st → FI base c0 n c' γ' g' M'.bx tmps' → Q .normal ⟨tmps', dfs⟩ c'.w) : (Code.region id ops true).wp P Q ⟨tmps, dfs⟩ c.w := by
  obtain ⟨hlen, hget⟩ := allSome_get hxs
  have hsz : ops.size = A.length + 2 := by rw [← Array.length_toList, hlen]; simp [escTail]
  have hl2 : (A ++ [nop, nop]).length = ops.toList.length := by rw [hlen]; simp [escTail]
  have F := drawOk_facts hl2 hok
  have hn : (A ++ [nop, nop]).length = A.length + 2 := by simp
  -- the text's order
  rw [execOps_append] at he
  simp only [bind_some'] at he
  obtain ⟨⟨gA, MA⟩, heA, heT⟩ := he
  have heN : execOps E (A ++ [nop, nop]) g ⟨bx, c.σ⟩ = some (gA, MA) := by
    rw [execOps_append, heA]; rfl
  have hgetA : ∀ i, i < A.length → (A ++ [nop, nop]).getD i default = A.getD i default := by
    intro i hi
    simp only [List.getD_eq_getElem?_getD]
    rw [List.getElem?_append_left hi]
  have hgetN : (A ++ [nop, nop]).getD A.length default = nop := by
    simp only [List.getD_eq_getElem?_getD]
    rw [List.getElem?_append_right (Nat.le_refl _)]; simp
  have hgetN1 : (A ++ [nop, nop]).getD (A.length + 1) default = nop := by
    simp only [List.getD_eq_getElem?_getD]
    rw [List.getElem?_append_right (by omega)]; simp
  have hbf : ∀ i, i < (A ++ [nop, nop]).length → boxFree ((A ++ [nop, nop]).getD i default).op = true := by
    intro i hi
    rcases Nat.lt_or_ge i A.length with h1 | h1
    · rw [hgetA i h1]
      exact (hA _ (by rw [List.getD_eq_getElem?_getD, List.getElem?_eq_getElem h1]; exact List.getElem_mem h1)).1
    · rcases (show i = A.length ∨ i = A.length + 1 by omega) with rfl | rfl
      · rw [hgetN]; rfl
      · rw [hgetN1]; rfl
  have hbx : ∀ j, j ≤ (A ++ [nop, nop]).length → (trAt E (A ++ [nop, nop]) g ⟨bx, c.σ⟩ j).2.bx = bx := by
    intro j
    induction j with
    | zero => intro _; simp [trAt, trace_zero]
    | succ j ih =>
      intro hj
      have h1 := (tr_step heN (j := j) (by omega)).1
      have h2 := ih (by omega)
      have e : ∀ M : Mem, M.bx = bx → M = ⟨bx, M.st⟩ := fun M hM => by cases M; simp only at hM; subst hM; rfl
      rw [e _ h2] at h1
      exact evG_bx (hbf j (by omega)) h1
  -- a name for the box
  obtain ⟨m1, hm1⟩ := lps_bound g
  obtain ⟨m2, hm2⟩ := vals_bound (vAt E (A ++ [nop, nop]) g ⟨bx, c.σ⟩) (A.length + 2)
  obtain ⟨m3, hm3⟩ := box_bound bx
  obtain ⟨e, he1, he2, he3⟩ : ∃ e, m1 ≤ e ∧ m2 ≤ e ∧ lk bx e = none := ⟨max m1 (max m2 m3), by omega, by omega, hm3 _ (by omega)⟩
  have hnoe : ∀ {Sx : Nat → Bool} {t q k : Nat}, valK E (A ++ [nop, nop]) g ⟨bx, c.σ⟩ Sx (A ++ [nop, nop]).length t = some (.lp q k) → q ≠ e := by
    intro Sx t q k hv
    rcases valK_of hv with h1 | ⟨j, h1, h2⟩
    · have := hm1 t q k h1; omega
    · have := hm2 j (by omega) q k h2.symm; omega
  -- the draw itself
  obtain ⟨hs0, he0⟩ := h.sim.world (X := fun _ => False) (w' := { c.w with drawn := c.w.drawn + 1 }) rfl rfl rfl (Nat.le_refl _) (fun b hb => hb.elim) (fun b hb _ => rfl)
  have h0 := h.next hs0 he0
  refine wp_region_any hm ?_
  have key : ∀ (fuel : Nat) (listed : Array Bool) (c1 : Ctx) (γ1 : Nat → Nat) (g1 : Regs) (tmps1 : Array Value), listed.size = ops.size → cnt (fun j => listed.getD j false) ops.size + fuel = ops.size → listed.getD (A.length + 1) false = false →
      Closed ops.toList (fun j => listed.getD j false = true) → (trAt E (A ++ [nop, nop]) g ⟨bx, c.σ⟩ (wl (A ++ [nop, nop]) pairs (fun j => listed.getD j false) (A ++ [nop, nop]).length)).2 = ⟨bx, c1.σ⟩ →
      (∀ t, lk g1 t = valK E (A ++ [nop, nop]) g ⟨bx, c.σ⟩ (fun j => listed.getD j false) (A ++ [nop, nop]).length t) →
      ((listed.getD A.length false = false ∧ FI base c0 n c1 γ1 g1 bx tmps1) ∨ (listed.getD A.length false = true ∧ FI base c0 n c1 γ1 ((d, .lp e 0) :: g1) ((e, z) :: bx) tmps1)) → wpAny P .any ops Q fuel listed ⟨tmps1, dfs⟩ c1.w := by
    intro fuel
    induction fuel with
    | zero =>
      intro listed c1 γ1 g1 tmps1 hsl hcnt hq hcl hmem hreg hfi
      have hall := cnt_full (Sx := fun j => listed.getD j false) (m := ops.size) (by omega) (A.length + 1) (by omega)
      simp only [hq] at hall
      exact absurd hall (by simp)
    | succ fuel ih =>
      intro listed c1 γ1 g1 tmps1 hsl hcnt hq hcl hmem hreg hfi
      refine ⟨fun hr => ?_, fun i hi => ?_⟩
      · exfalso
        have hall : ∀ k, k < ops.size → listed.getD k false = true := by
          intro k
          induction k using Nat.strongRecOn with
          | _ k ihk =>
            intro hk
            cases hl : listed.getD k false with
            | true => rfl
            | false =>
              exfalso
              have : k ∈ Region.ready .any ops listed := by
                refine mem_ready'.2 ⟨hk, ?_, ops[k], Array.getElem?_eq_getElem hk, fun e' he' => ?_⟩
                · simp only [Array.getD_eq_getD_getElem?, Array.getElem?_eq_getElem (by omega : k < listed.size), Option.getD_some] at hl ⊢
                  exact hl
                · have := F.deps k ops[k] (by simp) e' he'
                  exact ihk e' this (by omega)
              rw [hr] at this
              exact absurd this (by simp)
        have := hall (A.length + 1) (by omega)
        rw [hq] at this
        exact absurd this (by simp)
      · obtain ⟨h1, h2, o, ho, hd⟩ := mem_ready'.1 hi
        have hno : listed.getD i false = false := by
          simp only [Array.getD_eq_getD_getElem?, Array.getElem?_eq_getElem (by omega : i < listed.size), Option.getD_some] at h2 ⊢
          exact h2
        have hlo : ops.toList[i]? = some o := by simpa using ho
        have hrd : Ready ops.toList (fun j => listed.getD j false) i := ⟨by simpa using h1, hno, fun o' ho' => by rw [hlo] at ho'; cases ho'; exact hd⟩
        have hnext : ∀ j, (listed.setIfInBounds i true).getD j false = (j == i || listed.getD j false) := by
          intro j
          simp only [Array.getD_eq_getD_getElem?, Array.getElem?_setIfInBounds]
          by_cases e : i = j
          · subst e; simp [hsl, h1]
          · have : (j == i) = false := by simp; omega
            simp [e, this]
        have hfun : (fun j => (listed.setIfInBounds i true).getD j false) = fun j => j == i || listed.getD j false := funext hnext
        have hcnt' : cnt (fun j => (listed.setIfInBounds i true).getD j false) ops.size + fuel = ops.size := by
          rw [hfun, cnt_add (Sx := fun j => listed.getD j false) hno, if_pos h1]; omega
        have hcl' : Closed ops.toList (fun j => (listed.setIfInBounds i true).getD j false = true) := by
          intro j o' hj ho' e' he'
          have hj : (listed.setIfInBounds i true).getD j false = true := hj
          rw [hnext] at hj
          show (listed.setIfInBounds i true).getD e' false = true
          rw [hnext]
          rw [Bool.or_eq_true] at hj ⊢
          rcases hj with hj | hj
          · have : j = i := by simpa using hj
            subst this
            rw [hlo] at ho'; cases ho'
            exact .inr (hd e' he')
          · exact .inr (hcl j o' hj ho' e' he')
        have hstep := step_same F heN hst hrd hcl
        rw [hmem] at hstep
        obtain ⟨xi, hxi⟩ : ∃ xi, (A ++ escTail d z x)[i]? = some xi := ⟨_, List.getElem?_eq_getElem (by simp [escTail]; omega)⟩
        have hco : compOper P n lo ops o = some xi := by
          obtain ⟨o', k1, k2⟩ := hget i xi hxi
          rw [hlo] at k1; cases k1
          exact k2
        have wrap : ∀ {w : World}, w = c1.w → (if Region.wanted o (yielded ops tmps1) then o.wp P ⟨tmps1, dfs⟩ w (wpAny P .any ops Q fuel (listed.setIfInBounds i true)) Q else wpAny P .any ops Q fuel (listed.setIfInBounds i true) ((⟨tmps1, dfs⟩ : Act).put o.dst undef) w) → wpOp P ops Q i (wpAny P .any ops Q fuel (listed.setIfInBounds i true)) ⟨tmps1, dfs⟩ c1.w := by
          intro w hw hop
          subst hw
          unfold wpOp
          rw [ho]
          simp only
          split
          · rename_i hw; rw [if_pos hw] at hop; exact .inl hop
          · rename_i hw; rw [if_neg hw] at hop; exact hop
        have mbx : ∀ M : Mem, M.bx = bx → M = ⟨bx, M.st⟩ := fun M hM => by cases M; simp only at hM; subst hM; rfl
        rcases Nat.lt_trichotomy i A.length with hi1 | hi1 | hi1
        · -- one of the others
          have hxA : A[i]? = some xi := by rw [List.getElem?_append_left hi1] at hxi; exact hxi
          have hgd : (A ++ [nop, nop]).getD i default = xi := by rw [hgetA i hi1, List.getD_eq_getElem?_getD, hxA]; rfl
          have hmemA : xi ∈ A := List.mem_of_getElem? hxA
          obtain ⟨b1, b2, b3⟩ := hA xi hmemA
          have hev : evG E g1 ⟨bx, c1.σ⟩ xi = some (vAt E (A ++ [nop, nop]) g ⟨bx, c.σ⟩ i, (trAt E (A ++ [nop, nop]) g ⟨bx, c.σ⟩ (wl (A ++ [nop, nop]) pairs (fun j => j == i || listed.getD j false) (A ++ [nop, nop]).length)).2) := by
            rw [hgd] at hstep
            rw [← hstep]
            refine evG_congr fun t ht => ?_
            rw [hreg t]
            exact reads_same F heN hrd hcl (by rw [hgd]; exact ht)
          have hM2 := mbx _ (hbx (wl (A ++ [nop, nop]) pairs (fun j => j == i || listed.getD j false) (A ++ [nop, nop]).length) (wl_le _ _ _ _))
          have hreg' : ∀ t, lk (Go.X.putd g1 xi.dst (vAt E (A ++ [nop, nop]) g ⟨bx, c.σ⟩ i)) t = valK E (A ++ [nop, nop]) g ⟨bx, c.σ⟩ (fun j => (listed.setIfInBounds i true).getD j false) (A ++ [nop, nop]).length t := by
            intro t
            rw [hfun, val_put F hrd hcl t, hgd]
            cases hdst : xi.dst with
            | none => simp only [Go.X.putd, reduceCtorEq, if_false]; exact hreg t
            | some k =>
              simp only [Go.X.putd, lk]
              by_cases e : k = t
              · subst e; simp
              · rw [if_neg e, if_neg (by simpa using e)]; exact hreg t
          have hq' : (listed.setIfInBounds i true).getD (A.length + 1) false = false := by
            rw [hnext, hq, Bool.or_false]; simp; omega
          have hN' : (listed.setIfInBounds i true).getD A.length false = listed.getD A.length false := by
            rw [hnext]
            have : (A.length == i) = false := by simp; omega
            rw [this, Bool.false_or]
          rcases hfi with ⟨f1, f2⟩ | ⟨f1, f2⟩
          · refine wrap rfl (oper_sound hE hw0 f2 hb0 hco hev (fun c' γ' tmps' e1 e2 => ?_))
            rw [hM2] at e1 e2
            refine ih (listed.setIfInBounds i true) c' γ' _ tmps' (by simpa using hsl) hcnt' hq' hcl' (by rw [hfun, e1]; exact hM2) hreg' (.inl ⟨by rw [hN']; exact f1, e2⟩)
          · obtain ⟨st', k1, k2⟩ := evG_box (g2 := (d, .lp e 0) :: g1) b1 z (d := e) (fun t ht => by
                simp only [lk]
                rw [if_neg (fun h => b2 (by rw [h]; exact ht))]) (fun t q k hk => hnoe (by rw [← hreg t]; exact hk)) hev
            refine wrap rfl (oper_sound hE hw0 f2 hb0 hco k2 (fun c' γ' tmps' e1 e2 => ?_))
            refine ih (listed.setIfInBounds i true) c' γ' _ tmps' (by simpa using hsl) hcnt' hq' hcl' (by rw [hfun, e1]; exact k1) hreg' (.inr ⟨by rw [hN']; exact f1, e2.sub fun t rv ht => ?_⟩)
            cases hdst : xi.dst with
            | none => rw [hdst] at ht; simpa [Go.X.putd] using ht
            | some k =>
              rw [hdst] at ht
              have hkd : k ≠ d := fun e => b3 (by rw [hdst, e])
              simp only [Go.X.putd, lk] at ht ⊢
              by_cases e1 : d = t
              · rw [if_pos e1] at ht
                rw [if_neg (fun e2 => hkd (e2.trans e1.symm)), if_pos e1]; exact ht
              · rw [if_neg e1] at ht
                by_cases e2 : k = t
                · rw [if_pos e2] at ht ⊢; exact ht
                · rw [if_neg e2] at ht ⊢; rw [if_neg e1]; exact ht
        · -- the box
          subst hi1
          obtain ⟨o', t, q1, q2, q3, q4, q5⟩ := hal
          rw [ho] at q1; cases q1
          rcases hfi with ⟨f1, f2⟩ | ⟨f1, _⟩
          · obtain ⟨c', γ', y, hr, r1, r2, r3⟩ := s_alloc (a := ⟨tmps1, dfs⟩) f2 rfl q2 q3 hz (lo := true) (d := e) (rv := .lp e 0) (M' := ⟨(e, z) :: bx, c1.σ⟩) (by simp [evP, he3])
            obtain ⟨_, _, k3, k4⟩ := compOper_sound hco
            obtain ⟨p1, p2⟩ := r2.putd r3 dfs (d := o.dst) k4
            rw [hgetN] at hstep
            have hsm : (trAt E (A ++ [nop, nop]) g ⟨bx, c.σ⟩ (wl (A ++ [nop, nop]) pairs (fun j => j == A.length || listed.getD j false) (A ++ [nop, nop]).length)).2 = ⟨bx, c1.σ⟩ := by
              simp only [nop, evG, wants, evOp, evP, ev, Option.bind_some, Option.some.injEq, Prod.mk.injEq] at hstep
              exact hstep.2.symm
            refine wrap rfl ?_
            rw [wanted_sound f2 (gd := none) (by rw [q5]; rfl) (w := true) rfl]
            simp only [if_true]
            have fin : wpAny P .any ops Q fuel (listed.setIfInBounds A.length true) ((⟨tmps1, dfs⟩ : Act).put o.dst y) c'.w := by
              rw [p2]
              refine ih (listed.setIfInBounds A.length true) c' γ' g1 _ (by simpa using hsl) hcnt' (by rw [hnext, hq, Bool.or_false]; simp) hcl' (by rw [hfun, r1]; exact hsm) (fun t => ?_) (.inr ⟨by rw [hnext]; simp, ?_⟩)
              · rw [hfun, val_put F hrd hcl t, hgetN]
                simp only [nop, reduceCtorEq, if_false]
                exact hreg t
              · rw [q4] at p1 ⊢
                exact p1
            unfold Oper.wp
            rcases hr with hr | ⟨hr, rfl⟩ <;> rw [hr] <;> exact fin
          · rw [hno] at f1; exact absurd f1 (by simp)
        · -- the store, last
          have hi2 : i = A.length + 1 := by omega
          subst hi2
          have hall : ∀ k, k < A.length + 1 → listed.getD k false = true := fun k hk => hrd.before hcl (hlast k hk)
          rcases hfi with ⟨f1, _⟩ | ⟨f1, f2⟩
          · rw [hall A.length (by omega)] at f1; exact absurd f1 (by simp)
          · have hnw : ∀ k, A.length ≤ k → k < A.length + 2 → isWp pairs k ((A ++ [nop, nop]).getD k default).op = false := by
              refine fun k k1 k2 => isWp_of ?_
              revert k k1 k2
              intro k k1 k2
              rcases (show k = A.length ∨ k = A.length + 1 by omega) with rfl | rfl
              · rw [hgetN]; rfl
              · rw [hgetN1]; rfl
            have htl := trace_last heN
            have htr : trAt E (A ++ [nop, nop]) g ⟨bx, c.σ⟩ (A ++ [nop, nop]).length = (gA, MA) := by simp only [trAt, htl, Option.getD_some]
            have hMA : MA = ⟨bx, c1.σ⟩ := by
              rw [← hmem]
              have e1 : MA = (trAt E (A ++ [nop, nop]) g ⟨bx, c.σ⟩ (A ++ [nop, nop]).length).2 := by rw [htr]
              rw [e1]
              rcases wl_spec (A ++ [nop, nop]) pairs (fun j => listed.getD j false) (A ++ [nop, nop]).length with ⟨k1, k2⟩ | ⟨q, k1, k2, k3, k4, k5⟩
              · rw [k1]; exact tr_same heN hst (Nat.zero_le _) (Nat.le_refl _) (fun k _ hk => by
                  rcases Nat.lt_or_ge k (A.length + 1) with h | h
                  · exact k2 k hk (hall k h)
                  · exact hnw k (by omega) (by omega))
              · rw [k2]; exact tr_same heN hst (by omega) (Nat.le_refl _) (fun k hk1 hk2 => by
                  rcases Nat.lt_or_ge k (A.length + 1) with h | h
                  · exact k5 k (by omega) hk2 (hall k h)
                  · exact hnw k (by omega) (by omega))
            have hR : ∀ t, lk gA t = lk g1 t := by
              intro t
              have e1 : lk gA t = lk (trAt E (A ++ [nop, nop]) g ⟨bx, c.σ⟩ (A ++ [nop, nop]).length).1 t := by rw [htr]
              rw [e1, tr_reg heN (Nat.le_refl _), hreg t]
              have : ∀ k, k ≤ (A ++ [nop, nop]).length → valK E (A ++ [nop, nop]) g ⟨bx, c.σ⟩ (fun _ => true) k t = valK E (A ++ [nop, nop]) g ⟨bx, c.σ⟩ (fun j => listed.getD j false) k t := by
                intro k
                induction k with
                | zero => intro _; rfl
                | succ k ih2 =>
                  intro hk
                  rcases Nat.lt_or_ge k (A.length + 1) with h | h
                  · have := hall k h
                    simp only [valK, true_and, this, ih2 (by omega)]
                  · have e : k = A.length + 1 := by omega
                    subst e
                    have hd0 : ((A ++ [nop, nop]).getD (A.length + 1) default).dst = none := by rw [hgetN1]; rfl
                    rw [valK_none hd0, valK_none hd0]
                    exact ih2 (by omega)
              exact this _ (Nat.le_refl _)
            obtain ⟨c2, w2, s2, f3⟩ := f2.promote hb0 hz (d := d) (by simp [lk]) (fun t q k ht hk => by
              simp only [lk] at hk
              rw [if_neg (Ne.symm ht)] at hk
              exact hnoe (by rw [← hreg t]; exact hk)) he3
            have hxe : xi = ⟨none, .store z.length (.t d) x, none⟩ := by
              rw [List.getElem?_append_right (by omega)] at hxi
              simp [escTail] at hxi
              exact hxi.symm
            subst hMA
            have eT : execOps E (escTail d z x) gA ⟨bx, c1.σ⟩ = (evG E ((d, .v (.ptr c1.σ.length 0 0 0)) :: gA) ⟨bx, c1.σ ++ [⟨[z], z.length, 0, .own⟩]⟩ xi).bind (fun p => some ((d, .v (.ptr c1.σ.length 0 0 0)) :: gA, p.2)) := by rw [hxe]; rfl
            rw [eT] at heT
            simp only [bind_some', Option.some.injEq, Prod.mk.injEq] at heT
            obtain ⟨⟨v, M2⟩, k1, k2, k3⟩ := heT
            subst k2; subst k3
            have hG : ∀ t, lk ((d, RV.v (.ptr c1.σ.length 0 0 0)) :: (d, .lp e 0) :: g1) t = lk ((d, RV.v (.ptr c1.σ.length 0 0 0)) :: gA) t := by
              intro t
              simp only [lk]
              split
              · rfl
              · exact (hR t).symm
            have hev : evG E ((d, .v (.ptr c1.σ.length 0 0 0)) :: (d, .lp e 0) :: g1) ⟨bx, c2.σ⟩ xi = some (v, M2) := by
              rw [s2, ← k1]
              exact evG_congr fun t _ => hG t
            refine wrap w2 (oper_sound hE hw0 f3 hb0 hco hev (fun c' γ' tmps' e1 e2 => ?_))
            have hall' : ∀ k, k < ops.size → (listed.setIfInBounds (A.length + 1) true).getD k false = true := by
              intro k hk
              rw [hnext]
              by_cases hk2 : k = A.length + 1
              · simp [hk2]
              · rw [hall k (by omega), Bool.or_true]
            have hct : ∀ m, m ≤ ops.size → cnt (fun j => (listed.setIfInBounds (A.length + 1) true).getD j false) m = m := by
              intro m
              induction m with
              | zero => intro _; rfl
              | succ m ihm => intro hm; simp only [cnt]; rw [ihm (by omega), if_pos (hall' m (by omega))]
            have hf0 : fuel = 0 := by have := hct ops.size (Nat.le_refl _); omega
            subst hf0
            refine ⟨?_, hQ c' γ' tmps' e1 (e2.sub fun t rv ht => ?_)⟩
            · cases hr : Region.ready .any ops (listed.setIfInBounds (A.length + 1) true) with
              | nil => rfl
              | cons i l =>
                have : i ∈ Region.ready .any ops (listed.setIfInBounds (A.length + 1) true) := by rw [hr]; simp
                obtain ⟨h1, h2, _⟩ := mem_ready'.1 this
                have h3 := hall' i h1
                have hs2 : i < (listed.setIfInBounds (A.length + 1) true).size := by simp; omega
                simp only [Array.getD_eq_getD_getElem?, Array.getElem?_eq_getElem hs2, Option.getD_some] at h2 h3
                rw [h2] at h3; exact absurd h3 (by simp)
            · rw [hxe]
              show lk ((d, RV.v (.ptr c1.σ.length 0 0 0)) :: (d, .lp e 0) :: g1) t = some rv
              rw [hG t]; exact ht
  have hz' : ∀ j, (Array.replicate ops.size false).getD j false = false := by
    intro j
    rw [Array.getD_eq_getD_getElem?, Array.getElem?_replicate]
    split <;> rfl
  have hfz : (fun j => (Array.replicate ops.size false).getD j false) = fun _ => false := funext hz'
  have c0z : ∀ m, cnt (fun _ => false) m = 0 := by
    intro m; induction m with
    | zero => rfl
    | succ m ih => simp [cnt, ih]
  refine key ops.size (Array.replicate ops.size false) ⟨c.β, c.σ, { c.w with drawn := c.w.drawn + 1 }⟩ γ g tmps (by simp) ?_ (hz' _) ?_ ?_ ?_ (.inl ⟨hz' _, h0⟩)
  · rw [hfz, c0z]; omega
  · intro j o' hj; rw [hz'] at hj; exact absurd hj (by simp)
  · rw [hfz]
    have : ∀ m, wl (A ++ [nop, nop]) pairs (fun _ => false) m = 0 := by
      intro m; induction m with
      | zero => rfl
      | succ m ih => simp [wl, ih]
    rw [this]
    simp [trAt, trace_zero]
  · intro t
    rw [hfz]
    have : ∀ m, valK E (A ++ [nop, nop]) g ⟨bx, c.σ⟩ (fun _ => false) m t = lk g t := by
      intro m; induction m with
      | zero => rfl
      | succ m ih => simp [valK, ih]
    rw [this]
end
end Go.X

/- GoX, part 14: code and functions: what the executor tells of a call is what the model's call comes to. No statement of the seat is here. -/
set_option linter.unusedVariables false
set_option linter.unusedSimpArgs false
namespace Go.X
open Go

/-! ### Resolving code -/

/-- What is said by hand of a function: which boxes are the frame's own, what lives behind a region (by the region's number) and at a loop's head (by the number of its first region) and whether rows of the call's own are forgotten at its end. -/
structure Flags where
  lo : List Nat
  lr : List (Nat × List Nat)
  ll : List (Nat × List Nat)
  pop : Bool

def fstReg : Code → Nat
  | .region id _ _ => id
  | .seq a _ => fstReg a
  | .cond _ a _ => fstReg a
  | .block _ a => fstReg a
  | .loop a => fstReg a
  | _ => 0

/-- Of a region that draws: which reads may meet which writes. -/
def pairsOf (ops : List Oper) (xs : List XOper) : List (Nat × Nat) :=
  let ms := masks ops []
  let ro := (List.range ops.length).filter fun j => (xs.getD j default).op.isCall && (List.range ops.length).any fun i =>
    i != j && isW (xs.getD i default).op && !(ms.getD j 0).testBit i && !(ms.getD i 0).testBit j
  (ro.map fun j => (j, j)) ++ (List.range ops.length).flatMap fun j => (List.range j).flatMap fun i =>
    let a := (xs.getD i default).op
    let b := (xs.getD j default).op
    let wa := isW a && !ro.contains i
    let wb := isW b && !ro.contains j
    let ra := isR a || ro.contains i
    let rb := isR b || ro.contains j
    if (ms.getD j 0).testBit i then [] else (if wa && rb then [(j, i)] else []) ++ (if ra && wb then [(i, j)] else [])

def escPairs (ops : List Oper) (xs : List XOper) : List (Nat × Nat) := pairsOf ops (xs.take (xs.length - 2) ++ [nop, nop])
/-- A region that ends in a box that escapes (esc_sound). -/
def escOk (ops : Array Oper) (xs : List XOper) : Bool :=
  let N := xs.length - 2
  match xs[N]?, xs[N + 1]?, ops[N]? with
  | some ⟨some d, .alloc false d1 z, none⟩, some ⟨none, .store sz (.t d2) x, none⟩, some o =>
    decide (2 ≤ xs.length) && d == d1 && d == d2 && sz == z.length && (match x with | .t m => m != d | _ => true) && decide (0 < z.length) &&
      (match o.op with | .alloc _ => true | _ => false) && o.guard.isNone &&
      (xs.take N).all (fun o => boxFree o.op && !(rdSl o).contains d && (o.dst != some d)) &&
      ((List.range (N + 1)).all fun i => ((masks ops.toList []).getD (N + 1) 0).testBit i) &&
      ((escPairs ops.toList xs).all fun p => decide (p.1 < N) && decide (p.2 < N)) &&
      drawOk ops.toList (xs.take N ++ [nop, nop]) (escPairs ops.toList xs)
  | _, _, _ => false

theorem escOk_spec {P : Program} {n : Nat} {lo : List Nat} {ops : Array Oper} {xs : List XOper} (h : escOk ops xs = true) (hxs : allSome (compOper P n lo ops) ops.toList = some xs) :
    ∃ A d z x, xs = A ++ escTail d z x ∧ x ≠ .t d ∧ 0 < z.length ∧ (∃ o t, ops[A.length]? = some o ∧ o.op = .alloc t ∧ zeroOf P t = some z ∧ o.dst = some d ∧ o.guard = none) ∧
      (∀ o ∈ A, boxFree o.op = true ∧ d ∉ rdSl o ∧ o.dst ≠ some d) ∧ (∀ i, i < A.length + 1 → ((masks ops.toList []).getD (A.length + 1) 0).testBit i = true) ∧
      (∀ p ∈ escPairs ops.toList xs, p.1 < A.length ∧ p.2 < A.length) ∧ drawOk ops.toList (A ++ [nop, nop]) (escPairs ops.toList xs) = true := by
  obtain ⟨hlen, hget⟩ := allSome_get hxs
  unfold escOk at h
  simp only at h
  split at h
  · rename_i d d1 z sz d2 x o hp hq ho
    simp only [Bool.and_eq_true, decide_eq_true_eq, beq_iff_eq] at h
    obtain ⟨⟨⟨⟨⟨⟨⟨⟨⟨⟨⟨g1, g2⟩, g3⟩, g4⟩, g5⟩, g6⟩, g7⟩, g8⟩, g9⟩, g10⟩, g11⟩, g12⟩ := h
    subst g2; subst g3; subst g4
    have hA : (xs.take (xs.length - 2)).length = xs.length - 2 := by simp
    have hxe : xs = xs.take (xs.length - 2) ++ escTail d z x := by
      have h1 : xs.drop (xs.length - 2) = escTail d z x := by
        apply List.ext_getElem?
        intro i
        rw [List.getElem?_drop]
        match i with
        | 0 => rw [Nat.add_zero, hp]; rfl
        | 1 => rw [hq]; rfl
        | i + 2 => rw [List.getElem?_eq_none (by omega)]; rfl
      rw [← h1, List.take_append_drop]
    refine ⟨xs.take (xs.length - 2), d, z, x, hxe, ?_, g6, ?_, ?_, ?_, ?_, g12⟩
    · intro e
      subst e
      simp at g5
    · rw [hA]
      have ho' : ops.toList[xs.length - 2]? = some o := by simpa using ho
      obtain ⟨o', k1, k2⟩ := hget _ _ hp
      rw [ho'] at k1; cases k1
      obtain ⟨c1, c2, c3, _⟩ := compOper_sound k2
      cases hop : o.op with
      | alloc t =>
        unfold compOp at c2
        rw [hop] at c2
        simp only [bind_some'] at c2
        obtain ⟨z', e1, d', e2, e3⟩ := c2
        split at e3
        · simp only [Option.some.injEq, XOp.alloc.injEq] at e3
          obtain ⟨_, _, rfl⟩ := e3
          exact ⟨o, t, ho, hop, e1, c1.symm, by simpa using g8⟩
        · simp at e3
      | _ => rw [hop] at g7; simp at g7
    · intro o hmem
      have := List.all_eq_true.1 g9 o hmem
      simp only [Bool.and_eq_true, Bool.not_eq_true', bne_iff_ne, ne_eq] at this
      refine ⟨this.1.1, ?_, this.2⟩
      have h2 := this.1.2
      simpa using h2
    · intro i hi
      rw [hA] at hi ⊢
      exact List.all_eq_true.1 g10 i (List.mem_range.2 hi)
    · intro p hp'
      have := List.all_eq_true.1 g11 p hp'
      rw [hA]
      simpa using this
  · cases h

/-- What is stable in the text is stable in the text without the box. -/
theorem stable_esc {E : Call} {A B B' : List XOper} {g : Regs} {M : Mem} {pairs : List (Nat × Nat)} (hp : ∀ p ∈ pairs, p.1 < A.length ∧ p.2 < A.length) (h : stable E (A ++ B) g M pairs) : stable E (A ++ B') g M pairs := by
  intro p hmem o g1 M1 v M' gi Mi gn Mn e1 e2 e3 e4 e5
  obtain ⟨h1, h2⟩ := hp p hmem
  refine h p hmem o g1 M1 v M' gi Mi gn Mn ?_ ?_ e3 ?_ ?_
  · rw [List.getElem?_append_left h1] at e1 ⊢; exact e1
  · rw [trace_pre B B' p.1 (by omega)]; exact e2
  · rw [trace_pre B B' p.2 (by omega)]; exact e4
  · rw [trace_pre B B' (p.2 + 1) (by omega)]; exact e5

def compC (P : Program) (n : Nat) (fl : Flags) : Code → Option XC
  | .skip => some .skip
  | .ret => some .ret
  | .exit id => some (.exit id)
  | .region id ops false => (allSome (compOper P n fl.lo ops) ops.toList).bind fun xs => some (.reg xs ((lk fl.lr id).getD []) none)
  | .region id ops true => (allSome (compOper P n fl.lo ops) ops.toList).bind fun xs =>
      if drawOk ops.toList xs (pairsOf ops.toList xs) = true then some (.reg xs ((lk fl.lr id).getD []) (some (pairsOf ops.toList xs)))
      else if escOk ops xs = true then some (.reg xs ((lk fl.lr id).getD []) (some (escPairs ops.toList xs))) else none
  | .seq a b => (compC P n fl a).bind fun x => (compC P n fl b).bind fun y => some (.seq x y)
  | .cond c a b => (cO c).bind fun v => (compC P n fl a).bind fun x => (compC P n fl b).bind fun y => some (.cond v x y)
  | .block id a => (compC P n fl a).bind fun x => some (.block id x)
  | .loop a => (compC P n fl a).bind fun x => some (.loop ((lk fl.ll (fstReg a)).getD []) x)
  | _ => none

def compRes (P : Program) : ResultVar → Option XRes
  | .tmp t => some (.t t)
  | .cell a t => (isAggT P t).bind fun ag => (szOf P t).bind fun s => some (.cell a ag s)

def compF (P : Program) (fl : Flags) (f : FuncId) : Option CFun :=
  (P.funcs[f]?).bind fun fn => fn.body.bind fun b =>
    if (fn.name == "runtime.NumGoroutine") = false ∧ fn.params.size + fn.nfree ≤ fn.ntmps then
      (compC P fn.ntmps fl b).bind fun c => (allSome (compRes P) fn.results.toList).bind fun rs => some ⟨fn.params.size + fn.nfree, c, rs, fl.pop⟩
    else none

def exitOf : Out → Exit
  | .norm => .normal
  | .ret => .ret
  | .exit id => .exit id

section
variable {P : Program} {base : Nat} {W0 : World} {c0 : Ctx} {n : Nat}

theorem lk_projR {g : Regs} {bx : Boxes} : ∀ {live : List Nat} {t : Nat} {rv : RV}, lk (projR g bx live) t = some rv → lk g t = some rv ∧ ∀ t' o, rv = .lp t' o → t' = t ∧ o = 0 ∧ (lk bx t).isSome = true ∧ t ∈ live
  | [], t, rv, h => by simp [projR, lk] at h
  | q :: l, t, rv, h => by
    have ih := fun h' => lk_projR (g := g) (bx := bx) (live := l) (t := t) (rv := rv) h'
    have up : lk (projR g bx l) t = some rv → lk g t = some rv ∧ ∀ t' o, rv = .lp t' o → t' = t ∧ o = 0 ∧ (lk bx t).isSome = true ∧ t ∈ q :: l := fun h' =>
      ⟨(ih h').1, fun t' o e => let ⟨a, b, c, d⟩ := (ih h').2 t' o e; ⟨a, b, c, List.mem_cons_of_mem _ d⟩⟩
    simp only [projR] at h
    split at h
    · rename_i a hq
      simp only [lk] at h
      split at h
      · rename_i e; subst e; cases h
        exact ⟨hq, fun t' o e => by cases e⟩
      · exact up h
    · rename_i t' hq
      split at h
      · rename_i hc
        simp only [lk] at h
        split at h
        · rename_i e; subst e; cases h
          exact ⟨hq, fun t2 o e => by cases e; exact ⟨hc.1, rfl, hc.2, by simp⟩⟩
        · exact up h
      · exact up h
    · exact up h

theorem lk_projB {g : Regs} {bx : Boxes} : ∀ {live : List Nat} {t : Nat} {cs : List AV}, lk (projB g bx live) t = some cs → lk bx t = some cs
  | [], t, cs, h => by simp [projB, lk] at h
  | q :: l, t, cs, h => by
    simp only [projB] at h
    split at h
    · rename_i t' cs' hq hb
      split at h
      · simp only [lk] at h
        split at h
        · rename_i e; subst e; cases h; exact hb
        · exact lk_projB h
      · exact lk_projB h
    · exact lk_projB h

theorem projB_some {g : Regs} {bx : Boxes} : ∀ {live : List Nat} {t : Nat}, t ∈ live → lk g t = some (.lp t 0) → (lk bx t).isSome = true → (lk (projB g bx live) t).isSome = true
  | [], t, h, _, _ => by simp at h
  | q :: l, t, h, hg, hb => by
    obtain ⟨cs, hcs⟩ := Option.isSome_iff_exists.1 hb
    by_cases e : q = t
    · subst e
      simp only [projB, hg, hcs, if_true, lk]
      rfl
    · have hl : t ∈ l := by simpa [Ne.symm e] using h
      have ih := projB_some (g := g) (bx := bx) hl hg hb
      simp only [projB]
      split
      · split
        · simp only [lk]; rw [if_neg e]; exact ih
        · exact ih
      · exact ih

/-- What is not live is forgotten. -/
theorem FI.proj {c : Ctx} {γ : Nat → Nat} {g : Regs} {bx : Boxes} {tmps : Array Value} (h : FI base c0 n c γ g bx tmps) (live : List Nat) : FI base c0 n c γ (projR g bx live) (projB g bx live) tmps := by
  refine ⟨h.sim, h.evo, h.size, fun t rv ht => ?_, fun t cs ht => h.boxes t cs (lk_projB ht), fun t t' h1 h2 e => ?_⟩
  · obtain ⟨h1, h2⟩ := lk_projR ht
    have hr := h.regs t rv h1
    cases rv with
    | v a => exact hr
    | lp t' o =>
      obtain ⟨rfl, rfl, h3, h4⟩ := h2 t' o rfl
      exact ⟨projB_some h4 h1 h3, hr.2⟩
    | ls els =>
      -- a literal does not outlive its region
      exfalso
      have key : ∀ (l : List Nat), lk (projR g bx l) t ≠ some (.ls els) := by
        intro l
        induction l with
        | nil => simp [projR, lk]
        | cons q l ih =>
          intro hc
          simp only [projR] at hc
          split at hc
          · simp only [lk] at hc; split at hc
            · cases hc
            · exact ih hc
          · split at hc
            · simp only [lk] at hc; split at hc
              · cases hc
              · exact ih hc
            · exact ih hc
          · exact ih hc
      exact key live ht
  · refine h.binj t t' ?_ ?_ e
    · obtain ⟨cs, hcs⟩ := Option.isSome_iff_exists.1 h1; rw [lk_projB hcs]; rfl
    · obtain ⟨cs, hcs⟩ := Option.isSome_iff_exists.1 h2; rw [lk_projB hcs]; rfl

/-- Code. -/
theorem code_sound {E : Call} (hE : SoundCall P base W0 E) (hw0 : Sim base c0 ∧ Old base W0 c0.w) (hm : P.follows .mixedOrders = true) (hb0 : base ≤ c0.w.heap.size) {fl : Flags} {dfs : List Deferred} : ∀ (code : Code) (xc : XC), compC P n fl code = some xc →
    ∀ {c : Ctx} {γ : Nat → Nat} {g : Regs} {bx : Boxes} {tmps : Array Value} {out : Out} {g' : Regs} {M' : Mem} {Q : Exit → Act → World → Prop}, exec E xc (g, ⟨bx, c.σ⟩) = some (out, (g', M')) → FI base c0 n c γ g bx tmps →
      (∀ c' γ' tmps', c'.σ = M'.st → FI base c0 n c' γ' g' M'.bx tmps' → Q (exitOf out) ⟨tmps', dfs⟩ c'.w) → code.wp P Q ⟨tmps, dfs⟩ c.w := by
  intro code
  induction code with
  | skip =>
    intro xc hc c γ g bx tmps out g' M' Q he h hQ
    simp only [compC, Option.some.injEq] at hc; subst hc
    simp only [exec, Option.some.injEq, Prod.mk.injEq] at he
    obtain ⟨rfl, rfl, rfl⟩ := he
    exact wp_skip (hQ c γ tmps rfl h)
  | ret =>
    intro xc hc c γ g bx tmps out g' M' Q he h hQ
    simp only [compC, Option.some.injEq] at hc; subst hc
    simp only [exec, Option.some.injEq, Prod.mk.injEq] at he
    obtain ⟨rfl, rfl, rfl⟩ := he
    exact wp_ret (hQ c γ tmps rfl h)
  | exit id =>
    intro xc hc c γ g bx tmps out g' M' Q he h hQ
    simp only [compC, Option.some.injEq] at hc; subst hc
    simp only [exec, Option.some.injEq, Prod.mk.injEq] at he
    obtain ⟨rfl, rfl, rfl⟩ := he
    exact wp_exit (hQ c γ tmps rfl h)
  | region id ops draw =>
    intro xc hc c γ g bx tmps out g' M' Q he h hQ
    cases draw with
    | false =>
      simp only [compC, bind_some', Option.some.injEq] at hc
      obtain ⟨xs, h1, rfl⟩ := hc
      simp only [exec, bind_some', Option.some.injEq, Prod.mk.injEq] at he
      obtain ⟨⟨g1, M1⟩, h2, rfl, h3⟩ := he
      simp only [proj, Prod.mk.injEq] at h3
      obtain ⟨rfl, rfl⟩ := h3
      exact wp_region_list (ops_sound hE hw0 hb0 h1 h2 h (fun c' γ' tmps' e1 e2 => hQ c' γ' tmps' e1 (e2.proj _)))
    | true =>
      simp only [compC, bind_some'] at hc
      obtain ⟨xs, h1, h4⟩ := hc
      split at h4
      · rename_i hok
        cases h4
        simp only [exec] at he
        split at he
        · rename_i hst
          simp only [bind_some', Option.some.injEq, Prod.mk.injEq] at he
          obtain ⟨⟨g1, M1⟩, h2, rfl, h3⟩ := he
          simp only [proj, Prod.mk.injEq] at h3
          obtain ⟨rfl, rfl⟩ := h3
          exact draw_sound hE hw0 hm hb0 h1 hok h2 hst h (fun c' γ' tmps' e1 e2 => hQ c' γ' tmps' e1 (e2.proj _))
        · simp at he
      · split at h4
        · rename_i hok
          cases h4
          simp only [exec] at he
          split at he
          · rename_i hst
            simp only [bind_some', Option.some.injEq, Prod.mk.injEq] at he
            obtain ⟨⟨g1, M1⟩, h2, rfl, h3⟩ := he
            simp only [proj, Prod.mk.injEq] at h3
            obtain ⟨rfl, rfl⟩ := h3
            obtain ⟨A, d, z, x, k1, k2, k3, k4, k5, k6, k7, k8⟩ := escOk_spec hok h1
            generalize hpr : escPairs ops.toList xs = pr at hst k7 k8
            subst k1
            exact esc_sound hE hw0 hm hb0 h1 k2 k3 k4 k5 k6 k8 h2 (stable_esc k7 hst) h (fun c' γ' tmps' e1 e2 => hQ c' γ' tmps' e1 (e2.proj _))
          · simp at he
        · simp at h4
  | seq a b iha ihb =>
    intro xc hc c γ g bx tmps out g' M' Q he h hQ
    simp only [compC, bind_some', Option.some.injEq] at hc
    obtain ⟨x, h1, y, h2, rfl⟩ := hc
    simp only [exec, bind_some'] at he
    obtain ⟨⟨o1, g1, M1⟩, h3, h4⟩ := he
    refine wp_seq (iha x h1 (Q := Exit.then (b.wp P Q) Q) h3 h (fun c' γ' tmps' e1 e2 => ?_))
    cases o1 with
    | norm =>
      simp only at h4
      exact ihb y h2 (by rw [e1]; exact h4) e2 hQ
    | ret =>
      simp only [Option.some.injEq, Prod.mk.injEq] at h4
      obtain ⟨rfl, rfl, rfl⟩ := h4
      exact hQ c' γ' tmps' e1 e2
    | exit id =>
      simp only [Option.some.injEq, Prod.mk.injEq] at h4
      obtain ⟨rfl, rfl, rfl⟩ := h4
      exact hQ c' γ' tmps' e1 e2
  | cond cd a b iha ihb =>
    intro xc hc c γ g bx tmps out g' M' Q he h hQ
    simp only [compC, bind_some', Option.some.injEq] at hc
    obtain ⟨v, h0, x, h1, y, h2, rfl⟩ := hc
    simp only [exec, bind_some'] at he
    obtain ⟨av, h3, h4⟩ := he
    have hv := opndv (a := ⟨tmps, dfs⟩) h rfl h0 h3
    cases av with
    | bool t =>
      simp only [VR] at hv
      cases t with
      | true => exact wp_cond_true hv (iha x h1 h4 h hQ)
      | false => exact wp_cond_false hv (ihb y h2 h4 h hQ)
    | _ => simp at h4
  | block id a ih =>
    intro xc hc c γ g bx tmps out g' M' Q he h hQ
    simp only [compC, bind_some', Option.some.injEq] at hc
    obtain ⟨x, h1, rfl⟩ := hc
    simp only [exec, bind_some'] at he
    obtain ⟨⟨o1, g1, M1⟩, h3, h4⟩ := he
    refine wp_block (ih x h1 (Q := Exit.inBlock id Q) h3 h (fun c' γ' tmps' e1 e2 => ?_))
    cases o1 with
    | norm =>
      simp only [Option.some.injEq, Prod.mk.injEq] at h4
      obtain ⟨rfl, rfl, rfl⟩ := h4
      exact hQ c' γ' tmps' e1 e2
    | ret =>
      simp only [Option.some.injEq, Prod.mk.injEq] at h4
      obtain ⟨rfl, rfl, rfl⟩ := h4
      exact hQ c' γ' tmps' e1 e2
    | exit id' =>
      simp only at h4
      simp only [exitOf, Exit.inBlock]
      split at h4
      · rename_i e
        rw [if_pos e]
        simp only [Option.some.injEq, Prod.mk.injEq] at h4
        obtain ⟨rfl, rfl, rfl⟩ := h4
        exact hQ c' γ' tmps' e1 e2
      · rename_i e
        rw [if_neg e]
        simp only [Option.some.injEq, Prod.mk.injEq] at h4
        obtain ⟨rfl, rfl, rfl⟩ := h4
        exact hQ c' γ' tmps' e1 e2
  | loop a ih =>
    intro xc hc c γ g bx tmps out g' M' Q he h hQ
    simp only [compC, bind_some', Option.some.injEq] at hc
    obtain ⟨x, h1, rfl⟩ := hc
    simp only [exec] at he
    obtain ⟨k, hk⟩ := iter_some.1 he
    refine wp_loop_rounds k ?_
    clear he
    induction k generalizing c γ g bx tmps with
    | zero => simp [iterN] at hk
    | succ k ihk =>
      simp only [iterN, bind_some'] at hk
      obtain ⟨⟨o1, g1, M1⟩, h3, h4⟩ := hk
      rw [rounds_succ]
      refine ih x h1 (Q := Exit.then (Code.rounds P a Q k) Q) h3 (h.proj _) (fun c' γ' tmps' e1 e2 => ?_)
      cases o1 with
      | norm =>
        simp only at h4
        exact ihk e2 (by rw [e1]; exact h4)
      | ret =>
        simp only [Option.some.injEq, Prod.mk.injEq] at h4
        obtain ⟨rfl, rfl, rfl⟩ := h4
        exact hQ c' γ' tmps' e1 e2
      | exit id =>
        simp only [Option.some.injEq, Prod.mk.injEq] at h4
        obtain ⟨rfl, rfl, rfl⟩ := h4
        exact hQ c' γ' tmps' e1 e2
  | _ => intro xc hc; simp [compC] at hc

/-- One result. -/
def resAct (tmps : Array Value) : ResultVar → Sem Value
  | .tmp t => pure (tmps.getD t undef)
  | .cell a t => do loadVar t (← asAddr (tmps.getD a undef))

theorem results_eq (fn : Func) (tmps : Array Value) : results fn tmps = (do let vs ← fn.results.mapM (resAct tmps); pure (if h : vs.size = 1 then vs[0] else .tuple vs)) := by
  unfold results
  congr 2

/-- The results. -/
theorem results_sound {c : Ctx} {γ : Nat → Nat} {g : Regs} {bx : Boxes} {tmps : Array Value} (h : FI base c0 n c γ g bx tmps) {fn : Func} {rs : List XRes} (hr : allSome (compRes P) fn.results.toList = some rs) {r : AV} (he : result (g, ⟨bx, c.σ⟩) rs = some r) :
    ∃ v, (results fn tmps).run P c.w = .ok v c.w ∧ VR c r v := by
  have key : ∀ (l : List ResultVar) (rs : List XRes) (as : List AV), allSome (compRes P) l = some rs → allSome (resOf (g, ⟨bx, c.σ⟩)) rs = some as →
      ∃ vs : List Value, (l.mapM (resAct tmps)).run P c.w = Result.ok vs c.w ∧ VRs c as vs := by
    intro l
    induction l with
    | nil =>
      intro rs as h1 h2
      simp only [allSome, Option.some.injEq] at h1; subst h1
      simp only [allSome, Option.some.injEq] at h2; subst h2
      exact ⟨[], by simp, by simp [VRs]⟩
    | cons x l ih =>
      intro rs as h1 h2
      simp only [allSome, bind_some', Option.some.injEq] at h1
      obtain ⟨y, h3, ys, h4, rfl⟩ := h1
      simp only [allSome, bind_some', Option.some.injEq] at h2
      obtain ⟨a, h5, as', h6, rfl⟩ := h2
      obtain ⟨vs, h7, h8⟩ := ih ys as' h4 h6
      have one : ∃ v, (resAct tmps x).run P c.w = Result.ok v c.w ∧ VR c a v := by
        cases x with
        | tmp t =>
          simp only [compRes, Option.some.injEq] at h3; subst h3
          simp only [resOf, evv, bind_some'] at h5
          obtain ⟨rv, k1, k2⟩ := h5
          have hrr := h.regs t rv k1
          cases rv with
          | v b => simp only [RV.av, Option.some.injEq] at k2; subst k2; exact ⟨_, rfl, hrr⟩
          | lp t' o => simp [RV.av] at k2
          | ls els => simp [RV.av] at k2
        | cell q t =>
          simp only [compRes, bind_some', Option.some.injEq] at h3
          obtain ⟨ag, k1, s, k2, rfl⟩ := h3
          simp only [resOf, bind_some'] at h5
          obtain ⟨rv, k3, ⟨cs, k⟩, k4, k5⟩ := h5
          obtain ⟨b, o, k6, k7⟩ := place_lies h (h.regs q rv k3) k4
          obtain ⟨y, k8, k9⟩ := load_sound (P := P) k1 k2 k7 k5
          exact ⟨y, by simp [resAct, k6, asAddr, k8], k9⟩
      obtain ⟨v, h9, h10⟩ := one
      refine ⟨v :: vs, ?_, by rw [VRs]; exact ⟨h10, h8⟩⟩
      simp only [List.mapM_cons, Sem.run_bind, h9, Result.andThen_ok, h7, Sem.run_pure]
  simp only [result, bind_some'] at he
  obtain ⟨as, h1, h2⟩ := he
  obtain ⟨vs, h3, h4⟩ := key fn.results.toList rs as hr h1
  have hmap : (fn.results.mapM (resAct tmps)).run P c.w = Result.ok vs.toArray c.w := by
    rw [Array.mapM_eq_mapM_toList]
    have e : (List.toArray <$> (fn.results.toList.mapM (resAct tmps)) : Sem (Array Value)) = ((fn.results.toList.mapM (resAct tmps)) >>= fun l => pure l.toArray) := rfl
    rw [e]
    simp only [Sem.run_bind, h3, Result.andThen_ok, Sem.run_pure]
  have hl := VRs_length h4
  have hres : (results fn tmps).run P c.w = .ok (if h : vs.toArray.size = 1 then vs.toArray[0] else .tuple vs.toArray) c.w := by
    rw [results_eq]
    simp only [Sem.run_bind, hmap, Result.andThen_ok, Sem.run_pure]
  refine ⟨_, hres, ?_⟩
  match as, vs, h4, h2, hl with
  | [a], [v], h4, h2, _ =>
    simp only [Option.some.injEq] at h2
    subst h2
    simp only [VRs, and_true] at h4
    simpa using h4
  | [], [], _, h2, _ =>
    simp only [Option.some.injEq] at h2
    subst h2
    simp [VR, VRs]
  | a :: b :: as, v :: u :: vs, h4, h2, _ =>
    simp only [Option.some.injEq] at h2
    subst h2
    simp only [List.size_toArray, List.length_cons]
    rw [dif_neg (by omega)]
    rw [VR]
    exact ⟨_, rfl, h4⟩
  | [], _ :: _, _, _, hl => simp at hl
  | _ :: _, [], _, _, hl => simp at hl
  | [_], _ :: _ :: _, _, _, hl => simp at hl
  | _ :: _ :: _, [_], _, _, hl => simp at hl

theorem lk_number {α : Type} : ∀ (l : List α) (k t : Nat) (a : α), lk (number k l) t = some a → k ≤ t ∧ l[t - k]? = some a
  | [], _, _, _, h => by simp [number, lk] at h
  | x :: l, k, t, a, h => by
    simp only [number, lk] at h
    split at h
    · rename_i e; subst e; cases h; simp
    · obtain ⟨h1, h2⟩ := lk_number l (k + 1) t a h
      refine ⟨by omega, ?_⟩
      rw [show t - k = (t - (k + 1)) + 1 by omega]
      simpa using h2

open Classical in
/-- A function. -/
theorem body_sound {E : Call} (hE : SoundCall P base W0 E) (hm : P.follows .mixedOrders = true) {fl : Flags} {f : FuncId} {cf : CFun} (hc : compF P fl f = some cf) {as : List AV} {st : Store} {r : AV} {st' : Store} (he : bodyX E cf as st = some (r, st')) :
    Callable P f ∧ ∀ c xs, Sim base c → Old base W0 c.w → c.σ = st → VRs c as xs → Calls P f xs.toArray c.w fun e w' => ∃ c' y, e = .returned y ∧ c'.w = w' ∧ c'.σ = st' ∧ Sim base c' ∧ Evo (fun _ => False) c c' ∧ VR c' r y := by
  simp only [compF, bind_some'] at hc
  obtain ⟨fn, h1, b, h2, h3⟩ := hc
  split at h3
  · rename_i hcnd
    simp only [bind_some', Option.some.injEq] at h3
    obtain ⟨xc, h4, rs, h5, rfl⟩ := h3
    refine ⟨⟨fn, h1, hcnd.1, by simp [h2]⟩, fun c xs hs hold hst hvs => ?_⟩
    subst hst
    unfold bodyX at he
    split at he
    · rename_i hn
      simp only at hn
      simp only [bind_some'] at he
      obtain ⟨⟨out, g', M'⟩, h6, h7⟩ := he
      have hl := VRs_length hvs
      -- the frame at the beginning
      have hfi : FI base c fn.ntmps c (fun _ => 0) (number 0 (as.map RV.v)) [] (xs.toArray ++ Array.replicate (fn.ntmps - xs.toArray.size) undef) := by
        refine ⟨hs, Evo.refl _ _, by simp only [Array.size_append, List.size_toArray, Array.size_replicate]; omega, fun t rv ht => ?_, fun t cs ht => by simp [lk] at ht, fun t t' ht => by simp [lk] at ht⟩
        obtain ⟨_, h8⟩ := lk_number _ _ _ _ ht
        rw [Nat.sub_zero, List.getElem?_map] at h8
        cases ha : as[t]? with
        | none => simp [ha] at h8
        | some a =>
          simp only [ha, Option.map_some, Option.some.injEq] at h8
          subst h8
          obtain ⟨x, h9, h10⟩ := VRs_get hvs ha
          have hlt := (List.getElem?_eq_some_iff.1 h9).1
          have : (xs.toArray ++ Array.replicate (fn.ntmps - xs.toArray.size) undef).getD t undef = x := by
            rw [Array.getD_eq_getD_getElem?, Array.getElem?_append_left (by simpa using hlt)]
            simp [h9]
          rw [this]
          exact h10
      refine calls_of_wp h1 h2 ?_
      refine code_sound hE ⟨hs, hold⟩ hm hs.size b xc h4 (dfs := []) h6 hfi (fun c' γ' tmps' e1 e2 => ?_)
      have fin : ∀ a : AV, result (g', M') rs = some a → ((if fl.pop = true then (if M'.st.take c.σ.length = c.σ ∧ below c.σ.length a = true then some (a, c.σ) else none) else some (a, M'.st)) = some (r, st')) →
          ∃ v, (results fn tmps').run P c'.w = .ok v c'.w ∧ ∃ c'' y, Ending.returned v = .returned y ∧ c''.w = c'.w ∧ c''.σ = st' ∧ Sim base c'' ∧ Evo (fun _ => False) c c'' ∧ VR c'' r y := by
        intro a h8 h9
        have hM : M' = ⟨M'.bx, c'.σ⟩ := by rw [e1]
        rw [hM] at h8
        obtain ⟨v, h10, h11⟩ := results_sound e2 h5 h8
        refine ⟨v, h10, ?_⟩
        split at h9
        · split at h9
          · rename_i hp
            simp only [Option.some.injEq, Prod.mk.injEq] at h9
            obtain ⟨rfl, rfl⟩ := h9
            have htk : c'.σ.take c.σ.length = c.σ := by rw [e1]; exact hp.1
            have hgo : ∀ (q : Nat) (row : Row), c.σ[q]? = some row → c'.σ[q]? = some row := by
              intro q row hq
              rw [← htk, List.getElem?_take] at hq
              split at hq
              · exact hq
              · simp at hq
            refine ⟨⟨c'.β, c.σ, c'.w⟩, v, rfl, rfl, rfl, ⟨e2.sim.size, fun q row hq => ?_, fun q q' row row' hq hq' => e2.sim.inj q q' row row' (hgo q row hq) (hgo q' row' hq')⟩, ⟨e2.evo.os, e2.evo.tape, e2.evo.output, e2.evo.size, e2.evo.keep, fun q row hq => ?_, ?_⟩, ?_⟩
            · have h12 := e2.sim.rows q row (hgo q row hq)
              refine ⟨h12.pos, h12.len, fun i cs j av hi hj => ?_, h12.nomap, h12.ro, h12.own⟩
              obtain ⟨x, k1, k2, k3⟩ := h12.cells i cs j av hi hj
              refine ⟨x, k1, ?_, k3⟩
              obtain ⟨x0, _, k4, _⟩ := (hs.rows q row hq).cells i cs j av hi hj
              have := VR_take c.σ.length av x (VR_below av x0 k4) k2
              rwa [htk] at this
            · obtain ⟨row', k1, k2, k3, k4, k5⟩ := e2.evo.le q row hq
              rw [hgo q row hq] at k1; cases k1
              exact ⟨row, hq, rfl, rfl, Nat.le_refl _, fun _ => k5 rfl⟩
            · rintro b' ⟨q, row, k1, k2, k3⟩
              exact e2.evo.fresh b' ⟨q, row, hgo q row k1, k2, k3⟩
            · have := VR_take c.σ.length a v hp.2 h11
              rwa [htk] at this
          · simp at h9
        · simp only [Option.some.injEq, Prod.mk.injEq] at h9
          obtain ⟨rfl, rfl⟩ := h9
          exact ⟨c', v, rfl, rfl, e1, e2.sim, e2.evo, h11⟩
      cases out with
      | exit id => simp at h7
      | norm =>
        simp only [bind_some'] at h7
        obtain ⟨a, h8, h9⟩ := h7
        obtain ⟨v, k1, k2⟩ := fin a h8 h9
        exact ⟨rfl, v, k1, k2⟩
      | ret =>
        simp only [bind_some'] at h7
        obtain ⟨a, h8, h9⟩ := h7
        obtain ⟨v, k1, k2⟩ := fin a h8 h9
        exact ⟨rfl, v, k1, k2⟩
    · simp at he
  · simp at h3

/-- WHAT THE EXECUTOR TELLS OF A CALL IS WHAT THE MODEL's CALL COMES TO. -/
theorem Ex_sound (hm : P.follows .mixedOrders = true) {C : FuncId → Option CFun} {X : Call} (hC : ∀ f cf, C f = some cf → ∃ fl, compF P fl f = some cf) (hX : SoundCall P base W0 X) : SoundCall P base W0 (Ex C X) := by
  have key : ∀ k, SoundCall P base W0 (exF C X k) := by
    intro k
    induction k with
    | zero => intro f as st r st' h; simp [exF] at h
    | succ k ih =>
      intro f as st r st' h
      unfold exF at h
      cases hc : C f with
      | none => rw [hc] at h; exact hX f as st r st' h
      | some cf =>
        rw [hc] at h
        obtain ⟨fl, hf⟩ := hC f cf hc
        exact body_sound ih hm hf h
  intro f as st r st' h
  obtain ⟨k, hk⟩ := Ex_some.1 h
  exact key k f as st r st' hk

end
end Go.X

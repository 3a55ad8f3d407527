/- GoX, part 6: operations that make memory or write it. No statement of the seat is here. -/
import Derived.Test.YtlliifjmnddckaaDoorX5b
set_option linter.unusedVariables false
set_option linter.unusedSimpArgs false
namespace Go.X
open Go

/-! ### Writing cells -/

theorem heap_setCells_other (b b' : Nat) (hne : b' ≠ b) : ∀ (vs : List Value) (o : Nat) (w : World), (w.setCells b o vs).heap[b']? = w.heap[b']?
  | [], _, _ => rfl
  | v :: r, o, w => by
    rw [World.setCells, heap_setCells_other b b' hne r (o + 1)]
    simp only [World.setCell, Array.getElem?_modify]
    rw [if_neg (Ne.symm hne)]

theorem size_setCells (b : Nat) : ∀ (vs : List Value) (o : Nat) (w : World), (w.setCells b o vs).heap.size = w.heap.size
  | [], _, _ => rfl
  | v :: r, o, w => by rw [World.setCells, size_setCells b r (o + 1)]; simp

theorem plain_setCells (b : Nat) : ∀ (vs : List Value) (o : Nat) (w : World), (w.setCells b o vs).os = w.os ∧ (w.setCells b o vs).tape = w.tape ∧ (w.setCells b o vs).output = w.output
  | [], _, _ => ⟨rfl, rfl, rfl⟩
  | v :: r, o, w => by rw [World.setCells]; exact plain_setCells b r (o + 1) _

theorem block_setCells (b : Nat) : ∀ (vs : List Value) (o : Nat) (w : World) (xs : Array Value) (ty : TypeId) (fz : Nat × Nat), w.heap[b]? = some (.cells xs ty fz) →
    ∃ xs', (w.setCells b o vs).heap[b]? = some (.cells xs' ty fz) ∧ xs'.size = xs.size
  | [], _, _, xs, ty, fz, h => ⟨xs, h, rfl⟩
  | v :: r, o, w, xs, ty, fz, h => by
    rw [World.setCells]
    have h1 : (w.setCell ⟨b, o, none⟩ v).heap[b]? = some (.cells (xs.setIfInBounds o v) ty fz) := by
      simp [World.setCell, Array.getElem?_modify, h]
    obtain ⟨xs', h2, h3⟩ := block_setCells b r (o + 1) _ _ ty fz h1
    exact ⟨xs', h2, by rw [h3]; simp⟩

theorem block_of_wsize {w : World} {b o : Nat} (h : o < wsize w b) : ∃ xs ty fz, w.heap[b]? = some (.cells xs ty fz) ∧ xs.size = wsize w b := by
  unfold wsize World.shape? at h ⊢
  cases hb : w.heap[b]? with
  | none => simp [hb] at h
  | some x =>
    cases x with
    | cells xs ty fz => exact ⟨xs, ty, fz, rfl, by simp⟩
    | _ => simp [hb] at h

theorem cell_some {w : World} {b o : Nat} (h : o < wsize w b) : (w.cell? ⟨b, o, none⟩).isSome = true := by
  obtain ⟨xs, ty, fz, h1, h2⟩ := block_of_wsize h
  simp [World.cell?, h1, h2, h]

theorem wsize_setCells (b b' : Nat) (vs : List Value) (o : Nat) (w : World) : wsize (w.setCells b o vs) b' = wsize w b' := by
  by_cases hne : b' = b
  · subst hne
    by_cases h0 : 0 < wsize w b'
    · obtain ⟨xs, ty, fz, h1, h2⟩ := block_of_wsize h0
      obtain ⟨xs', h3, h4⟩ := block_setCells b' vs o w xs ty fz h1
      simp [wsize, World.shape?, h1, h3, h4]
    · have : wsize w b' = 0 := by omega
      rw [this]
      by_cases h1 : 0 < wsize (w.setCells b' o vs) b'
      · exfalso
        -- a block that is none of cells does not become one; an empty one stays empty
        cases hb : w.heap[b']? with
        | none =>
          have hs : b' ≥ w.heap.size := by simpa [Array.getElem?_eq_none_iff] using hb
          obtain ⟨xs, ty, fz, h2, _⟩ := block_of_wsize h1
          have := (Array.getElem?_eq_some_iff.1 h2).1
          rw [size_setCells] at this
          omega
        | some x =>
          have key : ∀ (vs : List Value) (o : Nat) (w : World) (x : Obj), w.heap[b']? = some x → (∀ xs ty fz, x ≠ .cells xs ty fz) → (w.setCells b' o vs).heap[b']? = some x := by
            intro vs
            induction vs with
            | nil => intro o w x hx _; exact hx
            | cons v r ih =>
              intro o w x hx hn
              rw [World.setCells]
              refine ih _ _ x ?_ hn
              simp only [World.setCell, Array.getElem?_modify, hx]
              cases x <;> simp
              exact absurd rfl (hn _ _ _)
          by_cases hc : ∃ xs ty fz, x = .cells xs ty fz
          · obtain ⟨xs, ty, fz, rfl⟩ := hc
            obtain ⟨xs', h3, h4⟩ := block_setCells b' vs o w xs ty fz hb
            have hA : wsize (w.setCells b' o vs) b' = xs'.size := by simp [wsize, World.shape?, h3]
            have hB : wsize w b' = xs.size := by simp [wsize, World.shape?, hb]
            omega
          · have h3 := key vs o w x hb (fun xs ty fz e => hc ⟨xs, ty, fz, e⟩)
            obtain ⟨xs, ty, fz, h2, _⟩ := block_of_wsize h1
            rw [h3] at h2
            cases h2
            exact hc ⟨_, _, _, rfl⟩
      · omega
  · exact wsize_of (heap_setCells_other b b' hne vs o w)

/-- What lies in memory behind a write, cell by cell. -/
theorem cell_setCells {w : World} {b o : Nat} {vs : List Value} (h : o + vs.length ≤ wsize w b) (k : Nat) :
    (w.setCells b o vs).cell? ⟨b, k, none⟩ = if o ≤ k ∧ k < o + vs.length then vs[k - o]? else w.cell? ⟨b, k, none⟩ := by
  split
  · rename_i hk
    have hj : k - o < vs.length := by omega
    have := World.cell?_setCells_in b vs o w (fun j hj => cell_some (by omega)) (k - o) hj
    rw [show o + (k - o) = k by omega] at this
    rw [this, List.getElem?_eq_getElem hj]
  · rename_i hk
    exact World.cell?_setCells_out b vs o w _ (fun _ _ => by simp; omega)

theorem upd_length {cs : List AV} {k : Nat} {ys : List AV} (h : k + ys.length ≤ cs.length) : (upd cs k ys).length = cs.length := by
  simp [upd]; omega

theorem upd_get {cs : List AV} {k : Nat} {ys : List AV} (h : k + ys.length ≤ cs.length) (j : Nat) : (upd cs k ys)[j]? = if k ≤ j ∧ j < k + ys.length then ys[j - k]? else cs[j]? := by
  unfold upd
  have hk : (cs.take k).length = k := by simp; omega
  split
  · rename_i hj
    rw [List.append_assoc, List.getElem?_append_right (by omega), hk, List.getElem?_append_left (by omega)]
  · rename_i hj
    by_cases h1 : j < k
    · rw [List.append_assoc, List.getElem?_append_left (by omega), List.getElem?_take, if_pos h1]
    · rw [List.getElem?_append_right (by simp; omega)]
      simp only [List.length_append, hk, List.getElem?_drop]
      congr 1
      omega

section
variable {P : Program} {base : Nat} {c0 : Ctx} {n : Nat} {c : Ctx} {γ : Nat → Nat} {g : Regs} {bx : Boxes} {tmps : Array Value} {a : Act} {o : Oper}

theorem FI.c0size (h : FI base c0 n c γ g bx tmps) : c0.w.heap.size ≤ c.w.heap.size := h.evo.size

/-- A new row of the store's own. -/
theorem FI.rowNew (h : FI base c0 n c γ g bx tmps) {els : List (List AV)} {sz : Nat} {xs : Array Value} {ty : TypeId} {fz : Nat × Nat} {w' : World} (hpos : 0 < sz) (hlen : ∀ (i : Nat) (cs : List AV), els[i]? = some cs → cs.length = sz)
    (hfit : els.length * sz ≤ xs.size) (hcont : ∀ (i : Nat) (cs : List AV) (j : Nat) (v : AV), els[i]? = some cs → cs[j]? = some v → ∃ y, xs[i * sz + j]? = some y ∧ VR c v y ∧ y.oneCell' = true)
    (hheap : w'.heap = c.w.heap.push (.cells xs ty fz)) (hos : w'.os = c.w.os) (htape : w'.tape = c.w.tape) (hout : w'.output = c.w.output) (hfz : fz.2 ≤ fz.1 ∨ xs.size ≤ fz.1) :
    ∃ c', c'.w = w' ∧ c'.σ = c.σ ++ [⟨els, sz, 0, .own⟩] ∧ c'.β c.σ.length = (c.w.heap.size, 0) ∧ wsize w' c.w.heap.size = xs.size ∧ FI base c0 n c' γ g bx tmps := by
  have hnew : w'.heap[c.w.heap.size]? = some (.cells xs ty fz) := by rw [hheap]; simp
  have hold : ∀ b, b < c.w.heap.size → w'.heap[b]? = c.w.heap[b]? := by
    intro b hb
    rw [hheap, Array.getElem?_push]
    rw [if_neg (by omega)]
  have hws : wsize w' c.w.heap.size = xs.size := by simp [wsize, World.shape?, hnew]
  let c' : Ctx := ⟨fun r => if r = c.σ.length then (c.w.heap.size, 0) else c.β r, c.σ ++ [⟨els, sz, 0, .own⟩], w'⟩
  have hβ : c'.β c.σ.length = (c.w.heap.size, 0) := by simp [c']
  obtain ⟨h1, h2⟩ := h.sim.new (c' := c') ⟨els, sz, 0, .own⟩ rfl (fun r hr => by simp [c', Nat.ne_of_lt hr]) hos htape hout (by simp [c', hheap]) hold (by rw [hβ]; exact Nat.le_refl _) (fun hle => by
    refine ⟨hpos, hlen, ?_, by simp, by simp, fun _ => ?_⟩
    · intro i cs j v hi hj
      obtain ⟨y, h3, h4, h5⟩ := hcont i cs j v hi hj
      refine ⟨y, ?_, VR_mono hle _ _ h4, h5⟩
      rw [hβ]
      simp [World.cell?, c', hnew, h3]
    · rw [hβ]
      refine ⟨h.sim.size, by simp [c', hheap], by simp only [c', hws]; simpa using hfit, fun q hq => ?_⟩
      simp only [c', hws] at hq
      simp only [World.frozen?, c', hnew]
      obtain ⟨lo, hi⟩ := fz
      simp only at hfz
      simp
      omega) (fun _ => False)
  exact ⟨c', rfl, rfl, hβ, hws, h.next h1 h2⟩

theorem zeroOf_sound {t : TypeId} {zs : List AV} (hz : zeroOf P t = some zs) : ∃ i z, P.info? t = some i ∧ i.zero = some z ∧ z.cells.size = zs.length ∧ ∀ (c : Ctx) (j : Nat) (v : AV), zs[j]? = some v → ∃ y, z.cells[j]? = some y ∧ VR c v y ∧ y.oneCell' = true := by
  simp only [zeroOf, bind_some'] at hz
  obtain ⟨i, h1, z, h2, h3⟩ := hz
  obtain ⟨h4, h5⟩ := allSome_get h3
  refine ⟨i, z, h1, h2, by simpa using h4, fun c j v hv => ?_⟩
  obtain ⟨y, h6, h7⟩ := h5 j v hv
  exact ⟨y, by simpa using h6, cvCell_sound h7⟩

theorem s_alloc (h : FI base c0 n c γ g bx tmps) (ha : a.tmps = tmps) {t : TypeId} {lo : Bool} {d : Nat} {zs : List AV} (ho : o.op = .alloc t) (hz : zeroOf P t = some zs) (hpos : 0 < zs.length) {rv : RV} {M' : Mem}
    (he : evP g ⟨bx, c.σ⟩ (.alloc lo d zs) = some (rv, M')) : OpRes P base c0 n c g tmps a o rv M' := by
  obtain ⟨i, z, h1, h2, h3, h4⟩ := zeroOf_sound hz
  have hrun : (execOp a.eval o).run P c.w = .ok (.value (.pointer (some ⟨c.w.heap.size, 0, none⟩))) (c.w.alloc (.cells z.cells t (0, 0))) := by
    simp [execOp, ho, Instr.alloc, zeroValue, typeInfo, h1, h2, newVar, Go.newRow]
  cases lo with
  | true =>
    simp only [evP] at he
    split at he
    · rename_i hn
      simp only [Option.some.injEq, Prod.mk.injEq] at he
      obtain ⟨rfl, rfl⟩ := he
      refine ⟨⟨c.β, c.σ, c.w.alloc (.cells z.cells t (0, 0))⟩, _, _, .inl hrun, rfl, h.boxNew h.c0size (by simpa using hn) z.cells t zs h3 (h4 c), ?_⟩
      simp [RR, lk]
    · simp at he
  | false =>
    simp only [evP, Option.some.injEq, Prod.mk.injEq] at he
    obtain ⟨rfl, rfl⟩ := he
    obtain ⟨c', e1, e2, e3, e4, e5⟩ := h.rowNew (els := [zs]) (sz := zs.length) (xs := z.cells) (ty := t) (fz := (0, 0)) (w' := c.w.alloc (.cells z.cells t (0, 0))) hpos
      (fun i cs hi => by cases i with | zero => simp at hi; rw [← hi] | succ i => simp at hi)
      (by simp [h3])
      (fun i cs j v hi hj => by
        cases i with
        | zero => simp at hi; subst hi; simpa using h4 c j v hj
        | succ i => simp at hi) rfl rfl rfl rfl (.inl (Nat.le_refl _))
    refine ⟨c', γ, _, .inl (by rw [e1]; exact hrun), e2, e5, ?_⟩
    simp only [RR, VR]
    exact ⟨_, rfl, ⟨[zs], zs.length, 0, .own⟩, by rw [e2]; simp, Nat.le_refl _, fun _ => by rw [e3]; simp⟩

theorem s_box (h : FI base c0 n c γ g bx tmps) (ha : a.tmps = tmps) {t : TypeId} {lo : Bool} {d sz : Nat} {x : Operand} {xo : XO} (ho : o.op = .box t x) (hx : cO x = some xo) (hpos : 0 < sz) {rv : RV} {M' : Mem}
    (he : evP g ⟨bx, c.σ⟩ (.box lo d sz xo) = some (rv, M')) : OpRes P base c0 n c g tmps a o rv M' := by
  have hrun : (execOp a.eval o).run P c.w = .ok (.value (.pointer (some ⟨c.w.heap.size, 0, none⟩))) (c.w.alloc (.cells (a.eval x).cells t (0, 0))) := by
    simp [execOp, ho, Instr.box, newVar, Go.newRow]
  have content : ∀ {av : AV} {ys : List AV}, evv g xo = some av → cellsOf av = some ys → (a.eval x).cells.size = ys.length ∧ ∀ (j : Nat) (v : AV), ys[j]? = some v → ∃ y, (a.eval x).cells[j]? = some y ∧ VR c v y ∧ y.oneCell' = true := by
    intro av ys h1 h2
    obtain ⟨h3, h4⟩ := cellsOf_sound h2 (opndv h ha hx h1)
    refine ⟨by simpa using (VRs_length h3).symm, fun j v hv => ?_⟩
    obtain ⟨y, h5, h6⟩ := VRs_get h3 hv
    exact ⟨y, by simpa using h5, h6, h4 y (List.mem_of_getElem? h5)⟩
  cases lo with
  | true =>
    simp only [evP, bind_some'] at he
    obtain ⟨av, h1, ys, h2, h3⟩ := he
    split at h3
    · rename_i hn
      simp only [Option.some.injEq, Prod.mk.injEq] at h3
      obtain ⟨rfl, rfl⟩ := h3
      obtain ⟨h4, h5⟩ := content h1 h2
      refine ⟨⟨c.β, c.σ, c.w.alloc (.cells (a.eval x).cells t (0, 0))⟩, _, _, .inl hrun, rfl, h.boxNew h.c0size (by simpa using hn.1) _ t ys h4 h5, ?_⟩
      simp [RR, lk]
    · simp at h3
  | false =>
    simp only [evP, bind_some'] at he
    obtain ⟨av, h1, ys, h2, h3⟩ := he
    split at h3
    · rename_i hn
      simp only [Option.some.injEq, Prod.mk.injEq] at h3
      obtain ⟨rfl, rfl⟩ := h3
      obtain ⟨h4, h5⟩ := content h1 h2
      obtain ⟨c', e1, e2, e3, e4, e5⟩ := h.rowNew (els := [ys]) (sz := sz) (xs := (a.eval x).cells) (ty := t) (fz := (0, 0)) (w' := c.w.alloc (.cells (a.eval x).cells t (0, 0))) hpos
        (fun i cs hi => by cases i with | zero => simp at hi; rw [← hi]; exact hn | succ i => simp at hi)
        (by simp [h4, hn])
        (fun i cs j v hi hj => by
          cases i with
          | zero => simp at hi; subst hi; simpa using h5 j v hj
          | succ i => simp at hi) rfl rfl rfl rfl (.inl (Nat.le_refl _))
      refine ⟨c', γ, _, .inl (by rw [e1]; exact hrun), e2, e5, ?_⟩
      simp only [RR, VR]
      exact ⟨_, rfl, ⟨[ys], sz, 0, .own⟩, by rw [e2]; simp, Nat.le_refl _, fun _ => by rw [e3]; simp⟩
    · simp at h3

theorem s_store (h : FI base c0 n c γ g bx tmps) (hb0 : base ≤ c0.w.heap.size) (ha : a.tmps = tmps) {t : TypeId} {sz : Nat} {p x : Operand} {po xo : XO} (ho : o.op = .store t p x) (hsz : szOf P t = some sz) (hp : cO p = some po) (hx : cO x = some xo) {rv : RV} {M' : Mem}
    (he : evP g ⟨bx, c.σ⟩ (.store sz po xo) = some (rv, M')) : OpRes P base c0 n c g tmps a o rv M' := by
  simp only [evP, bind_some'] at he
  obtain ⟨pv, h1, av, h2, ys, h3, h4⟩ := he
  split at h4
  · rename_i hlen
    simp only [bind_some', Option.some.injEq, Prod.mk.injEq] at h4
    obtain ⟨M1, h5, rfl, rfl⟩ := h4
    obtain ⟨hvs, hone⟩ := cellsOf_sound h3 (opndv h ha hx h2)
    have hl := VRs_length hvs
    have hsize : (a.eval x).cells.size = sz := by rw [← hlen, hl]; simp
    have hpr := opnd h ha hp h1
    -- the run, once the place is known
    have run : ∀ b k, a.eval p = .pointer (some ⟨b, k, none⟩) → k + ys.length ≤ wsize c.w b → (∀ q, q < wsize c.w b → c.w.frozen? ⟨b, q, none⟩ = false) →
        (execOp a.eval o).run P c.w = .ok .skip (c.w.setCells b k (a.eval x).cells.toList) := by
      intro b k e hk hf
      have hst := run_storeCells_cells (P := P) b k (a.eval x).cells.toList 0 c.w (fun j hj => cell_some (by omega)) (fun j hj => hf _ (by omega)) hone
      simp only [Nat.add_zero] at hst
      simp [execOp, ho, e, Instr.storeAt, Instr.sureAddr, storeVar, szOf_run hsz, hsize, hst]
    cases pv with
    | v pav =>
      cases pav with
      | ptr r v i k =>
        simp only [putAt, rowAt, bind_some'] at h5
        obtain ⟨row, ⟨row', k1, k2⟩, cs, k3, k4⟩ := h5
        split at k2
        · rename_i hver
          cases k2
          split at k4
          · rename_i hc
            simp only [Option.some.injEq] at k4
            subst k4
            simp only [RR, VR] at hpr
            obtain ⟨ad, e, row2, j1, j2, j3⟩ := hpr
            rw [k1] at j1; cases j1
            rw [j3 hver.1.symm] at e
            have hro := h.sim.rows r row k1
            obtain ⟨hown1, hown2, hown3, hown4⟩ := hro.own hc.1
            have hcl := hro.len i cs k3
            have hi : i < row.els.length := (List.getElem?_eq_some_iff.1 k3).1
            have hmul : (i + 1) * row.sz ≤ row.els.length * row.sz := Nat.mul_le_mul_right _ hi
            rw [Nat.add_mul, Nat.one_mul] at hmul
            have hfit : (c.β r).2 + i * row.sz + k + ys.length ≤ wsize c.w (c.β r).1 := by omega
            have hrun := run _ _ e hfit hown4
            have hfit' : (c.β r).2 + i * row.sz + k + (a.eval x).cells.toList.length ≤ wsize c.w (c.β r).1 := by rw [← hl]; exact hfit
            let w' := c.w.setCells (c.β r).1 ((c.β r).2 + i * row.sz + k) (a.eval x).cells.toList
            let c' : Ctx := ⟨c.β, c.σ.set r { row with els := row.els.set i (upd cs k ys) }, w'⟩
            obtain ⟨p1, p2, p3⟩ := plain_setCells (c.β r).1 (a.eval x).cells.toList ((c.β r).2 + i * row.sz + k) c.w
            have hupd : k + ys.length ≤ cs.length := hc.2
            obtain ⟨hs, hev⟩ := h.sim.upd (c' := c') r row { row with els := row.els.set i (upd cs k ys) } k1 rfl hc.1 hc.1 rfl (Nat.le_refl _) (fun _ _ => rfl) (fun _ => ⟨rfl, wsize_setCells _ _ _ _ _⟩) p1 p2 p3
              (by simp [c', w', size_setCells]) (fun b _ hb => heap_setCells_other _ _ hb _ _ _) (.inl rfl) (fun hle => by
                refine ⟨hro.pos, ?_, ?_, hver.2, by simp [hc.1], fun _ => ?_⟩
                · intro i' cs' hi'
                  simp only [List.getElem?_set] at hi'
                  split at hi'
                  · rename_i ei
                    subst ei
                    try rw [if_pos hi] at hi'
                    simp only [Option.some.injEq] at hi'
                    rw [← hi', upd_length hupd, hcl]
                  · exact hro.len i' cs' hi'
                · intro i' cs' j v' hi' hj'
                  show ∃ y, w'.cell? ⟨(c.β r).1, (c.β r).2 + i' * row.sz + j, none⟩ = some y ∧ VR c' v' y ∧ y.oneCell' = true
                  simp only [w', cell_setCells hfit']
                  simp only [List.getElem?_set] at hi'
                  split at hi'
                  · rename_i ei
                    subst ei
                    try rw [if_pos hi] at hi'
                    simp only [Option.some.injEq] at hi'
                    subst hi'
                    rw [upd_get hupd] at hj'
                    split at hj'
                    · rename_i hin
                      obtain ⟨y, q1, q2⟩ := VRs_get hvs hj'
                      rw [if_pos ⟨by omega, by omega⟩]
                      refine ⟨y, ?_, VR_mono hle _ _ q2, hone y (List.mem_of_getElem? q1)⟩
                      rw [show (c.β r).2 + i * row.sz + j - ((c.β r).2 + i * row.sz + k) = j - k by omega]
                      exact q1
                    · rename_i hin
                      rw [if_neg (by omega)]
                      obtain ⟨y, q1, q2, q3⟩ := hro.cells i cs j v' k3 hj'
                      exact ⟨y, q1, VR_mono hle _ _ q2, q3⟩
                  · rename_i ei
                    have hj2 : j < row.sz := by rw [← hro.len i' cs' hi']; exact (List.getElem?_eq_some_iff.1 hj').1
                    have hne : ¬ ((c.β r).2 + i * row.sz + k ≤ (c.β r).2 + i' * row.sz + j ∧ (c.β r).2 + i' * row.sz + j < (c.β r).2 + i * row.sz + k + (a.eval x).cells.toList.length) := by
                      rintro ⟨q1, q2⟩
                      rw [← hl] at q2
                      rcases Nat.lt_or_gt_of_ne ei with hlt | hlt
                      · have : (i + 1) * row.sz ≤ i' * row.sz := Nat.mul_le_mul_right _ hlt
                        rw [Nat.add_mul, Nat.one_mul] at this
                        omega
                      · have : (i' + 1) * row.sz ≤ i * row.sz := Nat.mul_le_mul_right _ hlt
                        rw [Nat.add_mul, Nat.one_mul] at this
                        omega
                    rw [if_neg hne]
                    obtain ⟨y, q1, q2, q3⟩ := hro.cells i' cs' j v' hi' hj'
                    exact ⟨y, q1, VR_mono hle _ _ q2, q3⟩
                · refine ⟨hown1, by simp only [c', w', size_setCells]; exact hown2, ?_, ?_⟩
                  · simp only [c', w', wsize_setCells, List.length_set]; exact hown3
                  · intro q hq
                    simp only [c', w', wsize_setCells] at hq
                    simp only [c', w', World.frozen?_setCells]
                    exact hown4 q hq) (fun _ => False)
            exact ⟨c', γ, undef, .inr ⟨hrun, rfl⟩, rfl, h.next hs hev, by simp [RR, VR]⟩
          · simp at k4
        · simp at k2
      | _ => simp [putAt] at h5
    | lp t' k =>
      simp only [putAt, bind_some'] at h5
      obtain ⟨cs, k1, k2⟩ := h5
      split at k2
      · rename_i hc
        simp only [Option.some.injEq] at k2
        subst k2
        obtain ⟨hb1, hb2, hb3, xs, ty, q1, q2, q3⟩ := h.boxes t' cs k1
        have hws : wsize c.w (γ t') = xs.size := by simp [wsize, World.shape?, q1]
        have hfit : k + ys.length ≤ wsize c.w (γ t') := by omega
        have hfit' : k + (a.eval x).cells.toList.length ≤ wsize c.w (γ t') := by rw [← hl]; exact hfit
        have hrun := run _ _ hpr.2 hfit (fun q hq => by simp [World.frozen?, q1])
        obtain ⟨xs', r1, r2⟩ := block_setCells (γ t') (a.eval x).cells.toList k c.w xs ty (0, 0) q1
        obtain ⟨p1, p2, p3⟩ := plain_setCells (γ t') (a.eval x).cells.toList k c.w
        refine ⟨⟨c.β, c.σ, c.w.setCells (γ t') k (a.eval x).cells.toList⟩, γ, undef, .inr ⟨hrun, rfl⟩, rfl, ?_, by simp [RR, VR]⟩
        refine h.boxSet hb0 k1 xs' (upd cs k ys) (by rw [r2, q2, upd_length hc]) _ p1 p2 p3 (by rw [size_setCells]) (fun b hb => heap_setCells_other _ _ hb _ _ _) ty r1 ?_
        intro j v hj
        have hcell : (c.w.setCells (γ t') k (a.eval x).cells.toList).cell? ⟨γ t', j, none⟩ = xs'[j]? := by simp [World.cell?, r1]
        rw [← hcell, cell_setCells hfit']
        rw [upd_get hc] at hj
        split at hj
        · rename_i hin
          rw [if_pos ⟨hin.1, by rw [← hl]; exact hin.2⟩]
          obtain ⟨y, s1, s2⟩ := VRs_get hvs hj
          exact ⟨y, s1, s2, hone y (List.mem_of_getElem? s1)⟩
        · rename_i hin
          rw [if_neg (by rw [← hl]; exact hin)]
          obtain ⟨y, s1, s2, s3⟩ := q3 j v hj
          exact ⟨y, by simp [World.cell?, q1, s1], s2, s3⟩
      · simp at k2
    | ls els => simp [putAt] at h5
  · simp at h4

end
end Go.X

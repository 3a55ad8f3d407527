/- GoX, part 9: slice literals, byte conversions, make, struct literals. No statement of the seat is here. -/
import Derived.Test.YtfifhpmcbfeadaaGreatDoorY2
import Derived.Lib.ConvBytes
import Derived.Orders
set_option linter.unusedVariables false
set_option linter.unusedSimpArgs false
namespace Go.X
open Go

section
variable {P : Program} {base : Nat} {c0 : Ctx} {n : Nat} {c : Ctx} {γ : Nat → Nat} {g : Regs} {bx : Boxes} {tmps : Array Value} {a : Act} {o : Oper}

/-- Cells set one behind the other. -/
theorem foldl_set : ∀ (vs : List Value) (s o : Nat) (cs : Array Value), o + s + vs.length ≤ cs.size →
    ((vs.zipIdx s).foldl (fun cs (p : Value × Nat) => cs.setIfInBounds (o + p.2) p.1) cs).size = cs.size ∧
    ∀ k, ((vs.zipIdx s).foldl (fun cs (p : Value × Nat) => cs.setIfInBounds (o + p.2) p.1) cs)[k]? = if o + s ≤ k ∧ k < o + s + vs.length then vs[k - (o + s)]? else cs[k]?
  | [], s, o, cs, h => by
    refine ⟨rfl, fun k => ?_⟩
    rw [if_neg (by simp)]
    rfl
  | v :: vs, s, o, cs, h => by
    simp only [List.zipIdx_cons, List.foldl_cons]
    simp only [List.length_cons] at h
    obtain ⟨h1, h2⟩ := foldl_set vs (s + 1) o (cs.setIfInBounds (o + s) v) (by simp; omega)
    refine ⟨by rw [h1]; simp, fun k => ?_⟩
    rw [h2]
    by_cases hk : o + s = k
    · subst hk
      rw [if_neg (by omega), if_pos ⟨by omega, by simp⟩]
      have : o + s < cs.size := by omega
      simp [this]
    · by_cases hk2 : o + (s + 1) ≤ k ∧ k < o + (s + 1) + vs.length
      · rw [if_pos hk2, if_pos ⟨by omega, by simp; omega⟩]
        rw [show k - (o + s) = (k - (o + (s + 1))) + 1 by omega]
        rfl
      · rw [if_neg hk2, if_neg (by simp; omega)]
        simp [hk]

theorem fill_step {place : Nat → Option (Nat × Nat)} {cells : Array Value} {i : Nat} {v : Value} {rest : List (Nat × Value)} {off size : Nat} (hp : place i = some (off, size)) (hs : v.cells.size = size) (hf : off + size ≤ cells.size) :
    Instr.fill place cells ((i, v) :: rest) = Instr.fill place (v.cells.zipIdx.foldl (fun cs (p : Value × Nat) => cs.setIfInBounds (off + p.2) p.1) cells) rest := by
  rw [Instr.fill]
  simp only [hp]
  rw [if_neg (by simp [hs]; omega)]

/-- A struct's cells with parts laid in. -/
theorem fillP_sound (h : FI base c0 n c γ g bx tmps) (ha : a.tmps = tmps) {F : Nat → Option (Nat × Nat)} : ∀ {parts : List (Nat × Operand)} {ps : List (Nat × Nat × XO)}, cParts F parts = some ps → ∀ {zs cs : List AV} {cells : Array Value}, fillP g zs ps = some cs →
    cells.size = zs.length → (∀ (j : Nat) (v : AV), zs[j]? = some v → ∃ y, cells[j]? = some y ∧ VR c v y ∧ y.oneCell' = true) →
    ∃ cells', Instr.fill F cells (parts.map fun p => (p.1, a.eval p.2)) = some cells' ∧ cells'.size = cs.length ∧ ∀ (j : Nat) (v : AV), cs[j]? = some v → ∃ y, cells'[j]? = some y ∧ VR c v y ∧ y.oneCell' = true
  | [], ps, hps, zs, cs, cells, hf, hl, hc => by
    simp only [cParts, Option.some.injEq] at hps
    subst hps
    simp only [fillP, Option.some.injEq] at hf
    subst hf
    exact ⟨cells, rfl, hl, hc⟩
  | (i, x) :: parts, ps, hps, zs, cs, cells, hf, hl, hc => by
    simp only [cParts, bind_some', Option.some.injEq] at hps
    obtain ⟨⟨off, s⟩, h1, xo, h2, r, h3, rfl⟩ := hps
    simp only [fillP, bind_some'] at hf
    obtain ⟨av, h4, ys, h5, h6⟩ := hf
    split at h6
    · rename_i hcnd
      obtain ⟨hlen, hfit⟩ := hcnd
      obtain ⟨hvs, hone⟩ := cellsOf_sound h5 (opndv h ha h2 h4)
      have hvl := VRs_length hvs
      have hsz : (a.eval x).cells.size = s := by rw [← hlen, hvl]; simp
      simp only [List.map_cons]
      rw [fill_step h1 hsz (by omega)]
      have hfold := foldl_set (a.eval x).cells.toList 0 off cells (by rw [← hvl]; omega)
      have hz : (a.eval x).cells.zipIdx.foldl (fun cs (p : Value × Nat) => cs.setIfInBounds (off + p.2) p.1) cells = ((a.eval x).cells.toList.zipIdx 0).foldl (fun cs (p : Value × Nat) => cs.setIfInBounds (off + p.2) p.1) cells := by
        rw [← Array.foldl_toList, Array.toList_zipIdx]
      rw [hz]
      refine fillP_sound h ha h3 h6 (by rw [hfold.1, hl, upd_length (by omega)]) ?_
      intro j v hj
      rw [upd_get (by omega)] at hj
      rw [hfold.2 j]
      split at hj
      · rename_i hin
        rw [if_pos ⟨by omega, by rw [← hvl]; omega⟩]
        obtain ⟨y, e1, e2⟩ := VRs_get hvs hj
        exact ⟨y, by simpa using e1, e2, hone y (List.mem_of_getElem? e1)⟩
      · rename_i hin
        rw [if_neg (by rw [← hvl]; omega)]
        exact hc j v hj
    · simp at h6

theorem allSome_mapM {α β : Type} (f : α → Option β) : ∀ l : List α, allSome f l = l.mapM f
  | [] => rfl
  | a :: l => by
    simp only [allSome, List.mapM_cons, allSome_mapM f l]
    rfl

theorem s_build (h : FI base c0 n c γ g bx tmps) (ha : a.tmps = tmps) {t : TypeId} {fs : Array Field} {zs : List AV} {pl : List (Nat × Nat)} {parts : Array (Nat × Operand)} {ps : List (Nat × Nat × XO)} (ho : o.op = .build t parts) (hu : P.underlying t = some (.struct fs)) (hz : zeroOf P t = some zs)
    (hpl : places P fs = some pl) (hps : cParts (fun i => pl[i]?) parts.toList = some ps) {rv : RV} {M' : Mem}
    (he : evP g ⟨bx, c.σ⟩ (.build zs ps) = some (rv, M')) : OpRes P base c0 n c g tmps a o rv M' := by
  simp only [evP, bind_some', Option.some.injEq, Prod.mk.injEq] at he
  obtain ⟨cs, h1, rfl, rfl⟩ := he
  obtain ⟨i, z, h2, h3, h4, h5⟩ := zeroOf_sound hz
  obtain ⟨cells, h6, h7, h8⟩ := fillP_sound h ha hps h1 h4 (h5 c)
  have hb : P.built t ((parts.map fun (p : Nat × Operand) => (p.1, a.eval p.2)).toList) = some cells := by
    unfold Program.built
    have hm : fs.toList.mapM (fun f => (P.info? f.type).map fun i => (f.offset, i.size)) = some pl := by
      rw [← allSome_mapM]
      have : (fun f : Field => (P.info? f.type).map fun i => (f.offset, i.size)) = (fun f : Field => (szOf P f.type).map fun s => (f.offset, s)) := by
        funext f
        simp [szOf, Option.map_map]
        rfl
      rw [this]
      exact hpl
    simp only [h2, hu, h3, hm]
    simpa using h6
  refine OpRes.same h (y := .agg cells) ?_ ?_
  · have := run_build (P := P) c.w t _ cells hb
    simp [execOp, ho, this]
  · simp only [RR, VR]
    refine ⟨cells, rfl, VRs_of (by simpa using h7.symm) fun j v x hv hx => ?_, fun y hy => ?_⟩
    · obtain ⟨y, e1, e2, _⟩ := h8 j v hv
      have : cells[j]? = some x := by simpa using hx
      rw [e1] at this; cases this
      exact e2
    · obtain ⟨j, hj, rfl⟩ := List.getElem_of_mem hy
      have hj' : j < cs.length := by rw [← h7]; simpa using hj
      obtain ⟨y, e1, _, e3⟩ := h8 j _ (List.getElem?_eq_getElem hj')
      have := (Array.getElem?_eq_some_iff.1 e1).2
      rw [Array.getElem_toList, this]
      exact e3

/-- Elements with some replaced. -/
theorem fillS_sound (h : FI base c0 n c γ g bx tmps) (ha : a.tmps = tmps) {sz : Nat} (hpos : 0 < sz) : ∀ {parts : List (Nat × Operand)} {ps : List (Nat × XO)}, cPartsS parts = some ps → ∀ {els0 els : List (List AV)} {cells : Array Value}, fillS g sz els0 ps = some els →
    Flat c sz els0 cells.toList → ∃ cells', Instr.fill (fun i => some (i * sz, sz)) cells (parts.map fun p => (p.1, a.eval p.2)) = some cells' ∧ Flat c sz els cells'.toList ∧ els.length = els0.length
  | [], ps, hps, els0, els, cells, hf, hl => by
    simp only [cPartsS, Option.some.injEq] at hps
    subst hps
    simp only [fillS, Option.some.injEq] at hf
    subst hf
    exact ⟨cells, rfl, hl, rfl⟩
  | (i, x) :: parts, ps, hps, els0, els, cells, hf, hl => by
    simp only [cPartsS, bind_some', Option.some.injEq] at hps
    obtain ⟨xo, h2, r, h3, rfl⟩ := hps
    simp only [fillS, bind_some'] at hf
    obtain ⟨av, h4, ys, h5, h6⟩ := hf
    split at h6
    · rename_i hcnd
      obtain ⟨hlen, hi⟩ := hcnd
      obtain ⟨hvs, hone⟩ := cellsOf_sound h5 (opndv h ha h2 h4)
      have hvl := VRs_length hvs
      have hsz : (a.eval x).cells.size = sz := by rw [← hlen, hvl]; simp
      have hsize : cells.size = els0.length * sz := by simpa using hl.size
      have hmul : (i + 1) * sz ≤ els0.length * sz := Nat.mul_le_mul_right _ hi
      rw [Nat.add_mul, Nat.one_mul] at hmul
      simp only [List.map_cons]
      rw [fill_step rfl hsz (by omega)]
      have hfold := foldl_set (a.eval x).cells.toList 0 (i * sz) cells (by rw [← hvl]; omega)
      have hz : (a.eval x).cells.zipIdx.foldl (fun cs (p : Value × Nat) => cs.setIfInBounds (i * sz + p.2) p.1) cells = ((a.eval x).cells.toList.zipIdx 0).foldl (fun cs (p : Value × Nat) => cs.setIfInBounds (i * sz + p.2) p.1) cells := by
        rw [← Array.foldl_toList, Array.toList_zipIdx]
      rw [hz]
      obtain ⟨cells', r1, r2, r3⟩ := fillS_sound h ha hpos h3 h6 (cells := ((a.eval x).cells.toList.zipIdx 0).foldl (fun cs (p : Value × Nat) => cs.setIfInBounds (i * sz + p.2) p.1) cells) (by
        refine ⟨?_, by simp [hfold.1, hsize], ?_⟩
        · intro q cs hq
          rw [List.getElem?_set] at hq
          split at hq
          · rename_i e
            subst e
            try rw [if_pos hi] at hq
            simp only [Option.some.injEq] at hq; rw [← hq]; exact hlen
          · exact hl.len q cs hq
        · intro q cs j v hq hj
          rw [Array.getElem?_toList, hfold.2]
          rw [List.getElem?_set] at hq
          split at hq
          · rename_i e
            subst e
            try rw [if_pos hi] at hq
            simp only [Option.some.injEq] at hq
            subst hq
            have hj' := (List.getElem?_eq_some_iff.1 hj).1
            rw [if_pos ⟨by omega, by rw [← hvl]; omega⟩]
            obtain ⟨y, e1, e2⟩ := VRs_get hvs hj
            refine ⟨y, ?_, e2, hone y (List.mem_of_getElem? e1)⟩
            rw [show i * sz + j - (i * sz + 0) = j by omega]
            exact e1
          · rename_i e
            obtain ⟨y, e1, e2, e3⟩ := hl.cont q cs j v hq hj
            refine ⟨y, ?_, e2, e3⟩
            have hj' := (List.getElem?_eq_some_iff.1 hj).1
            rw [hl.len q cs hq] at hj'
            rw [if_neg]
            · simpa using e1
            · rintro ⟨q1, q2⟩
              rw [← hvl] at q2
              rcases Nat.lt_or_gt_of_ne e with hlt | hlt
              · have : (i + 1) * sz ≤ q * sz := Nat.mul_le_mul_right _ hlt
                rw [Nat.add_mul, Nat.one_mul] at this
                omega
              · have : (q + 1) * sz ≤ i * sz := Nat.mul_le_mul_right _ hlt
                rw [Nat.add_mul, Nat.one_mul] at this
                omega)
      exact ⟨cells', r1, r2, by rw [r3]; simp⟩
    · simp at h6

theorem flat_zero {c : Ctx} {zs : List AV} {z : Array Value} (hl : z.size = zs.length) (hpos : 0 < zs.length) (hc : ∀ (j : Nat) (v : AV), zs[j]? = some v → ∃ y, z[j]? = some y ∧ VR c v y ∧ y.oneCell' = true) (k m : Nat) (hm : m = k * zs.length) :
    Flat c zs.length (List.replicate k zs) ((Array.range m).map fun q => z[q % z.size]!).toList := by
  subst hm
  refine ⟨?_, by simp, ?_⟩
  · intro i cs hi
    rw [List.getElem?_replicate] at hi
    split at hi
    · simp only [Option.some.injEq] at hi; rw [← hi]
    · simp at hi
  · intro i cs j v hi hj
    rw [List.getElem?_replicate] at hi
    split at hi
    · rename_i hik
      simp only [Option.some.injEq] at hi
      subst hi
      have hj' := (List.getElem?_eq_some_iff.1 hj).1
      obtain ⟨y, e1, e2, e3⟩ := hc j v hj
      refine ⟨y, ?_, e2, e3⟩
      have hmul : (i + 1) * zs.length ≤ k * zs.length := Nat.mul_le_mul_right _ hik
      rw [Nat.add_mul, Nat.one_mul] at hmul
      have hlt : i * zs.length + j < k * zs.length := by omega
      have hmod : (i * zs.length + j) % z.size = j := by rw [hl, Nat.mul_comm, Nat.mul_add_mod]; exact Nat.mod_eq_of_lt hj'
      obtain ⟨h1, h2⟩ := Array.getElem?_eq_some_iff.1 e1
      simp [hlt, hmod, h1, h2]
    · simp at hi

theorem run_newRow' (e : TypeId) (cells : Array Value) (w : World) : (Go.newRow e cells).run P w = .ok ⟨w.heap.size, 0, none⟩ (w.alloc (.cells cells e (0, 0))) := by simp [Go.newRow]

theorem run_bsl {t e : TypeId} {k sz : Nat} {parts : Array (Nat × Value)} {zc cells : Array Value} {w : World} (hu : P.underlying t = some (.slice e)) (hsz : szOf P e = some sz) (hlim : ¬ (k * sz > 2 ^ 24))
    (hzc : (if k * sz = 0 then pure #[] else do pure (← zeroValue e).cells : Sem (Array Value)).run P w = .ok zc w)
    (hfill : Instr.fill (fun i => some (i * sz, sz)) ((Array.range (k * sz)).map (zc[· % zc.size]!)) parts.toList = some cells) :
    (Instr.buildSlice t k parts).run P w = .ok (.slice (some ⟨w.heap.size, 0, none⟩) k k) (w.alloc (.cells cells e (0, 0))) := by
  unfold Instr.buildSlice
  simp only [Sem.run_bind, run_underlying hu, Result.andThen_ok, szOf_run hsz, if_neg hlim, Sem.run_pure]
  by_cases hk : k * sz = 0
  · rw [if_pos hk] at hzc ⊢
    simp only [Sem.run_pure, Result.ok.injEq, and_true] at hzc
    subst hzc
    simp only [Sem.run_bind, Sem.run_pure, Result.andThen_ok, hfill, run_newRow']
  · rw [if_neg hk] at hzc ⊢
    simp only [Sem.run_bind] at hzc ⊢
    cases hz : (zeroValue e).run P w with
    | halt x w' => rw [hz] at hzc; simp [Result.andThen] at hzc
    | ok v w' =>
      rw [hz] at hzc
      simp only [Result.andThen_ok, Sem.run_pure, Result.ok.injEq] at hzc ⊢
      obtain ⟨rfl, rfl⟩ := hzc
      simp only [hfill, Sem.run_bind, Sem.run_pure, Result.andThen_ok, run_newRow']

theorem s_bsl (h : FI base c0 n c γ g bx tmps) (ha : a.tmps = tmps) {t e : TypeId} {lo : Bool} {sz k : Nat} {zs : List AV} {parts : Array (Nat × Operand)} {ps : List (Nat × XO)} (ho : o.op = .buildSlice t k parts) (hu : P.underlying t = some (.slice e)) (hsz : szOf P e = some sz) (hz : zeroOf P e = some zs)
    (hps : cPartsS parts.toList = some ps) (hpos : 0 < sz) (hzl : zs.length = sz) (hlim : k * sz ≤ 16777216) {rv : RV} {M' : Mem}
    (he : evP g ⟨bx, c.σ⟩ (.bsl lo sz k zs ps) = some (rv, M')) : OpRes P base c0 n c g tmps a o rv M' := by
  simp only [evP, bind_some'] at he
  obtain ⟨els, h1, h2⟩ := he
  obtain ⟨i, z, h3, h4, h5, h6⟩ := zeroOf_sound hz
  have hzz : ∃ zc : Array Value, (k * sz = 0 → zc = #[]) ∧ (k * sz ≠ 0 → zc = z.cells) ∧ Flat c sz (List.replicate k zs) ((Array.range (k * sz)).map fun q => zc[q % zc.size]!).toList := by
    by_cases hk : k * sz = 0
    · have : k = 0 := by rcases Nat.mul_eq_zero.1 hk with h | h <;> omega
      subst this
      exact ⟨#[], fun _ => rfl, fun h => absurd hk h, by simpa using Flat.nil c sz⟩
    · refine ⟨z.cells, fun h => absurd h hk, fun _ => rfl, ?_⟩
      have := flat_zero (c := c) h5 (by omega) (h6 c) k (k * sz) (by rw [hzl])
      rwa [hzl] at this
  obtain ⟨zc, hz1, hz2, hflat⟩ := hzz
  obtain ⟨cells, f1, f2, f3⟩ := fillS_sound h ha hpos hps h1 hflat
  have hlen : els.length = k := by rw [f3]; simp
  have hcs : cells.size = k * sz := by have := f2.size; rw [hlen] at this; simpa using this
  have hrun : (execOp a.eval o).run P c.w = .ok (.value (.slice (some ⟨c.w.heap.size, 0, none⟩) k k)) (c.w.alloc (.cells cells e (0, 0))) := by
    have hzc : (if k * sz = 0 then pure #[] else do pure (← zeroValue e).cells : Sem (Array Value)).run P c.w = .ok zc c.w := by
      by_cases hk : k * sz = 0
      · rw [if_pos hk, hz1 hk]; rfl
      · rw [if_neg hk, hz2 hk]; simp [zeroValue, typeInfo, h3, h4]
    have hr := run_bsl (P := P) (parts := parts.map fun (p : Nat × Operand) => (p.1, a.eval p.2)) hu hsz (by omega) hzc (by simpa using f1)
    have e1 : (execOp a.eval o) = (do pure (.value (← Instr.buildSlice t k (parts.map fun (p : Nat × Operand) => (p.1, a.eval p.2))))) := by
      simp only [execOp, ho]
    rw [e1]
    simp only [Sem.run_bind, hr, Result.andThen_ok, Sem.run_pure]
  have hcont : ∀ (i : Nat) (cs : List AV) (j : Nat) (v : AV), els[i]? = some cs → cs[j]? = some v → ∃ y, cells[i * sz + j]? = some y ∧ VR c v y ∧ y.oneCell' = true := by
    intro i cs j v hi hj
    obtain ⟨y, e1, e2, e3⟩ := f2.cont i cs j v hi hj
    exact ⟨y, by simpa using e1, e2, e3⟩
  split at h2
  · simp only [Option.some.injEq, Prod.mk.injEq] at h2
    obtain ⟨rfl, rfl⟩ := h2
    obtain ⟨hs, hev⟩ := h.sim.world (X := fun _ => False) (w' := c.w.alloc (.cells cells e (0, 0))) rfl rfl rfl (by simp) (fun b hb => hb.elim) (fun b hb _ => Go.heap_alloc_old c.w _ hb)
    refine ⟨⟨c.β, c.σ, c.w.alloc (.cells cells e (0, 0))⟩, γ, _, .inl hrun, rfl, h.next hs hev, ?_⟩
    have hlt : ∀ b, Own c b → b < c.w.heap.size := by
      rintro b ⟨r, row, q1, q2, rfl⟩
      exact h.sim.lt q1 (h.sim.notro q1 q2)
    refine ⟨c.w.heap.size, cells, e, sz, by rw [hlen], heap_alloc_new _ _, fun hown => ?_, fun q hq => ?_, fun i cs hi => ⟨f2.len i cs hi, fun j v hj => ?_⟩⟩
    · have := hlt _ hown; omega
    · obtain ⟨cs', hcs'⟩ := Option.isSome_iff_exists.1 hq
      have := (h.boxes q cs' hcs').2.lt
      omega
    · obtain ⟨y, e1, e2, e3⟩ := hcont i cs j v hi hj
      exact ⟨y, e1, VR_mono hev.le _ _ e2, e3⟩
  · simp only [Option.some.injEq, Prod.mk.injEq] at h2
    obtain ⟨rfl, rfl⟩ := h2
    obtain ⟨c', e1, e2, e3, e4, e5⟩ := h.rowNew (els := els) (sz := sz) (xs := cells) (ty := e) (fz := (0, 0)) (w' := c.w.alloc (.cells cells e (0, 0))) hpos f2.len (by rw [hcs, hlen]; exact Nat.le_refl _) hcont rfl rfl rfl rfl (.inl (Nat.le_refl _))
    refine ⟨c', γ, _, .inl (by rw [e1]; exact hrun), e2, e5, ?_⟩
    simp only [RR, VR]
    refine ⟨_, _, rfl, Nat.le_refl _, ⟨els, sz, 0, .own⟩, by rw [e2]; simp, Nat.le_refl _, fun _ _ => ?_⟩
    rw [e3, e1, e4, hcs]
    exact ⟨by simp, fun _ => by simp⟩

theorem s_mks (h : FI base c0 n c γ g bx tmps) (ha : a.tmps = tmps) {t e : TypeId} {i : TypeInfo} {zs : List AV} {x y : Operand} {xo yo : XO} (ho : o.op = .makeSlice t x y) (hu : P.underlying t = some (.slice e)) (hi : P.info? e = some i) (hz : zeroOf P e = some zs) (hpos : 0 < i.size) (hzl : zs.length = i.size) (hx : cO x = some xo) (hy : cO y = some yo)
    {rv : RV} {M' : Mem} (he : evP g ⟨bx, c.σ⟩ (.mks i.size i.bytes zs xo yo) = some (rv, M')) : OpRes P base c0 n c g tmps a o rv M' := by
  simp only [evP, bind_some'] at he
  obtain ⟨av, h1, bv, h2, h3⟩ := he
  have hv := opndv h ha hx h1
  have hw := opndv h ha hy h2
  obtain ⟨i', z, h4, h5, h6, h7⟩ := zeroOf_sound hz
  rw [hi] at h4; cases h4
  cases av with
  | int k1 p =>
    cases bv with
    | int k2 q =>
      cases k1 <;> (try simp only [reduceCtorEq] at h3)
      cases k2 <;> (try simp only [reduceCtorEq] at h3)
      split at h3
      · rename_i hc
        simp only [Option.some.injEq, Prod.mk.injEq] at h3
        obtain ⟨rfl, rfl⟩ := h3
        simp only [VR] at hv hw
        have hb : (i.bytes : Int) * q ≤ 281474976710656 := by rw [Int.mul_comm]; omega
        have hr := run_make (P := P) c.w t e i z hu hi h5 .i64 .i64 p q hc.1 hc.2.1 hb (by omega)
        have hmade : madeCells z.cells (q.toNat * i.size) = (Array.range (q.toNat * i.size)).map fun j => z.cells[j % z.cells.size]! := rfl
        rw [hmade] at hr
        have hfl := flat_zero (c := c) h6 (by omega) (h7 c) q.toNat (q.toNat * i.size) (by rw [hzl])
        rw [hzl] at hfl
        have hpq : p.toNat ≤ q.toNat := by omega
        have hsz : ((Array.range (q.toNat * i.size)).map fun j => z.cells[j % z.cells.size]!).size = q.toNat * i.size := by simp
        have hrep : ∀ (j : Nat) (cs : List AV), (List.replicate p.toNat zs)[j]? = some cs → (List.replicate q.toNat zs)[j]? = some cs := by
          intro j cs hj
          rw [List.getElem?_replicate] at hj ⊢
          split at hj
          · rw [if_pos (by omega)]; exact hj
          · simp at hj
        obtain ⟨c', e1, e2, e3, e4, e5⟩ := h.rowNew (els := List.replicate p.toNat zs) (sz := i.size) (xs := (Array.range (q.toNat * i.size)).map fun j => z.cells[j % z.cells.size]!) (ty := e) (fz := (0, 0)) hpos
          (fun j cs hj => hfl.len j cs (hrep j cs hj)) (by rw [hsz]; simp only [List.length_replicate]; exact Nat.mul_le_mul_right _ hpq)
          (fun j cs l v hj hl => by
            obtain ⟨y, s1, s2, s3⟩ := hfl.cont j cs l v (hrep j cs hj) hl
            exact ⟨y, by rw [Array.getElem?_toList] at s1; exact s1, s2, s3⟩) (w' := c.w.alloc (.cells ((Array.range (q.toNat * i.size)).map fun j => z.cells[j % z.cells.size]!) e (0, 0))) rfl rfl rfl rfl (.inl (Nat.le_refl _))
        refine ⟨c', γ, .slice (some ⟨c.w.heap.size, 0, none⟩) p.toNat q.toNat, .inl ?_, e2, e5, ?_⟩
        · rw [e1]
          simp only [execOp, ho, hv, hw, Sem.run_bind, hr, Result.andThen_ok, Sem.run_pure]
        · simp only [RR, VR]
          refine ⟨_, _, rfl, hpq, ⟨List.replicate p.toNat zs, i.size, 0, .own⟩, by rw [e2]; simp, Nat.le_refl _, fun _ _ => ?_⟩
          rw [e3, e1, e4, hsz]
          exact ⟨by simp, fun _ => by simp⟩
      · simp at h3
    | _ => simp at h3
  | _ => simp at h3

theorem s_s2b (h : FI base c0 n c γ g bx tmps) (ha : a.tmps = tmps) {s d e : TypeId} {x : Operand} {xo : XO} (ho : o.op = .convert s d x) (hs : P.underlying s = some .string) (hd : P.underlying d = some (.slice e)) (hu : P.underlying e = some (.int .u8)) (hsz : szOf P e = some 1) (hx : cO x = some xo)
    {rv : RV} {M' : Mem} (he : evP g ⟨bx, c.σ⟩ (.s2b xo) = some (rv, M')) : OpRes P base c0 n c g tmps a o rv M' := by
  simp only [evP, bind_some'] at he
  obtain ⟨av, h1, h3⟩ := he
  have hv := opndv h ha hx h1
  cases av with
  | str l =>
    simp only [Option.some.injEq, Prod.mk.injEq] at h3
    obtain ⟨rfl, rfl⟩ := h3
    simp only [VR] at hv
    obtain ⟨b, ex, rfl⟩ := hv
    have hbl : b.data.toList.length = b.size := by rw [Array.length_toList]; rfl
    have hrun : (execOp a.eval o).run P c.w = .ok (.value (.slice (some ⟨c.w.heap.size, 0, none⟩) b.size (grownCap c.w b.size 0 e))) (Lib.bytesWorld c.w e b) := by
      simp [execOp, ho, ex, Lib.run_convert_string_bytes c.w s d e b hs hd hu]
    have hcap := grownCap_ge c.w b.size 0 e
    have hds : b.data.size = b.size := rfl
    have hblk : (Lib.bytesCells c.w e b).size = grownCap c.w b.size 0 e := by
      simp only [Lib.bytesCells, Array.size_append, Array.size_map, Array.size_replicate, hds]; omega
    have hheap : (Lib.bytesWorld c.w e b).heap = c.w.heap.push (.cells (Lib.bytesCells c.w e b) e ((Lib.bytesCells c.w e b).size, (Lib.bytesCells c.w e b).size + 1)) := by
      apply Array.ext_getElem?
      intro q
      rcases Nat.lt_trichotomy q c.w.heap.size with hlt | heq | hgt
      · rw [Lib.bytesWorld_at_old c.w e b q hlt, Array.getElem?_push, if_neg (by omega)]
      · subst heq; rw [Lib.bytesWorld_at_new]; simp
      · rw [Array.getElem?_eq_none (by rw [Lib.bytesWorld_size]; omega), Array.getElem?_eq_none (by simp; omega)]
    obtain ⟨c', e1, e2, e3, e4, e5⟩ := h.rowNew (els := b.data.toList.map fun q => [AV.int .u8 (q.toNat : Nat)]) (sz := 1) (xs := Lib.bytesCells c.w e b) (ty := e) (w' := Lib.bytesWorld c.w e b) (by omega)
      (fun i cs hi => by
        rw [List.getElem?_map] at hi
        cases hq : b.data.toList[i]? with
        | none => simp [hq] at hi
        | some q => simp [hq] at hi; rw [← hi]; rfl)
      (by rw [hblk]; simp only [List.length_map, hbl, Nat.mul_one]; exact hcap)
      (fun i cs j v hi hj => by
        rw [List.getElem?_map] at hi
        cases hq : b.data.toList[i]? with
        | none => simp [hq] at hi
        | some q =>
          simp [hq] at hi
          subst hi
          cases j with
          | succ j => simp at hj
          | zero =>
            simp at hj
            subst hj
            refine ⟨.int .u8 (q.toNat : Nat), ?_, by simp [VR], rfl⟩
            have hlt := (List.getElem?_eq_some_iff.1 hq).1
            rw [hbl] at hlt
            have hlt' : i < b.data.size := hlt
            have hq' : b.data[i]? = some q := by simpa using hq
            simp only [Lib.bytesCells, Nat.mul_one, Nat.add_zero]
            rw [Array.getElem?_append_left (by simpa using hlt')]
            simp [hq'])
      hheap rfl rfl rfl (.inr (Nat.le_refl _))
    refine ⟨c', γ, _, .inl (by rw [e1]; exact hrun), e2, e5, ?_⟩
    simp only [RR, VR]
    refine ⟨_, _, by rw [hbl], by rw [hbl]; exact hcap, ⟨b.data.toList.map fun q => [AV.int .u8 (q.toNat : Nat)], 1, 0, .own⟩, by rw [e2]; simp, Nat.le_refl _, fun _ _ => ?_⟩
    rw [e3, e1, e4, hblk]
    exact ⟨by simp, fun _ => by simp⟩
  | _ => simp at h3

theorem foldl_push (ns : List Int) : ∀ s : ByteArray, (ns.foldl (fun r n => r.push (UInt8.ofNat n.toNat)) s).data.toList = s.data.toList ++ ns.map fun n => UInt8.ofNat n.toNat := by
  induction ns with
  | nil => intro s; simp
  | cons n ns ih => intro s; rw [List.foldl_cons, ih]; simp

theorem s_b2s (h : FI base c0 n c γ g bx tmps) (ha : a.tmps = tmps) {s d e : TypeId} {x : Operand} {xo : XO} (ho : o.op = .convert s d x) (hs : P.underlying s = some (.slice e)) (hd : P.underlying d = some .string) (hu : P.underlying e = some (.int .u8)) (hx : cO x = some xo)
    {rv : RV} {M' : Mem} (he : evP g ⟨bx, c.σ⟩ (.b2s xo) = some (rv, M')) : OpRes P base c0 n c g tmps a o rv M' := by
  simp only [evP, bind_some', Option.some.injEq, Prod.mk.injEq] at he
  obtain ⟨r, h1, els, h2, l, h3, rfl, rfl⟩ := he
  have hr := opnd h ha hx h1
  rcases els_lies h hr h2 with ⟨hy, rfl⟩ | ⟨ad, cap, xs, hy, hf, hc⟩
  · simp only [allSome, Option.some.injEq] at h3
    subst h3
    refine OpRes.same h (y := .string .empty) ?_ (by simp only [RR, VR]; exact ⟨_, rfl, rfl⟩)
    simp [execOp, ho, hy, convert, run_underlying hs, run_underlying hd, run_underlying hu, Conv.bytesToString]
  · obtain ⟨hl, hg⟩ := allSome_get h3
    -- the numbers
    have hns : ∃ ns : List Int, xs = ns.map (Value.int .u8) ∧ l = ns.map fun n => UInt8.ofNat n.toNat := by
      refine ⟨xs.map fun v => match v with | .int _ q => q | _ => 0, ?_, ?_⟩
      · apply List.ext_getElem?
        intro j
        rw [List.getElem?_map, List.getElem?_map]
        cases hj : xs[j]? with
        | none => rfl
        | some v =>
          have hlt := (List.getElem?_eq_some_iff.1 hj).1
          rw [hf.size, Nat.mul_one, hl] at hlt
          obtain ⟨cs, k1, k2⟩ := hg j _ (List.getElem?_eq_getElem hlt)
          unfold byteOfCell at k2
          split at k2
          · rename_i q
            obtain ⟨y, k3, k4, _⟩ := hf.cont j _ 0 _ k1 rfl
            simp only [Nat.mul_one, Nat.add_zero] at k3
            rw [hj] at k3; cases k3
            simp only [VR] at k4
            subst k4
            rfl
          · simp at k2
      · apply List.ext_getElem?
        intro j
        rw [List.getElem?_map, List.getElem?_map]
        cases hj : l[j]? with
        | none =>
          have hge : l.length ≤ j := by simpa using hj
          have : xs[j]? = none := by rw [List.getElem?_eq_none_iff, hf.size, Nat.mul_one, hl]; exact hge
          rw [this]; rfl
        | some q =>
          obtain ⟨cs, k1, k2⟩ := hg j q hj
          unfold byteOfCell at k2
          split at k2
          · rename_i p
            obtain ⟨y, k3, k4, _⟩ := hf.cont j _ 0 _ k1 rfl
            simp only [Nat.mul_one, Nat.add_zero] at k3
            rw [k3]
            simp only [VR] at k4
            subst k4
            simpa using k2.symm
          · simp at k2
    obtain ⟨ns, rfl, rfl⟩ := hns
    have hload := run_loadCells_list (P := P) c.w ad (ns.map (Value.int .u8)) hc
    have hlen : (ns.map (Value.int .u8)).length = els.length := by rw [hf.size, Nat.mul_one]
    rw [hlen] at hload
    have hrun := run_bytesToString (P := P) c.w ad els.length cap ns hload
    refine OpRes.same h ?_ (rv := .v (.str _)) (y := .string (ns.foldl (fun r n => r.push (UInt8.ofNat n.toNat)) ByteArray.empty)) ?_
    · simp [execOp, ho, hy, convert, run_underlying hs, run_underlying hd, run_underlying hu, hrun]
    · simp only [RR, VR]
      exact ⟨_, rfl, by rw [foldl_push]; rfl⟩

end
end Go.X

/- GoX, part 10: every resolved operation, calls among them, does in the model what the executor says. No statement of the seat is here. -/
set_option linter.unusedVariables false
set_option linter.unusedSimpArgs false
namespace Go.X
open Go

def Callable (P : Program) (f : FuncId) : Prop := ∃ fn, P.funcs[f]? = some fn ∧ (fn.name == "runtime.NumGoroutine") = false ∧ fn.body.isNone = false

/-- What lay below base when the outmost call began lies there still. -/
def Old (base : Nat) (W0 w : World) : Prop := ∀ b, b < base → w.heap[b]? = W0.heap[b]?
/-- What the executor tells of a call is what the model's call comes to. -/
def SoundCall (P : Program) (base : Nat) (W0 : World) (E : Call) : Prop := ∀ f as st r st', E f as st = some (r, st') → Callable P f ∧
  ∀ c xs, Sim base c → Old base W0 c.w → c.σ = st → VRs c as xs → Calls P f xs.toArray c.w fun e w' => ∃ c' y, e = .returned y ∧ c'.w = w' ∧ c'.σ = st' ∧ Sim base c' ∧ Evo (fun _ => False) c c' ∧ VR c' r y

section
variable {P : Program} {base : Nat} {W0 : World} {c0 : Ctx} {n : Nat} {c : Ctx} {γ : Nat → Nat} {g : Regs} {bx : Boxes} {tmps : Array Value} {a : Act} {o : Oper}

theorem cBin_sound (h : FI base c0 n c γ g bx tmps) (ha : a.tmps = tmps) {op : BinOp} {t u : TypeId} {x y : Operand} {xop : XOp} (ho : o.op = .binOp op t x y u) (hc : cBin P op t x y = some xop) {rv : RV} {M' : Mem} (he : evP g ⟨bx, c.σ⟩ xop = some (rv, M')) : OpRes P base c0 n c g tmps a o rv M' := by
  simp only [cBin, bind_some'] at hc
  obtain ⟨xo, h1, yo, h2, h3⟩ := hc
  split at h3
  · split at h3
    · rename_i hop; cases h3; exact s_bin h ha ho hop h1 h2 he
    · simp at h3
  · split at h3
    · rename_i hop; cases h3; exact s_bin h ha ho hop h1 h2 he
    · simp at h3
  · rename_i hu
    split at h3
    · cases h3; exact s_beq (neg := false) h ha ho hu h1 h2 he
    · cases h3; exact s_beq (neg := true) h ha ho hu h1 h2 he
    · simp at h3
  · rename_i fs hu
    split at h3
    · rename_i hg
      simp only [bind_some'] at h3
      obtain ⟨ks, h4, h5⟩ := h3
      split at h5
      · cases h5; exact s_seq (neg := false) h ha ho hu hg h4 h1 h2 he
      · cases h5; exact s_seq (neg := true) h ha ho hu hg h4 h1 h2 he
      · simp at h5
    · simp at h3
  · rename_i d _ _ _ _ hu
    simp only [bind_some'] at h3
    obtain ⟨k, h4, h5⟩ := h3
    split at h5
    · cases h5; exact s_isnil (neg := false) h ha ho hu h1 h4 he
    · cases h5; exact s_isnil (neg := true) h ha ho hu h1 h4 he
    · simp at h5
  · simp at h3

/-- The operations that call nothing. -/
theorem evP_sound (h : FI base c0 n c γ g bx tmps) (hb0 : base ≤ c0.w.heap.size) (ha : a.tmps = tmps) {lo : List Nat} {xop : XOp} (hc : compOp P lo o = some xop) {rv : RV} {M' : Mem} (he : evP g ⟨bx, c.σ⟩ xop = some (rv, M')) : OpRes P base c0 n c g tmps a o rv M' := by
  unfold compOp at hc
  split at hc
  · rename_i x ho
    simp only [Option.map_eq_some_iff] at hc
    obtain ⟨xo, h1, rfl⟩ := hc
    exact s_mv h ha (.inl ho) h1 he
  · rename_i x ho
    simp only [Option.map_eq_some_iff] at hc
    obtain ⟨xo, h1, rfl⟩ := hc
    exact s_mv h ha (.inr ho) h1 he
  · rename_i x y z ho
    simp only [bind_some', Option.some.injEq] at hc
    obtain ⟨xo, h1, yo, h2, zo, h3, rfl⟩ := hc
    exact s_pick h ha ho h1 h2 h3 he
  · rename_i e ho
    simp only [bind_some'] at hc
    obtain ⟨z, h1, d, h2, h3⟩ := hc
    split at h3
    · rename_i hp; cases h3; exact s_alloc h ha ho h1 hp he
    · simp at h3
  · rename_i e x ho
    simp only [bind_some'] at hc
    obtain ⟨s, h1, d, h2, xo, h3, h4⟩ := hc
    split at h4
    · rename_i hp; cases h4; exact s_box h ha ho h3 hp he
    · simp at h4
  · rename_i t x ho
    simp only [bind_some', Option.some.injEq] at hc
    obtain ⟨ag, h1, s, h2, xo, h3, rfl⟩ := hc
    exact s_load h ha ho h1 h2 h3 he
  · rename_i t p x ho
    simp only [bind_some', Option.some.injEq] at hc
    obtain ⟨s, h1, po, h2, xo, h3, rfl⟩ := hc
    exact s_store h hb0 ha ho h1 h2 h3 he
  · rename_i s x f ho
    split at hc
    · rename_i fs hu
      simp only [bind_some'] at hc
      obtain ⟨fd, h1, sz, h2, h3⟩ := hc
      split at h3
      · simp at h3
      · rename_i h0
        simp only [bind_some', Option.some.injEq] at h3
        obtain ⟨xo, h4, rfl⟩ := h3
        exact s_fadr h ha ho hu h1 h2 h0 h4 he
    · simp at hc
  · rename_i t x i ho
    split at hc
    · rename_i e hu
      simp only [bind_some', Option.some.injEq] at hc
      obtain ⟨s, h1, xo, h2, io, h3, rfl⟩ := hc
      exact s_iadr h ha ho hu h1 h2 h3 he
    · simp at hc
  · rename_i t x f ho
    split at hc
    · rename_i fs hu
      simp only [bind_some', Option.some.injEq] at hc
      obtain ⟨fd, h1, ag, h2, sz, h3, xo, h4, rfl⟩ := hc
      exact s_fld h ha ho hu h1 h2 h3 h4 he
    · simp at hc
  · rename_i op t x y u ho
    exact cBin_sound h ha ho hc he
  · rename_i t x ho
    simp only [Option.map_eq_some_iff] at hc
    obtain ⟨xo, h1, rfl⟩ := hc
    exact s_bnot h ha ho h1 he
  · rename_i t x ho
    simp only [Option.map_eq_some_iff] at hc
    obtain ⟨xo, h1, rfl⟩ := hc
    exact s_neg h ha ho h1 he
  · rename_i cl ho
    unfold cCall at hc
    split at hc
    · simp only [bind_some', Option.some.injEq] at hc
      obtain ⟨as, h1, rfl⟩ := hc
      simp [evP] at he
    · simp only [bind_some', Option.some.injEq] at hc
      obtain ⟨as, h1, rfl⟩ := hc
      simp [evP] at he
    · rename_i hcl
      split at hc
      · rename_i x t has hts
        have ho' : o.op = .call { callee := .builtin .len, args := cl.args, argTypes := cl.argTypes } := by rw [ho, ← hcl]
        split at hc
        · rename_i hu
          simp only [Option.map_eq_some_iff] at hc
          obtain ⟨xo, h1, rfl⟩ := hc
          exact s_len h ha ho' has hts (by simpa using hu) h1 he
        · rename_i e hu
          simp only [Option.map_eq_some_iff] at hc
          obtain ⟨xo, h1, rfl⟩ := hc
          exact s_len h ha ho' has hts (by simp [hu]) h1 he
        · simp at hc
      · simp at hc
    · rename_i hcl
      split at hc
      · rename_i x y has
        have ho' : o.op = .call { callee := .builtin (if true then .max else .min), args := cl.args, argTypes := cl.argTypes } := by rw [ho, if_pos rfl, ← hcl]
        simp only [bind_some', Option.some.injEq] at hc
        obtain ⟨xo, h1, yo, h2, rfl⟩ := hc
        exact s_mx h ha ho' has h1 h2 he
      · simp at hc
    · rename_i hcl
      split at hc
      · rename_i x y has
        have ho' : o.op = .call { callee := .builtin (if false then .max else .min), args := cl.args, argTypes := cl.argTypes } := by rw [ho, if_neg (by simp), ← hcl]
        simp only [bind_some', Option.some.injEq] at hc
        obtain ⟨xo, h1, yo, h2, rfl⟩ := hc
        exact s_mx h ha ho' has h1 h2 he
      · simp at hc
    · rename_i hcl
      split at hc
      · rename_i x y t u has hts
        have ho' : o.op = .call { callee := .builtin .append, args := cl.args, argTypes := cl.argTypes } := by rw [ho, ← hcl]
        split at hc
        · rename_i e e' ht hu
          simp only [bind_some'] at hc
          obtain ⟨i, h1, z, h2, h3⟩ := hc
          split at h3
          · rename_i hcnd
            simp only [bind_some', Option.some.injEq] at h3
            obtain ⟨xo, h4, yo, h5, rfl⟩ := h3
            exact s_app h ha ho' has hts ht hu h1 h2 hcnd.1 hcnd.2.1 hcnd.2.2 h4 h5 he
          · simp at h3
        · simp at hc
      · simp at hc
    · simp at hc
  · rename_i x i ho
    simp only [Option.map_eq_some_iff] at hc
    obtain ⟨xo, h1, rfl⟩ := hc
    exact s_ext h ha ho h1 he
  · rename_i t parts ho
    split at hc
    · rename_i fs hu
      simp only [bind_some', Option.some.injEq] at hc
      obtain ⟨z, h1, pl, h2, ps, h3, rfl⟩ := hc
      exact s_build h ha ho hu h1 h2 h3 he
    · simp at hc
  · rename_i t k parts ho
    split at hc
    · rename_i e hu
      simp only [bind_some'] at hc
      obtain ⟨s, h1, z, h2, d, h3, ps, h4, h5⟩ := hc
      split at h5
      · rename_i hcnd
        cases h5
        exact s_bsl h ha ho hu h1 h2 h4 hcnd.1 hcnd.2.1 hcnd.2.2 he
      · simp at h5
    · simp at hc
  · rename_i t x l r ho
    split at hc
    · rename_i e hu
      simp only [bind_some', Option.some.injEq] at hc
      obtain ⟨s, h1, xo, h2, lo', h3, hi', h4, rfl⟩ := hc
      exact s_slc h ha ho hu h1 h2 h3 h4 he
    · rename_i hu
      simp only [bind_some', Option.some.injEq] at hc
      obtain ⟨xo, h2, lo', h3, hi', h4, rfl⟩ := hc
      exact s_sstr h ha ho hu h2 h3 h4 he
    · simp at hc
  · rename_i t x i ho
    split at hc
    · rename_i hu
      simp only [bind_some', Option.some.injEq] at hc
      obtain ⟨xo, h1, io, h2, rfl⟩ := hc
      exact s_idx h ha ho hu h1 h2 he
    · simp at hc
  · rename_i s d x ho
    split at hc
    · rename_i ks k hs hd
      simp only [Option.map_eq_some_iff] at hc
      obtain ⟨xo, h1, rfl⟩ := hc
      exact s_cvt h ha ho hs hd h1 he
    · rename_i e hs hd
      split at hc
      · rename_i hu
        split at hc
        · rename_i hsz
          simp only [Option.map_eq_some_iff] at hc
          obtain ⟨xo, h1, rfl⟩ := hc
          exact s_s2b h ha ho hs hd hu hsz h1 he
        · simp at hc
      · simp at hc
    · rename_i e hs hd
      split at hc
      · rename_i hu
        simp only [Option.map_eq_some_iff] at hc
        obtain ⟨xo, h1, rfl⟩ := hc
        exact s_b2s h ha ho hs hd hu h1 he
      · simp at hc
    · simp at hc
  · rename_i t x y ho
    split at hc
    · rename_i e hu
      simp only [bind_some'] at hc
      obtain ⟨i, h1, z, h2, xo, h3, yo, h4, h5⟩ := hc
      split at h5
      · rename_i hcnd
        cases h5
        exact s_mks h ha ho hu h1 h2 hcnd.1 hcnd.2 h3 h4 he
      · simp at h5
    · simp at hc
  · rename_i x ho
    simp only [Option.map_eq_some_iff] at hc
    obtain ⟨xo, h1, rfl⟩ := hc
    exact s_nilc h ha ho h1 he
  · rename_i f first caps ho
    split at hc
    · rename_i hf
      simp only [Option.map_eq_some_iff] at hc
      obtain ⟨xos, h1, rfl⟩ := hc
      exact s_mkf h ha ho hf h1 he
    · simp at hc
  · simp at hc

theorem run_callFunc {f : FuncId} (hf : Callable P f) (args : Array Value) (w : World) : (callFunc f args).run P w = .ok (.enter f args) w := by
  obtain ⟨fn, h1, h2, h3⟩ := hf
  unfold callFunc
  simp only [Sem.run_bind, run_program, Result.andThen_ok, h1, h2, h3, Bool.false_eq_true, if_false, Sem.run_pure]

def XOp.isCall : XOp → Bool
  | .call .. => true
  | .calld .. => true
  | _ => false

theorem cBin_ncall {op : BinOp} {t : TypeId} {x y : Operand} {xop : XOp} (hc : cBin P op t x y = some xop) : xop.isCall = false := by
  simp only [cBin, bind_some'] at hc
  obtain ⟨xo, h1, yo, h2, h3⟩ := hc
  split at h3
  · split at h3
    · cases h3; rfl
    · simp at h3
  · split at h3
    · cases h3; rfl
    · simp at h3
  · split at h3
    · cases h3; rfl
    · cases h3; rfl
    · simp at h3
  · split at h3
    · simp only [bind_some'] at h3
      obtain ⟨ks, h4, h5⟩ := h3
      split at h5
      · cases h5; rfl
      · cases h5; rfl
      · simp at h5
    · simp at h3
  · simp only [bind_some'] at h3
    obtain ⟨k, h4, h5⟩ := h3
    split at h5
    · cases h5; rfl
    · cases h5; rfl
    · simp at h5
  · simp at h3

theorem isCall_of_some {α : Type} {o : Option α} {f : α → XOp} {xop : XOp} (h : o.map f = some xop) (hf : ∀ a, (f a).isCall = false) : xop.isCall = false := by
  rw [Option.map_eq_some_iff] at h
  obtain ⟨a, _, rfl⟩ := h
  exact hf a

theorem isCall_of_ite {c : Prop} [Decidable c] {x xop : XOp} (h : (if c then some x else none) = some xop) (hf : x.isCall = false) : xop.isCall = false := by
  split at h
  · cases h; exact hf
  · simp at h

theorem compOp_ncall {lo : List Nat} {xop : XOp} (hn : ∀ cl, o.op ≠ .call cl) (hc : compOp P lo o = some xop) : xop.isCall = false := by
  unfold compOp at hc
  split at hc
  all_goals try (exact absurd ‹_› (hn _))
  all_goals try (exact isCall_of_some hc (fun _ => rfl))
  all_goals try (exact cBin_ncall hc)
  all_goals try (simp at hc; done)
  · simp only [bind_some', Option.some.injEq] at hc; obtain ⟨_, _, _, _, _, _, rfl⟩ := hc; rfl
  · simp only [bind_some'] at hc; obtain ⟨_, _, _, _, h⟩ := hc; exact isCall_of_ite h rfl
  · simp only [bind_some'] at hc; obtain ⟨_, _, _, _, _, _, h⟩ := hc; exact isCall_of_ite h rfl
  · simp only [bind_some', Option.some.injEq] at hc; obtain ⟨_, _, _, _, _, _, rfl⟩ := hc; rfl
  · simp only [bind_some', Option.some.injEq] at hc; obtain ⟨_, _, _, _, _, _, rfl⟩ := hc; rfl
  · split at hc
    · simp only [bind_some'] at hc; obtain ⟨_, _, _, _, h⟩ := hc
      split at h
      · simp at h
      · simp only [bind_some', Option.some.injEq] at h; obtain ⟨_, _, rfl⟩ := h; rfl
    · simp at hc
  · split at hc
    · simp only [bind_some', Option.some.injEq] at hc; obtain ⟨_, _, _, _, _, _, rfl⟩ := hc; rfl
    · simp at hc
  · split at hc
    · simp only [bind_some', Option.some.injEq] at hc; obtain ⟨_, _, _, _, _, _, _, _, rfl⟩ := hc; rfl
    · simp at hc
  · split at hc
    · simp only [bind_some', Option.some.injEq] at hc; obtain ⟨_, _, _, _, _, _, rfl⟩ := hc; rfl
    · simp at hc
  · split at hc
    · simp only [bind_some'] at hc; obtain ⟨_, _, _, _, _, _, _, _, h⟩ := hc; exact isCall_of_ite h rfl
    · simp at hc
  · split at hc
    · simp only [bind_some', Option.some.injEq] at hc; obtain ⟨_, _, _, _, _, _, _, _, rfl⟩ := hc; rfl
    · simp only [bind_some', Option.some.injEq] at hc; obtain ⟨_, _, _, _, _, _, rfl⟩ := hc; rfl
    · simp at hc
  · split at hc
    · simp only [bind_some', Option.some.injEq] at hc; obtain ⟨_, _, _, _, rfl⟩ := hc; rfl
    · simp at hc
  · split at hc
    · exact isCall_of_some hc (fun _ => rfl)
    · split at hc
      · split at hc
        · exact isCall_of_some hc (fun _ => rfl)
        · simp at hc
      · simp at hc
    · split at hc
      · exact isCall_of_some hc (fun _ => rfl)
      · simp at hc
    · simp at hc
  · split at hc
    · simp only [bind_some'] at hc; obtain ⟨_, _, _, _, _, _, _, _, h⟩ := hc; exact isCall_of_ite h rfl
    · simp at hc
  · split at hc
    · exact isCall_of_some hc (fun _ => rfl)
    · simp at hc

/-- An operation, in the model's own form: whatever holds behind it. -/
theorem FI.old (h : FI base c0 n c γ g bx tmps) (hb0 : base ≤ c0.w.heap.size) (hw0 : Sim base c0 ∧ Old base W0 c0.w) : Old base W0 c.w := by
  intro b hb
  rw [h.evo.keep b (Nat.lt_of_lt_of_le hb hb0) (fun h => h) (by
    rintro ⟨r, row, h1, h2, h3⟩
    cases e : row.kd with
    | ro => exact h2 e
    | own => have := ((hw0.1.rows r row h1).own e).1; omega
    | map => exact (hw0.1.rows r row h1).nomap e)]
  exact hw0.2 b hb
theorem op_sound {E : Call} (hE : SoundCall P base W0 E) (hw0 : Sim base c0 ∧ Old base W0 c0.w) (h : FI base c0 n c γ g bx tmps) (hb0 : base ≤ c0.w.heap.size) (ha : a.tmps = tmps) {lo : List Nat} {xop : XOp} (hc : compOp P lo o = some xop) {rv : RV} {M' : Mem} (he : evOp E g ⟨bx, c.σ⟩ xop = some (rv, M'))
    {K : Act → World → Prop} {Q : Exit → Act → World → Prop} (hK : ∀ c' γ' y, c'.σ = M'.st → FI base c0 n c' γ' g M'.bx tmps → RR c' γ' M'.bx rv y → K (a.put o.dst y) c'.w) : o.wp P a c.w K Q := by
  have pure : (he' : evP g ⟨bx, c.σ⟩ xop = some (rv, M')) → o.wp P a c.w K Q := by
    intro he'
    obtain ⟨c', γ', y, hr, h1, h2, h3⟩ := evP_sound h hb0 ha hc he'
    have := hK c' γ' y h1 h2 h3
    unfold Oper.wp
    rcases hr with hr | ⟨hr, rfl⟩ <;> rw [hr] <;> exact this
  have call : ∀ (f : FuncId) (as : List AV) (xs : List Value) (r : AV) (st' : Store), E f as c.σ = some (r, st') → VRs c as xs → rv = .v r → M' = ⟨bx, st'⟩ →
      (execOp a.eval o).run P c.w = (callFunc f xs.toArray).run P c.w → o.wp P a c.w K Q := by
    intro f as xs r st' h1 h2 e1 e2 hrun
    obtain ⟨hf, hcl⟩ := hE f as c.σ r st' h1
    unfold Oper.wp
    rw [hrun, run_callFunc hf]
    show Calls P f xs.toArray c.w _
    refine (hcl c xs h.sim (h.old hb0 hw0) rfl h2).mono ?_
    rintro e w' ⟨c', y, rfl, rfl, h3, h4, h5, h6⟩
    subst e1; subst e2
    exact hK c' γ y h3 (h.next h4 h5) h6
  by_cases hn : ∃ cl, o.op = .call cl
  · obtain ⟨cl, ho⟩ := hn
    have hcc : cCall P cl = some xop := by
      unfold compOp at hc
      rw [ho] at hc
      exact hc
    unfold cCall at hcc
    split at hcc
    · rename_i f hcal
      simp only [bind_some', Option.some.injEq] at hcc
      obtain ⟨as, h1, rfl⟩ := hcc
      simp only [evOp, bind_some', Option.some.injEq, Prod.mk.injEq] at he
      obtain ⟨avs, h2, ⟨r, st'⟩, h3, rfl, rfl⟩ := he
      refine call f avs _ r st' h3 (opndvs h ha h1 h2) rfl rfl ?_
      have hm : (List.map a.eval cl.args.toList).toArray = cl.args.map a.eval := by apply Array.ext'; simp
      rw [hm]
      simp [execOp, ho, resolve, hcal, Deferred.ofValue, Act.eval, invoke]
    · rename_i t hcal
      simp only [bind_some', Option.some.injEq] at hcc
      obtain ⟨as, h1, rfl⟩ := hcc
      simp only [evOp, bind_some'] at he
      obtain ⟨fv, h2, h3⟩ := he
      have hfv := opndv (x := .tmp t) h ha rfl h2
      cases fv with
      | fn f caps =>
        simp only [bind_some', Option.some.injEq, Prod.mk.injEq] at h3
        obtain ⟨avs, h4, ⟨r, st'⟩, h5, rfl, rfl⟩ := h3
        rw [VR] at hfv
        obtain ⟨xs, e, h6⟩ := hfv
        have hargs := opndvs h ha h1 h4
        have happ : VRs c (avs ++ caps) ((cl.args.toList.map a.eval) ++ xs.toList) := by
          have l1 := VRs_length hargs
          have l2 := VRs_length h6
          refine VRs_of (by simp only [List.length_append, l1, l2]) fun i v x hv hx => ?_
          rcases Nat.lt_or_ge i avs.length with hlt | hge
          · rw [List.getElem?_append_left hlt] at hv
            rw [List.getElem?_append_left (by rw [← l1]; exact hlt)] at hx
            obtain ⟨y, k1, k2⟩ := VRs_get hargs hv
            rw [hx] at k1; cases k1; exact k2
          · rw [List.getElem?_append_right hge] at hv
            rw [List.getElem?_append_right (by rw [← l1]; exact hge), ← l1] at hx
            obtain ⟨y, k1, k2⟩ := VRs_get h6 hv
            rw [hx] at k1; cases k1; exact k2
        refine call f _ _ r st' h5 happ rfl rfl ?_
        have ht : a.eval (.tmp t) = .func (.func f) #[] xs := e
        simp only [execOp, ho, resolve, hcal, ht, Deferred.ofValue, invoke, Sem.run_bind, Sem.run_pure, Result.andThen_ok]
        congr 2
        apply Array.ext'
        simp
      | _ => simp at h3
    · split at hcc
      · split at hcc
        · exact pure (by
            simp only [Option.map_eq_some_iff] at hcc
            obtain ⟨xo, h1, rfl⟩ := hcc
            exact he)
        · exact pure (by
            simp only [Option.map_eq_some_iff] at hcc
            obtain ⟨xo, h1, rfl⟩ := hcc
            exact he)
        · simp at hcc
      · simp at hcc
    · split at hcc
      · simp only [bind_some', Option.some.injEq] at hcc
        obtain ⟨xo, h1, yo, h2, rfl⟩ := hcc
        exact pure he
      · simp at hcc
    · split at hcc
      · simp only [bind_some', Option.some.injEq] at hcc
        obtain ⟨xo, h1, yo, h2, rfl⟩ := hcc
        exact pure he
      · simp at hcc
    · split at hcc
      · split at hcc
        · simp only [bind_some'] at hcc
          obtain ⟨i, h1, z, h2, h3⟩ := hcc
          split at h3
          · simp only [bind_some', Option.some.injEq] at h3
            obtain ⟨xo, h4, yo, h5, rfl⟩ := h3
            exact pure he
          · simp at h3
        · simp at hcc
      · simp at hcc
    · simp at hcc
  · have hnc := compOp_ncall (fun cl e => hn ⟨cl, e⟩) hc
    refine pure ?_
    cases xop <;> first | exact he | (simp [XOp.isCall] at hnc)

end
end Go.X

/- GoX, part 11: a region whose order Go leaves open: whatever the order, it comes to what the text's order comes to. No statement of the seat is here. -/
set_option linter.unusedVariables false
set_option linter.unusedSimpArgs false
namespace Go.X
open Go

/-! ### What an operation looks at -/

def oSl : XO → List Nat
  | .t n => [n]
  | .c _ => []

def oSls (l : List XO) : List Nat := l.flatMap oSl
def oSlo : Option XO → List Nat
  | none => []
  | some x => oSl x

def opSl : XOp → List Nat
  | .mv x => oSl x
  | .pick c a b => oSl c ++ oSl a ++ oSl b
  | .alloc .. => []
  | .box _ _ _ x => oSl x
  | .load _ _ x => oSl x
  | .store _ a x => oSl a ++ oSl x
  | .fadr _ x => oSl x
  | .iadr _ x i => oSl x ++ oSl i
  | .fld _ _ _ x => oSl x
  | .bin _ x y => oSl x ++ oSl y
  | .beq _ x y => oSl x ++ oSl y
  | .seq _ _ x y => oSl x ++ oSl y
  | .isnil _ _ x => oSl x
  | .bnot x => oSl x
  | .neg x => oSl x
  | .len _ x => oSl x
  | .ext x _ => oSl x
  | .build _ ps => ps.flatMap fun p => oSl p.2.2
  | .bsl _ _ _ _ ps => ps.flatMap fun p => oSl p.2
  | .app _ _ x y => oSl x ++ oSl y
  | .slc _ x l h => oSl x ++ oSlo l ++ oSlo h
  | .sstr x l h => oSl x ++ oSlo l ++ oSlo h
  | .idx x i => oSl x ++ oSl i
  | .s2b x => oSl x
  | .b2s x => oSl x
  | .cvt _ x => oSl x
  | .mks _ _ _ l c => oSl l ++ oSl c
  | .nilc x => oSl x
  | .mx _ x y => oSl x ++ oSl y
  | .mkf _ cs => oSls cs
  | .call _ as => oSls as
  | .calld x as => oSl x ++ oSls as

def rdSl (o : XOper) : List Nat := (match o.gd with | some (t, _) => [t] | none => []) ++ opSl o.op

/-- It writes memory. -/
def isW : XOp → Bool
  | .bsl lo .. => !lo
  | .alloc .. | .box .. | .store .. | .app .. | .s2b .. | .mks .. | .call .. | .calld .. => true
  | _ => false

/-- It reads memory. -/
def isR : XOp → Bool
  | .load .. | .iadr .. | .slc .. | .b2s .. => true
  | _ => false

theorem ev_congr {g g' : Regs} {x : XO} (h : ∀ t ∈ oSl x, lk g t = lk g' t) : ev g x = ev g' x := by
  cases x with
  | t n => exact h n (by simp [oSl])
  | c v => rfl

theorem evv_congr {g g' : Regs} {x : XO} (h : ∀ t ∈ oSl x, lk g t = lk g' t) : evv g x = evv g' x := by
  unfold evv; rw [ev_congr h]

theorem evs_congr {g g' : Regs} : ∀ {l : List XO}, (∀ t ∈ oSls l, lk g t = lk g' t) → evs g l = evs g' l
  | [], _ => rfl
  | x :: l, h => by
    unfold evs
    rw [evv_congr (x := x) (fun t ht => h t (by simp [oSls, ht])), evs_congr (l := l) (fun t ht => h t (by simp only [oSls, List.flatMap_cons, List.mem_append]; exact .inr ht))]

theorem fillP_congr {g g' : Regs} : ∀ {ps : List (Nat × Nat × XO)} {cs : List AV}, (∀ t ∈ ps.flatMap fun p => oSl p.2.2, lk g t = lk g' t) → fillP g cs ps = fillP g' cs ps
  | [], _, _ => rfl
  | (o, s, x) :: ps, cs, h => by
    unfold fillP
    rw [evv_congr (x := x) (fun t ht => h t (by simp [ht]))]
    congr 1; funext a; congr 1; funext y
    rw [fillP_congr (fun t ht => h t (by rw [List.flatMap_cons, List.mem_append]; exact .inr ht))]

theorem fillS_congr {g g' : Regs} {sz : Nat} : ∀ {ps : List (Nat × XO)} {cs : List (List AV)}, (∀ t ∈ ps.flatMap fun p => oSl p.2, lk g t = lk g' t) → fillS g sz cs ps = fillS g' sz cs ps
  | [], _, _ => rfl
  | (o, x) :: ps, cs, h => by
    unfold fillS
    rw [evv_congr (x := x) (fun t ht => h t (by simp [ht]))]
    congr 1; funext a; congr 1; funext y
    rw [fillS_congr (fun t ht => h t (by rw [List.flatMap_cons, List.mem_append]; exact .inr ht))]

theorem bnd_congr {g g' : Regs} {d : Nat} {x : Option XO} (h : ∀ t ∈ oSlo x, lk g t = lk g' t) : bnd g d x = bnd g' d x := by
  cases x with
  | none => rfl
  | some x => simp only [bnd]; rw [evv_congr h]

theorem evOp_congr {E : Call} {g g' : Regs} {M : Mem} {op : XOp} (h : ∀ t ∈ opSl op, lk g t = lk g' t) : evOp E g M op = evOp E g' M op := by
  cases op with
  | call f as => simp only [evOp]; rw [evs_congr h]
  | calld x as =>
    simp only [evOp]
    rw [evv_congr (x := x) (fun t ht => h t (by simp [opSl, ht])), evs_congr (l := as) (fun t ht => h t (by simp [opSl, ht]))]
  | mv x => simp only [evOp, evP]; rw [ev_congr h]
  | pick c a b =>
    simp only [evOp, evP]
    rw [evv_congr (x := c) (fun t ht => h t (by simp [opSl, ht])), ev_congr (x := a) (fun t ht => h t (by simp [opSl, ht])), ev_congr (x := b) (fun t ht => h t (by simp [opSl, ht]))]
  | alloc lo t z => cases lo <;> simp only [evOp, evP]
  | box lo t s x => cases lo <;> simp only [evOp, evP] <;> rw [evv_congr h]
  | load ag s x => simp only [evOp, evP]; rw [ev_congr h]
  | store s p x =>
    simp only [evOp, evP]
    rw [ev_congr (x := p) (fun t ht => h t (by simp [opSl, ht])), evv_congr (x := x) (fun t ht => h t (by simp [opSl, ht]))]
  | fadr k x => simp only [evOp, evP]; rw [ev_congr h]
  | iadr s x i =>
    simp only [evOp, evP]
    rw [evv_congr (x := x) (fun t ht => h t (by simp [opSl, ht])), evv_congr (x := i) (fun t ht => h t (by simp [opSl, ht]))]
  | fld ag k s x => simp only [evOp, evP]; rw [evv_congr h]
  | bin b x y =>
    simp only [evOp, evP]
    rw [evv_congr (x := x) (fun t ht => h t (by simp [opSl, ht])), evv_congr (x := y) (fun t ht => h t (by simp [opSl, ht]))]
  | beq n x y =>
    simp only [evOp, evP]
    rw [evv_congr (x := x) (fun t ht => h t (by simp [opSl, ht])), evv_congr (x := y) (fun t ht => h t (by simp [opSl, ht]))]
  | seq n k x y =>
    simp only [evOp, evP]
    rw [evv_congr (x := x) (fun t ht => h t (by simp [opSl, ht])), evv_congr (x := y) (fun t ht => h t (by simp [opSl, ht]))]
  | isnil k n x => simp only [evOp, evP]; rw [evv_congr h]
  | mx big x y =>
    simp only [evOp, evP]
    rw [evv_congr (x := x) (fun t ht => h t (by simp [opSl, ht])), evv_congr (x := y) (fun t ht => h t (by simp [opSl, ht]))]
  | bnot x => simp only [evOp, evP]; rw [evv_congr h]
  | neg x => simp only [evOp, evP]; rw [evv_congr h]
  | len st x => cases st <;> simp only [evOp, evP] <;> rw [evv_congr h]
  | ext x i => simp only [evOp, evP]; rw [evv_congr h]
  | build z ps => simp only [evOp, evP]; rw [fillP_congr h]
  | bsl lo s k z ps => simp only [evOp, evP]; rw [fillS_congr h]
  | app s b x y =>
    simp only [evOp, evP]
    rw [evv_congr (x := x) (fun t ht => h t (by simp [opSl, ht])), ev_congr (x := y) (fun t ht => h t (by simp [opSl, ht]))]
  | slc s x l r =>
    simp only [evOp, evP]
    rw [evv_congr (x := x) (fun t ht => h t (by simp [opSl, ht]))]
    congr 1; funext a
    cases a <;> simp only [bnd_congr (x := l) (fun t ht => h t (by simp [opSl, ht])), bnd_congr (x := r) (fun t ht => h t (by simp [opSl, ht]))]
  | sstr x l r =>
    simp only [evOp, evP]
    rw [evv_congr (x := x) (fun t ht => h t (by simp [opSl, ht]))]
    congr 1; funext a
    cases a <;> simp only [bnd_congr (x := l) (fun t ht => h t (by simp [opSl, ht])), bnd_congr (x := r) (fun t ht => h t (by simp [opSl, ht]))]
  | idx x i =>
    simp only [evOp, evP]
    rw [evv_congr (x := x) (fun t ht => h t (by simp [opSl, ht])), evv_congr (x := i) (fun t ht => h t (by simp [opSl, ht]))]
  | s2b x => simp only [evOp, evP]; rw [evv_congr h]
  | b2s x => simp only [evOp, evP]; rw [ev_congr h]
  | cvt k x => simp only [evOp, evP]; rw [evv_congr h]
  | mks s b z l c =>
    simp only [evOp, evP]
    rw [evv_congr (x := l) (fun t ht => h t (by simp [opSl, ht])), evv_congr (x := c) (fun t ht => h t (by simp [opSl, ht]))]
  | nilc x => simp only [evOp, evP]; rw [ev_congr h]
  | mkf f cs => simp only [evOp, evP]; rw [evs_congr h]

theorem evG_congr {E : Call} {g g' : Regs} {M : Mem} {o : XOper} (h : ∀ t ∈ rdSl o, lk g t = lk g' t) : evG E g M o = evG E g' M o := by
  have hw : wants g o.gd = wants g' o.gd := by
    unfold wants
    cases hg : o.gd with
    | none => rfl
    | some p =>
      obtain ⟨t, b⟩ := p
      simp only
      rw [h t (by simp [rdSl, hg])]
  unfold evG
  rw [hw, evOp_congr (fun t ht => h t (by simp [rdSl, ht]))]

/-- What does not write leaves memory as it is. -/
theorem evOp_keeps {E : Call} {g : Regs} {M M' : Mem} {op : XOp} {v : RV} (hw : isW op = false) (h : evOp E g M op = some (v, M')) : M' = M := by
  cases op <;> first
    | (simp [isW] at hw; done)
    | skip
  case mv x => simp only [evOp, evP, bind_some', Option.some.injEq, Prod.mk.injEq] at h; obtain ⟨_, _, _, rfl⟩ := h; rfl
  case pick c a b =>
    simp only [evOp, evP, bind_some'] at h
    obtain ⟨x, _, h⟩ := h
    cases x <;> simp only [reduceCtorEq, bind_some', Option.some.injEq, Prod.mk.injEq] at h
    obtain ⟨_, _, _, rfl⟩ := h; rfl
  case load ag s x => simp only [evOp, evP, bind_some', Option.some.injEq, Prod.mk.injEq] at h; obtain ⟨_, _, _, _, _, _, _, rfl⟩ := h; rfl
  case fadr k x =>
    simp only [evOp, evP, bind_some'] at h
    obtain ⟨x, _, h⟩ := h
    split at h <;> simp at h <;> exact h.2.symm
  case iadr s x i =>
    simp only [evOp, evP, bind_some'] at h
    obtain ⟨x, _, y, _, h⟩ := h
    split at h
    · simp only [bind_some'] at h
      obtain ⟨_, _, h⟩ := h
      split at h <;> simp at h
      exact h.2.symm
    · simp at h
  case fld ag k s x =>
    simp only [evOp, evP, bind_some'] at h
    obtain ⟨x, _, h⟩ := h
    cases x <;> simp only [reduceCtorEq, bind_some', Option.some.injEq, Prod.mk.injEq] at h
    obtain ⟨_, _, _, rfl⟩ := h; rfl
  case bin b x y => simp only [evOp, evP, bind_some', Option.some.injEq, Prod.mk.injEq] at h; obtain ⟨_, _, _, _, _, _, _, rfl⟩ := h; rfl
  case beq n x y =>
    simp only [evOp, evP, bind_some'] at h
    obtain ⟨x, _, y, _, h⟩ := h
    split at h <;> simp at h
    exact h.2.symm
  case seq n k x y =>
    simp only [evOp, evP, bind_some'] at h
    obtain ⟨x, _, y, _, h⟩ := h
    split at h
    · simp only [bind_some', Option.some.injEq, Prod.mk.injEq] at h; obtain ⟨_, _, _, rfl⟩ := h; rfl
    · simp at h
  case isnil k n x => simp only [evOp, evP, bind_some', Option.some.injEq, Prod.mk.injEq] at h; obtain ⟨_, _, _, _, _, rfl⟩ := h; rfl
  case bnot x =>
    simp only [evOp, evP, bind_some'] at h
    obtain ⟨x, _, h⟩ := h
    cases x <;> simp at h
    exact h.2.symm
  case neg x =>
    simp only [evOp, evP, bind_some'] at h
    obtain ⟨x, _, h⟩ := h
    cases x <;> simp at h
    exact h.2.symm
  case len st x =>
    cases st <;> simp only [evOp, evP, bind_some'] at h <;> obtain ⟨x, _, h⟩ := h <;> cases x <;> simp at h <;> exact h.2.symm
  case ext x i =>
    simp only [evOp, evP, bind_some'] at h
    obtain ⟨x, _, h⟩ := h
    cases x <;> simp only [reduceCtorEq, bind_some', Option.some.injEq, Prod.mk.injEq] at h
    obtain ⟨_, _, _, rfl⟩ := h; rfl
  case build z ps => simp only [evOp, evP, bind_some', Option.some.injEq, Prod.mk.injEq] at h; obtain ⟨_, _, _, rfl⟩ := h; rfl
  case bsl lo sz k z ps =>
    cases lo with
    | false => simp [isW] at hw
    | true =>
      simp only [evOp, evP, bind_some', if_true, Option.some.injEq, Prod.mk.injEq] at h
      obtain ⟨_, _, _, rfl⟩ := h; rfl
  case slc s x l r =>
    simp only [evOp, evP, bind_some'] at h
    obtain ⟨x, _, h⟩ := h
    cases x <;> simp only [reduceCtorEq, bind_some'] at h
    · obtain ⟨_, _, _, _, _, _, h⟩ := h
      split at h <;> simp at h
      exact h.2.symm
    · obtain ⟨_, _, _, _, h⟩ := h
      split at h <;> simp at h
      exact h.2.symm
  case sstr x l r =>
    simp only [evOp, evP, bind_some'] at h
    obtain ⟨x, _, h⟩ := h
    cases x <;> simp only [reduceCtorEq, bind_some'] at h
    obtain ⟨_, _, _, _, h⟩ := h
    split at h <;> simp at h
    exact h.2.symm
  case mx big x i =>
    simp only [evOp, evP, bind_some'] at h
    obtain ⟨x, _, y, _, h⟩ := h
    split at h
    · split at h <;> simp at h
      exact h.2.symm
    · simp at h
  case idx x i =>
    simp only [evOp, evP, bind_some'] at h
    obtain ⟨x, _, y, _, h⟩ := h
    split at h
    · split at h <;> simp at h
      exact h.2.symm
    · simp at h
  case b2s x => simp only [evOp, evP, bind_some', Option.some.injEq, Prod.mk.injEq] at h; obtain ⟨_, _, _, _, _, _, _, rfl⟩ := h; rfl
  case cvt k x =>
    simp only [evOp, evP, bind_some'] at h
    obtain ⟨x, _, h⟩ := h
    cases x <;> simp at h
    exact h.2.symm
  case nilc x =>
    simp only [evOp, evP, bind_some'] at h
    obtain ⟨x, _, h⟩ := h
    split at h <;> simp at h <;> exact h.2.symm
  case mkf f cs => simp only [evOp, evP, bind_some', Option.some.injEq, Prod.mk.injEq] at h; obtain ⟨_, _, _, rfl⟩ := h; rfl

/-- What neither reads nor writes tells the same over any memory. -/
theorem evOp_pure {E : Call} {g : Regs} {M M' M2 : Mem} {op : XOp} {v : RV} (hw : isW op = false) (hr : isR op = false) (h : evOp E g M op = some (v, M')) : evOp E g M2 op = some (v, M2) := by
  cases op <;> first
    | (simp [isW] at hw; done)
    | (simp [isR] at hr; done)
    | skip
  case mv x => simp only [evOp, evP, bind_some', Option.some.injEq, Prod.mk.injEq] at h ⊢; obtain ⟨a, e, rfl, _⟩ := h; exact ⟨a, e, rfl, trivial⟩
  case pick c a b =>
    simp only [evOp, evP, bind_some'] at h ⊢
    obtain ⟨x, e, h⟩ := h
    refine ⟨x, e, ?_⟩
    cases x <;> simp only [reduceCtorEq, bind_some', Option.some.injEq, Prod.mk.injEq] at h ⊢
    obtain ⟨a, e, rfl, _⟩ := h; exact ⟨a, e, rfl, trivial⟩
  case fadr k x =>
    simp only [evOp, evP, bind_some'] at h ⊢
    obtain ⟨x, e, h⟩ := h
    refine ⟨x, e, ?_⟩
    split at h <;> simp at h ⊢ <;> exact h.1
  case fld ag k s x =>
    simp only [evOp, evP, bind_some'] at h ⊢
    obtain ⟨x, e, h⟩ := h
    refine ⟨x, e, ?_⟩
    cases x <;> simp only [reduceCtorEq, bind_some', Option.some.injEq, Prod.mk.injEq] at h ⊢
    obtain ⟨a, e, rfl, _⟩ := h; exact ⟨a, e, rfl, trivial⟩
  case bin b x y => simp only [evOp, evP, bind_some', Option.some.injEq, Prod.mk.injEq] at h ⊢; obtain ⟨a, e1, b, e2, d, e3, rfl, _⟩ := h; exact ⟨a, e1, b, e2, d, e3, rfl, trivial⟩
  case beq n x y =>
    simp only [evOp, evP, bind_some'] at h ⊢
    obtain ⟨x, e1, y, e2, h⟩ := h
    refine ⟨x, e1, y, e2, ?_⟩
    split at h <;> simp at h ⊢
    exact h.1
  case seq n k x y =>
    simp only [evOp, evP, bind_some'] at h ⊢
    obtain ⟨x, e1, y, e2, h⟩ := h
    refine ⟨x, e1, y, e2, ?_⟩
    split at h
    · simp only [bind_some', Option.some.injEq, Prod.mk.injEq] at h ⊢; obtain ⟨a, e, rfl, _⟩ := h; exact ⟨a, e, rfl, trivial⟩
    · simp at h
  case isnil k n x => simp only [evOp, evP, bind_some', Option.some.injEq, Prod.mk.injEq] at h ⊢; obtain ⟨a, e1, b, e2, rfl, _⟩ := h; exact ⟨a, e1, b, e2, rfl, trivial⟩
  case bnot x =>
    simp only [evOp, evP, bind_some'] at h ⊢
    obtain ⟨x, e, h⟩ := h
    refine ⟨x, e, ?_⟩
    cases x <;> simp at h ⊢
    exact h.1
  case neg x =>
    simp only [evOp, evP, bind_some'] at h ⊢
    obtain ⟨x, e, h⟩ := h
    refine ⟨x, e, ?_⟩
    cases x <;> simp at h ⊢
    exact h.1
  case len st x =>
    cases st <;> simp only [evOp, evP, bind_some'] at h ⊢ <;> obtain ⟨x, e, h⟩ := h <;> refine ⟨x, e, ?_⟩ <;> cases x <;> simp at h ⊢ <;> exact h.1
  case ext x i =>
    simp only [evOp, evP, bind_some'] at h ⊢
    obtain ⟨x, e, h⟩ := h
    refine ⟨x, e, ?_⟩
    cases x <;> simp only [reduceCtorEq, bind_some', Option.some.injEq, Prod.mk.injEq] at h ⊢
    obtain ⟨a, e, rfl, _⟩ := h; exact ⟨a, e, rfl, trivial⟩
  case build z ps => simp only [evOp, evP, bind_some', Option.some.injEq, Prod.mk.injEq] at h ⊢; obtain ⟨a, e, rfl, _⟩ := h; exact ⟨a, e, rfl, trivial⟩
  case bsl lo sz k z ps =>
    cases lo with
    | false => simp [isW] at hw
    | true =>
      simp only [evOp, evP, bind_some', if_true, Option.some.injEq, Prod.mk.injEq] at h ⊢
      obtain ⟨a, e, rfl, _⟩ := h; exact ⟨a, e, rfl, trivial⟩
  case sstr x l r =>
    simp only [evOp, evP, bind_some'] at h ⊢
    obtain ⟨x, e, h⟩ := h
    refine ⟨x, e, ?_⟩
    cases x <;> simp only [reduceCtorEq, bind_some'] at h ⊢
    obtain ⟨a, e1, b, e2, h⟩ := h
    refine ⟨a, e1, b, e2, ?_⟩
    split at h <;> simp at h ⊢
    rename_i hc
    exact ⟨hc, h.1⟩
  case mx big x i =>
    simp only [evOp, evP, bind_some'] at h ⊢
    obtain ⟨x, e1, y, e2, h⟩ := h
    refine ⟨x, e1, y, e2, ?_⟩
    split at h
    · split at h
      · rename_i hc
        simp only [Option.some.injEq, Prod.mk.injEq] at h
        rw [if_pos hc, h.1]
      · simp at h
    · simp at h
  case idx x i =>
    simp only [evOp, evP, bind_some'] at h ⊢
    obtain ⟨x, e1, y, e2, h⟩ := h
    refine ⟨x, e1, y, e2, ?_⟩
    split at h
    · split at h <;> simp at h ⊢
      rename_i hc
      exact ⟨hc, h.1⟩
    · simp at h
  case cvt k x =>
    simp only [evOp, evP, bind_some'] at h ⊢
    obtain ⟨x, e, h⟩ := h
    refine ⟨x, e, ?_⟩
    cases x <;> simp at h ⊢
    exact h.1
  case nilc x =>
    simp only [evOp, evP, bind_some'] at h ⊢
    obtain ⟨x, e, h⟩ := h
    refine ⟨x, e, ?_⟩
    split at h <;> simp at h ⊢ <;> exact h.1
  case mkf f cs => simp only [evOp, evP, bind_some', Option.some.injEq, Prod.mk.injEq] at h ⊢; obtain ⟨a, e, rfl, _⟩ := h; exact ⟨a, e, rfl, trivial⟩

theorem evG_keeps {E : Call} {g : Regs} {M M' : Mem} {o : XOper} {v : RV} (hw : isW o.op = false) (h : evG E g M o = some (v, M')) : M' = M := by
  simp only [evG, bind_some'] at h
  obtain ⟨b, _, h⟩ := h
  cases b with
  | true => exact evOp_keeps hw h
  | false => simp at h; exact h.2.symm

theorem evG_pure {E : Call} {g : Regs} {M M' M2 : Mem} {o : XOper} {v : RV} (hw : isW o.op = false) (hr : isR o.op = false) (h : evG E g M o = some (v, M')) : evG E g M2 o = some (v, M2) := by
  simp only [evG, bind_some'] at h ⊢
  obtain ⟨b, e, h⟩ := h
  refine ⟨b, e, ?_⟩
  cases b with
  | true => exact evOp_pure hw hr h
  | false => simp at h ⊢; exact h.1

end Go.X

/- GoX, part 12: regions: in the text's order, and in whatever order. No statement of the seat is here. -/
set_option linter.unusedVariables false
set_option linter.unusedSimpArgs false
namespace Go.X
open Go

/-! ### Resolving a region -/

def compGd (ops : Array Oper) : Option (Nat × Bool) → Option (Option (Nat × Bool))
  | none => some none
  | some (j, b) => (ops[j]?).bind fun o => o.dst.bind fun t => some (some (t, b))

def dstOk (n : Nat) : Option Nat → Bool
  | some d => decide (d < n)
  | none => true

def compOper (P : Program) (n : Nat) (lo : List Nat) (ops : Array Oper) (o : Oper) : Option XOper :=
  (compOp P lo o).bind fun x => (compGd ops o.guard).bind fun gd =>
    if dstOk n o.dst = true then some ⟨o.dst, x, gd⟩ else none

theorem compOper_sound {P : Program} {n : Nat} {lo : List Nat} {ops : Array Oper} {o : Oper} {x : XOper} (h : compOper P n lo ops o = some x) :
    x.dst = o.dst ∧ compOp P lo o = some x.op ∧ compGd ops o.guard = some x.gd ∧ ∀ d, o.dst = some d → d < n := by
  simp only [compOper, bind_some'] at h
  obtain ⟨xo, h1, gd, h2, h3⟩ := h
  split at h3
  · rename_i hd
    cases h3
    refine ⟨rfl, h1, h2, fun d hdd => ?_⟩
    rw [hdd] at hd
    exact of_decide_eq_true hd
  · simp at h3

/-- The operations that must be done first, by the edges themselves. -/
def depsOf (o : Oper) : List Nat := (o.after.toList.filter fun e => Region.binds .any e).map (·.on)

/-- Of each operation what comes before it, as bits. -/
def masks : List Oper → List Nat → List Nat
  | [], acc => acc
  | o :: os, acc => masks os (acc ++ [(depsOf o).foldl (fun s e => s ||| 2 ^ e ||| acc.getD e 0) 0])

/-- A pair of a place with itself: an operation that might change memory and does not: it counts among those that read. -/
def isWp (pairs : List (Nat × Nat)) (k : Nat) (o : XOp) : Bool := isW o && !pairs.contains (k, k)
def isRp (pairs : List (Nat × Nat)) (k : Nat) (o : XOp) : Bool := isR o || pairs.contains (k, k)
theorem isp_pure {pairs : List (Nat × Nat)} {k : Nat} {o : XOp} (h1 : isWp pairs k o = false) (h2 : isRp pairs k o = false) : isW o = false ∧ isR o = false := by
  simp only [isWp, isRp, Bool.or_eq_false_iff] at h1 h2
  rw [h2.2] at h1
  exact ⟨by simpa using h1, h2.1⟩
theorem isWp_of {pairs : List (Nat × Nat)} {k : Nat} {o : XOp} (h : isW o = false) : isWp pairs k o = false := by simp [isWp, h]

def pairOk (ms : List Nat) (pairs : List (Nat × Nat)) (i j : Nat) (a b : XOper) : Bool :=
  let ord := (ms.getD j 0).testBit i
  (ord || !((match a.dst with | some d => (rdSl b).contains d || b.dst == some d | none => false) || (match b.dst with | some d => (rdSl a).contains d | none => false))) &&
  (ord || !(isWp pairs i a.op && isWp pairs j b.op)) &&
  (ord || !(isWp pairs i a.op && isRp pairs j b.op) || pairs.contains (j, i)) &&
  (ord || !(isRp pairs i a.op && isWp pairs j b.op) || pairs.contains (i, j))

def drawOk (ops : List Oper) (xs : List XOper) (pairs : List (Nat × Nat)) : Bool :=
  let ms := masks ops []
  (List.range ops.length).all fun j => ((depsOf (ops.getD j default)).all fun e => e < j) && (List.range j).all fun i => pairOk ms pairs i j (xs.getD i default) (xs.getD j default)

/-! ### What the bits say -/

def Closed (ops : List Oper) (Sx : Nat → Prop) : Prop := ∀ j o, Sx j → ops[j]? = some o → ∀ e ∈ depsOf o, Sx e

def BitsOk (ops : List Oper) (acc : List Nat) : Prop := ∀ j i o, j < acc.length → ops[j]? = some o → (acc.getD j 0).testBit i = true → ∀ Sx, Closed ops Sx → (∀ e ∈ depsOf o, Sx e) → Sx i

theorem foldl_bits (acc : List Nat) : ∀ (l : List Nat) (s i : Nat), (l.foldl (fun s e => s ||| 2 ^ e ||| acc.getD e 0) s).testBit i = true → s.testBit i = true ∨ ∃ e ∈ l, i = e ∨ (acc.getD e 0).testBit i = true
  | [], s, i, h => .inl h
  | e :: l, s, i, h => by
    rw [List.foldl_cons] at h
    rcases foldl_bits acc l _ i h with h1 | ⟨e', h1, h2⟩
    · rw [Nat.testBit_or, Nat.testBit_or, Bool.or_eq_true, Bool.or_eq_true] at h1
      rcases h1 with (h1 | h1) | h1
      · exact .inl h1
      · rw [Nat.testBit_two_pow] at h1
        exact .inr ⟨e, by simp, .inl (by simpa using (of_decide_eq_true h1).symm)⟩
      · exact .inr ⟨e, by simp, .inr h1⟩
    · exact .inr ⟨e', by simp [h1], h2⟩

theorem masks_ok (ops : List Oper) : ∀ (l : List Oper) (acc : List Nat), (∀ k, l[k]? = ops[acc.length + k]?) → BitsOk ops acc → BitsOk ops (masks l acc) ∧ (masks l acc).length = acc.length + l.length
  | [], acc, _, h => ⟨h, by simp [masks]⟩
  | o :: l, acc, hl, h => by
    have ho : ops[acc.length]? = some o := by have := hl 0; simpa using this.symm
    obtain ⟨h1, h2⟩ := masks_ok ops l (acc ++ [(depsOf o).foldl (fun s e => s ||| 2 ^ e ||| acc.getD e 0) 0]) (fun k => by
      have := hl (k + 1)
      simp only [List.getElem?_cons_succ] at this
      rw [this]
      congr 1
      simp; omega) (by
      intro j i o' hj hoj hb Sx hS hd
      simp only [List.length_append, List.length_cons, List.length_nil] at hj
      rcases Nat.lt_or_ge j acc.length with hlt | hge
      · rw [List.getD_eq_getElem?_getD, List.getElem?_append_left hlt, ← List.getD_eq_getElem?_getD] at hb
        exact h j i o' hlt hoj hb Sx hS hd
      · have e : j = acc.length := by omega
        subst e
        rw [ho] at hoj; cases hoj
        have : (acc ++ [(depsOf o).foldl (fun s e => s ||| 2 ^ e ||| acc.getD e 0) 0]).getD acc.length 0 = (depsOf o).foldl (fun s e => s ||| 2 ^ e ||| acc.getD e 0) 0 := by simp
        rw [this] at hb
        rcases foldl_bits acc _ _ _ hb with h0 | ⟨e, he, h0⟩
        · simp at h0
        · rcases h0 with rfl | h0
          · exact hd _ he
          · have hlt : e < acc.length := by
              rcases Nat.lt_or_ge e acc.length with hlt | hge
              · exact hlt
              · rw [List.getD_eq_getElem?_getD, List.getElem?_eq_none hge] at h0
                simp at h0
            have hoe : ∃ oe, ops[e]? = some oe := by
              have := (List.getElem?_eq_some_iff.1 ho).1
              exact ⟨_, List.getElem?_eq_getElem (by omega)⟩
            obtain ⟨oe, hoe⟩ := hoe
            exact h e i oe hlt hoe h0 Sx hS (hS e oe (hd e he) hoe))
    exact ⟨h1, by rw [masks, h2]; simp; omega⟩

theorem masks_sound {ops : List Oper} {j i : Nat} {o : Oper} (ho : ops[j]? = some o) (hb : ((masks ops []).getD j 0).testBit i = true) {Sx : Nat → Prop} (hS : Closed ops Sx) (hd : ∀ e ∈ depsOf o, Sx e) : Sx i := by
  obtain ⟨h1, h2⟩ := masks_ok ops ops [] (by simp) (by intro j i o hj; simp at hj)
  exact h1 j i o (by rw [h2]; have := (List.getElem?_eq_some_iff.1 ho).1; simpa using this) ho hb Sx hS hd

/-! ### The text's order, place by place -/

section trace
variable (E : Call) (xs : List XOper) (g0 : Regs) (M0 : Mem)

def trAt (j : Nat) : Regs × Mem := ((trace E xs g0 M0)[j]?).getD (g0, M0)
def vAt (j : Nat) : RV := ((evG E (trAt E xs g0 M0 j).1 (trAt E xs g0 M0 j).2 (xs.getD j default)).map (·.1)).getD default

/-- What the register t holds behind the operations k' < k of the set Sx. -/
def valK (Sx : Nat → Bool) : Nat → Nat → Option RV
  | 0, t => lk g0 t
  | k + 1, t => if Sx k = true ∧ (xs.getD k default).dst = some t then some (vAt E xs g0 M0 k) else valK Sx k t

/-- The place behind the last writer of memory. -/
def wl (pairs : List (Nat × Nat)) (Sx : Nat → Bool) : Nat → Nat
  | 0 => 0
  | k + 1 => if Sx k = true ∧ isWp pairs k (xs.getD k default).op = true then k + 1 else wl pairs Sx k
end trace

theorem trace_get {E : Call} : ∀ {xs : List XOper} {g0 : Regs} {M0 : Mem} {r}, execOps E xs g0 M0 = some r → ∀ j, j < xs.length →
    ∃ g M v M', (trace E xs g0 M0)[j]? = some (g, M) ∧ evG E g M (xs.getD j default) = some (v, M') ∧ (trace E xs g0 M0)[j + 1]? = some (putd g (xs.getD j default).dst v, M')
  | [], _, _, _, _, j, hj => by simp at hj
  | x :: xs, g0, M0, r, he, j, hj => by
    simp only [execOps, bind_some'] at he
    obtain ⟨⟨v, M'⟩, h1, h2⟩ := he
    cases j with
    | zero =>
      refine ⟨g0, M0, v, M', by simp [trace], by simpa using h1, ?_⟩
      simp only [trace, h1, List.getElem?_cons_succ]
      cases xs <;> simp [trace]
    | succ j =>
      obtain ⟨g, M, v2, M2, k1, k2, k3⟩ := trace_get h2 j (by simpa using hj)
      exact ⟨g, M, v2, M2, by simpa [trace, h1] using k1, by simpa using k2, by simpa [trace, h1] using k3⟩

theorem trace_last {E : Call} : ∀ {xs : List XOper} {g0 : Regs} {M0 : Mem} {r}, execOps E xs g0 M0 = some r → (trace E xs g0 M0)[xs.length]? = some r
  | [], _, _, _, he => by simp only [execOps, Option.some.injEq] at he; subst he; simp [trace]
  | x :: xs, g0, M0, r, he => by
    simp only [execOps, bind_some'] at he
    obtain ⟨⟨v, M'⟩, h1, h2⟩ := he
    simpa [trace, h1] using trace_last h2

theorem trace_zero {E : Call} {xs : List XOper} {g0 : Regs} {M0 : Mem} : (trace E xs g0 M0)[0]? = some (g0, M0) := by cases xs <;> simp [trace]

section
variable {E : Call} {xs : List XOper} {g0 : Regs} {M0 : Mem} {r : Regs × Mem} (he : execOps E xs g0 M0 = some r)
include he

theorem tr_step {j : Nat} (hj : j < xs.length) : evG E (trAt E xs g0 M0 j).1 (trAt E xs g0 M0 j).2 (xs.getD j default) = some (vAt E xs g0 M0 j, (trAt E xs g0 M0 (j + 1)).2) ∧
    (trAt E xs g0 M0 (j + 1)).1 = putd (trAt E xs g0 M0 j).1 (xs.getD j default).dst (vAt E xs g0 M0 j) := by
  obtain ⟨g, M, v, M', h1, h2, h3⟩ := trace_get he j hj
  have e1 : trAt E xs g0 M0 j = (g, M) := by simp [trAt, h1]
  have e2 : trAt E xs g0 M0 (j + 1) = (putd g (xs.getD j default).dst v, M') := by simp only [trAt, h3, Option.getD_some]
  have e3 : vAt E xs g0 M0 j = v := by simp only [vAt, e1, h2, Option.map_some, Option.getD_some]
  rw [e1, e2, e3]
  exact ⟨h2, rfl⟩

theorem tr_keeps {pairs : List (Nat × Nat)} (hst : stable E xs g0 M0 pairs) {j : Nat} (hj : j < xs.length) (hw : isWp pairs j (xs.getD j default).op = false) : (trAt E xs g0 M0 (j + 1)).2 = (trAt E xs g0 M0 j).2 := by
  cases hp : pairs.contains (j, j) with
  | false =>
    simp only [isWp, hp, Bool.not_false, Bool.and_true] at hw
    exact evG_keeps hw (tr_step he hj).1
  | true =>
    have hg : ∀ j, j ≤ xs.length → (trace E xs g0 M0)[j]? = some (trAt E xs g0 M0 j) := by
      intro j hj
      rcases Nat.lt_or_ge j xs.length with h1 | h1
      · obtain ⟨g, M, _, _, h2, _⟩ := trace_get he j h1
        simp [trAt, h2]
      · have : j = xs.length := by omega
        subst this
        simp [trAt, trace_last he]
    have h1 := (tr_step he hj).1
    have h2 : evG E (trAt E xs g0 M0 j).1 (trAt E xs g0 M0 j).2 (xs.getD j default) = some (vAt E xs g0 M0 j, (trAt E xs g0 M0 j).2) := (hst (j, j) (by simpa using hp) (xs.getD j default) _ _ _ _ _ _ _ _ (by rw [List.getD_eq_getElem?_getD, List.getElem?_eq_getElem hj]; rfl) (hg j (by omega)) h1 (hg j (by omega)) (hg (j + 1) (by omega))).1
    rw [h1] at h2
    simpa using h2

theorem tr_same {pairs : List (Nat × Nat)} (hst : stable E xs g0 M0 pairs) {p : Nat} : ∀ {q : Nat}, p ≤ q → q ≤ xs.length → (∀ k, p ≤ k → k < q → isWp pairs k (xs.getD k default).op = false) → (trAt E xs g0 M0 q).2 = (trAt E xs g0 M0 p).2 := by
  intro q
  induction q with
  | zero => intro h1 _ _; rw [show p = 0 by omega]
  | succ q ih =>
    intro h1 h2 h3
    rcases Nat.lt_or_ge q p with hlt | hge
    · rw [show p = q + 1 by omega]
    · rw [tr_keeps he hst (by omega) (h3 q hge (by omega)), ih hge (by omega) (fun k hk1 hk2 => h3 k hk1 (by omega))]

theorem tr_reg : ∀ {k : Nat}, k ≤ xs.length → ∀ t, lk (trAt E xs g0 M0 k).1 t = valK E xs g0 M0 (fun _ => true) k t := by
  intro k
  induction k with
  | zero => intro _ t; simp [trAt, trace_zero, valK]
  | succ k ih =>
    intro hk t
    rw [(tr_step he (by omega)).2]
    simp only [valK, true_and]
    cases hd : (xs.getD k default).dst with
    | none => simp only [putd, reduceCtorEq, if_false]; exact ih (by omega) t
    | some d =>
      simp only [putd, lk]
      by_cases e : d = t
      · subst e; simp
      · rw [if_neg e, if_neg (by simpa using e)]; exact ih (by omega) t
end

theorem wl_le (xs : List XOper) (pairs : List (Nat × Nat)) (Sx : Nat → Bool) : ∀ k, wl xs pairs Sx k ≤ k := by
  intro k
  induction k with
  | zero => simp [wl]
  | succ k ih => simp only [wl]; split <;> omega

/-- The last writer of the set, if there is one. -/
theorem wl_spec (xs : List XOper) (pairs : List (Nat × Nat)) (Sx : Nat → Bool) : ∀ k, (wl xs pairs Sx k = 0 ∧ ∀ j, j < k → Sx j = true → isWp pairs j (xs.getD j default).op = false) ∨
    ∃ q, q < k ∧ wl xs pairs Sx k = q + 1 ∧ Sx q = true ∧ isWp pairs q (xs.getD q default).op = true ∧ ∀ j, q < j → j < k → Sx j = true → isWp pairs j (xs.getD j default).op = false := by
  intro k
  induction k with
  | zero => exact .inl ⟨rfl, fun j hj => by omega⟩
  | succ k ih =>
    by_cases h : Sx k = true ∧ isWp pairs k (xs.getD k default).op = true
    · exact .inr ⟨k, by omega, by simp only [wl, if_pos h], h.1, h.2, fun j h1 h2 => by omega⟩
    · have e : wl xs pairs Sx (k + 1) = wl xs pairs Sx k := by simp only [wl, if_neg h]
      have hk : Sx k = true → isWp pairs k (xs.getD k default).op = false := by
        intro hs
        cases hw : isWp pairs k (xs.getD k default).op with
        | false => rfl
        | true => exact absurd ⟨hs, hw⟩ h
      rw [e]
      rcases ih with ⟨h1, h2⟩ | ⟨q, h1, h2, h3, h4, h5⟩
      · exact .inl ⟨h1, fun j hj hs => if hjk : j = k then by subst hjk; exact hk hs else h2 j (by omega) hs⟩
      · exact .inr ⟨q, by omega, h2, h3, h4, fun j hj1 hj2 hs => if hjk : j = k then by subst hjk; exact hk hs else h5 j hj1 (by omega) hs⟩

/-- The first writer from a place on. -/
theorem first_w (xs : List XOper) (pairs : List (Nat × Nat)) (p : Nat) : ∀ q, p ≤ q → (∀ k, p ≤ k → k < q → isWp pairs k (xs.getD k default).op = false) ∨ ∃ k, p ≤ k ∧ k < q ∧ isWp pairs k (xs.getD k default).op = true ∧ ∀ j, p ≤ j → j < k → isWp pairs j (xs.getD j default).op = false := by
  intro q
  induction q with
  | zero => intro h; exact .inl fun k h1 h2 => by omega
  | succ q ih =>
    intro h
    rcases Nat.lt_or_ge q p with hlt | hge
    · exact .inl fun k h1 h2 => by omega
    · rcases ih hge with h1 | ⟨k, h1, h2, h3, h4⟩
      · cases hw : isWp pairs q (xs.getD q default).op with
        | false => exact .inl fun k hk1 hk2 => if e : k = q then by subst e; exact hw else h1 k hk1 (by omega)
        | true => exact .inr ⟨q, hge, by omega, hw, fun j hj1 hj2 => h1 j hj1 hj2⟩
      · exact .inr ⟨k, h1, by omega, h3, h4⟩

/-! ### A set of operations that has been done, and one more -/

structure DrawFacts (ops : List Oper) (xs : List XOper) (pairs : List (Nat × Nat)) : Prop where
  len : xs.length = ops.length
  deps : ∀ j o, ops[j]? = some o → ∀ e ∈ depsOf o, e < j
  pair : ∀ i j, i < j → j < ops.length → pairOk (masks ops []) pairs i j (xs.getD i default) (xs.getD j default) = true

theorem drawOk_facts {ops : List Oper} {xs : List XOper} {pairs : List (Nat × Nat)} (hl : xs.length = ops.length) (h : drawOk ops xs pairs = true) : DrawFacts ops xs pairs := by
  simp only [drawOk, List.all_eq_true, List.mem_range, Bool.and_eq_true] at h
  refine ⟨hl, fun j o ho e he => ?_, fun i j hij hj => (h j hj).2 i hij⟩
  have hj := (List.getElem?_eq_some_iff.1 ho).1
  have := (h j hj).1 e (by rw [List.getD_eq_getElem?_getD, ho]; exact he)
  simpa using this

section
variable {ops : List Oper} {xs : List XOper} {pairs : List (Nat × Nat)} (F : DrawFacts ops xs pairs)
include F

/-- Operation i may be done now: what the edges ask has been done, and it has not. -/
structure Ready (ops : List Oper) (Sx : Nat → Bool) (i : Nat) : Prop where
  lt : i < ops.length
  no : Sx i = false
  deps : ∀ o, ops[i]? = some o → ∀ e ∈ depsOf o, Sx e = true

omit F in
theorem Ready.before {Sx : Nat → Bool} {i : Nat} (hr : Ready ops Sx i) (hS : Closed ops (fun j => Sx j = true)) {k : Nat} (hb : ((masks ops []).getD i 0).testBit k = true) : Sx k = true :=
  masks_sound (List.getElem?_eq_getElem hr.lt) hb (Sx := fun j => Sx j = true) hS (hr.deps _ (List.getElem?_eq_getElem hr.lt))

omit F in
theorem Ready.notAfter {Sx : Nat → Bool} {i : Nat} (hr : Ready ops Sx i) (hS : Closed ops (fun j => Sx j = true)) {k : Nat} (hk : k < ops.length) (hs : Sx k = true) : ((masks ops []).getD k 0).testBit i = false := by
  cases hb : ((masks ops []).getD k 0).testBit i with
  | false => rfl
  | true =>
    have := masks_sound (List.getElem?_eq_getElem hk) hb (Sx := fun j => Sx j = true) hS (fun e he => hS k _ hs (List.getElem?_eq_getElem hk) e he)
    have this : Sx i = true := this
    rw [hr.no] at this
    exact absurd this (by simp)

/-- Two operations on one register stand in the edges' order. -/
theorem slots_ordered {i j : Nat} (hij : i < j) (hj : j < ops.length) : (∀ d, (xs.getD i default).dst = some d → d ∈ rdSl (xs.getD j default) ∨ (xs.getD j default).dst = some d → ((masks ops []).getD j 0).testBit i = true) ∧
    (∀ d, (xs.getD j default).dst = some d → d ∈ rdSl (xs.getD i default) → ((masks ops []).getD j 0).testBit i = true) := by
  have h := F.pair i j hij hj
  simp only [pairOk, Bool.and_eq_true, Bool.or_eq_true, Bool.not_eq_true', Bool.or_eq_false_iff] at h
  obtain ⟨⟨⟨h1, _⟩, _⟩, _⟩ := h
  constructor
  · intro d hd hc
    rcases h1 with h1 | ⟨h1, _⟩
    · exact h1
    · exfalso
      rw [hd] at h1
      simp only [Bool.or_eq_false_iff] at h1
      rcases hc with hc | hc
      · have := h1.1; simp at this; exact this hc
      · have := h1.2; rw [hc] at this; simp at this
  · intro d hd hc
    rcases h1 with h1 | ⟨_, h1⟩
    · exact h1
    · exfalso
      rw [hd] at h1
      simp at h1
      exact h1 hc

theorem writers_ordered {i j : Nat} (hij : i < j) (hj : j < ops.length) (h1 : isWp pairs i (xs.getD i default).op = true) (h2 : isWp pairs j (xs.getD j default).op = true) : ((masks ops []).getD j 0).testBit i = true := by
  have h := F.pair i j hij hj
  simp only [pairOk, Bool.and_eq_true, Bool.or_eq_true, Bool.not_eq_true', h1, h2, Bool.and_self, Bool.true_eq_false, or_false] at h
  exact h.1.1.2

theorem reader_later {i j : Nat} (hij : i < j) (hj : j < ops.length) (h1 : isWp pairs i (xs.getD i default).op = true) (h2 : isRp pairs j (xs.getD j default).op = true) : ((masks ops []).getD j 0).testBit i = true ∨ (j, i) ∈ pairs := by
  have h := F.pair i j hij hj
  simp only [pairOk, Bool.and_eq_true, Bool.or_eq_true, Bool.not_eq_true', h1, h2, Bool.and_self, Bool.true_eq_false, or_false] at h
  rcases h.1.2 with h | h
  · exact .inl h
  · exact .inr (by simpa using h)

theorem reader_earlier {i j : Nat} (hij : i < j) (hj : j < ops.length) (h1 : isRp pairs i (xs.getD i default).op = true) (h2 : isWp pairs j (xs.getD j default).op = true) : ((masks ops []).getD j 0).testBit i = true ∨ (i, j) ∈ pairs := by
  have h := F.pair i j hij hj
  simp only [pairOk, Bool.and_eq_true, Bool.or_eq_true, Bool.not_eq_true', h1, h2, Bool.and_self, Bool.true_eq_false, or_false] at h
  rcases h.2 with h | h
  · exact .inl h
  · exact .inr (by simpa using h)

variable {E : Call} {g0 : Regs} {M0 : Mem} {r : Regs × Mem}

/-- What operation i looks at holds what it holds in the text's order. -/
theorem reads_same (he : execOps E xs g0 M0 = some r) {Sx : Nat → Bool} {i : Nat} (hr : Ready ops Sx i) (hS : Closed ops (fun j => Sx j = true)) {t : Nat} (ht : t ∈ rdSl (xs.getD i default)) :
    valK E xs g0 M0 Sx xs.length t = lk (trAt E xs g0 M0 i).1 t := by
  have hi : i < xs.length := by rw [F.len]; exact hr.lt
  rw [tr_reg he (by omega)]
  -- below i: all that write t have been done
  have low : ∀ k, k ≤ i → valK E xs g0 M0 Sx k t = valK E xs g0 M0 (fun _ => true) k t := by
    intro k
    induction k with
    | zero => intro _; rfl
    | succ k ih =>
      intro hk
      simp only [valK, true_and]
      by_cases hd : (xs.getD k default).dst = some t
      · have hb := (slots_ordered F (i := k) (j := i) (by omega) hr.lt).1 t hd (.inl ht)
        have hs := hr.before hS hb
        rw [if_pos ⟨hs, hd⟩, if_pos hd]
      · rw [if_neg (fun h => hd h.2), if_neg hd]
        exact ih (by omega)
  -- from i on: none that has been done writes t
  have high : ∀ k, i ≤ k → k ≤ xs.length → valK E xs g0 M0 Sx k t = valK E xs g0 M0 Sx i t := by
    intro k
    induction k with
    | zero => intro h _; rw [show i = 0 by omega]
    | succ k ih =>
      intro h1 h2
      rcases Nat.lt_or_ge k i with hlt | hge
      · rw [show i = k + 1 by omega]
      · rw [← ih hge (by omega)]
        simp only [valK]
        rw [if_neg]
        rintro ⟨hs, hd⟩
        rcases Nat.lt_or_ge i k with hlt | hge2
        · have hk : k < ops.length := by rw [← F.len]; omega
          have hb := (slots_ordered F (i := i) (j := k) hlt hk).2 t hd ht
          rw [hr.notAfter hS hk hs] at hb
          exact absurd hb (by simp)
        · have : k = i := by omega
          subst this
          rw [hr.no] at hs
          exact absurd hs (by simp)
  rw [high xs.length (by omega) (Nat.le_refl _), low i (Nat.le_refl _)]

/-- Operation i tells over the memory at hand what it tells in the text's order; and what memory is behind it. -/
theorem step_same (he : execOps E xs g0 M0 = some r) (hst : stable E xs g0 M0 pairs) {Sx : Nat → Bool} {i : Nat} (hr : Ready ops Sx i) (hS : Closed ops (fun j => Sx j = true)) :
    evG E (trAt E xs g0 M0 i).1 (trAt E xs g0 M0 (wl xs pairs Sx xs.length)).2 (xs.getD i default) = some (vAt E xs g0 M0 i, (trAt E xs g0 M0 (wl xs pairs (fun j => j == i || Sx j) xs.length)).2) := by
  have hi : i < xs.length := by rw [F.len]; exact hr.lt
  obtain ⟨hstep, _⟩ := tr_step he hi
  have hlt : ∀ {j}, j < xs.length → j < ops.length := fun h => by rw [← F.len]; exact h
  -- one pair of the region's list
  have pr : ∀ k, k < xs.length → (i, k) ∈ pairs → evG E (trAt E xs g0 M0 i).1 (trAt E xs g0 M0 k).2 (xs.getD i default) = some (vAt E xs g0 M0 i, (trAt E xs g0 M0 k).2) ∧
      evG E (trAt E xs g0 M0 i).1 (trAt E xs g0 M0 (k + 1)).2 (xs.getD i default) = some (vAt E xs g0 M0 i, (trAt E xs g0 M0 (k + 1)).2) := by
    intro k hk hp
    have hg : ∀ j, j ≤ xs.length → (trace E xs g0 M0)[j]? = some (trAt E xs g0 M0 j) := by
      intro j hj
      rcases Nat.lt_or_ge j xs.length with h1 | h1
      · obtain ⟨g, M, _, _, h2, _⟩ := trace_get he j h1
        simp [trAt, h2]
      · have : j = xs.length := by omega
        subst this
        simp [trAt, trace_last he]
    exact hst (i, k) hp (xs.getD i default) _ _ _ _ _ _ _ _ (by rw [List.getD_eq_getElem?_getD, List.getElem?_eq_getElem hi]; rfl) (hg i (by omega)) hstep (hg k (by omega)) (hg (k + 1) (by omega))
  cases hw : isWp pairs i (xs.getD i default).op with
  | true =>
    -- a writer: all earlier writers have been done, and no later one
    have hnone : ∀ j, i < j → j < xs.length → Sx j = true → isWp pairs j (xs.getD j default).op = false := by
      intro j h1 h2 hs
      cases hwj : isWp pairs j (xs.getD j default).op with
      | false => rfl
      | true =>
        have hb := writers_ordered F h1 (hlt h2) hw hwj
        rw [hr.notAfter hS (hlt h2) hs] at hb
        exact absurd hb (by simp)
    have hmem : (trAt E xs g0 M0 (wl xs pairs Sx xs.length)).2 = (trAt E xs g0 M0 i).2 := by
      have hall : ∀ k, k < i → isWp pairs k (xs.getD k default).op = true → Sx k = true := fun k hk hwk => hr.before hS (writers_ordered F hk hr.lt hwk hw)
      rcases wl_spec xs pairs Sx xs.length with ⟨h1, h2⟩ | ⟨q, h1, h2, h3, h4, h5⟩
      · rw [h1]
        refine (tr_same he hst (Nat.zero_le i) (by omega) (fun k _ hk => ?_)).symm
        cases hwk : isWp pairs k (xs.getD k default).op with
        | false => rfl
        | true => rw [← hwk]; exact h2 k (by omega) (hall k hk hwk)
      · rw [h2]
        have hqi : q < i := by
          rcases Nat.lt_trichotomy q i with h | h | h
          · exact h
          · subst h; rw [hr.no] at h3; exact absurd h3 (by simp)
          · rw [hnone q h h1 h3] at h4; exact absurd h4 (by simp)
        refine (tr_same he hst (by omega) (by omega) (fun k hk1 hk2 => ?_)).symm
        cases hwk : isWp pairs k (xs.getD k default).op with
        | false => rfl
        | true => rw [← hwk]; exact h5 k (by omega) (by omega) (hall k hk2 hwk)
    have hnew : wl xs pairs (fun j => j == i || Sx j) xs.length = i + 1 := by
      rcases wl_spec xs pairs (fun j => j == i || Sx j) xs.length with ⟨h1, h2⟩ | ⟨q, h1, h2, h3, h4, h5⟩
      · have := h2 i hi (by simp)
        rw [hw] at this; exact absurd this (by simp)
      · rw [h2]
        rcases Nat.lt_trichotomy q i with h | h | h
        · have := h5 i h hi (by simp)
          rw [hw] at this; exact absurd this (by simp)
        · rw [h]
        · have hs : Sx q = true := by
            have : (q == i) = false := by simp; omega
            simpa [this] using h3
          rw [hnone q h h1 hs] at h4
          exact absurd h4 (by simp)
    rw [hmem, hnew]
    exact hstep
  | false =>
    have hsame : wl xs pairs (fun j => j == i || Sx j) xs.length = wl xs pairs Sx xs.length := by
      have key : ∀ k, wl xs pairs (fun j => j == i || Sx j) k = wl xs pairs Sx k := by
        intro k
        induction k with
        | zero => rfl
        | succ k ih =>
          simp only [wl]
          by_cases e : k = i
          · subst e
            rw [if_neg (fun h => by rw [hw] at h; exact absurd h.2 (by simp)), if_neg (fun h => by rw [hw] at h; exact absurd h.2 (by simp))]
            exact ih
          · have : (k == i) = false := by simpa using e
            simp only [this, Bool.false_or, ih]
      exact key _
    rw [hsame]
    cases hrd : isRp pairs i (xs.getD i default).op with
    | false => exact evG_pure (isp_pure hw hrd).1 (isp_pure hw hrd).2 hstep
    | true =>
      have hkeep := tr_keeps he hst hi hw
      rw [hkeep] at hstep
      rcases wl_spec xs pairs Sx xs.length with ⟨h1, h2⟩ | ⟨q, h1, h2, h3, h4, h5⟩
      · rw [h1]
        rcases first_w xs pairs 0 i (Nat.zero_le _) with hno | ⟨k, _, hk2, hk3, hk4⟩
        · rw [← tr_same he hst (Nat.zero_le i) (by omega) hno]; exact hstep
        · have hns : Sx k ≠ true := fun hs => by rw [h2 k (by omega) hs] at hk3; exact absurd hk3 (by simp)
          rcases reader_later F hk2 hr.lt hk3 hrd with hb | hp
          · exact absurd (hr.before hS hb) hns
          · have e := tr_same he hst (Nat.zero_le k) (by omega) hk4
            have := (pr k (by omega) hp).1
            rwa [e] at this
      · rw [h2]
        rcases Nat.lt_trichotomy q i with h | h | h
        · rcases first_w xs pairs (q + 1) i (by omega) with hno | ⟨k, hk1, hk2, hk3, hk4⟩
          · rw [← tr_same he hst (by omega) (by omega) hno]; exact hstep
          · have hns : Sx k ≠ true := fun hs => by rw [h5 k (by omega) (by omega) hs] at hk3; exact absurd hk3 (by simp)
            rcases reader_later F hk2 hr.lt hk3 hrd with hb | hp
            · exact absurd (hr.before hS hb) hns
            · have e := tr_same he hst hk1 (by omega) hk4
              have := (pr k (by omega) hp).1
              rwa [e] at this
        · subst h; rw [hr.no] at h3; exact absurd h3 (by simp)
        · rcases reader_earlier F h (hlt h1) hrd h4 with hb | hp
          · rw [hr.notAfter hS (hlt h1) h3] at hb; exact absurd hb (by simp)
          · exact (pr q h1 hp).2

/-- The registers behind operation i. -/
theorem val_put {Sx : Nat → Bool} {i : Nat} (hr : Ready ops Sx i) (hS : Closed ops (fun j => Sx j = true)) (t : Nat) :
    valK E xs g0 M0 (fun j => j == i || Sx j) xs.length t = if (xs.getD i default).dst = some t then some (vAt E xs g0 M0 i) else valK E xs g0 M0 Sx xs.length t := by
  have hi : i < xs.length := by rw [F.len]; exact hr.lt
  by_cases hd : (xs.getD i default).dst = some t
  · rw [if_pos hd]
    have key : ∀ k, i < k → k ≤ xs.length → valK E xs g0 M0 (fun j => j == i || Sx j) k t = some (vAt E xs g0 M0 i) := by
      intro k
      induction k with
      | zero => intro h _; omega
      | succ k ih =>
        intro h1 h2
        simp only [valK]
        by_cases e : k = i
        · subst e; rw [if_pos ⟨by simp, hd⟩]
        · rw [if_neg]
          · exact ih (by omega) (by omega)
          · rintro ⟨hs, hdk⟩
            have : (k == i) = false := by simpa using e
            rw [this, Bool.false_or] at hs
            have hk : k < ops.length := by rw [← F.len]; omega
            have hb := (slots_ordered F (i := i) (j := k) (by omega) hk).1 t hd (.inr hdk)
            rw [hr.notAfter hS hk hs] at hb
            exact absurd hb (by simp)
    exact key xs.length hi (Nat.le_refl _)
  · rw [if_neg hd]
    have key : ∀ k, valK E xs g0 M0 (fun j => j == i || Sx j) k t = valK E xs g0 M0 Sx k t := by
      intro k
      induction k with
      | zero => rfl
      | succ k ih =>
        simp only [valK]
        by_cases e : k = i
        · subst e
          rw [if_neg (fun h => hd h.2), if_neg (fun h => hd h.2)]
          exact ih
        · have : (k == i) = false := by simpa using e
          simp only [this, Bool.false_or, ih]
    exact key _
end

end Go.X

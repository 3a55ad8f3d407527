/- GoX, part 9: slice literals, byte conversions, make, struct literals. No statement of the seat is here. -/
import Derived.Test.YtlliifjmnddckaaDoorX8
import Derived.Lib.ConvBytes
set_option linter.unusedVariables false
set_option linter.unusedSimpArgs false
namespace Go.X
open Go

section
variable {P : Program} {base : Nat} {c0 : Ctx} {n : Nat} {c : Ctx} {γ : Nat → Nat} {g : Regs} {bx : Boxes} {tmps : Array Value} {a : Act} {o : Oper}

/-- Cells set one behind the other. -/
theorem foldl_set : ∀ (vs : List Value) (s o : Nat) (cs : Array Value), o + s + vs.length ≤ cs.size →
    ((vs.zipIdx s).foldl (fun cs (p : Value × Nat) => cs.setIfInBounds (o + p.2) p.1) cs).size = cs.size ∧
    ∀ k, ((vs.zipIdx s).foldl (fun cs (p : Value × Nat) => cs.setIfInBounds (o + p.2) p.1) cs)[k]? = if o + s ≤ k ∧ k < o + s + vs.length then vs[k - (o + s)]? else cs[k]?
  | [], s, o, cs, h => by
    refine ⟨rfl, fun k => ?_⟩
    rw [if_neg (by simp)]
    rfl
  | v :: vs, s, o, cs, h => by
    simp only [List.zipIdx_cons, List.foldl_cons]
    simp only [List.length_cons] at h
    obtain ⟨h1, h2⟩ := foldl_set vs (s + 1) o (cs.setIfInBounds (o + s) v) (by simp; omega)
    refine ⟨by rw [h1]; simp, fun k => ?_⟩
    rw [h2]
    by_cases hk : o + s = k
    · subst hk
      rw [if_neg (by omega), if_pos ⟨by omega, by simp⟩]
      have : o + s < cs.size := by omega
      simp [this]
    · by_cases hk2 : o + (s + 1) ≤ k ∧ k < o + (s + 1) + vs.length
      · rw [if_pos hk2, if_pos ⟨by omega, by simp; omega⟩]
        rw [show k - (o + s) = (k - (o + (s + 1))) + 1 by omega]
        rfl
      · rw [if_neg hk2, if_neg (by simp; omega)]
        simp [hk]

theorem fill_step {place : Nat → Option (Nat × Nat)} {cells : Array Value} {i : Nat} {v : Value} {rest : List (Nat × Value)} {off size : Nat} (hp : place i = some (off, size)) (hs : v.cells.size = size) (hf : off + size ≤ cells.size) :
    Instr.fill place cells ((i, v) :: rest) = Instr.fill place (v.cells.zipIdx.foldl (fun cs (p : Value × Nat) => cs.setIfInBounds (off + p.2) p.1) cells) rest := by
  rw [Instr.fill]
  simp only [hp]
  rw [if_neg (by simp [hs]; omega)]

/-- A struct's cells with parts laid in. -/
theorem fillP_sound (h : FI base c0 n c γ g bx tmps) (ha : a.tmps = tmps) {F : Nat → Option (Nat × Nat)} : ∀ {parts : List (Nat × Operand)} {ps : List (Nat × Nat × XO)}, cParts F parts = some ps → ∀ {zs cs : List AV} {cells : Array Value}, fillP g zs ps = some cs →
    cells.size = zs.length → (∀ (j : Nat) (v : AV), zs[j]? = some v → ∃ y, cells[j]? = some y ∧ VR c v y ∧ y.oneCell' = true) →
    ∃ cells', Instr.fill F cells (parts.map fun p => (p.1, a.eval p.2)) = some cells' ∧ cells'.size = cs.length ∧ ∀ (j : Nat) (v : AV), cs[j]? = some v → ∃ y, cells'[j]? = some y ∧ VR c v y ∧ y.oneCell' = true
  | [], ps, hps, zs, cs, cells, hf, hl, hc => by
    simp only [cParts, Option.some.injEq] at hps
    subst hps
    simp only [fillP, Option.some.injEq] at hf
    subst hf
    exact ⟨cells, rfl, hl, hc⟩
  | (i, x) :: parts, ps, hps, zs, cs, cells, hf, hl, hc => by
    simp only [cParts, bind_some', Option.some.injEq] at hps
    obtain ⟨⟨off, s⟩, h1, xo, h2, r, h3, rfl⟩ := hps
    simp only [fillP, bind_some'] at hf
    obtain ⟨av, h4, ys, h5, h6⟩ := hf
    split at h6
    · rename_i hcnd
      obtain ⟨hlen, hfit⟩ := hcnd
      obtain ⟨hvs, hone⟩ := cellsOf_sound h5 (opndv h ha h2 h4)
      have hvl := VRs_length hvs
      have hsz : (a.eval x).cells.size = s := by rw [← hlen, hvl]; simp
      simp only [List.map_cons]
      rw [fill_step h1 hsz (by omega)]
      have hfold := foldl_set (a.eval x).cells.toList 0 off cells (by rw [← hvl]; omega)
      have hz : (a.eval x).cells.zipIdx.foldl (fun cs (p : Value × Nat) => cs.setIfInBounds (off + p.2) p.1) cells = ((a.eval x).cells.toList.zipIdx 0).foldl (fun cs (p : Value × Nat) => cs.setIfInBounds (off + p.2) p.1) cells := by
        rw [← Array.foldl_toList, Array.toList_zipIdx]
      rw [hz]
      refine fillP_sound h ha h3 h6 (by rw [hfold.1, hl, upd_length (by omega)]) ?_
      intro j v hj
      rw [upd_get (by omega)] at hj
      rw [hfold.2 j]
      split at hj
      · rename_i hin
        rw [if_pos ⟨by omega, by rw [← hvl]; omega⟩]
        obtain ⟨y, e1, e2⟩ := VRs_get hvs hj
        exact ⟨y, by simpa using e1, e2, hone y (List.mem_of_getElem? e1)⟩
      · rename_i hin
        rw [if_neg (by rw [← hvl]; omega)]
        exact hc j v hj
    · simp at h6

theorem allSome_mapM {α β : Type} (f : α → Option β) : ∀ l : List α, allSome f l = l.mapM f
  | [] => rfl
  | a :: l => by
    simp only [allSome, List.mapM_cons, allSome_mapM f l]
    rfl

theorem s_build (h : FI base c0 n c γ g bx tmps) (ha : a.tmps = tmps) {t : TypeId} {fs : Array Field} {zs : List AV} {pl : List (Nat × Nat)} {parts : Array (Nat × Operand)} {ps : List (Nat × Nat × XO)} (ho : o.op = .build t parts) (hu : P.underlying t = some (.struct fs)) (hz : zeroOf P t = some zs)
    (hpl : places P fs = some pl) (hps : cParts (fun i => pl[i]?) parts.toList = some ps) {rv : RV} {M' : Mem}
    (he : evP g ⟨bx, c.σ⟩ (.build zs ps) = some (rv, M')) : OpRes P base c0 n c g tmps a o rv M' := by
  simp only [evP, bind_some', Option.some.injEq, Prod.mk.injEq] at he
  obtain ⟨cs, h1, rfl, rfl⟩ := he
  obtain ⟨i, z, h2, h3, h4, h5⟩ := zeroOf_sound hz
  obtain ⟨cells, h6, h7, h8⟩ := fillP_sound h ha hps h1 h4 (h5 c)
  have hb : P.built t ((parts.map fun (p : Nat × Operand) => (p.1, a.eval p.2)).toList) = some cells := by
    unfold Program.built
    have hm : fs.toList.mapM (fun f => (P.info? f.type).map fun i => (f.offset, i.size)) = some pl := by
      rw [← allSome_mapM]
      have : (fun f : Field => (P.info? f.type).map fun i => (f.offset, i.size)) = (fun f : Field => (szOf P f.type).map fun s => (f.offset, s)) := by
        funext f
        simp [szOf, Option.map_map]
        rfl
      rw [this]
      exact hpl
    simp only [h2, hu, h3, hm]
    simpa using h6
  refine OpRes.same h (y := .agg cells) ?_ ?_
  · have := run_build (P := P) c.w t _ cells hb
    simp [execOp, ho, this]
  · simp only [RR, VR]
    refine ⟨cells, rfl, VRs_of (by simpa using h7.symm) fun j v x hv hx => ?_, fun y hy => ?_⟩
    · obtain ⟨y, e1, e2, _⟩ := h8 j v hv
      have : cells[j]? = some x := by simpa using hx
      rw [e1] at this; cases this
      exact e2
    · obtain ⟨j, hj, rfl⟩ := List.getElem_of_mem hy
      have hj' : j < cs.length := by rw [← h7]; simpa using hj
      obtain ⟨y, e1, _, e3⟩ := h8 j _ (List.getElem?_eq_getElem hj')
      have := (Array.getElem?_eq_some_iff.1 e1).2
      rw [Array.getElem_toList, this]
      exact e3

/-- Elements with some replaced. -/
theorem fillS_sound (h : FI base c0 n c γ g bx tmps) (ha : a.tmps = tmps) {sz : Nat} (hpos : 0 < sz) : ∀ {parts : List (Nat × Operand)} {ps : List (Nat × XO)}, cPartsS parts = some ps → ∀ {els0 els : List (List AV)} {cells : Array Value}, fillS g sz els0 ps = some els →
    Flat c sz els0 cells.toList → ∃ cells', Instr.fill (fun i => some (i * sz, sz)) cells (parts.map fun p => (p.1, a.eval p.2)) = some cells' ∧ Flat c sz els cells'.toList ∧ els.length = els0.length
  | [], ps, hps, els0, els, cells, hf, hl => by
    simp only [cPartsS, Option.some.injEq] at hps
    subst hps
    simp only [fillS, Option.some.injEq] at hf
    subst hf
    exact ⟨cells, rfl, hl, rfl⟩
  | (i, x) :: parts, ps, hps, els0, els, cells, hf, hl => by
    simp only [cPartsS, bind_some', Option.some.injEq] at hps
    obtain ⟨xo, h2, r, h3, rfl⟩ := hps
    simp only [fillS, bind_some'] at hf
    obtain ⟨av, h4, ys, h5, h6⟩ := hf
    split at h6
    · rename_i hcnd
      obtain ⟨hlen, hi⟩ := hcnd
      obtain ⟨hvs, hone⟩ := cellsOf_sound h5 (opndv h ha h2 h4)
      have hvl := VRs_length hvs
      have hsz : (a.eval x).cells.size = sz := by rw [← hlen, hvl]; simp
      have hsize : cells.size = els0.length * sz := by simpa using hl.size
      have hmul : (i + 1) * sz ≤ els0.length * sz := Nat.mul_le_mul_right _ hi
      rw [Nat.add_mul, Nat.one_mul] at hmul
      simp only [List.map_cons]
      rw [fill_step rfl hsz (by omega)]
      have hfold := foldl_set (a.eval x).cells.toList 0 (i * sz) cells (by rw [← hvl]; omega)
      have hz : (a.eval x).cells.zipIdx.foldl (fun cs (p : Value × Nat) => cs.setIfInBounds (i * sz + p.2) p.1) cells = ((a.eval x).cells.toList.zipIdx 0).foldl (fun cs (p : Value × Nat) => cs.setIfInBounds (i * sz + p.2) p.1) cells := by
        rw [← Array.foldl_toList, Array.toList_zipIdx]
      rw [hz]
      obtain ⟨cells', r1, r2, r3⟩ := fillS_sound h ha hpos h3 h6 (cells := ((a.eval x).cells.toList.zipIdx 0).foldl (fun cs (p : Value × Nat) => cs.setIfInBounds (i * sz + p.2) p.1) cells) (by
        refine ⟨?_, by simp [hfold.1, hsize], ?_⟩
        · intro q cs hq
          rw [List.getElem?_set] at hq
          split at hq
          · rename_i e
            subst e
            try rw [if_pos hi] at hq
            simp only [Option.some.injEq] at hq; rw [← hq]; exact hlen
          · exact hl.len q cs hq
        · intro q cs j v hq hj
          rw [Array.getElem?_toList, hfold.2]
          rw [List.getElem?_set] at hq
          split at hq
          · rename_i e
            subst e
            try rw [if_pos hi] at hq
            simp only [Option.some.injEq] at hq
            subst hq
            have hj' := (List.getElem?_eq_some_iff.1 hj).1
            rw [if_pos ⟨by omega, by rw [← hvl]; omega⟩]
            obtain ⟨y, e1, e2⟩ := VRs_get hvs hj
            refine ⟨y, ?_, e2, hone y (List.mem_of_getElem? e1)⟩
            rw [show i * sz + j - (i * sz + 0) = j by omega]
            exact e1
          · rename_i e
            obtain ⟨y, e1, e2, e3⟩ := hl.cont q cs j v hq hj
            refine ⟨y, ?_, e2, e3⟩
            have hj' := (List.getElem?_eq_some_iff.1 hj).1
            rw [hl.len q cs hq] at hj'
            rw [if_neg]
            · simpa using e1
            · rintro ⟨q1, q2⟩
              rw [← hvl] at q2
              rcases Nat.lt_or_gt_of_ne e with hlt | hlt
              · have : (i + 1) * sz ≤ q * sz := Nat.mul_le_mul_right _ hlt
                rw [Nat.add_mul, Nat.one_mul] at this
                omega
              · have : (q + 1) * sz ≤ i * sz := Nat.mul_le_mul_right _ hlt
                rw [Nat.add_mul, Nat.one_mul] at this
                omega)
      exact ⟨cells', r1, r2, by rw [r3]; simp⟩
    · simp at h6

theorem flat_zero {c : Ctx} {zs : List AV} {z : Array Value} (hl : z.size = zs.length) (hpos : 0 < zs.length) (hc : ∀ (j : Nat) (v : AV), zs[j]? = some v → ∃ y, z[j]? = some y ∧ VR c v y ∧ y.oneCell' = true) (k m : Nat) (hm : m = k * zs.length) :
    Flat c zs.length (List.replicate k zs) ((Array.range m).map fun q => z[q % z.size]!).toList := by
  subst hm
  refine ⟨?_, by simp, ?_⟩
  · intro i cs hi
    rw [List.getElem?_replicate] at hi
    split at hi
    · simp only [Option.some.injEq] at hi; rw [← hi]
    · simp at hi
  · intro i cs j v hi hj
    rw [List.getElem?_replicate] at hi
    split at hi
    · rename_i hik
      simp only [Option.some.injEq] at hi
      subst hi
      have hj' := (List.getElem?_eq_some_iff.1 hj).1
      obtain ⟨y, e1, e2, e3⟩ := hc j v hj
      refine ⟨y, ?_, e2, e3⟩
      have hmul : (i + 1) * zs.length ≤ k * zs.length := Nat.mul_le_mul_right _ hik
      rw [Nat.add_mul, Nat.one_mul] at hmul
      have hlt : i * zs.length + j < k * zs.length := by omega
      have hmod : (i * zs.length + j) % z.size = j := by rw [hl, Nat.mul_comm, Nat.mul_add_mod]; exact Nat.mod_eq_of_lt hj'
      obtain ⟨h1, h2⟩ := Array.getElem?_eq_some_iff.1 e1
      simp [hlt, hmod, h1, h2]
    · simp at hi

theorem run_newRow' (e : TypeId) (cells : Array Value) (w : World) : (Go.newRow e cells).run P w = .ok ⟨w.heap.size, 0, none⟩ (w.alloc (.cells cells e (0, 0))) := by simp [Go.newRow]

theorem run_bsl {t e : TypeId} {k sz : Nat} {parts : Array (Nat × Value)} {zc cells : Array Value} {w : World} (hu : P.underlying t = some (.slice e)) (hsz : szOf P e = some sz) (hlim : ¬ (k * sz > 2 ^ 24))
    (hzc : (if k * sz = 0 then pure #[] else do pure (← zeroValue e).cells : Sem (Array Value)).run P w = .ok zc w)
    (hfill : Instr.fill (fun i => some (i * sz, sz)) ((Array.range (k * sz)).map (zc[· % zc.size]!)) parts.toList = some cells) :
    (Instr.buildSlice t k parts).run P w = .ok (.slice (some ⟨w.heap.size, 0, none⟩) k k) (w.alloc (.cells cells e (0, 0))) := by
  unfold Instr.buildSlice
  simp only [Sem.run_bind, run_underlying hu, Result.andThen_ok, szOf_run hsz, if_neg hlim, Sem.run_pure]
  by_cases hk : k * sz = 0
  · rw [if_pos hk] at hzc ⊢
    simp only [Sem.run_pure, Result.ok.injEq, and_true] at hzc
    subst hzc
    simp only [Sem.run_bind, Sem.run_pure, Result.andThen_ok, hfill, run_newRow']
  · rw [if_neg hk] at hzc ⊢
    simp only [Sem.run_bind] at hzc ⊢
    cases hz : (zeroValue e).run P w with
    | halt x w' => rw [hz] at hzc; simp [Result.andThen] at hzc
    | ok v w' =>
      rw [hz] at hzc
      simp only [Result.andThen_ok, Sem.run_pure, Result.ok.injEq] at hzc ⊢
      obtain ⟨rfl, rfl⟩ := hzc
      simp only [hfill, Sem.run_bind, Sem.run_pure, Result.andThen_ok, run_newRow']

theorem s_bsl (h : FI base c0 n c γ g bx tmps) (ha : a.tmps = tmps) {t e : TypeId} {lo : Bool} {sz k : Nat} {zs : List AV} {parts : Array (Nat × Operand)} {ps : List (Nat × XO)} (ho : o.op = .buildSlice t k parts) (hu : P.underlying t = some (.slice e)) (hsz : szOf P e = some sz) (hz : zeroOf P e = some zs)
    (hps : cPartsS parts.toList = some ps) (hpos : 0 < sz) (hzl : zs.length = sz) (hlim : k * sz ≤ 16777216) {rv : RV} {M' : Mem}
    (he : evP g ⟨bx, c.σ⟩ (.bsl lo sz k zs ps) = some (rv, M')) : OpRes P base c0 n c g tmps a o rv M' := by
  simp only [evP, bind_some'] at he
  obtain ⟨els, h1, h2⟩ := he
  obtain ⟨i, z, h3, h4, h5, h6⟩ := zeroOf_sound hz
  have hzz : ∃ zc : Array Value, (k * sz = 0 → zc = #[]) ∧ (k * sz ≠ 0 → zc = z.cells) ∧ Flat c sz (List.replicate k zs) ((Array.range (k * sz)).map fun q => zc[q % zc.size]!).toList := by
    by_cases hk : k * sz = 0
    · have : k = 0 := by rcases Nat.mul_eq_zero.1 hk with h | h <;> omega
      subst this
      exact ⟨#[], fun _ => rfl, fun h => absurd hk h, by simpa using Flat.nil c sz⟩
    · refine ⟨z.cells, fun h => absurd h hk, fun _ => rfl, ?_⟩
      have := flat_zero (c := c) h5 (by omega) (h6 c) k (k * sz) (by rw [hzl])
      rwa [hzl] at this
  obtain ⟨zc, hz1, hz2, hflat⟩ := hzz
  obtain ⟨cells, f1, f2, f3⟩ := fillS_sound h ha hpos hps h1 hflat
  have hlen : els.length = k := by rw [f3]; simp
  have hcs : cells.size = k * sz := by have := f2.size; rw [hlen] at this; simpa using this
  have hrun : (execOp a.eval o).run P c.w = .ok (.value (.slice (some ⟨c.w.heap.size, 0, none⟩) k k)) (c.w.alloc (.cells cells e (0, 0))) := by
    have hzc : (if k * sz = 0 then pure #[] else do pure (← zeroValue e).cells : Sem (Array Value)).run P c.w = .ok zc c.w := by
      by_cases hk : k * sz = 0
      · rw [if_pos hk, hz1 hk]; rfl
      · rw [if_neg hk, hz2 hk]; simp [zeroValue, typeInfo, h3, h4]
    have hr := run_bsl (P := P) (parts := parts.map fun (p : Nat × Operand) => (p.1, a.eval p.2)) hu hsz (by omega) hzc (by simpa using f1)
    have e1 : (execOp a.eval o) = (do pure (.value (← Instr.buildSlice t k (parts.map fun (p : Nat × Operand) => (p.1, a.eval p.2))))) := by
      simp only [execOp, ho]
    rw [e1]
    simp only [Sem.run_bind, hr, Result.andThen_ok, Sem.run_pure]
  have hcont : ∀ (i : Nat) (cs : List AV) (j : Nat) (v : AV), els[i]? = some cs → cs[j]? = some v → ∃ y, cells[i * sz + j]? = some y ∧ VR c v y ∧ y.oneCell' = true := by
    intro i cs j v hi hj
    obtain ⟨y, e1, e2, e3⟩ := f2.cont i cs j v hi hj
    exact ⟨y, by simpa using e1, e2, e3⟩
  split at h2
  · simp only [Option.some.injEq, Prod.mk.injEq] at h2
    obtain ⟨rfl, rfl⟩ := h2
    obtain ⟨hs, hev⟩ := h.sim.world (X := fun _ => False) (w' := c.w.alloc (.cells cells e (0, 0))) rfl rfl rfl (by simp) (fun b hb => hb.elim) (fun b hb _ => Go.heap_alloc_old c.w _ hb)
    refine ⟨⟨c.β, c.σ, c.w.alloc (.cells cells e (0, 0))⟩, γ, _, .inl hrun, rfl, h.next hs hev, ?_⟩
    have hlt : ∀ b, Own c b → b < c.w.heap.size := by
      rintro b ⟨r, row, q1, q2, rfl⟩
      exact h.sim.lt q1 (h.sim.notro q1 q2)
    refine ⟨c.w.heap.size, cells, e, sz, by rw [hlen], heap_alloc_new _ _, fun hown => ?_, fun q hq => ?_, fun i cs hi => ⟨f2.len i cs hi, fun j v hj => ?_⟩⟩
    · have := hlt _ hown; omega
    · obtain ⟨cs', hcs'⟩ := Option.isSome_iff_exists.1 hq
      have := (h.boxes q cs' hcs').2.lt
      omega
    · obtain ⟨y, e1, e2, e3⟩ := hcont i cs j v hi hj
      exact ⟨y, e1, VR_mono hev.le _ _ e2, e3⟩
  · simp only [Option.some.injEq, Prod.mk.injEq] at h2
    obtain ⟨rfl, rfl⟩ := h2
    obtain ⟨c', e1, e2, e3, e4, e5⟩ := h.rowNew (els := els) (sz := sz) (xs := cells) (ty := e) (fz := (0, 0)) (w' := c.w.alloc (.cells cells e (0, 0))) hpos f2.len (by rw [hcs, hlen]; exact Nat.le_refl _) hcont rfl rfl rfl rfl (.inl (Nat.le_refl _))
    refine ⟨c', γ, _, .inl (by rw [e1]; exact hrun), e2, e5, ?_⟩
    simp only [RR, VR]
    refine ⟨_, _, rfl, Nat.le_refl _, ⟨els, sz, 0, .own⟩, by rw [e2]; simp, Nat.le_refl _, fun _ _ => ?_⟩
    rw [e3, e1, e4, hcs]
    exact ⟨by simp, fun _ => by simp⟩

theorem s_mks (h : FI base c0 n c γ g bx tmps) (ha : a.tmps = tmps) {t e : TypeId} {i : TypeInfo} {zs : List AV} {x y : Operand} {xo yo : XO} (ho : o.op = .makeSlice t x y) (hu : P.underlying t = some (.slice e)) (hi : P.info? e = some i) (hz : zeroOf P e = some zs) (hpos : 0 < i.size) (hzl : zs.length = i.size) (hx : cO x = some xo) (hy : cO y = some yo)
    {rv : RV} {M' : Mem} (he : evP g ⟨bx, c.σ⟩ (.mks i.size i.bytes zs xo yo) = some (rv, M')) : OpRes P base c0 n c g tmps a o rv M' := by
  simp only [evP, bind_some'] at he
  obtain ⟨av, h1, bv, h2, h3⟩ := he
  have hv := opndv h ha hx h1
  have hw := opndv h ha hy h2
  obtain ⟨i', z, h4, h5, h6, h7⟩ := zeroOf_sound hz
  rw [hi] at h4; cases h4
  cases av with
  | int k1 p =>
    cases bv with
    | int k2 q =>
      cases k1 <;> (try simp only [reduceCtorEq] at h3)
      cases k2 <;> (try simp only [reduceCtorEq] at h3)
      split at h3
      · rename_i hc
        simp only [Option.some.injEq, Prod.mk.injEq] at h3
        obtain ⟨rfl, rfl⟩ := h3
        simp only [VR] at hv hw
        have hb : (i.bytes : Int) * q ≤ 281474976710656 := by rw [Int.mul_comm]; omega
        have hr := run_make (P := P) c.w t e i z hu hi h5 .i64 .i64 p q hc.1 hc.2.1 hb (by omega)
        have hmade : madeCells z.cells (q.toNat * i.size) = (Array.range (q.toNat * i.size)).map fun j => z.cells[j % z.cells.size]! := rfl
        rw [hmade] at hr
        have hfl := flat_zero (c := c) h6 (by omega) (h7 c) q.toNat (q.toNat * i.size) (by rw [hzl])
        rw [hzl] at hfl
        have hpq : p.toNat ≤ q.toNat := by omega
        have hsz : ((Array.range (q.toNat * i.size)).map fun j => z.cells[j % z.cells.size]!).size = q.toNat * i.size := by simp
        have hrep : ∀ (j : Nat) (cs : List AV), (List.replicate p.toNat zs)[j]? = some cs → (List.replicate q.toNat zs)[j]? = some cs := by
          intro j cs hj
          rw [List.getElem?_replicate] at hj ⊢
          split at hj
          · rw [if_pos (by omega)]; exact hj
          · simp at hj
        obtain ⟨c', e1, e2, e3, e4, e5⟩ := h.rowNew (els := List.replicate p.toNat zs) (sz := i.size) (xs := (Array.range (q.toNat * i.size)).map fun j => z.cells[j % z.cells.size]!) (ty := e) (fz := (0, 0)) hpos
          (fun j cs hj => hfl.len j cs (hrep j cs hj)) (by rw [hsz]; simp only [List.length_replicate]; exact Nat.mul_le_mul_right _ hpq)
          (fun j cs l v hj hl => by
            obtain ⟨y, s1, s2, s3⟩ := hfl.cont j cs l v (hrep j cs hj) hl
            exact ⟨y, by rw [Array.getElem?_toList] at s1; exact s1, s2, s3⟩) (w' := c.w.alloc (.cells ((Array.range (q.toNat * i.size)).map fun j => z.cells[j % z.cells.size]!) e (0, 0))) rfl rfl rfl rfl (.inl (Nat.le_refl _))
        refine ⟨c', γ, .slice (some ⟨c.w.heap.size, 0, none⟩) p.toNat q.toNat, .inl ?_, e2, e5, ?_⟩
        · rw [e1]
          simp only [execOp, ho, hv, hw, Sem.run_bind, hr, Result.andThen_ok, Sem.run_pure]
        · simp only [RR, VR]
          refine ⟨_, _, rfl, hpq, ⟨List.replicate p.toNat zs, i.size, 0, .own⟩, by rw [e2]; simp, Nat.le_refl _, fun _ _ => ?_⟩
          rw [e3, e1, e4, hsz]
          exact ⟨by simp, fun _ => by simp⟩
      · simp at h3
    | _ => simp at h3
  | _ => simp at h3

theorem s_s2b (h : FI base c0 n c γ g bx tmps) (ha : a.tmps = tmps) {s d e : TypeId} {x : Operand} {xo : XO} (ho : o.op = .convert s d x) (hs : P.underlying s = some .string) (hd : P.underlying d = some (.slice e)) (hu : P.underlying e = some (.int .u8)) (hsz : szOf P e = some 1) (hx : cO x = some xo)
    {rv : RV} {M' : Mem} (he : evP g ⟨bx, c.σ⟩ (.s2b xo) = some (rv, M')) : OpRes P base c0 n c g tmps a o rv M' := by
  simp only [evP, bind_some'] at he
  obtain ⟨av, h1, h3⟩ := he
  have hv := opndv h ha hx h1
  cases av with
  | str l =>
    simp only [Option.some.injEq, Prod.mk.injEq] at h3
    obtain ⟨rfl, rfl⟩ := h3
    simp only [VR] at hv
    obtain ⟨b, ex, rfl⟩ := hv
    have hbl : b.data.toList.length = b.size := by rw [Array.length_toList]; rfl
    have hrun : (execOp a.eval o).run P c.w = .ok (.value (.slice (some ⟨c.w.heap.size, 0, none⟩) b.size (grownCap c.w b.size 0 e))) (Lib.bytesWorld c.w e b) := by
      simp [execOp, ho, ex, Lib.run_convert_string_bytes c.w s d e b hs hd hu]
    have hcap := grownCap_ge c.w b.size 0 e
    have hds : b.data.size = b.size := rfl
    have hblk : (Lib.bytesCells c.w e b).size = grownCap c.w b.size 0 e := by
      simp only [Lib.bytesCells, Array.size_append, Array.size_map, Array.size_replicate, hds]; omega
    have hheap : (Lib.bytesWorld c.w e b).heap = c.w.heap.push (.cells (Lib.bytesCells c.w e b) e ((Lib.bytesCells c.w e b).size, (Lib.bytesCells c.w e b).size + 1)) := by
      apply Array.ext_getElem?
      intro q
      rcases Nat.lt_trichotomy q c.w.heap.size with hlt | heq | hgt
      · rw [Lib.bytesWorld_at_old c.w e b q hlt, Array.getElem?_push, if_neg (by omega)]
      · subst heq; rw [Lib.bytesWorld_at_new]; simp
      · rw [Array.getElem?_eq_none (by rw [Lib.bytesWorld_size]; omega), Array.getElem?_eq_none (by simp; omega)]
    obtain ⟨c', e1, e2, e3, e4, e5⟩ := h.rowNew (els := b.data.toList.map fun q => [AV.int .u8 (q.toNat : Nat)]) (sz := 1) (xs := Lib.bytesCells c.w e b) (ty := e) (w' := Lib.bytesWorld c.w e b) (by omega)
      (fun i cs hi => by
        rw [List.getElem?_map] at hi
        cases hq : b.data.toList[i]? with
        | none => simp [hq] at hi
        | some q => simp [hq] at hi; rw [← hi]; rfl)
      (by rw [hblk]; simp only [List.length_map, hbl, Nat.mul_one]; exact hcap)
      (fun i cs j v hi hj => by
        rw [List.getElem?_map] at hi
        cases hq : b.data.toList[i]? with
        | none => simp [hq] at hi
        | some q =>
          simp [hq] at hi
          subst hi
          cases j with
          | succ j => simp at hj
          | zero =>
            simp at hj
            subst hj
            refine ⟨.int .u8 (q.toNat : Nat), ?_, by simp [VR], rfl⟩
            have hlt := (List.getElem?_eq_some_iff.1 hq).1
            rw [hbl] at hlt
            have hlt' : i < b.data.size := hlt
            have hq' : b.data[i]? = some q := by simpa using hq
            simp only [Lib.bytesCells, Nat.mul_one, Nat.add_zero]
            rw [Array.getElem?_append_left (by simpa using hlt')]
            simp [hq'])
      hheap rfl rfl rfl (.inr (Nat.le_refl _))
    refine ⟨c', γ, _, .inl (by rw [e1]; exact hrun), e2, e5, ?_⟩
    simp only [RR, VR]
    refine ⟨_, _, by rw [hbl], by rw [hbl]; exact hcap, ⟨b.data.toList.map fun q => [AV.int .u8 (q.toNat : Nat)], 1, 0, .own⟩, by rw [e2]; simp, Nat.le_refl _, fun _ _ => ?_⟩
    rw [e3, e1, e4, hblk]
    exact ⟨by simp, fun _ => by simp⟩
  | _ => simp at h3

theorem foldl_push (ns : List Int) : ∀ s : ByteArray, (ns.foldl (fun r n => r.push (UInt8.ofNat n.toNat)) s).data.toList = s.data.toList ++ ns.map fun n => UInt8.ofNat n.toNat := by
  induction ns with
  | nil => intro s; simp
  | cons n ns ih => intro s; rw [List.foldl_cons, ih]; simp

theorem s_b2s (h : FI base c0 n c γ g bx tmps) (ha : a.tmps = tmps) {s d e : TypeId} {x : Operand} {xo : XO} (ho : o.op = .convert s d x) (hs : P.underlying s = some (.slice e)) (hd : P.underlying d = some .string) (hu : P.underlying e = some (.int .u8)) (hx : cO x = some xo)
    {rv : RV} {M' : Mem} (he : evP g ⟨bx, c.σ⟩ (.b2s xo) = some (rv, M')) : OpRes P base c0 n c g tmps a o rv M' := by
  simp only [evP, bind_some', Option.some.injEq, Prod.mk.injEq] at he
  obtain ⟨r, h1, els, h2, l, h3, rfl, rfl⟩ := he
  have hr := opnd h ha hx h1
  rcases els_lies h hr h2 with ⟨hy, rfl⟩ | ⟨ad, cap, xs, hy, hf, hc⟩
  · simp only [allSome, Option.some.injEq] at h3
    subst h3
    refine OpRes.same h (y := .string .empty) ?_ (by simp only [RR, VR]; exact ⟨_, rfl, rfl⟩)
    simp [execOp, ho, hy, convert, run_underlying hs, run_underlying hd, run_underlying hu, Conv.bytesToString]
  · obtain ⟨hl, hg⟩ := allSome_get h3
    -- the numbers
    have hns : ∃ ns : List Int, xs = ns.map (Value.int .u8) ∧ l = ns.map fun n => UInt8.ofNat n.toNat := by
      refine ⟨xs.map fun v => match v with | .int _ q => q | _ => 0, ?_, ?_⟩
      · apply List.ext_getElem?
        intro j
        rw [List.getElem?_map, List.getElem?_map]
        cases hj : xs[j]? with
        | none => rfl
        | some v =>
          have hlt := (List.getElem?_eq_some_iff.1 hj).1
          rw [hf.size, Nat.mul_one, hl] at hlt
          obtain ⟨cs, k1, k2⟩ := hg j _ (List.getElem?_eq_getElem hlt)
          unfold byteOfCell at k2
          split at k2
          · rename_i q
            obtain ⟨y, k3, k4, _⟩ := hf.cont j _ 0 _ k1 rfl
            simp only [Nat.mul_one, Nat.add_zero] at k3
            rw [hj] at k3; cases k3
            simp only [VR] at k4
            subst k4
            rfl
          · simp at k2
      · apply List.ext_getElem?
        intro j
        rw [List.getElem?_map, List.getElem?_map]
        cases hj : l[j]? with
        | none =>
          have hge : l.length ≤ j := by simpa using hj
          have : xs[j]? = none := by rw [List.getElem?_eq_none_iff, hf.size, Nat.mul_one, hl]; exact hge
          rw [this]; rfl
        | some q =>
          obtain ⟨cs, k1, k2⟩ := hg j q hj
          unfold byteOfCell at k2
          split at k2
          · rename_i p
            obtain ⟨y, k3, k4, _⟩ := hf.cont j _ 0 _ k1 rfl
            simp only [Nat.mul_one, Nat.add_zero] at k3
            rw [k3]
            simp only [VR] at k4
            subst k4
            simpa using k2.symm
          · simp at k2
    obtain ⟨ns, rfl, rfl⟩ := hns
    have hload := run_loadCells_list (P := P) c.w ad (ns.map (Value.int .u8)) hc
    have hlen : (ns.map (Value.int .u8)).length = els.length := by rw [hf.size, Nat.mul_one]
    rw [hlen] at hload
    have hrun := run_bytesToString (P := P) c.w ad els.length cap ns hload
    refine OpRes.same h ?_ (rv := .v (.str _)) (y := .string (ns.foldl (fun r n => r.push (UInt8.ofNat n.toNat)) ByteArray.empty)) ?_
    · simp [execOp, ho, hy, convert, run_underlying hs, run_underlying hd, run_underlying hu, hrun]
    · simp only [RR, VR]
      exact ⟨_, rfl, by rw [foldl_push]; rfl⟩

end
end Go.X

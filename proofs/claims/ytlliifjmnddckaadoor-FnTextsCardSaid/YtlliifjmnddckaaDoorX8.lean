/- GoX, part 8: slices: what a slice's elements are in memory; append, literals, byte conversions, make, struct literals. No statement of the seat is here. -/
import Derived.Test.YtlliifjmnddckaaDoorX7
set_option linter.unusedVariables false
set_option linter.unusedSimpArgs false
namespace Go.X
open Go

/-- Cells xs are the elements els, sz cells each. -/
structure Flat (c : Ctx) (sz : Nat) (els : List (List AV)) (xs : List Value) : Prop where
  len : ∀ (i : Nat) (cs : List AV), els[i]? = some cs → cs.length = sz
  size : xs.length = els.length * sz
  cont : ∀ (i : Nat) (cs : List AV) (j : Nat) (v : AV), els[i]? = some cs → cs[j]? = some v → ∃ y, xs[i * sz + j]? = some y ∧ VR c v y ∧ y.oneCell' = true

theorem Flat.one {c : Ctx} {sz : Nat} {els : List (List AV)} {xs : List Value} (h : Flat c sz els xs) : ∀ y ∈ xs, y.oneCell' = true := by
  intro y hy
  obtain ⟨k, hk, rfl⟩ := List.getElem_of_mem hy
  rw [h.size] at hk
  by_cases hs : sz = 0
  · subst hs; simp at hk
  · have hi : k / sz < els.length := by rw [Nat.div_lt_iff_lt_mul (by omega)]; exact hk
    have hg := List.getElem?_eq_getElem hi
    have hl := h.len _ _ hg
    have hj : k % sz < els[k / sz].length := by rw [hl]; exact Nat.mod_lt _ (by omega)
    obtain ⟨y, h1, h2, h3⟩ := h.cont _ _ (k % sz) _ hg (List.getElem?_eq_getElem hj)
    rw [Nat.div_add_mod' k sz] at h1
    have := (List.getElem?_eq_some_iff.1 h1).2
    rw [this]
    exact h3

theorem Flat.nil (c : Ctx) (sz : Nat) : Flat c sz [] [] := ⟨by simp, by simp, by simp⟩

theorem Flat.append {c : Ctx} {sz : Nat} {els els' : List (List AV)} {xs xs' : List Value} (h : Flat c sz els xs) (h' : Flat c sz els' xs') : Flat c sz (els ++ els') (xs ++ xs') := by
  refine ⟨?_, by simp [h.size, h'.size, Nat.add_mul], ?_⟩
  · intro i cs hi
    rcases Nat.lt_or_ge i els.length with hlt | hge
    · rw [List.getElem?_append_left hlt] at hi; exact h.len i cs hi
    · rw [List.getElem?_append_right hge] at hi; exact h'.len _ cs hi
  · intro i cs j v hi hj
    rcases Nat.lt_or_ge i els.length with hlt | hge
    · rw [List.getElem?_append_left hlt] at hi
      obtain ⟨y, h1, h2, h3⟩ := h.cont i cs j v hi hj
      exact ⟨y, by rw [List.getElem?_append_left (List.getElem?_eq_some_iff.1 h1).1]; exact h1, h2, h3⟩
    · rw [List.getElem?_append_right hge] at hi
      obtain ⟨y, h1, h2, h3⟩ := h'.cont _ cs j v hi hj
      refine ⟨y, ?_, h2, h3⟩
      have e : i * sz + j = xs.length + ((i - els.length) * sz + j) := by
        rw [h.size]
        have : i * sz = els.length * sz + (i - els.length) * sz := by rw [← Nat.add_mul]; congr 1; omega
        omega
      rw [e, List.getElem?_append_right (by omega)]
      rw [show xs.length + ((i - els.length) * sz + j) - xs.length = (i - els.length) * sz + j by omega]
      exact h1

theorem Flat.mono {c c' : Ctx} (hle : CtxLe c c') {sz : Nat} {els : List (List AV)} {xs : List Value} (h : Flat c sz els xs) : Flat c' sz els xs :=
  ⟨h.len, h.size, fun i cs j v hi hj => let ⟨y, h1, h2, h3⟩ := h.cont i cs j v hi hj; ⟨y, h1, VR_mono hle _ _ h2, h3⟩⟩

section
variable {P : Program} {base : Nat} {c0 : Ctx} {n : Nat} {c : Ctx} {γ : Nat → Nat} {g : Regs} {bx : Boxes} {tmps : Array Value} {a : Act} {o : Oper}

/-- Elements that lie in a row, as values. -/
theorem RowOk.values {r : Nat} {row : Row} (h : RowOk base c r row) (i m : Nat) (him : i + m ≤ row.els.length) :
    ∃ xs, Flat c row.sz ((row.els.drop i).take m) xs ∧ ∀ (j : Nat) (x : Value), xs[j]? = some x → c.w.cell? ⟨(c.β r).1, (c.β r).2 + i * row.sz + j, none⟩ = some x := by
  induction m generalizing i with
  | zero => exact ⟨[], by simpa using Flat.nil c row.sz, by simp⟩
  | succ m ih =>
    obtain ⟨xs, h1, h2⟩ := ih (i + 1) (by omega)
    have hi : i < row.els.length := by omega
    have hg := List.getElem?_eq_getElem hi
    have hlies : Lies c (c.β r).1 ((c.β r).2 + i * row.sz) row.els[i] := fun j v hj => h.cells i _ j v hg hj
    obtain ⟨ys, k1, k2, k3, k4⟩ := hlies.values
    have hl := h.len i _ hg
    have hf : Flat c row.sz [row.els[i]] ys := by
      refine ⟨?_, by simp [k1, hl], ?_⟩
      · intro q cs hq
        cases q with
        | zero => simp at hq; subst hq; exact hl
        | succ q => simp at hq
      · intro q cs j v hq hj
        cases q with
        | zero =>
          simp at hq; subst hq
          obtain ⟨y, e1, e2⟩ := VRs_get k2 hj
          exact ⟨y, by simpa using e1, e2, k3 y (List.mem_of_getElem? e1)⟩
        | succ q => simp at hq
    refine ⟨ys ++ xs, ?_, ?_⟩
    · rw [List.drop_eq_getElem_cons hi, List.take_succ_cons]
      exact hf.append h1
    · intro j x hx
      rcases Nat.lt_or_ge j ys.length with hlt | hge
      · rw [List.getElem?_append_left hlt] at hx
        exact k4 j x hx
      · rw [List.getElem?_append_right hge] at hx
        have := h2 _ x hx
        rw [Nat.add_mul, Nat.one_mul] at this
        rw [k1, hl] at this hge
        rwa [show (c.β r).2 + (i * row.sz + row.sz) + (j - row.sz) = (c.β r).2 + i * row.sz + j by omega] at this

/-- What a slice's elements are in memory. -/
theorem els_lies (h : FI base c0 n c γ g bx tmps) {rv : RV} {y : Value} (hr : RR c γ bx rv y) {sz : Nat} {els : List (List AV)} (he : elsOf ⟨bx, c.σ⟩ sz rv = some els) :
    (y = .slice none 0 0 ∧ els = []) ∨ ∃ ad cap xs, y = .slice (some ad) els.length cap ∧ Flat c sz els xs ∧ ∀ (j : Nat) (x : Value), xs[j]? = some x → c.w.cell? (ad.add j) = some x := by
  cases rv with
  | v av =>
    cases av with
    | nilsl =>
      simp only [elsOf, Option.some.injEq] at he
      simp only [RR, VR] at hr
      exact .inl ⟨hr, he.symm⟩
    | sl r v i m =>
      simp only [elsOf, rowAt, bind_some'] at he
      obtain ⟨row, ⟨row', k1, k2⟩, k3⟩ := he
      split at k2
      · rename_i hver
        cases k2
        split at k3
        · rename_i hc
          simp only [Option.some.injEq] at k3
          simp only [RR, VR] at hr
          obtain ⟨ad, cap, e, hn, row2, j1, j2, j3⟩ := hr
          rw [k1] at j1; cases j1
          obtain ⟨xs, h1, h2⟩ := (h.sim.rows r row k1).values i m hc.2
          have hl : els.length = m := by rw [← k3, List.length_take, List.length_drop]; omega
          rw [hc.1] at h1 h2
          refine .inr ⟨ad, cap, xs, by rw [hl]; exact e, by rw [← k3]; exact h1, ?_⟩
          intro j x hx
          have hcap : cap ≠ 0 := by
            intro e0
            have : m = 0 := by omega
            subst this
            have := h1.size
            simp at this
            subst this
            simp at hx
          obtain ⟨e2, _⟩ := j3 hver.1.symm hcap
          rw [e2, Addr.add_lit, hc.1]
          exact h2 j x hx
        · simp at k3
      · simp at k2
    | _ => simp [elsOf] at he
  | lp t k => simp [elsOf] at he
  | ls l =>
    simp only [elsOf] at he
    split at he
    · rename_i hall
      simp only [Option.some.injEq] at he
      subst he
      obtain ⟨b, xs, ty, sz', e, hb, _, _, hc⟩ := hr
      by_cases hemp : l = []
      · subst hemp
        exact .inr ⟨_, _, [], e, Flat.nil c sz, by simp⟩
      · have hsz : sz' = sz := by
          obtain ⟨e0, l', rfl⟩ := List.exists_cons_of_ne_nil hemp
          have := (hc 0 e0 rfl).1
          simp at hall
          rw [← this]; exact hall.1
        subst hsz
        -- the cells, one by one
        have hget : ∀ k, k < l.length * sz' → ∃ y, xs[k]? = some y := by
          intro k hk
          by_cases hs : sz' = 0
          · subst hs; simp at hk
          · have hi : k / sz' < l.length := by rw [Nat.div_lt_iff_lt_mul (by omega)]; exact hk
            have hg := List.getElem?_eq_getElem hi
            obtain ⟨hl, h2⟩ := hc _ _ hg
            have hj : k % sz' < l[k / sz'].length := by rw [hl]; exact Nat.mod_lt _ (by omega)
            obtain ⟨y, h1, _⟩ := h2 (k % sz') _ (List.getElem?_eq_getElem hj)
            rw [Nat.div_add_mod' k sz'] at h1
            exact ⟨y, h1⟩
        have hlen : l.length * sz' ≤ xs.size := by
          by_cases h0 : l.length * sz' = 0
          · omega
          · obtain ⟨y, hy⟩ := hget (l.length * sz' - 1) (by omega)
            have := (Array.getElem?_eq_some_iff.1 hy).1
            omega
        refine .inr ⟨_, _, xs.toList.take (l.length * sz'), e, ⟨fun i cs hi => (hc i cs hi).1, by simp; omega, ?_⟩, ?_⟩
        · intro i cs j v hi hj
          obtain ⟨hl, h2⟩ := hc i cs hi
          obtain ⟨y, h3, h4, h5⟩ := h2 j v hj
          refine ⟨y, ?_, h4, h5⟩
          rw [List.getElem?_take, if_pos]
          · simpa using h3
          · have hi' := (List.getElem?_eq_some_iff.1 hi).1
            have hj' := (List.getElem?_eq_some_iff.1 hj).1
            rw [hl] at hj'
            have : (i + 1) * sz' ≤ l.length * sz' := Nat.mul_le_mul_right _ hi'
            rw [Nat.add_mul, Nat.one_mul] at this
            omega
        · intro j x hx
          rw [List.getElem?_take] at hx
          split at hx
          · rw [Addr.add_lit]
            simp [World.cell?, hb]
            simpa using hx
          · simp at hx
    · simp at he

theorem Src.of_els (h : FI base c0 n c γ g bx tmps) {rv : RV} {y : Value} (hr : RR c γ bx rv y) {sz : Nat} {els : List (List AV)} (he : elsOf ⟨bx, c.σ⟩ sz rv = some els) {tx e' : TypeId} (hk : P.underlying tx = some (.slice e')) :
    ∃ xs, Flat c sz els xs ∧ Src P sz tx y els.length xs c.w := by
  rcases els_lies h hr he with ⟨rfl, rfl⟩ | ⟨ad, cap, xs, rfl, h1, h2⟩
  · exact ⟨[], Flat.nil c sz, Src.ofNil c.w hk 0⟩
  · exact ⟨xs, h1, Src.ofSlice c.w hk ad _ cap xs h1.size h2 h1.one⟩

theorem cells_zero (z : Array Value) (k : Nat) : (Builtin.zeroCells z k).size = k * z.size := by simp [Builtin.zeroCells]

theorem s_app (h : FI base c0 n c γ g bx tmps) (ha : a.tmps = tmps) {t u e e' : TypeId} {i : TypeInfo} {z : Value} {x y : Operand} {xo yo : XO} {ts : Array TypeId} {as : Array Operand} (ho : o.op = .call { callee := .builtin .append, args := as, argTypes := ts }) (has : as.toList = [x, y]) (hts : ts.toList = [t, u])
    (ht : P.underlying t = some (.slice e)) (hu : P.underlying u = some (.slice e')) (hi : P.info? e = some i) (hz : i.zero = some z) (hsz : i.size = z.cells.size) (hpos : 0 < i.size) (hby : 0 < i.bytes) (hx : cO x = some xo) (hy : cO y = some yo) {rv : RV} {M' : Mem}
    (he : evP g ⟨bx, c.σ⟩ (.app i.size i.bytes xo yo) = some (rv, M')) : OpRes P base c0 n c g tmps a o rv M' := by
  simp only [evP, bind_some'] at he
  obtain ⟨av, h1, bv, h2, ys, h3, h4⟩ := he
  have hv := opndv h ha hx h1
  have hw := opnd h ha hy h2
  obtain ⟨news, hfl, hsrc⟩ := Src.of_els (P := P) h hw h3 hu
  have hexec : ∀ (v' : Value) (w' : World), (Builtin.append_ #[t, u] o.type #[a.eval x, a.eval y]).run P c.w = .ok v' w' → (execOp a.eval o).run P c.w = .ok (.value v') w' := by
    intro v' w' hr
    have e1 : as = #[x, y] := by apply Array.ext'; simpa using has
    have e2 : ts = #[t, u] := by apply Array.ext'; simpa using hts
    subst e1; subst e2
    simp [execOp, ho, resolve, invoke, builtin, hr]
  have hplain : ∀ (w : World) (ob : Obj), (w.drew.alloc ob).heap = w.heap.push ob := fun _ _ => rfl
  have bnd : ∀ k, k * i.bytes ≤ 140737488355328 → (k : Int) ≤ 9223372036854775807 := by
    intro k hk
    have : k ≤ k * i.bytes := Nat.le_mul_of_pos_right _ hby
    omega
  cases av with
  | nilsl =>
    simp only at h4
    split at h4
    · rename_i hb
      simp only [VR] at hv
      cases ys with
      | nil =>
        simp only [Option.some.injEq, Prod.mk.injEq] at h4
        obtain ⟨rfl, rfl⟩ := h4
        refine OpRes.same h (y := .slice none 0 0) (hexec _ _ ?_) (by simp only [RR, VR])
        have hn : news = [] := by have := hfl.size; simpa using this
        subst hn
        have hk := hsrc.cells
        simp only [List.length_nil] at hk
        simp [Builtin.append_, run_underlying ht, run_underlying hu, sizeOf, typeInfo, hi, hv, hsrc.len, hk]
      | cons y0 ys0 =>
        simp only [Option.some.injEq, Prod.mk.injEq] at h4
        obtain ⟨rfl, rfl⟩ := h4
        have hr := run_append_grow_src (P := P) c.w t u o.type e i z ht hi hz none 0 0 [] (run_firstCells_none c.w.drew i.size 0 0 0) (a.eval y) _ news hsrc (by simp) (by have := bnd _ hb; simpa using this) (by
          refine growslice_fits (by simp) ?_
          simpa using hb)
        rw [← hv] at hr
        have hcap := grownCap_ge c.w (0 + (y0 :: ys0).length) 0 e
        have hws : ((([] : List Value) ++ news).toArray ++ Builtin.zeroCells z.cells (grownCap c.w (0 + (y0 :: ys0).length) 0 e - (0 + (y0 :: ys0).length))).size = grownCap c.w (0 + (y0 :: ys0).length) 0 e * i.size := by
          simp only [Array.size_append, List.nil_append, List.size_toArray, cells_zero, hfl.size, ← hsz, ← Nat.add_mul]
          congr 1
          omega
        obtain ⟨c', e1, e2, e3, e4, e5⟩ := h.rowNew (els := y0 :: ys0) (sz := i.size) (ty := e) (fz := (0, 0)) hpos hfl.len (by
            rw [hws]; exact Nat.mul_le_mul_right _ (by omega)) (fun q cs j v hq hj => by
            obtain ⟨w1, k1, k2, k3⟩ := hfl.cont q cs j v hq hj
            refine ⟨w1, ?_, k2, k3⟩
            have hlt := (List.getElem?_eq_some_iff.1 k1).1
            rw [Array.getElem?_append_left (by simpa using hlt)]
            simpa using k1) (hplain c.w _) rfl rfl rfl (.inl (Nat.le_refl _))
        refine ⟨c', γ, _, .inl (by rw [e1]; exact hexec _ _ hr), e2, e5, ?_⟩
        simp only [RR, VR]
        have hcap' := grownCap_ge c.w (y0 :: ys0).length 0 e
        refine ⟨_, _, by rw [Nat.zero_add], hcap', ⟨y0 :: ys0, i.size, 0, .own⟩, by rw [e2]; simp, Nat.le_refl _, fun _ _ => ?_⟩
        rw [e3, e1]
        refine ⟨by simp, fun _ => ?_⟩
        rw [e4, hws]
        simp
    · simp at h4
  | sl r v k m =>
    simp only [rowAt, bind_some'] at h4
    obtain ⟨row, ⟨row', k1, k2⟩, h5⟩ := h4
    split at k2
    · rename_i hver
      cases k2
      split at h5
      · rename_i hc
        obtain ⟨hown, hrs, hkm, hbytes⟩ := hc
        simp only [Option.some.injEq, Prod.mk.injEq] at h5
        obtain ⟨rfl, rfl⟩ := h5
        simp only [VR] at hv
        obtain ⟨ad, cap, ex, hmc, row2, j1, j2, j3⟩ := hv
        rw [k1] at j1; cases j1
        have hro := h.sim.rows r row k1
        obtain ⟨o1, o2, o3, o4⟩ := hro.own hown
        obtain ⟨olds, f1, f2⟩ := hro.values k m hkm
        rw [hrs] at f1 f2
        have hfl1 := f1.append hfl
        have hlen1 : ((row.els.drop k).take m).length = m := by rw [List.length_take, List.length_drop]; omega
        by_cases hroom : m + ys.length ≤ cap
        · -- in place
          by_cases hcap : cap = 0
          · -- nothing at all
            have hm0 : m = 0 := by omega
            have hy0 : ys = [] := List.eq_nil_of_length_eq_zero (by omega)
            subst hm0; subst hy0; subst hcap
            have hn : news = [] := by have := hfl.size; simpa using this
            subst hn
            have hk := hsrc.cells
            simp only [List.length_nil] at hk
            have hr : (Builtin.append_ #[t, u] o.type #[a.eval x, a.eval y]).run P c.w = .ok (.slice (some ad) 0 0) c.w := by
              simp [Builtin.append_, run_underlying ht, run_underlying hu, sizeOf, typeInfo, hi, ex, hsrc.len, hk, storeCells]
            let row' : Row := { row with els := (row.els.drop k).take 0 ++ [], ver := v + 1 }
            let c' : Ctx := ⟨c.β, c.σ.set r row', c.w⟩
            obtain ⟨hs, hev⟩ := h.sim.upd (c' := c') r row row' k1 rfl hown hown rfl (by simp [row']; omega) (fun _ _ => rfl) (fun _ => ⟨rfl, rfl⟩) rfl rfl rfl (Nat.le_refl _) (fun _ _ _ => rfl) (.inl rfl) (fun hle => by
              refine ⟨hro.pos, by simp [row'], by simp [row'], hver.2, by simp [row', hown], fun _ => ⟨o1, o2, by simp [row', c']; omega, o4⟩⟩) (fun _ => False)
            refine ⟨c', γ, _, .inl (hexec _ _ hr), rfl, h.next hs hev, ?_⟩
            simp only [RR, VR]
            have hlt : r < c.σ.length := (List.getElem?_eq_some_iff.1 k1).1
            exact ⟨ad, 0, rfl, Nat.le_refl _, row', by simp [c', hlt], Nat.le_refl _, fun _ h0 => absurd rfl h0⟩
          · obtain ⟨e2, e3⟩ := j3 hver.1.symm hcap
            have hcapsz := e3 hown
            subst e2
            rw [hrs] at hcapsz ex
            have hfit : (c.β r).2 + k * i.size + m * i.size + news.length ≤ wsize c.w (c.β r).1 := by
              rw [hfl.size]
              have : (m + ys.length) * i.size ≤ cap * i.size := Nat.mul_le_mul_right _ hroom
              rw [Nat.add_mul] at this
              rw [Nat.add_mul] at hcapsz
              omega
            have hr := run_append_room_src (P := P) c.w t u o.type e i ht hi (c.β r).1 ((c.β r).2 + k * i.size) m cap (a.eval y) ys.length news hsrc hroom (fun j hj => cell_some (by omega)) (fun j hj => o4 _ (by omega))
            rw [← ex] at hr
            let row' : Row := { row with els := (row.els.drop k).take m ++ ys, ver := v + 1 }
            let w' := c.w.setCells (c.β r).1 ((c.β r).2 + k * i.size + m * i.size) news
            let c' : Ctx := ⟨fun q => if q = r then ((c.β r).1, (c.β r).2 + k * i.size) else c.β q, c.σ.set r row', w'⟩
            have hβ : c'.β r = ((c.β r).1, (c.β r).2 + k * i.size) := by simp [c']
            obtain ⟨p1, p2, p3⟩ := plain_setCells (c.β r).1 news ((c.β r).2 + k * i.size + m * i.size) c.w
            have hlt : r < c.σ.length := (List.getElem?_eq_some_iff.1 k1).1
            obtain ⟨hs, hev⟩ := h.sim.upd (c' := c') r row row' k1 rfl hown hown rfl (by simp [row']; omega) (fun q hq => by simp [c', hq]) (fun e => by simp [row'] at e; omega) p1 p2 p3
              (by simp [c', w', size_setCells]) (fun b _ hb => heap_setCells_other _ _ hb _ _ _) (.inl (by rw [hβ])) (fun hle => by
              have hfl2 := hfl1.mono hle
              refine ⟨hro.pos, by rw [show row'.sz = i.size from hrs]; exact hfl1.len, ?_, hver.2, by simp [row', hown], fun _ => ?_⟩
              · intro q cs j v' hq hj
                rw [hβ]
                show ∃ y, w'.cell? ⟨(c.β r).1, (c.β r).2 + k * i.size + q * row.sz + j, none⟩ = some y ∧ VR c' v' y ∧ y.oneCell' = true
                rw [hrs]
                obtain ⟨y, s1, s2, s3⟩ := hfl2.cont q cs j v' hq hj
                refine ⟨y, ?_, s2, s3⟩
                simp only [w', cell_setCells hfit]
                have hol : olds.length = m * i.size := by rw [f1.size, hlen1]
                rcases Nat.lt_or_ge (q * i.size + j) olds.length with hlt' | hge
                · rw [List.getElem?_append_left hlt'] at s1
                  rw [if_neg (by omega)]
                  have := f2 _ y s1
                  rwa [show (c.β r).2 + k * i.size + (q * i.size + j) = (c.β r).2 + k * i.size + q * i.size + j by omega] at this
                · have hlt2 := (List.getElem?_eq_some_iff.1 s1).1
                  rw [List.length_append] at hlt2
                  rw [List.getElem?_append_right hge] at s1
                  rw [if_pos ⟨by omega, by omega⟩]
                  rw [← s1]
                  congr 1
                  omega
              · rw [hβ]
                refine ⟨o1, by simp only [c', w', size_setCells]; exact o2, ?_, ?_⟩
                · simp only [c', w', wsize_setCells]
                  show (c.β r).2 + k * i.size + ((row.els.drop k).take m ++ ys).length * row.sz ≤ wsize c.w (c.β r).1
                  rw [hrs, List.length_append, hlen1, Nat.add_mul]
                  rw [hfl.size] at hfit
                  omega
                · intro q hq
                  simp only [c', w', wsize_setCells] at hq
                  simp only [c', w', World.frozen?_setCells]
                  exact o4 q hq) (fun _ => False)
            refine ⟨c', γ, _, .inl (hexec _ _ hr), rfl, h.next hs hev, ?_⟩
            simp only [RR, VR]
            refine ⟨_, _, rfl, hroom, row', by simp [c', hlt], Nat.le_refl _, fun _ _ => ?_⟩
            rw [hβ]
            refine ⟨by simp, fun _ => ?_⟩
            simp only [c', w', wsize_setCells]
            show (c.β r).2 + k * i.size + (0 + cap) * row.sz ≤ wsize c.w (c.β r).1
            rw [hrs, Nat.zero_add]
            rw [Nat.add_mul] at hcapsz
            omega
        · -- a new block
          have hold : (Builtin.firstCells i.size m (.slice (some ad) m cap)).run P c.w.drew = .ok olds.toArray c.w.drew := by
            refine run_firstCells_some (P := P) c.w.drew i.size m ad m cap olds (by rw [f1.size, hlen1]) (fun j x hx => ?_)
            by_cases hcap : cap = 0
            · have hm0 : m = 0 := by omega
              subst hm0
              have := f1.size
              simp at this
              subst this
              simp at hx
            · obtain ⟨e2, e3⟩ := j3 hver.1.symm hcap
              rw [e2, Addr.add_lit, hrs]
              exact f2 j x hx
          have hr := run_append_grow_src (P := P) c.w t u o.type e i z ht hi hz (some ad) m cap olds hold (a.eval y) ys.length news hsrc (by omega) (bnd _ hbytes) (growslice_fits (by omega) hbytes)
          rw [← ex] at hr
          have hcap := grownCap_ge c.w (m + ys.length) cap e
          let blk : Array Value := (olds ++ news).toArray ++ Builtin.zeroCells z.cells (grownCap c.w (m + ys.length) cap e - (m + ys.length))
          have hws : blk.size = grownCap c.w (m + ys.length) cap e * i.size := by
            have h1 := hfl1.size
            rw [List.length_append, List.length_append, hlen1] at h1
            simp only [blk, Array.size_append, List.size_toArray, List.length_append, cells_zero, h1, ← hsz, ← Nat.add_mul]
            congr 1
            omega
          let w' := c.w.drew.alloc (.cells blk e)
          let row' : Row := { row with els := (row.els.drop k).take m ++ ys, ver := v + 1 }
          let c' : Ctx := ⟨fun q => if q = r then (c.w.heap.size, 0) else c.β q, c.σ.set r row', w'⟩
          have hβ : c'.β r = (c.w.heap.size, 0) := by simp [c']
          have hlt : r < c.σ.length := (List.getElem?_eq_some_iff.1 k1).1
          have hnewb : w'.heap[c.w.heap.size]? = some (.cells blk e (0, 0)) := heap_alloc_new c.w.drew _
          have hwsz : wsize w' c.w.heap.size = blk.size := by simp [wsize, World.shape?, hnewb]
          obtain ⟨hs, hev⟩ := h.sim.upd (c' := c') r row row' k1 rfl hown hown rfl (by simp [row']; omega) (fun q hq => by simp [c', hq]) (fun e => by simp [row'] at e; omega) rfl rfl rfl
            (by simp [c', w']) (fun b hb _ => heap_alloc_old c.w.drew _ hb) (.inr (by rw [hβ]; exact Nat.le_refl _)) (fun hle => by
            have hfl2 := hfl1.mono hle
            refine ⟨hro.pos, by rw [show row'.sz = i.size from hrs]; exact hfl1.len, ?_, hver.2, by simp [row', hown], fun _ => ?_⟩
            · intro q cs j v' hq hj
              rw [hβ]
              show ∃ y, w'.cell? ⟨c.w.heap.size, 0 + q * row.sz + j, none⟩ = some y ∧ VR c' v' y ∧ y.oneCell' = true
              rw [hrs, Nat.zero_add]
              obtain ⟨y, s1, s2, s3⟩ := hfl2.cont q cs j v' hq hj
              refine ⟨y, ?_, s2, s3⟩
              have hlt' := (List.getElem?_eq_some_iff.1 s1).1
              simp only [World.cell?, hnewb]
              rw [Array.getElem?_append_left (by simpa using hlt')]
              simpa using s1
            · rw [hβ]
              refine ⟨h.sim.size, by simp [c', w'], ?_, ?_⟩
              · show 0 + ((row.els.drop k).take m ++ ys).length * row.sz ≤ wsize w' c.w.heap.size
                rw [hwsz, hws, hrs, List.length_append, hlen1, Nat.zero_add]
                exact Nat.mul_le_mul_right _ hcap
              · intro q hq
                simp [World.frozen?, c', hnewb]) (fun _ => False)
          refine ⟨c', γ, _, .inl (hexec _ _ hr), rfl, h.next hs hev, ?_⟩
          simp only [RR, VR]
          refine ⟨_, _, rfl, hcap, row', by simp [c', hlt], Nat.le_refl _, fun _ _ => ?_⟩
          rw [hβ]
          refine ⟨by simp, fun _ => ?_⟩
          show 0 + (0 + grownCap c.w (m + ys.length) cap e) * row.sz ≤ wsize w' c.w.heap.size
          rw [hwsz, hws, hrs]
          simp
      · simp at h5
    · simp at k2
  | _ => simp at h4

end
end Go.X

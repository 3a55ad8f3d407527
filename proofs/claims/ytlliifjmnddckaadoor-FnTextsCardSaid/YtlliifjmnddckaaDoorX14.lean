/- GoX, part 14: code and functions: what the executor tells of a call is what the model's call comes to. No statement of the seat is here. -/
import Derived.Test.YtlliifjmnddckaaDoorX13
set_option linter.unusedVariables false
set_option linter.unusedSimpArgs false
namespace Go.X
open Go

/-! ### Resolving code -/

/-- What is said by hand of a function: which boxes are the frame's own, what lives behind a region (by the region's number) and at a loop's head (by the number of its first region) and whether rows of the call's own are forgotten at its end. -/
structure Flags where
  lo : List Nat
  lr : List (Nat × List Nat)
  ll : List (Nat × List Nat)
  pop : Bool

def fstReg : Code → Nat
  | .region id _ _ => id
  | .seq a _ => fstReg a
  | .cond _ a _ => fstReg a
  | .block _ a => fstReg a
  | .loop a => fstReg a
  | _ => 0

/-- Of a region that draws: which reads may meet which writes. -/
def pairsOf (ops : List Oper) (xs : List XOper) : List (Nat × Nat) :=
  let ms := masks ops []
  (List.range ops.length).flatMap fun j => (List.range j).flatMap fun i =>
    let a := (xs.getD i default).op
    let b := (xs.getD j default).op
    if (ms.getD j 0).testBit i then [] else (if isW a && isR b then [(j, i)] else []) ++ (if isR a && isW b then [(i, j)] else [])

def compC (P : Program) (n : Nat) (fl : Flags) : Code → Option XC
  | .skip => some .skip
  | .ret => some .ret
  | .exit id => some (.exit id)
  | .region id ops false => (allSome (compOper P n fl.lo ops) ops.toList).bind fun xs => some (.reg xs ((lk fl.lr id).getD []) none)
  | .region id ops true => (allSome (compOper P n fl.lo ops) ops.toList).bind fun xs =>
      if drawOk ops.toList xs (pairsOf ops.toList xs) = true then some (.reg xs ((lk fl.lr id).getD []) (some (pairsOf ops.toList xs))) else none
  | .seq a b => (compC P n fl a).bind fun x => (compC P n fl b).bind fun y => some (.seq x y)
  | .cond c a b => (cO c).bind fun v => (compC P n fl a).bind fun x => (compC P n fl b).bind fun y => some (.cond v x y)
  | .block id a => (compC P n fl a).bind fun x => some (.block id x)
  | .loop a => (compC P n fl a).bind fun x => some (.loop ((lk fl.ll (fstReg a)).getD []) x)
  | _ => none

def compRes (P : Program) : ResultVar → Option XRes
  | .tmp t => some (.t t)
  | .cell a t => (isAggT P t).bind fun ag => (szOf P t).bind fun s => some (.cell a ag s)

def compF (P : Program) (fl : Flags) (f : FuncId) : Option CFun :=
  (P.funcs[f]?).bind fun fn => fn.body.bind fun b =>
    if (fn.name == "runtime.NumGoroutine") = false ∧ fn.params.size + fn.nfree ≤ fn.ntmps then
      (compC P fn.ntmps fl b).bind fun c => (allSome (compRes P) fn.results.toList).bind fun rs => some ⟨fn.params.size + fn.nfree, c, rs, fl.pop⟩
    else none

def exitOf : Out → Exit
  | .norm => .normal
  | .ret => .ret
  | .exit id => .exit id

section
variable {P : Program} {base : Nat} {W0 : World} {c0 : Ctx} {n : Nat}

theorem lk_projR {g : Regs} {bx : Boxes} : ∀ {live : List Nat} {t : Nat} {rv : RV}, lk (projR g bx live) t = some rv → lk g t = some rv ∧ ∀ t' o, rv = .lp t' o → t' = t ∧ o = 0 ∧ (lk bx t).isSome = true ∧ t ∈ live
  | [], t, rv, h => by simp [projR, lk] at h
  | q :: l, t, rv, h => by
    have ih := fun h' => lk_projR (g := g) (bx := bx) (live := l) (t := t) (rv := rv) h'
    have up : lk (projR g bx l) t = some rv → lk g t = some rv ∧ ∀ t' o, rv = .lp t' o → t' = t ∧ o = 0 ∧ (lk bx t).isSome = true ∧ t ∈ q :: l := fun h' =>
      ⟨(ih h').1, fun t' o e => let ⟨a, b, c, d⟩ := (ih h').2 t' o e; ⟨a, b, c, List.mem_cons_of_mem _ d⟩⟩
    simp only [projR] at h
    split at h
    · rename_i a hq
      simp only [lk] at h
      split at h
      · rename_i e; subst e; cases h
        exact ⟨hq, fun t' o e => by cases e⟩
      · exact up h
    · rename_i t' hq
      split at h
      · rename_i hc
        simp only [lk] at h
        split at h
        · rename_i e; subst e; cases h
          exact ⟨hq, fun t2 o e => by cases e; exact ⟨hc.1, rfl, hc.2, by simp⟩⟩
        · exact up h
      · exact up h
    · exact up h

theorem lk_projB {g : Regs} {bx : Boxes} : ∀ {live : List Nat} {t : Nat} {cs : List AV}, lk (projB g bx live) t = some cs → lk bx t = some cs
  | [], t, cs, h => by simp [projB, lk] at h
  | q :: l, t, cs, h => by
    simp only [projB] at h
    split at h
    · rename_i t' cs' hq hb
      split at h
      · simp only [lk] at h
        split at h
        · rename_i e; subst e; cases h; exact hb
        · exact lk_projB h
      · exact lk_projB h
    · exact lk_projB h

theorem projB_some {g : Regs} {bx : Boxes} : ∀ {live : List Nat} {t : Nat}, t ∈ live → lk g t = some (.lp t 0) → (lk bx t).isSome = true → (lk (projB g bx live) t).isSome = true
  | [], t, h, _, _ => by simp at h
  | q :: l, t, h, hg, hb => by
    obtain ⟨cs, hcs⟩ := Option.isSome_iff_exists.1 hb
    by_cases e : q = t
    · subst e
      simp only [projB, hg, hcs, if_true, lk]
      rfl
    · have hl : t ∈ l := by simpa [Ne.symm e] using h
      have ih := projB_some (g := g) (bx := bx) hl hg hb
      simp only [projB]
      split
      · split
        · simp only [lk]; rw [if_neg e]; exact ih
        · exact ih
      · exact ih

/-- What is not live is forgotten. -/
theorem FI.proj {c : Ctx} {γ : Nat → Nat} {g : Regs} {bx : Boxes} {tmps : Array Value} (h : FI base c0 n c γ g bx tmps) (live : List Nat) : FI base c0 n c γ (projR g bx live) (projB g bx live) tmps := by
  refine ⟨h.sim, h.evo, h.size, fun t rv ht => ?_, fun t cs ht => h.boxes t cs (lk_projB ht), fun t t' h1 h2 e => ?_⟩
  · obtain ⟨h1, h2⟩ := lk_projR ht
    have hr := h.regs t rv h1
    cases rv with
    | v a => exact hr
    | lp t' o =>
      obtain ⟨rfl, rfl, h3, h4⟩ := h2 t' o rfl
      exact ⟨projB_some h4 h1 h3, hr.2⟩
    | ls els =>
      -- a literal does not outlive its region
      exfalso
      have key : ∀ (l : List Nat), lk (projR g bx l) t ≠ some (.ls els) := by
        intro l
        induction l with
        | nil => simp [projR, lk]
        | cons q l ih =>
          intro hc
          simp only [projR] at hc
          split at hc
          · simp only [lk] at hc; split at hc
            · cases hc
            · exact ih hc
          · split at hc
            · simp only [lk] at hc; split at hc
              · cases hc
              · exact ih hc
            · exact ih hc
          · exact ih hc
      exact key live ht
  · refine h.binj t t' ?_ ?_ e
    · obtain ⟨cs, hcs⟩ := Option.isSome_iff_exists.1 h1; rw [lk_projB hcs]; rfl
    · obtain ⟨cs, hcs⟩ := Option.isSome_iff_exists.1 h2; rw [lk_projB hcs]; rfl

/-- Code. -/
theorem code_sound {E : Call} (hE : SoundCall P base W0 E) (hw0 : Sim base c0 ∧ Old base W0 c0.w) (hm : P.follows .mixedOrders = true) (hb0 : base ≤ c0.w.heap.size) {fl : Flags} {dfs : List Deferred} : ∀ (code : Code) (xc : XC), compC P n fl code = some xc →
    ∀ {c : Ctx} {γ : Nat → Nat} {g : Regs} {bx : Boxes} {tmps : Array Value} {out : Out} {g' : Regs} {M' : Mem} {Q : Exit → Act → World → Prop}, exec E xc (g, ⟨bx, c.σ⟩) = some (out, (g', M')) → FI base c0 n c γ g bx tmps →
      (∀ c' γ' tmps', c'.σ = M'.st → FI base c0 n c' γ' g' M'.bx tmps' → Q (exitOf out) ⟨tmps', dfs⟩ c'.w) → code.wp P Q ⟨tmps, dfs⟩ c.w := by
  intro code
  induction code with
  | skip =>
    intro xc hc c γ g bx tmps out g' M' Q he h hQ
    simp only [compC, Option.some.injEq] at hc; subst hc
    simp only [exec, Option.some.injEq, Prod.mk.injEq] at he
    obtain ⟨rfl, rfl, rfl⟩ := he
    exact wp_skip (hQ c γ tmps rfl h)
  | ret =>
    intro xc hc c γ g bx tmps out g' M' Q he h hQ
    simp only [compC, Option.some.injEq] at hc; subst hc
    simp only [exec, Option.some.injEq, Prod.mk.injEq] at he
    obtain ⟨rfl, rfl, rfl⟩ := he
    exact wp_ret (hQ c γ tmps rfl h)
  | exit id =>
    intro xc hc c γ g bx tmps out g' M' Q he h hQ
    simp only [compC, Option.some.injEq] at hc; subst hc
    simp only [exec, Option.some.injEq, Prod.mk.injEq] at he
    obtain ⟨rfl, rfl, rfl⟩ := he
    exact wp_exit (hQ c γ tmps rfl h)
  | region id ops draw =>
    intro xc hc c γ g bx tmps out g' M' Q he h hQ
    cases draw with
    | false =>
      simp only [compC, bind_some', Option.some.injEq] at hc
      obtain ⟨xs, h1, rfl⟩ := hc
      simp only [exec, bind_some', Option.some.injEq, Prod.mk.injEq] at he
      obtain ⟨⟨g1, M1⟩, h2, rfl, h3⟩ := he
      simp only [proj, Prod.mk.injEq] at h3
      obtain ⟨rfl, rfl⟩ := h3
      exact wp_region_list (ops_sound hE hw0 hb0 h1 h2 h (fun c' γ' tmps' e1 e2 => hQ c' γ' tmps' e1 (e2.proj _)))
    | true =>
      simp only [compC, bind_some'] at hc
      obtain ⟨xs, h1, h4⟩ := hc
      split at h4
      · rename_i hok
        cases h4
        simp only [exec] at he
        split at he
        · rename_i hst
          simp only [bind_some', Option.some.injEq, Prod.mk.injEq] at he
          obtain ⟨⟨g1, M1⟩, h2, rfl, h3⟩ := he
          simp only [proj, Prod.mk.injEq] at h3
          obtain ⟨rfl, rfl⟩ := h3
          exact draw_sound hE hw0 hm hb0 h1 hok h2 hst h (fun c' γ' tmps' e1 e2 => hQ c' γ' tmps' e1 (e2.proj _))
        · simp at he
      · simp at h4
  | seq a b iha ihb =>
    intro xc hc c γ g bx tmps out g' M' Q he h hQ
    simp only [compC, bind_some', Option.some.injEq] at hc
    obtain ⟨x, h1, y, h2, rfl⟩ := hc
    simp only [exec, bind_some'] at he
    obtain ⟨⟨o1, g1, M1⟩, h3, h4⟩ := he
    refine wp_seq (iha x h1 (Q := Exit.then (b.wp P Q) Q) h3 h (fun c' γ' tmps' e1 e2 => ?_))
    cases o1 with
    | norm =>
      simp only at h4
      exact ihb y h2 (by rw [e1]; exact h4) e2 hQ
    | ret =>
      simp only [Option.some.injEq, Prod.mk.injEq] at h4
      obtain ⟨rfl, rfl, rfl⟩ := h4
      exact hQ c' γ' tmps' e1 e2
    | exit id =>
      simp only [Option.some.injEq, Prod.mk.injEq] at h4
      obtain ⟨rfl, rfl, rfl⟩ := h4
      exact hQ c' γ' tmps' e1 e2
  | cond cd a b iha ihb =>
    intro xc hc c γ g bx tmps out g' M' Q he h hQ
    simp only [compC, bind_some', Option.some.injEq] at hc
    obtain ⟨v, h0, x, h1, y, h2, rfl⟩ := hc
    simp only [exec, bind_some'] at he
    obtain ⟨av, h3, h4⟩ := he
    have hv := opndv (a := ⟨tmps, dfs⟩) h rfl h0 h3
    cases av with
    | bool t =>
      simp only [VR] at hv
      cases t with
      | true => exact wp_cond_true hv (iha x h1 h4 h hQ)
      | false => exact wp_cond_false hv (ihb y h2 h4 h hQ)
    | _ => simp at h4
  | block id a ih =>
    intro xc hc c γ g bx tmps out g' M' Q he h hQ
    simp only [compC, bind_some', Option.some.injEq] at hc
    obtain ⟨x, h1, rfl⟩ := hc
    simp only [exec, bind_some'] at he
    obtain ⟨⟨o1, g1, M1⟩, h3, h4⟩ := he
    refine wp_block (ih x h1 (Q := Exit.inBlock id Q) h3 h (fun c' γ' tmps' e1 e2 => ?_))
    cases o1 with
    | norm =>
      simp only [Option.some.injEq, Prod.mk.injEq] at h4
      obtain ⟨rfl, rfl, rfl⟩ := h4
      exact hQ c' γ' tmps' e1 e2
    | ret =>
      simp only [Option.some.injEq, Prod.mk.injEq] at h4
      obtain ⟨rfl, rfl, rfl⟩ := h4
      exact hQ c' γ' tmps' e1 e2
    | exit id' =>
      simp only at h4
      simp only [exitOf, Exit.inBlock]
      split at h4
      · rename_i e
        rw [if_pos e]
        simp only [Option.some.injEq, Prod.mk.injEq] at h4
        obtain ⟨rfl, rfl, rfl⟩ := h4
        exact hQ c' γ' tmps' e1 e2
      · rename_i e
        rw [if_neg e]
        simp only [Option.some.injEq, Prod.mk.injEq] at h4
        obtain ⟨rfl, rfl, rfl⟩ := h4
        exact hQ c' γ' tmps' e1 e2
  | loop a ih =>
    intro xc hc c γ g bx tmps out g' M' Q he h hQ
    simp only [compC, bind_some', Option.some.injEq] at hc
    obtain ⟨x, h1, rfl⟩ := hc
    simp only [exec] at he
    obtain ⟨k, hk⟩ := iter_some.1 he
    refine wp_loop_rounds k ?_
    clear he
    induction k generalizing c γ g bx tmps with
    | zero => simp [iterN] at hk
    | succ k ihk =>
      simp only [iterN, bind_some'] at hk
      obtain ⟨⟨o1, g1, M1⟩, h3, h4⟩ := hk
      rw [rounds_succ]
      refine ih x h1 (Q := Exit.then (Code.rounds P a Q k) Q) h3 (h.proj _) (fun c' γ' tmps' e1 e2 => ?_)
      cases o1 with
      | norm =>
        simp only at h4
        exact ihk e2 (by rw [e1]; exact h4)
      | ret =>
        simp only [Option.some.injEq, Prod.mk.injEq] at h4
        obtain ⟨rfl, rfl, rfl⟩ := h4
        exact hQ c' γ' tmps' e1 e2
      | exit id =>
        simp only [Option.some.injEq, Prod.mk.injEq] at h4
        obtain ⟨rfl, rfl, rfl⟩ := h4
        exact hQ c' γ' tmps' e1 e2
  | _ => intro xc hc; simp [compC] at hc

/-- One result. -/
def resAct (tmps : Array Value) : ResultVar → Sem Value
  | .tmp t => pure (tmps.getD t undef)
  | .cell a t => do loadVar t (← asAddr (tmps.getD a undef))

theorem results_eq (fn : Func) (tmps : Array Value) : results fn tmps = (do let vs ← fn.results.mapM (resAct tmps); pure (if h : vs.size = 1 then vs[0] else .tuple vs)) := by
  unfold results
  congr 2

/-- The results. -/
theorem results_sound {c : Ctx} {γ : Nat → Nat} {g : Regs} {bx : Boxes} {tmps : Array Value} (h : FI base c0 n c γ g bx tmps) {fn : Func} {rs : List XRes} (hr : allSome (compRes P) fn.results.toList = some rs) {r : AV} (he : result (g, ⟨bx, c.σ⟩) rs = some r) :
    ∃ v, (results fn tmps).run P c.w = .ok v c.w ∧ VR c r v := by
  have key : ∀ (l : List ResultVar) (rs : List XRes) (as : List AV), allSome (compRes P) l = some rs → allSome (resOf (g, ⟨bx, c.σ⟩)) rs = some as →
      ∃ vs : List Value, (l.mapM (resAct tmps)).run P c.w = Result.ok vs c.w ∧ VRs c as vs := by
    intro l
    induction l with
    | nil =>
      intro rs as h1 h2
      simp only [allSome, Option.some.injEq] at h1; subst h1
      simp only [allSome, Option.some.injEq] at h2; subst h2
      exact ⟨[], by simp, by simp [VRs]⟩
    | cons x l ih =>
      intro rs as h1 h2
      simp only [allSome, bind_some', Option.some.injEq] at h1
      obtain ⟨y, h3, ys, h4, rfl⟩ := h1
      simp only [allSome, bind_some', Option.some.injEq] at h2
      obtain ⟨a, h5, as', h6, rfl⟩ := h2
      obtain ⟨vs, h7, h8⟩ := ih ys as' h4 h6
      have one : ∃ v, (resAct tmps x).run P c.w = Result.ok v c.w ∧ VR c a v := by
        cases x with
        | tmp t =>
          simp only [compRes, Option.some.injEq] at h3; subst h3
          simp only [resOf, evv, bind_some'] at h5
          obtain ⟨rv, k1, k2⟩ := h5
          have hrr := h.regs t rv k1
          cases rv with
          | v b => simp only [RV.av, Option.some.injEq] at k2; subst k2; exact ⟨_, rfl, hrr⟩
          | lp t' o => simp [RV.av] at k2
          | ls els => simp [RV.av] at k2
        | cell q t =>
          simp only [compRes, bind_some', Option.some.injEq] at h3
          obtain ⟨ag, k1, s, k2, rfl⟩ := h3
          simp only [resOf, bind_some'] at h5
          obtain ⟨rv, k3, ⟨cs, k⟩, k4, k5⟩ := h5
          obtain ⟨b, o, k6, k7⟩ := place_lies h (h.regs q rv k3) k4
          obtain ⟨y, k8, k9⟩ := load_sound (P := P) k1 k2 k7 k5
          exact ⟨y, by simp [resAct, k6, asAddr, k8], k9⟩
      obtain ⟨v, h9, h10⟩ := one
      refine ⟨v :: vs, ?_, by rw [VRs]; exact ⟨h10, h8⟩⟩
      simp only [List.mapM_cons, Sem.run_bind, h9, Result.andThen_ok, h7, Sem.run_pure]
  simp only [result, bind_some'] at he
  obtain ⟨as, h1, h2⟩ := he
  obtain ⟨vs, h3, h4⟩ := key fn.results.toList rs as hr h1
  have hmap : (fn.results.mapM (resAct tmps)).run P c.w = Result.ok vs.toArray c.w := by
    rw [Array.mapM_eq_mapM_toList]
    have e : (List.toArray <$> (fn.results.toList.mapM (resAct tmps)) : Sem (Array Value)) = ((fn.results.toList.mapM (resAct tmps)) >>= fun l => pure l.toArray) := rfl
    rw [e]
    simp only [Sem.run_bind, h3, Result.andThen_ok, Sem.run_pure]
  have hl := VRs_length h4
  have hres : (results fn tmps).run P c.w = .ok (if h : vs.toArray.size = 1 then vs.toArray[0] else .tuple vs.toArray) c.w := by
    rw [results_eq]
    simp only [Sem.run_bind, hmap, Result.andThen_ok, Sem.run_pure]
  refine ⟨_, hres, ?_⟩
  match as, vs, h4, h2, hl with
  | [a], [v], h4, h2, _ =>
    simp only [Option.some.injEq] at h2
    subst h2
    simp only [VRs, and_true] at h4
    simpa using h4
  | [], [], _, h2, _ =>
    simp only [Option.some.injEq] at h2
    subst h2
    simp [VR, VRs]
  | a :: b :: as, v :: u :: vs, h4, h2, _ =>
    simp only [Option.some.injEq] at h2
    subst h2
    simp only [List.size_toArray, List.length_cons]
    rw [dif_neg (by omega)]
    rw [VR]
    exact ⟨_, rfl, h4⟩
  | [], _ :: _, _, _, hl => simp at hl
  | _ :: _, [], _, _, hl => simp at hl
  | [_], _ :: _ :: _, _, _, hl => simp at hl
  | _ :: _ :: _, [_], _, _, hl => simp at hl

theorem lk_number {α : Type} : ∀ (l : List α) (k t : Nat) (a : α), lk (number k l) t = some a → k ≤ t ∧ l[t - k]? = some a
  | [], _, _, _, h => by simp [number, lk] at h
  | x :: l, k, t, a, h => by
    simp only [number, lk] at h
    split at h
    · rename_i e; subst e; cases h; simp
    · obtain ⟨h1, h2⟩ := lk_number l (k + 1) t a h
      refine ⟨by omega, ?_⟩
      rw [show t - k = (t - (k + 1)) + 1 by omega]
      simpa using h2

open Classical in
/-- A function. -/
theorem body_sound {E : Call} (hE : SoundCall P base W0 E) (hm : P.follows .mixedOrders = true) {fl : Flags} {f : FuncId} {cf : CFun} (hc : compF P fl f = some cf) {as : List AV} {st : Store} {r : AV} {st' : Store} (he : bodyX E cf as st = some (r, st')) :
    Callable P f ∧ ∀ c xs, Sim base c → Old base W0 c.w → c.σ = st → VRs c as xs → Calls P f xs.toArray c.w fun e w' => ∃ c' y, e = .returned y ∧ c'.w = w' ∧ c'.σ = st' ∧ Sim base c' ∧ Evo (fun _ => False) c c' ∧ VR c' r y := by
  simp only [compF, bind_some'] at hc
  obtain ⟨fn, h1, b, h2, h3⟩ := hc
  split at h3
  · rename_i hcnd
    simp only [bind_some', Option.some.injEq] at h3
    obtain ⟨xc, h4, rs, h5, rfl⟩ := h3
    refine ⟨⟨fn, h1, hcnd.1, by simp [h2]⟩, fun c xs hs hold hst hvs => ?_⟩
    subst hst
    unfold bodyX at he
    split at he
    · rename_i hn
      simp only at hn
      simp only [bind_some'] at he
      obtain ⟨⟨out, g', M'⟩, h6, h7⟩ := he
      have hl := VRs_length hvs
      -- the frame at the beginning
      have hfi : FI base c fn.ntmps c (fun _ => 0) (number 0 (as.map RV.v)) [] (xs.toArray ++ Array.replicate (fn.ntmps - xs.toArray.size) undef) := by
        refine ⟨hs, Evo.refl _ _, by simp only [Array.size_append, List.size_toArray, Array.size_replicate]; omega, fun t rv ht => ?_, fun t cs ht => by simp [lk] at ht, fun t t' ht => by simp [lk] at ht⟩
        obtain ⟨_, h8⟩ := lk_number _ _ _ _ ht
        rw [Nat.sub_zero, List.getElem?_map] at h8
        cases ha : as[t]? with
        | none => simp [ha] at h8
        | some a =>
          simp only [ha, Option.map_some, Option.some.injEq] at h8
          subst h8
          obtain ⟨x, h9, h10⟩ := VRs_get hvs ha
          have hlt := (List.getElem?_eq_some_iff.1 h9).1
          have : (xs.toArray ++ Array.replicate (fn.ntmps - xs.toArray.size) undef).getD t undef = x := by
            rw [Array.getD_eq_getD_getElem?, Array.getElem?_append_left (by simpa using hlt)]
            simp [h9]
          rw [this]
          exact h10
      refine calls_of_wp h1 h2 ?_
      refine code_sound hE ⟨hs, hold⟩ hm hs.size b xc h4 (dfs := []) h6 hfi (fun c' γ' tmps' e1 e2 => ?_)
      have fin : ∀ a : AV, result (g', M') rs = some a → ((if fl.pop = true then (if M'.st.take c.σ.length = c.σ ∧ below c.σ.length a = true then some (a, c.σ) else none) else some (a, M'.st)) = some (r, st')) →
          ∃ v, (results fn tmps').run P c'.w = .ok v c'.w ∧ ∃ c'' y, Ending.returned v = .returned y ∧ c''.w = c'.w ∧ c''.σ = st' ∧ Sim base c'' ∧ Evo (fun _ => False) c c'' ∧ VR c'' r y := by
        intro a h8 h9
        have hM : M' = ⟨M'.bx, c'.σ⟩ := by rw [e1]
        rw [hM] at h8
        obtain ⟨v, h10, h11⟩ := results_sound e2 h5 h8
        refine ⟨v, h10, ?_⟩
        split at h9
        · split at h9
          · rename_i hp
            simp only [Option.some.injEq, Prod.mk.injEq] at h9
            obtain ⟨rfl, rfl⟩ := h9
            have htk : c'.σ.take c.σ.length = c.σ := by rw [e1]; exact hp.1
            have hgo : ∀ (q : Nat) (row : Row), c.σ[q]? = some row → c'.σ[q]? = some row := by
              intro q row hq
              rw [← htk, List.getElem?_take] at hq
              split at hq
              · exact hq
              · simp at hq
            refine ⟨⟨c'.β, c.σ, c'.w⟩, v, rfl, rfl, rfl, ⟨e2.sim.size, fun q row hq => ?_, fun q q' row row' hq hq' => e2.sim.inj q q' row row' (hgo q row hq) (hgo q' row' hq')⟩, ⟨e2.evo.os, e2.evo.tape, e2.evo.output, e2.evo.size, e2.evo.keep, fun q row hq => ?_, ?_⟩, ?_⟩
            · have h12 := e2.sim.rows q row (hgo q row hq)
              refine ⟨h12.pos, h12.len, fun i cs j av hi hj => ?_, h12.nomap, h12.ro, h12.own⟩
              obtain ⟨x, k1, k2, k3⟩ := h12.cells i cs j av hi hj
              refine ⟨x, k1, ?_, k3⟩
              obtain ⟨x0, _, k4, _⟩ := (hs.rows q row hq).cells i cs j av hi hj
              have := VR_take c.σ.length av x (VR_below av x0 k4) k2
              rwa [htk] at this
            · obtain ⟨row', k1, k2, k3, k4, k5⟩ := e2.evo.le q row hq
              rw [hgo q row hq] at k1; cases k1
              exact ⟨row, hq, rfl, rfl, Nat.le_refl _, fun _ => k5 rfl⟩
            · rintro b' ⟨q, row, k1, k2, k3⟩
              exact e2.evo.fresh b' ⟨q, row, hgo q row k1, k2, k3⟩
            · have := VR_take c.σ.length a v hp.2 h11
              rwa [htk] at this
          · simp at h9
        · simp only [Option.some.injEq, Prod.mk.injEq] at h9
          obtain ⟨rfl, rfl⟩ := h9
          exact ⟨c', v, rfl, rfl, e1, e2.sim, e2.evo, h11⟩
      cases out with
      | exit id => simp at h7
      | norm =>
        simp only [bind_some'] at h7
        obtain ⟨a, h8, h9⟩ := h7
        obtain ⟨v, k1, k2⟩ := fin a h8 h9
        exact ⟨rfl, v, k1, k2⟩
      | ret =>
        simp only [bind_some'] at h7
        obtain ⟨a, h8, h9⟩ := h7
        obtain ⟨v, k1, k2⟩ := fin a h8 h9
        exact ⟨rfl, v, k1, k2⟩
    · simp at he
  · simp at h3

/-- WHAT THE EXECUTOR TELLS OF A CALL IS WHAT THE MODEL's CALL COMES TO. -/
theorem Ex_sound (hm : P.follows .mixedOrders = true) {C : FuncId → Option CFun} {X : Call} (hC : ∀ f cf, C f = some cf → ∃ fl, compF P fl f = some cf) (hX : SoundCall P base W0 X) : SoundCall P base W0 (Ex C X) := by
  have key : ∀ k, SoundCall P base W0 (exF C X k) := by
    intro k
    induction k with
    | zero => intro f as st r st' h; simp [exF] at h
    | succ k ih =>
      intro f as st r st' h
      unfold exF at h
      cases hc : C f with
      | none => rw [hc] at h; exact hX f as st r st' h
      | some cf =>
        rw [hc] at h
        obtain ⟨fl, hf⟩ := hC f cf hc
        exact body_sound ih hm hf h
  intro f as st r st' h
  obtain ⟨k, hk⟩ := Ex_some.1 h
  exact key k f as st r st' hk

end
end Go.X

/- GoX, part 1b: the executor grows with its calls (mono), needs finitely many of them (cont), and so the functions without a bound obey their unfolding equation. No statement of the seat is here. -/
import Derived.Test.YtlliifjmnddckaaDoorX1
set_option linter.unusedVariables false
namespace Go.X
open Go

def Le (E E' : Call) : Prop := ∀ f a s r, E f a s = some r → E' f a s = some r

theorem Le.refl (E : Call) : Le E E := fun _ _ _ _ h => h
theorem Le.trans {E E' E'' : Call} (h : Le E E') (h' : Le E' E'') : Le E E'' := fun _ _ _ _ x => h' _ _ _ _ (h _ _ _ _ x)

theorem bind_some' {α β : Type} {o : Option α} {f : α → Option β} {b : β} : o.bind f = some b ↔ ∃ a, o = some a ∧ f a = some b := by
  cases o <;> simp

theorem evOp_mono {E E' : Call} (h : Le E E') {g : Regs} {M : Mem} {op : XOp} {r} (he : evOp E g M op = some r) : evOp E' g M op = some r := by
  cases op with
  | call f args =>
    simp only [evOp, bind_some'] at he ⊢
    obtain ⟨as, h1, ⟨a, st⟩, h2, h3⟩ := he
    exact ⟨as, h1, (a, st), h _ _ _ _ h2, h3⟩
  | calld x args =>
    simp only [evOp, bind_some'] at he ⊢
    obtain ⟨a, h1, h2⟩ := he
    refine ⟨a, h1, ?_⟩
    cases a <;> simp only [reduceCtorEq] at h2 ⊢
    simp only [bind_some'] at h2 ⊢
    obtain ⟨as, h1, ⟨a, st⟩, h2, h3⟩ := h2
    exact ⟨as, h1, (a, st), h _ _ _ _ h2, h3⟩
  | _ => exact he

theorem evG_mono {E E' : Call} (h : Le E E') {g : Regs} {M : Mem} {o : XOper} {r} (he : evG E g M o = some r) : evG E' g M o = some r := by
  simp only [evG, bind_some'] at he ⊢
  obtain ⟨b, h1, h2⟩ := he
  refine ⟨b, h1, ?_⟩
  cases b with
  | true => exact evOp_mono h h2
  | false => exact h2

theorem execOps_mono {E E' : Call} (h : Le E E') : ∀ {ops : List XOper} {g : Regs} {M : Mem} {r}, execOps E ops g M = some r → execOps E' ops g M = some r := by
  intro ops
  induction ops with
  | nil => intro g M r he; exact he
  | cons o os ih =>
    intro g M r he
    simp only [execOps, bind_some'] at he ⊢
    obtain ⟨p, h1, h2⟩ := he
    exact ⟨p, evG_mono h h1, ih h2⟩

/-- Where a region goes through, its trace grows no more. -/
theorem trace_mono {E E' : Call} (h : Le E E') : ∀ {ops : List XOper} {g : Regs} {M : Mem} {r}, execOps E ops g M = some r → trace E' ops g M = trace E ops g M := by
  intro ops
  induction ops with
  | nil => intro g M r _; rfl
  | cons o os ih =>
    intro g M r he
    simp only [execOps, bind_some'] at he
    obtain ⟨p, h1, h2⟩ := he
    obtain ⟨v, M'⟩ := p
    simp only [trace, h1, evG_mono h h1]
    rw [ih h2]

/-- At each place of a trace of a region that goes through the operation tells something. -/
theorem trace_some {E : Call} : ∀ {ops : List XOper} {g : Regs} {M : Mem} {r}, execOps E ops g M = some r → ∀ (j : Nat) (o : XOper) (g' : Regs) (M' : Mem), ops[j]? = some o → (trace E ops g M)[j]? = some (g', M') → ∃ p, evG E g' M' o = some p := by
  intro ops
  induction ops with
  | nil => intro g M r _ j o g' M' ho; simp at ho
  | cons o os ih =>
    intro g M r he j o' g' M' ho ht
    simp only [execOps, bind_some'] at he
    obtain ⟨p, h1, h2⟩ := he
    cases j with
    | zero =>
      simp only [List.getElem?_cons_zero, Option.some.injEq] at ho
      simp only [trace, List.getElem?_cons_zero, Option.some.injEq, Prod.mk.injEq] at ht
      obtain ⟨rfl, rfl⟩ := ht
      subst ho
      exact ⟨p, h1⟩
    | succ j =>
      simp only [List.getElem?_cons_succ] at ho
      simp only [trace, h1, List.getElem?_cons_succ] at ht
      exact ih h2 j o' g' M' ho ht

theorem stable_mono {E E' : Call} (h : Le E E') {ops : List XOper} {g : Regs} {M : Mem} {pairs} {r} (he : execOps E ops g M = some r) (hs : stable E ops g M pairs) : stable E' ops g M pairs := by
  intro p hp o g' M' v M'' gi Mi gn Mn ho ht hv hi hn
  rw [trace_mono h he] at ht hi hn
  obtain ⟨q, hq⟩ := trace_some he _ _ _ _ ho ht
  have := evG_mono h hq
  rw [hv] at this
  cases this
  obtain ⟨h1, h2⟩ := hs p hp o g' M' v M'' gi Mi gn Mn ho ht hq hi hn
  exact ⟨evG_mono h h1, evG_mono h h2⟩

theorem iterN_le {f f' : S → Option (Out × S)} (h : ∀ s r, f s = some r → f' s = some r) : ∀ {n : Nat} {s : S} {r}, iterN f n s = some r → iterN f' n s = some r := by
  intro n
  induction n with
  | zero => intro s r he; exact he
  | succ n ih =>
    intro s r he
    simp only [iterN, bind_some'] at he ⊢
    obtain ⟨⟨o, s'⟩, h1, h2⟩ := he
    refine ⟨(o, s'), h _ _ h1, ?_⟩
    cases o with
    | norm => exact ih h2
    | ret => exact h2
    | exit id => exact h2

theorem exec_mono {E E' : Call} (h : Le E E') : ∀ {c : XC} {s : S} {r}, exec E c s = some r → exec E' c s = some r := by
  intro c
  induction c with
  | skip => intro s r he; exact he
  | ret => intro s r he; exact he
  | exit id => intro s r he; exact he
  | reg ops live pairs =>
    intro s r he
    cases pairs with
    | none =>
      simp only [exec, bind_some'] at he ⊢
      obtain ⟨p, h1, h2⟩ := he
      exact ⟨p, execOps_mono h h1, h2⟩
    | some pairs =>
      simp only [exec] at he ⊢
      split at he
      · rename_i hs
        simp only [bind_some'] at he
        obtain ⟨p, h1, h2⟩ := he
        rw [if_pos (stable_mono h h1 hs)]
        simp only [bind_some']
        exact ⟨p, execOps_mono h h1, h2⟩
      · simp at he
  | seq a b iha ihb =>
    intro s r he
    simp only [exec, bind_some'] at he ⊢
    obtain ⟨⟨o, s'⟩, h1, h2⟩ := he
    refine ⟨(o, s'), iha h1, ?_⟩
    cases o with
    | norm => exact ihb h2
    | ret => exact h2
    | exit id => exact h2
  | cond x a b iha ihb =>
    intro s r he
    simp only [exec, bind_some'] at he ⊢
    obtain ⟨v, h1, h2⟩ := he
    refine ⟨v, h1, ?_⟩
    cases v with
    | bool t => cases t with
      | true => exact iha h2
      | false => exact ihb h2
    | _ => simp at h2
  | block id c ih =>
    intro s r he
    simp only [exec, bind_some'] at he ⊢
    obtain ⟨⟨o, s'⟩, h1, h2⟩ := he
    exact ⟨(o, s'), ih h1, h2⟩
  | loop live c ih =>
    intro s r he
    simp only [exec] at he ⊢
    obtain ⟨n, hn⟩ := iter_some.1 he
    exact iter_some.2 ⟨n, iterN_le (fun s r => ih) hn⟩

theorem bodyX_mono {E E' : Call} (h : Le E E') {cf : CFun} {args : List AV} {st : Store} {r} (he : bodyX E cf args st = some r) : bodyX E' cf args st = some r := by
  unfold bodyX at he ⊢
  split at he
  · rename_i hn
    rw [if_pos hn]
    simp only [bind_some'] at he ⊢
    obtain ⟨p, h1, h2⟩ := he
    exact ⟨p, exec_mono h h1, h2⟩
  · simp at he

theorem exF_succ {C : FuncId → Option CFun} {X : Call} : ∀ k, Le (exF C X k) (exF C X (k + 1)) := by
  intro k
  induction k with
  | zero => intro f a s r h; simp [exF] at h
  | succ k ih =>
    intro f a s r h
    unfold exF at h ⊢
    cases hc : C f with
    | none => rw [hc] at h; exact h
    | some cf => rw [hc] at h; exact bodyX_mono ih h

theorem exF_le {C : FuncId → Option CFun} {X : Call} {k m : Nat} (h : k ≤ m) : Le (exF C X k) (exF C X m) := by
  induction h with
  | refl => exact Le.refl _
  | step _ ih => exact ih.trans (exF_succ _)

theorem Ex_some {C : FuncId → Option CFun} {X : Call} {f a s r} : Ex C X f a s = some r ↔ ∃ k, exF C X k f a s = some r := by
  unfold Ex
  constructor
  · intro h
    split at h
    · rename_i he
      obtain ⟨k, hk⟩ := Classical.choose_spec he
      exact ⟨k, by rw [hk]; exact h⟩
    · simp at h
  · rintro ⟨k, hk⟩
    have he : ∃ r, ∃ k, exF C X k f a s = some r := ⟨r, k, hk⟩
    rw [dif_pos he]
    obtain ⟨m, hm⟩ := Classical.choose_spec he
    have h1 := exF_le (Nat.le_max_left k m) _ _ _ _ hk
    have h2 := exF_le (Nat.le_max_right k m) _ _ _ _ hm
    rw [h1] at h2
    exact h2.symm

/-! ### Finitely many calls are enough -/

structure Chain (G : Nat → Call) (E : Call) : Prop where
  step : ∀ k, Le (G k) (G (k + 1))
  sup : ∀ f a s r, E f a s = some r → ∃ k, G k f a s = some r

theorem Chain.le {G : Nat → Call} {E : Call} (c : Chain G E) {k m : Nat} (h : k ≤ m) : Le (G k) (G m) := by
  induction h with
  | refl => exact Le.refl _
  | step _ ih => exact ih.trans (c.step _)

section
variable {G : Nat → Call} {E : Call} (c : Chain G E)
include c

theorem evOp_cont {g : Regs} {M : Mem} {op : XOp} {r} (he : evOp E g M op = some r) : ∃ k, evOp (G k) g M op = some r := by
  cases op with
  | call f args =>
    simp only [evOp, bind_some'] at he ⊢
    obtain ⟨as, h1, ⟨a, st⟩, h2, h3⟩ := he
    obtain ⟨k, hk⟩ := c.sup _ _ _ _ h2
    exact ⟨k, as, h1, (a, st), hk, h3⟩
  | calld x args =>
    simp only [evOp, bind_some'] at he ⊢
    obtain ⟨a, h1, h2⟩ := he
    cases a <;> simp only [reduceCtorEq] at h2
    simp only [bind_some'] at h2
    obtain ⟨as, h3, ⟨a, st⟩, h4, h5⟩ := h2
    obtain ⟨k, hk⟩ := c.sup _ _ _ _ h4
    refine ⟨k, _, h1, ?_⟩
    simp only [bind_some']
    exact ⟨as, h3, (a, st), hk, h5⟩
  | _ => exact ⟨0, he⟩

theorem evG_cont {g : Regs} {M : Mem} {o : XOper} {r} (he : evG E g M o = some r) : ∃ k, evG (G k) g M o = some r := by
  simp only [evG, bind_some'] at he ⊢
  obtain ⟨b, h1, h2⟩ := he
  cases b with
  | true =>
    obtain ⟨k, hk⟩ := evOp_cont c h2
    exact ⟨k, true, h1, hk⟩
  | false => exact ⟨0, false, h1, h2⟩

theorem execOps_cont : ∀ {ops : List XOper} {g : Regs} {M : Mem} {r}, execOps E ops g M = some r → ∃ k, execOps (G k) ops g M = some r := by
  intro ops
  induction ops with
  | nil => intro g M r he; exact ⟨0, he⟩
  | cons o os ih =>
    intro g M r he
    simp only [execOps, bind_some'] at he ⊢
    obtain ⟨p, h1, h2⟩ := he
    obtain ⟨k, hk⟩ := evG_cont c h1
    obtain ⟨m, hm⟩ := ih h2
    exact ⟨max k m, p, evG_mono (c.le (Nat.le_max_left k m)) hk, execOps_mono (c.le (Nat.le_max_right k m)) hm⟩

theorem stable1_cont (hle : ∀ k, Le (G k) E) {ops : List XOper} {g : Regs} {M : Mem} {r} {j i : Nat} (hs : stable1 E ops (trace E ops g M) j i) :
    ∃ k, ∀ m, k ≤ m → execOps (G m) ops g M = some r → stable1 (G m) ops (trace E ops g M) j i := by
  by_cases hx : ∃ o g' M' v M'' gi Mi gn Mn, ops[j]? = some o ∧ (trace E ops g M)[j]? = some (g', M') ∧ evG E g' M' o = some (v, M'') ∧ (trace E ops g M)[i]? = some (gi, Mi) ∧ (trace E ops g M)[i + 1]? = some (gn, Mn)
  · obtain ⟨o, g', M', v, M'', gi, Mi, gn, Mn, ho, ht, hv, hi, hn⟩ := hx
    obtain ⟨h1, h2⟩ := hs o g' M' v M'' gi Mi gn Mn ho ht hv hi hn
    obtain ⟨k1, hk1⟩ := evG_cont c h1
    obtain ⟨k2, hk2⟩ := evG_cont c h2
    refine ⟨max k1 k2, fun m hm _ => ?_⟩
    intro o2 g2 M2 v2 M2' gi2 Mi2 gn2 Mn2 ho2 ht2 hv2 hi2 hn2
    rw [ho] at ho2; cases ho2
    rw [ht] at ht2; cases ht2
    rw [hi] at hi2; cases hi2
    rw [hn] at hn2; cases hn2
    have := evG_mono (hle m) hv2
    rw [hv] at this; cases this
    exact ⟨evG_mono (c.le (by omega)) hk1, evG_mono (c.le (by omega)) hk2⟩
  · refine ⟨0, fun m _ _ => ?_⟩
    intro o2 g2 M2 v2 M2' gi2 Mi2 gn2 Mn2 ho2 ht2 hv2 hi2 hn2
    exact absurd ⟨o2, g2, M2, v2, M2', gi2, Mi2, gn2, Mn2, ho2, ht2, evG_mono (hle m) hv2, hi2, hn2⟩ hx

theorem stable_cont (hle : ∀ k, Le (G k) E) {ops : List XOper} {g : Regs} {M : Mem} {r} (he : execOps E ops g M = some r) :
    ∀ {pairs : List (Nat × Nat)}, stable E ops g M pairs → ∃ k, ∀ m, k ≤ m → execOps (G m) ops g M = some r → stable (G m) ops g M pairs := by
  intro pairs
  induction pairs with
  | nil => intro _; exact ⟨0, fun m _ _ p hp => absurd hp (by simp)⟩
  | cons p ps ih =>
    intro hs
    obtain ⟨k1, h1⟩ := stable1_cont c hle (r := r) (hs p (by simp))
    obtain ⟨k2, h2⟩ := ih (fun q hq => hs q (by simp [hq]))
    refine ⟨max k1 k2, fun m hm hx q hq => ?_⟩
    have ht := trace_mono (hle m) hx
    rcases List.mem_cons.1 hq with rfl | hq
    · rw [← ht]; exact h1 m (by omega) hx
    · exact h2 m (by omega) hx q hq

omit c in
theorem iterN_cont {f : S → Option (Out × S)} {F : Nat → S → Option (Out × S)} (hm : ∀ k m s r, k ≤ m → F k s = some r → F m s = some r)
    (h : ∀ s r, f s = some r → ∃ k, F k s = some r) : ∀ {n : Nat} {s : S} {r}, iterN f n s = some r → ∃ k, iterN (F k) n s = some r := by
  intro n
  induction n with
  | zero => intro s r he; simp [iterN] at he
  | succ n ih =>
    intro s r he
    simp only [iterN, bind_some'] at he
    obtain ⟨⟨o, s'⟩, h1, h2⟩ := he
    obtain ⟨k, hk⟩ := h _ _ h1
    cases o with
    | norm =>
      obtain ⟨m, hm'⟩ := ih h2
      refine ⟨max k m, ?_⟩
      simp only [iterN, bind_some']
      exact ⟨(.norm, s'), hm _ _ _ _ (Nat.le_max_left k m) hk, iterN_le (fun s r => hm _ _ s r (Nat.le_max_right k m)) hm'⟩
    | ret => exact ⟨k, by simp only [iterN, bind_some']; exact ⟨_, hk, h2⟩⟩
    | exit id => exact ⟨k, by simp only [iterN, bind_some']; exact ⟨_, hk, h2⟩⟩

theorem exec_cont (hle : ∀ k, Le (G k) E) : ∀ {x : XC} {s : S} {r}, exec E x s = some r → ∃ k, exec (G k) x s = some r := by
  intro x
  induction x with
  | skip => intro s r he; exact ⟨0, he⟩
  | ret => intro s r he; exact ⟨0, he⟩
  | exit id => intro s r he; exact ⟨0, he⟩
  | reg ops live pairs =>
    intro s r he
    cases pairs with
    | none =>
      simp only [exec, bind_some'] at he ⊢
      obtain ⟨p, h1, h2⟩ := he
      obtain ⟨k, hk⟩ := execOps_cont c h1
      exact ⟨k, p, hk, h2⟩
    | some pairs =>
      simp only [exec] at he ⊢
      split at he
      · rename_i hs
        simp only [bind_some'] at he
        obtain ⟨p, h1, h2⟩ := he
        obtain ⟨k, hk⟩ := execOps_cont c h1
        obtain ⟨m, hm⟩ := stable_cont c hle h1 hs
        have hx := execOps_mono (c.le (Nat.le_max_left k m)) hk
        refine ⟨max k m, ?_⟩
        rw [if_pos (hm _ (Nat.le_max_right k m) hx)]
        simp only [bind_some']
        exact ⟨p, hx, h2⟩
      · simp at he
  | seq a b iha ihb =>
    intro s r he
    simp only [exec, bind_some'] at he
    obtain ⟨⟨o, s'⟩, h1, h2⟩ := he
    obtain ⟨k, hk⟩ := iha h1
    cases o with
    | norm =>
      obtain ⟨m, hm⟩ := ihb h2
      refine ⟨max k m, ?_⟩
      simp only [exec, bind_some']
      exact ⟨_, exec_mono (c.le (Nat.le_max_left k m)) hk, exec_mono (c.le (Nat.le_max_right k m)) hm⟩
    | ret => exact ⟨k, by simp only [exec, bind_some']; exact ⟨_, hk, h2⟩⟩
    | exit id => exact ⟨k, by simp only [exec, bind_some']; exact ⟨_, hk, h2⟩⟩
  | cond x a b iha ihb =>
    intro s r he
    simp only [exec, bind_some'] at he
    obtain ⟨v, h1, h2⟩ := he
    cases v with
    | bool t => cases t with
      | true =>
        obtain ⟨k, hk⟩ := iha h2
        exact ⟨k, by simp only [exec, bind_some']; exact ⟨_, h1, hk⟩⟩
      | false =>
        obtain ⟨k, hk⟩ := ihb h2
        exact ⟨k, by simp only [exec, bind_some']; exact ⟨_, h1, hk⟩⟩
    | _ => simp at h2
  | block id b ih =>
    intro s r he
    simp only [exec, bind_some'] at he
    obtain ⟨p, h1, h2⟩ := he
    obtain ⟨k, hk⟩ := ih h1
    exact ⟨k, by simp only [exec, bind_some']; exact ⟨_, hk, h2⟩⟩
  | loop live b ih =>
    intro s r he
    simp only [exec] at he ⊢
    obtain ⟨n, hn⟩ := iter_some.1 he
    obtain ⟨k, hk⟩ := iterN_cont (F := fun k s => exec (G k) b (proj live s)) (fun k m s r hkm hx => exec_mono (c.le hkm) hx) (fun s r hx => ih hx) hn
    exact ⟨k, iter_some.2 ⟨n, hk⟩⟩

theorem bodyX_cont (hle : ∀ k, Le (G k) E) {cf : CFun} {args : List AV} {st : Store} {r} (he : bodyX E cf args st = some r) : ∃ k, bodyX (G k) cf args st = some r := by
  unfold bodyX at he
  split at he
  · rename_i hn
    simp only [bind_some'] at he
    obtain ⟨p, h1, h2⟩ := he
    obtain ⟨k, hk⟩ := exec_cont c hle h1
    refine ⟨k, ?_⟩
    unfold bodyX
    rw [if_pos hn]
    simp only [bind_some']
    exact ⟨p, hk, h2⟩
  · simp at he
end

theorem Ex_chain (C : FuncId → Option CFun) (X : Call) : Chain (exF C X) (Ex C X) := ⟨exF_succ, fun _ _ _ _ h => Ex_some.1 h⟩

/-- THE UNFOLDING EQUATION. -/
theorem Ex_eq {C : FuncId → Option CFun} {X : Call} {f : FuncId} {cf : CFun} (hc : C f = some cf) (a : List AV) (s : Store) : Ex C X f a s = bodyX (Ex C X) cf a s := by
  have hle : ∀ k, Le (exF C X k) (Ex C X) := fun k f a s r h => Ex_some.2 ⟨k, h⟩
  apply Option.ext
  intro r
  constructor
  · intro h
    obtain ⟨k, hk⟩ := Ex_some.1 h
    cases k with
    | zero => simp [exF] at hk
    | succ k =>
      unfold exF at hk
      rw [hc] at hk
      exact bodyX_mono (hle k) hk
  · intro h
    obtain ⟨k, hk⟩ := bodyX_cont (Ex_chain C X) hle h
    refine Ex_some.2 ⟨k + 1, ?_⟩
    unfold exF
    rw [hc]
    exact hk

theorem Ex_ext {C : FuncId → Option CFun} {X : Call} {f : FuncId} (hc : C f = none) (a : List AV) (s : Store) : Ex C X f a s = X f a s := by
  apply Option.ext
  intro r
  constructor
  · intro h
    obtain ⟨k, hk⟩ := Ex_some.1 h
    cases k with
    | zero => simp [exF] at hk
    | succ k => unfold exF at hk; rw [hc] at hk; exact hk
  · intro h
    refine Ex_some.2 ⟨1, ?_⟩
    unfold exF
    rw [hc]
    exact h

end Go.X

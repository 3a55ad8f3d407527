/- GoX, part 22: stores that change, and what stays as it was; boxes that have escaped; slices that grow. No statement of the seat is here. -/
import Derived.Test.YtlliifjmnddckaaDoorX21
set_option linter.unusedVariables false
set_option linter.unusedSimpArgs false
set_option maxRecDepth 20000
namespace Go.X
open Go
variable {α β R : Type}

/-- σ' has σ's rows, but for those of W, and perhaps more. -/
def Fr (W : Nat → Prop) (σ σ' : Store) : Prop := σ.length ≤ σ'.length ∧ ∀ r, r < σ.length → ¬ W r → σ'[r]? = σ[r]?
/-- σ' has σ's rows, and perhaps more. -/
abbrev Pre (σ σ' : Store) : Prop := Fr (fun _ => False) σ σ'
theorem Fr.refl (W : Nat → Prop) (σ : Store) : Fr W σ σ := ⟨Nat.le_refl _, fun _ _ _ => rfl⟩
theorem Fr.trans {W W' : Nat → Prop} {a b c : Store} (h : Fr W a b) (k : Fr W' b c) (hw : ∀ r, r < a.length → W' r → W r) : Fr W a c :=
  ⟨Nat.le_trans h.1 k.1, fun r h1 h2 => (k.2 r (Nat.lt_of_lt_of_le h1 h.1) (fun h3 => h2 (hw r h1 h3))).trans (h.2 r h1 h2)⟩
theorem Fr.weak {W W' : Nat → Prop} {a b : Store} (h : Fr W a b) (hw : ∀ r, r < a.length → W r → W' r) : Fr W' a b := ⟨h.1, fun r h1 h2 => h.2 r h1 (fun h3 => h2 (hw r h1 h3))⟩
theorem Fr.step {W : Nat → Prop} {a b c : Store} (h : Fr W a b) (k : Fr W b c) : Fr W a c := h.trans k (fun _ _ h => h)
theorem Fr.pre {W : Nat → Prop} {a b c : Store} (h : Fr W a b) (k : Pre b c) : Fr W a c := h.trans k (fun _ _ h => h.elim)
theorem Fr.app (W : Nat → Prop) (σ t : Store) : Fr W σ (σ ++ t) := ⟨by simp, fun r h _ => List.getElem?_append_left h⟩
theorem Pre.app (σ t : Store) : Pre σ (σ ++ t) := Fr.app _ σ t
theorem Pre.of {σ σ' : Store} (h : Pre σ σ') : ∃ t, σ' = σ ++ t := by
  refine ⟨σ'.drop σ.length, ?_⟩
  have : σ'.take σ.length = σ := by
    apply List.ext_getElem?
    intro r
    rw [List.getElem?_take]
    split
    · rename_i h1; rw [h.2 r h1 (fun h => h)]
    · rename_i h1; rw [List.getElem?_eq_none (by omega)]
  conv => rhs; lhs; rw [← this]
  rw [List.take_append_drop]
theorem Fr.same {lo hi : Nat} {σ σ' : Store} (h : Same lo hi σ σ') : Fr (fun r => lo ≤ r ∧ r < hi) σ σ' := ⟨Nat.le_of_eq h.1.symm, fun r _ h2 => h.2 r (by
  rcases Nat.lt_or_ge r lo with h3 | h3
  · exact .inl h3
  · exact .inr (Nat.le_of_not_lt (fun h4 => h2 ⟨h3, h4⟩)))⟩
theorem Fr.set (σ : Store) (r : Nat) (row : Row) : Fr (fun q => q = r) σ (σ.set r row) := ⟨by simp, fun q _ h => List.getElem?_set_ne (fun e => h e.symm)⟩

/-- It holds whatever the rows are that are not of D. -/
def Dep (D : Nat → Prop) (σ : Store) (P : Store → Prop) : Prop := ∀ st' : Store, (∀ r, D r → r < σ.length → st'[r]? = σ[r]?) → P st'
theorem Dep.self {D : Nat → Prop} {σ : Store} {P : Store → Prop} (h : Dep D σ P) : P σ := h σ (fun _ _ _ => rfl)
theorem Dep.imp {D : Nat → Prop} {σ : Store} {P Q : Store → Prop} (h : Dep D σ P) (hpq : ∀ s, P s → Q s) : Dep D σ Q := fun st' h' => hpq _ (h st' h')
theorem Dep.and {D : Nat → Prop} {σ : Store} {P Q : Store → Prop} (h : Dep D σ P) (k : Dep D σ Q) : Dep D σ (fun s => P s ∧ Q s) := fun st' h' => ⟨h st' h', k st' h'⟩
theorem Dep.wide {D D' : Nat → Prop} {σ : Store} {P : Store → Prop} (h : Dep D σ P) (hd : ∀ r, r < σ.length → D r → D' r) : Dep D' σ P := fun st' h' => h st' (fun r h1 h2 => h' r (hd r h2 h1) h2)
theorem Dep.fr {D W : Nat → Prop} {σ σ' : Store} {P : Store → Prop} (h : Dep D σ P) (k : Fr W σ σ') (hd : ∀ r, r < σ.length → D r → ¬ W r) : Dep D σ' P :=
  fun st' h' => h st' (fun r h1 h2 => (h' r h1 (Nat.lt_of_lt_of_le h2 k.1)).trans (k.2 r h2 (hd r h2 h1)))
theorem Dep.pre {D : Nat → Prop} {σ σ' : Store} {P : Store → Prop} (h : Dep D σ P) (k : Pre σ σ') : Dep D σ' P := h.fr k (fun _ _ _ h => h)
theorem Dep.of {D : Nat → Prop} {σ : Store} {P : Store → Prop} (h : ∀ s, P s) : Dep D σ P := fun st' _ => h st'
theorem Dep.fR {lo : Nat} {σ : Store} {P : Store → Prop} (h : Dep (fun r => lo ≤ r) σ P) : FR lo σ P := h
theorem FR.dep {lo : Nat} {σ : Store} {P : Store → Prop} (h : FR lo σ P) : Dep (fun r => lo ≤ r) σ P := h
theorem Mono.dep {P : Rp α} (hP : Mono P) {σ : Store} {m : α} {cs : List AV} (h : P σ m cs) : Dep (fun r => r < σ.length) σ (fun st => P st m cs) := by
  intro st' h'
  have hp : ∃ t, st' = σ ++ t := by
    refine ⟨st'.drop σ.length, ?_⟩
    have : st'.take σ.length = σ := by
      apply List.ext_getElem?
      intro r
      rw [List.getElem?_take]
      split
      · rename_i h1; rw [h' r h1 h1]
      · rename_i h1; rw [List.getElem?_eq_none (by omega)]
    conv => rhs; lhs; rw [← this]
    rw [List.take_append_drop]
  obtain ⟨t, rfl⟩ := hp
  exact hP _ _ _ _ h
theorem Mono.pre {P : Rp α} (hP : Mono P) {σ σ' : Store} {m : α} {cs : List AV} (h : P σ m cs) (k : Pre σ σ') : P σ' m cs := by
  obtain ⟨t, rfl⟩ := k.of
  exact hP _ _ _ _ h
theorem RS.pre {P : Rp α} (hP : Mono P) {sz : Nat} {σ σ' : Store} {l : List α} {a : AV} (h : RS P sz σ l a) (k : Pre σ σ') : RS P sz σ' l a := by
  obtain ⟨t, rfl⟩ := k.of
  exact h.mono hP t

/-! ### Boxes that have escaped -/

/-- What the box in row r holds. -/
def ObjAt (σ : Store) (r : Nat) (cs : List AV) : Prop := σ[r]? = some ⟨[cs], cs.length, 0, .own⟩
theorem ObjAt.lt {σ : Store} {r : Nat} {cs : List AV} (h : ObjAt σ r cs) : r < σ.length := (List.getElem?_eq_some_iff.1 h).1
theorem ObjAt.row {σ : Store} {r : Nat} {cs : List AV} (h : ObjAt σ r cs) : rowAt σ r 0 = some ⟨[cs], cs.length, 0, .own⟩ := by
  have h' : σ[r]? = some ⟨[cs], cs.length, 0, .own⟩ := h
  simp [rowAt, h']
theorem ObjAt.place {σ : Store} {r : Nat} {cs : List AV} (h : ObjAt σ r cs) (bx : Boxes) (o : Nat) : Go.X.place ⟨bx, σ⟩ (.v (.ptr r 0 0 o)) = some (cs, o) := by
  simp [Go.X.place, h.row]
theorem ObjAt.put {σ : Store} {r : Nat} {cs : List AV} (h : ObjAt σ r cs) (bx : Boxes) (o : Nat) (y : List AV) (hy : o + y.length ≤ cs.length) :
    putAt ⟨bx, σ⟩ (.v (.ptr r 0 0 o)) y = some ⟨bx, σ.set r ⟨[upd cs o y], cs.length, 0, .own⟩⟩ := by
  simp only [putAt, h.row, Option.bind_some, List.getElem?_cons_zero]
  rw [if_pos ⟨trivial, hy⟩]
  rfl
theorem upd_len {cs : List AV} {o : Nat} {y : List AV} (h : o + y.length ≤ cs.length) : (upd cs o y).length = cs.length := by
  simp only [upd, List.length_append, List.length_take, List.length_drop]; omega
/-- A store into a box. -/
theorem ObjAt.write {σ : Store} {r : Nat} {cs : List AV} (h : ObjAt σ r cs) (o : Nat) (y : List AV) (hy : o + y.length ≤ cs.length) :
    ∃ σ', (∀ bx, putAt ⟨bx, σ⟩ (.v (.ptr r 0 0 o)) y = some ⟨bx, σ'⟩) ∧ ObjAt σ' r (upd cs o y) ∧ Fr (fun q => q = r) σ σ' ∧ σ'.length = σ.length := by
  refine ⟨_, fun bx => h.put bx o y hy, ?_, Fr.set _ _ _, by simp⟩
  have := h.lt
  simp only [ObjAt, upd_len hy]
  rw [List.getElem?_set_self this]
theorem ObjAt.new (σ : Store) (cs : List AV) : ObjAt (σ ++ [⟨[cs], cs.length, 0, .own⟩]) σ.length cs := by simp [ObjAt]
theorem ObjAt.fr {W : Nat → Prop} {σ σ' : Store} {r : Nat} {cs : List AV} (h : ObjAt σ r cs) (k : Fr W σ σ') (hw : ¬ W r) : ObjAt σ' r cs := by
  unfold ObjAt
  rw [k.2 r h.lt hw]
  exact h
theorem ObjAt.pre {σ σ' : Store} {r : Nat} {cs : List AV} (h : ObjAt σ r cs) (k : Pre σ σ') : ObjAt σ' r cs := h.fr k (fun h => h)

/-! ### Slices in rows of the store's own -/

theorem rowAt_dep {σ st : Store} {r v : Nat} {row : Row} (h : rowAt σ r v = some row) (he : st[r]? = σ[r]?) : rowAt st r v = some row := by
  simp only [rowAt] at h ⊢
  rw [he]; exact h
theorem rowAt_lt {σ : Store} {r v : Nat} {row : Row} (h : rowAt σ r v = some row) : r < σ.length := by
  cases hq : σ[r]? with
  | none => simp [rowAt, hq] at h
  | some x => exact (List.getElem?_eq_some_iff.1 hq).1
/-- An own slice depends on rows of its own alone. -/
theorem SlAt.dep {lo hi : Nat} {σ : Store} {sz : Nat} {a : AV} {els : List (List AV)} (h : SlAt σ sz a els) (hk : KA (ownK lo hi) σ a) : Dep (fun r => lo ≤ r ∧ r < hi) σ (fun st => SlAt st sz a els ∧ KA (ownK lo hi) st a) := by
  intro st he
  rcases h.cases with ⟨rfl, rfl⟩ | ⟨r, v, s, n, row, rfl, hr, hs, hn, e, hl⟩
  · exact ⟨rfl, KA.nil _ _⟩
  · obtain ⟨row', hr', h1, h2, h3⟩ := hk r v s n rfl
    have hlt := rowAt_lt hr
    have hst := he r ⟨h1, h2⟩ hlt
    refine ⟨?_, fun r2 v2 i2 n2 e2 => ?_⟩
    · rw [e]; exact SlAt.mk (rowAt_dep hr hst) hs hn
    · cases e2
      exact ⟨row', rowAt_dep hr' hst, h1, h2, h3⟩

/-- A slice that grows: nil, or all of a row of the store's own, from lo on. -/
def Gr (lo : Nat) (σ : Store) (sz : Nat) (els : List (List AV)) (a : AV) : Prop := (a = .nilsl ∧ els = []) ∨ ∃ r v, a = .sl r v 0 els.length ∧ lo ≤ r ∧ σ[r]? = some ⟨els, sz, v, .own⟩
theorem Gr.nil (lo : Nat) (σ : Store) (sz : Nat) : Gr lo σ sz [] .nilsl := .inl ⟨rfl, rfl⟩
theorem Gr.new (lo : Nat) (σ : Store) (sz : Nat) (els : List (List AV)) (h : lo ≤ σ.length) : Gr lo (σ ++ [⟨els, sz, 0, .own⟩]) sz els (.sl σ.length 0 0 els.length) := .inr ⟨σ.length, 0, rfl, h, by simp⟩
theorem Gr.fr {W : Nat → Prop} {lo : Nat} {σ σ' : Store} {sz : Nat} {els : List (List AV)} {a : AV} (h : Gr lo σ sz els a) (k : Fr W σ σ') (hw : ∀ r, r < σ.length → lo ≤ r → ¬ W r) : Gr lo σ' sz els a := by
  rcases h with h | ⟨r, v, h1, h2, h3⟩
  · exact .inl h
  · have hlt := (List.getElem?_eq_some_iff.1 h3).1
    exact .inr ⟨r, v, h1, h2, by rw [k.2 r hlt (hw r hlt h2)]; exact h3⟩
theorem Gr.pre {lo : Nat} {σ σ' : Store} {sz : Nat} {els : List (List AV)} {a : AV} (h : Gr lo σ sz els a) (k : Pre σ σ') : Gr lo σ' sz els a := h.fr k (fun _ _ _ h => h)
theorem Gr.slAt {lo : Nat} {σ : Store} {sz : Nat} {els : List (List AV)} {a : AV} (h : Gr lo σ sz els a) : SlAt σ sz a els ∧ KA (ownK lo σ.length) σ a := by
  rcases h with ⟨rfl, rfl⟩ | ⟨r, v, rfl, h2, h3⟩
  · exact ⟨rfl, KA.nil _ _⟩
  · have hr : rowAt σ r v = some ⟨els, sz, v, .own⟩ := by simp [rowAt, h3]
    have hlt := (List.getElem?_eq_some_iff.1 h3).1
    refine ⟨?_, fun r2 v2 i2 n2 e2 => ?_⟩
    · have h := SlAt.mk (i := 0) (n := els.length) hr rfl (by simp)
      simpa using h
    · cases e2; exact ⟨_, hr, h2, hlt, rfl⟩
theorem Gr.cellsOf {lo : Nat} {σ : Store} {sz : Nat} {els : List (List AV)} {a : AV} (h : Gr lo σ sz els a) : Go.X.cellsOf a = some [a] := h.slAt.1.cellsOf
theorem Gr.len {lo : Nat} {σ : Store} {sz : Nat} {els : List (List AV)} {a : AV} (h : Gr lo σ sz els a) : lenV false a = some (.int .i64 els.length) := h.slAt.1.len
/-- It grows. -/
theorem Gr.app {lo : Nat} {σ : Store} {sz : Nat} {els : List (List AV)} {a : AV} (h : Gr lo σ sz els a) (hlo : lo ≤ σ.length) (bytes : Nat) (ys : List (List AV)) (hb : (els.length + ys.length) * bytes ≤ 140737488355328) :
    ∃ a' σ', appV sz bytes σ ys a = some (a', σ') ∧ Gr lo σ' sz (els ++ ys) a' ∧ Fr (fun r => lo ≤ r) σ σ' ∧ (a = .nilsl → ys = [] → a' = .nilsl) := by
  rcases h with ⟨rfl, rfl⟩ | ⟨r, v, rfl, h2, h3⟩
  · simp only [List.length_nil, Nat.zero_add] at hb
    cases ys with
    | nil => exact ⟨.nilsl, σ, by simp [appV], .inl ⟨rfl, rfl⟩, Fr.refl _ _, fun _ _ => rfl⟩
    | cons y ys =>
      refine ⟨.sl σ.length 0 0 (y :: ys).length, σ ++ [⟨y :: ys, sz, 0, .own⟩], by simp only [appV]; rw [if_pos hb], ?_, Fr.app _ _ _, fun _ h => by cases h⟩
      simpa using Gr.new lo σ sz (y :: ys) hlo
  · have hr : rowAt σ r v = some ⟨els, sz, v, .own⟩ := by simp [rowAt, h3]
    have hlt := (List.getElem?_eq_some_iff.1 h3).1
    refine ⟨.sl r (v + 1) 0 (els.length + ys.length), σ.set r ⟨els ++ ys, sz, v + 1, .own⟩, ?_, .inr ⟨r, v + 1, by simp, h2, by rw [List.getElem?_set_self hlt]⟩, (Fr.set _ _ _).weak (fun q _ e => by rw [e]; exact h2), fun h => by cases h⟩
    simp only [appV, hr, Option.bind_some]
    rw [if_pos ⟨trivial, trivial, by omega, hb⟩]
    simp
/-- What has grown, as the list that it holds. -/
theorem Gr.rso {Q : Nat → Nat → Rp α} {lo : Nat} {σ : Store} {sz : Nat} {els : List (List AV)} {a : AV} (h : Gr lo σ sz els a) {l : List α} (hl : All2 (fun m cs => ∀ st, Q lo σ.length st m cs) l els) : Dep (fun r => lo ≤ r ∧ r < σ.length) σ (fun st => RSO Q sz lo σ.length st l a) := by
  obtain ⟨h1, h2⟩ := h.slAt
  exact (h1.dep h2).imp (fun s h => ⟨⟨els, h.1, hl.imp (fun m cs h => h s)⟩, h.2⟩)

/-- A store into an element's cell, in a row of the store's own. -/
theorem put_fr {σ : Store} {sz lo hi : Nat} {a : AV} {els : List (List AV)} (h : SlAt σ sz a els) (hk : KA (ownK lo hi) σ a) {i : Nat} {cs : List AV} (hi' : els[i]? = some cs) (o : Nat) (y : List AV) (hy : o + y.length ≤ cs.length) :
    ∃ σ', (∀ bx, putAt ⟨bx, σ⟩ (.v (elQ a i o)) y = some ⟨bx, σ'⟩) ∧ SlAt σ' sz a (els.set i (upd cs o y)) ∧ KA (ownK lo hi) σ' a ∧ Fr (fun r => lo ≤ r ∧ r < hi) σ σ' ∧ σ'.length = σ.length := by
  obtain ⟨σ', h1, h2, h3, h4⟩ := put_own h hk hi' o y hy
  exact ⟨σ', h1, h2, h3, Fr.same h4, h4.1⟩

end Go.X

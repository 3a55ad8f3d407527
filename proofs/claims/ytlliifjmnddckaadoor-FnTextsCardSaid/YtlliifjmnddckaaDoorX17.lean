/- GoX, part 17: regions that draw, handed on; slices as lists of elements. No statement of the seat is here. -/
import Derived.Test.YtlliifjmnddckaaDoorX16
set_option linter.unusedVariables false
set_option linter.unusedSimpArgs false
namespace Go.X
open Go
variable {α β R : Type}

/-! ### Regions that draw -/

def stT (E : Call) (ops : List XOper) (tr : List (Regs × Mem)) (ps : List (Nat × Nat)) : Prop := ∀ p ∈ ps, stable1 E ops tr p.1 p.2
/-- A reader sees the same before and behind a writer. -/
def same3 (a b c : Option (RV × Mem)) (Mi Mn : Mem) : Prop := ∀ v M', a = some (v, M') → b = some (v, Mi) ∧ c = some (v, Mn)
def st1 (E : Call) : Option XOper → Option (Regs × Mem) → Option (Regs × Mem) → Option (Regs × Mem) → Prop
  | some o, some (g, M), some (gi, Mi), some (gn, Mn) => same3 (evG E g M o) (evG E g Mi o) (evG E g Mn o) Mi Mn
  | _, _, _, _ => False
theorem st1_some (E : Call) (o : XOper) (g gi gn : Regs) (M Mi Mn : Mem) : st1 E (some o) (some (g, M)) (some (gi, Mi)) (some (gn, Mn)) = same3 (evG E g M o) (evG E g Mi o) (evG E g Mn o) Mi Mn := rfl
theorem stT_nil (E : Call) (ops : List XOper) (tr : List (Regs × Mem)) : stT E ops tr [] = True := by simp [stT]
theorem stT_cons (E : Call) (ops : List XOper) (tr : List (Regs × Mem)) (j i : Nat) (ps : List (Nat × Nat)) (h1 : st1 E (ops[j]?) (tr[j]?) (tr[i]?) (tr[i + 1]?)) (h2 : stT E ops tr ps) : stT E ops tr ((j, i) :: ps) := by
  intro p hp
  rcases List.mem_cons.1 hp with rfl | hp
  · intro o g M v M' gi Mi gn Mn e1 e2 e3 e4 e5
    simp only at e1 e2 e4 e5
    rw [e1, e2, e4, e5] at h1
    exact h1 v M' e3
  · exact h2 p hp
theorem stT_cons' (E : Call) (ops : List XOper) (tr : List (Regs × Mem)) (j i : Nat) (ps : List (Nat × Nat)) (h1 : st1 E (ops[j]?) (tr[j]?) (tr[i]?) (tr[i + 1]?)) : stT E ops tr ((j, i) :: ps) = stT E ops tr ps :=
  propext ⟨fun h p hp => h p (List.mem_cons_of_mem _ hp), stT_cons E ops tr j i ps h1⟩
theorem same3_eq (v : RV) (M Mi Mn : Mem) : same3 (some (v, M)) (some (v, Mi)) (some (v, Mn)) Mi Mn = True := by
  simp only [same3, eq_iff_iff, iff_true]
  intro v' M' e
  cases e
  exact ⟨rfl, rfl⟩
theorem same3_none (b c : Option (RV × Mem)) (Mi Mn : Mem) : same3 none b c Mi Mn = True := by
  simp only [same3, eq_iff_iff, iff_true]
  intro v' M' e
  cases e

/-- A demand. -/
noncomputable def iteP (p : Prop) (r : Option R) : Option R := by classical exact if p then r else none
theorem iteP_true (r : Option R) : iteP True r = r := by simp [iteP]
theorem iteP_none (p : Prop) : iteP p (none : Option R) = none := by simp [iteP]
theorem iteP_pos {p : Prop} (h : p) (r : Option R) : iteP p r = r := by simp [iteP, h]
theorem iteP_neg {p : Prop} (h : ¬ p) (r : Option R) : iteP p r = none := by simp [iteP, h]
noncomputable def opsT (E : Call) (ops : List XOper) (ps : List (Nat × Nat)) (os : List XOper) (acc : List (Regs × Mem)) (g : Regs) (M : Mem) (k : Regs → Mem → Option R) : Option R :=
  iteP (stT E ops (acc ++ trace E os g M) ps) ((execOps E os g M).bind (fun p => k p.1 p.2))
open Classical in
theorem runK_drawT (E : Call) (ops : List XOper) (live : List Nat) (p : Nat × Nat) (ps : List (Nat × Nat)) (g : Regs) (M : Mem) (k : Out → S → Option R) :
    runK E (.reg ops live (some (p :: ps))) (g, M) k = opsT E ops (p :: ps) ops [] g M (regK live k) := by
  simp only [runK, exec, opsT, List.nil_append]
  have e : stable E ops g M (p :: ps) = stT E ops (trace E ops g M) (p :: ps) := rfl
  rw [e]
  by_cases h : stT E ops (trace E ops g M) (p :: ps)
  · rw [if_pos h, iteP_pos h, Option.bind_assoc]; rfl
  · rw [if_neg h, iteP_neg h]; rfl
/-- What follows an operation of a region that draws. -/
noncomputable def nxtT (E : Call) (ops : List XOper) (ps : List (Nat × Nat)) (d : Option Nat) (os : List XOper) (acc : List (Regs × Mem)) (g : Regs) (M0 : Mem) (k : Regs → Mem → Option R) (v : RV) (M : Mem) : Option R := opsT E ops ps os (acc ++ [(g, M0)]) (putd g d v) M k
theorem nxtT_some (E : Call) (ops : List XOper) (ps : List (Nat × Nat)) (d : Nat) (os : List XOper) (acc : List (Regs × Mem)) (g : Regs) (M0 : Mem) (k : Regs → Mem → Option R) (v : RV) (M : Mem) :
    nxtT E ops ps (some d) os acc g M0 k v M = opsT E ops ps os (acc ++ [(g, M0)]) ((d, v) :: g) M k := rfl
theorem nxtT_none (E : Call) (ops : List XOper) (ps : List (Nat × Nat)) (os : List XOper) (acc : List (Regs × Mem)) (g : Regs) (M0 : Mem) (k : Regs → Mem → Option R) (v : RV) (M : Mem) :
    nxtT E ops ps none os acc g M0 k v M = opsT E ops ps os (acc ++ [(g, M0)]) g M k := rfl
/-- The end of a region that draws: what was read must not have met a writer. -/
noncomputable def endT (E : Call) (ops : List XOper) (ps : List (Nat × Nat)) (tr : List (Regs × Mem)) (r : Option R) : Option R := iteP (stT E ops tr ps) r
theorem endT_nil (E : Call) (ops : List XOper) (tr : List (Regs × Mem)) (r : Option R) : endT E ops [] tr r = r := by rw [endT, stT_nil, iteP_true]
theorem endT_cons (E : Call) (ops : List XOper) (tr : List (Regs × Mem)) (j i : Nat) (ps : List (Nat × Nat)) (r : Option R) (h1 : st1 E (ops[j]?) (tr[j]?) (tr[i]?) (tr[i + 1]?)) : endT E ops ((j, i) :: ps) tr r = endT E ops ps tr r := by
  rw [endT, stT_cons' E ops tr j i ps h1, endT]
theorem opsT_nil (E : Call) (ops : List XOper) (ps : List (Nat × Nat)) (acc : List (Regs × Mem)) (g : Regs) (M : Mem) (k : Regs → Mem → Option R) : opsT E ops ps [] acc g M k = endT E ops ps (acc ++ [(g, M)]) (k g M) := rfl

theorem opsT_step (E : Call) (ops : List XOper) (ps : List (Nat × Nat)) (o : XOper) (os : List XOper) (acc : List (Regs × Mem)) (g : Regs) (M : Mem) (k : Regs → Mem → Option R) :
    opsT E ops ps (o :: os) acc g M k = (evG E g M o).bind fun p => nxtT E ops ps o.dst os acc g M k p.1 p.2 := by
  simp only [opsT, nxtT, execOps, trace, Option.bind_assoc]
  cases evG E g M o with
  | none => exact iteP_none _
  | some p =>
    obtain ⟨v, M'⟩ := p
    simp only [Option.bind_some, List.append_assoc, List.singleton_append]
theorem opsT_op (E : Call) (ops : List XOper) (ps : List (Nat × Nat)) (d : Option Nat) (o : XOp) (os : List XOper) (acc : List (Regs × Mem)) (g : Regs) (M : Mem) (k : Regs → Mem → Option R) :
    opsT E ops ps (⟨d, o, none⟩ :: os) acc g M k = opK E o g M (nxtT E ops ps d os acc g M k) := by
  rw [opsT_step]
  simp only [evG, wants, Option.bind_some, opK]
theorem opsT_og (E : Call) (ops : List XOper) (ps : List (Nat × Nat)) (d : Option Nat) (o : XOp) (t : Nat) (b : Bool) (os : List XOper) (acc : List (Regs × Mem)) (g : Regs) (M : Mem) (k : Regs → Mem → Option R) :
    opsT E ops ps (⟨d, o, some (t, b)⟩ :: os) acc g M k = gdK (lk g t) b (opK E o g M (nxtT E ops ps d os acc g M k)) (nxtT E ops ps d os acc g M k (.v .undef) M) := by
  rw [opsT_step]
  simp only [evG, wants, opK]
  cases lk g t with
  | none => rfl
  | some v =>
    cases v with
    | v a =>
      cases a with
      | bool c =>
        simp only [gdK, Option.bind_some, ch]
        cases c <;> cases b <;> simp
      | undef => simp [gdK]
      | _ => rfl
    | lp t' o => rfl
    | ls els => rfl

/-- Readers. -/
theorem evG_load (E : Call) (g : Regs) (M : Mem) (d : Option Nat) (ag : Bool) (sz : Nat) (x : XO) : evG E g M ⟨d, .load ag sz x, none⟩ = th (ev g x) (fun p => th (place M p) (fun q => th (ld ag sz q.2 q.1) (fun a => some (.v a, M)))) := by
  simp only [evG, wants, Option.bind_some, evOp, evP, th]
theorem evG_iadr (E : Call) (g : Regs) (bx : Boxes) (st : Store) (d : Option Nat) (sz : Nat) (x i : XO) : evG E g ⟨bx, st⟩ ⟨d, .iadr sz x i, none⟩ = th (evv g x) (fun a => th (evv g i) (fun b => th (iadrV st sz a b) (fun q => some (.v q, ⟨bx, st⟩)))) := by
  have h := opK_iadr (R := RV × Mem) E sz x i g bx st (fun a M => some (a, M))
  simp only [opK] at h
  rw [← h]
  simp only [evG, wants, Option.bind_some]
  cases evOp E g ⟨bx, st⟩ (.iadr sz x i) <;> rfl
/-- A guarded reader. -/
theorem evG_gd (E : Call) (g : Regs) (M : Mem) (d : Option Nat) (o : XOp) (t : Nat) (b : Bool) : evG E g M ⟨d, o, some (t, b)⟩ = gdK (lk g t) b (evG E g M ⟨d, o, none⟩) (some (.v .undef, M)) := by
  simp only [evG, wants]
  cases lk g t with
  | none => rfl
  | some v =>
    cases v with
    | v a =>
      cases a with
      | bool c =>
        simp only [gdK, Option.bind_some, ch]
        cases c <;> cases b <;> simp
      | undef => simp [gdK]
      | _ => rfl
    | lp t' o => rfl
    | ls els => rfl

/-! ### Slices as lists of elements -/

/-- Slice a holds these elements. -/
def SlAt (st : Store) (sz : Nat) (a : AV) (els : List (List AV)) : Prop := elsOf ⟨[], st⟩ sz (.v a) = some els

theorem elsOf_bx (bx : Boxes) (st : Store) (sz : Nat) (a : AV) : elsOf ⟨bx, st⟩ sz (.v a) = elsOf ⟨[], st⟩ sz (.v a) := by cases a <;> rfl

theorem SlAt.cases {st : Store} {sz : Nat} {a : AV} {els : List (List AV)} (h : SlAt st sz a els) :
    (a = .nilsl ∧ els = []) ∨ ∃ r v i n row, a = .sl r v i n ∧ rowAt st r v = some row ∧ row.sz = sz ∧ i + n ≤ row.els.length ∧ els = (row.els.drop i).take n ∧ els.length = n := by
  cases a with
  | nilsl => left; simp only [SlAt, elsOf, Option.some.injEq] at h; exact ⟨rfl, h.symm⟩
  | sl r v i n =>
    right
    simp only [SlAt, elsOf] at h
    cases hr : rowAt st r v with
    | none => simp [hr] at h
    | some row =>
      simp only [hr, Option.bind_some] at h
      split at h
      · rename_i hc
        simp only [Option.some.injEq] at h
        refine ⟨r, v, i, n, row, rfl, hr, hc.1, hc.2, h.symm, ?_⟩
        rw [← h]; simp; omega
      · simp at h
  | _ => simp [SlAt, elsOf] at h

theorem SlAt.mk {st : Store} {sz : Nat} {r v i n : Nat} {row : Row} (hr : rowAt st r v = some row) (hs : row.sz = sz) (hn : i + n ≤ row.els.length) : SlAt st sz (.sl r v i n) ((row.els.drop i).take n) := by
  simp [SlAt, elsOf, hr, hs, hn]
theorem SlAt.nil (st : Store) (sz : Nat) : SlAt st sz .nilsl [] := rfl

theorem SlAt.len {st : Store} {sz : Nat} {a : AV} {els : List (List AV)} (h : SlAt st sz a els) : lenV false a = some (.int .i64 els.length) := by
  rcases h.cases with ⟨rfl, rfl⟩ | ⟨r, v, i, n, row, rfl, _, _, _, _, hl⟩
  · rfl
  · rw [lenV_sl, hl]
theorem SlAt.cellsOf {st : Store} {sz : Nat} {a : AV} {els : List (List AV)} (h : SlAt st sz a els) : cellsOf a = some [a] := by
  rcases h.cases with ⟨rfl, rfl⟩ | ⟨r, v, i, n, row, rfl, _⟩ <;> rfl
theorem SlAt.els {st : Store} {sz : Nat} {a : AV} {els : List (List AV)} (h : SlAt st sz a els) (bx : Boxes) : elsOf ⟨bx, st⟩ sz (.v a) = some els := by rw [elsOf_bx]; exact h

/-- The pointer to element i. -/
def elP (a : AV) (i : Nat) : AV := match a with | .sl r v s _ => .ptr r v (s + i) 0 | _ => .nilptr
theorem SlAt.iadr {st : Store} {sz : Nat} {a : AV} {els : List (List AV)} (h : SlAt st sz a els) (k : IntKind) {i : Nat} (hi : i < els.length) : iadrV st sz a (.int k i) = some (elP a i) := by
  rcases h.cases with ⟨rfl, rfl⟩ | ⟨r, v, s, n, row, rfl, hr, hs, hn, he, hl⟩
  · simp at hi
  · simp only [iadrV, hr, Option.bind_some]
    rw [if_pos ⟨hs, by omega, by omega⟩]
    simp [elP]
theorem SlAt.iadr_int {st : Store} {sz : Nat} {a : AV} {els : List (List AV)} (h : SlAt st sz a els) (k : IntKind) {i : Int} (h0 : 0 ≤ i) (hi : i < els.length) : iadrV st sz a (.int k i) = some (elP a i.toNat) := by
  obtain ⟨n, rfl⟩ := Int.eq_ofNat_of_zero_le h0
  exact h.iadr k (by omega)
theorem SlAt.place {st : Store} {sz : Nat} {a : AV} {els : List (List AV)} (h : SlAt st sz a els) (bx : Boxes) {i : Nat} {cs : List AV} (hi : els[i]? = some cs) : Go.X.place ⟨bx, st⟩ (.v (elP a i)) = some (cs, 0) := by
  have hlt := (List.getElem?_eq_some_iff.1 hi).1
  rcases h.cases with ⟨rfl, rfl⟩ | ⟨r, v, s, n, row, rfl, hr, hs, hn, he, hl⟩
  · simp at hi
  · simp only [elP, Go.X.place, hr, Option.bind_some]
    have : row.els[s + i]? = some cs := by
      rw [he, List.getElem?_take, if_pos (by omega), List.getElem?_drop] at hi
      exact hi
    rw [this]; rfl
theorem SlAt.fadr {st : Store} {sz : Nat} {a : AV} {els : List (List AV)} (h : SlAt st sz a els) (bx : Boxes) {i : Nat} {cs : List AV} (hi : els[i]? = some cs) (o : Nat) :
    ∃ q, fadrV o (.v (elP a i)) = some (.v q) ∧ Go.X.place ⟨bx, st⟩ (.v q) = some (cs, o) := by
  have hlt := (List.getElem?_eq_some_iff.1 hi).1
  rcases h.cases with ⟨rfl, rfl⟩ | ⟨r, v, s, n, row, rfl, hr, hs, hn, he, hl⟩
  · simp at hi
  · refine ⟨.ptr r v (s + i) (0 + o), rfl, ?_⟩
    simp only [Go.X.place, hr, Option.bind_some]
    have : row.els[s + i]? = some cs := by
      rw [he, List.getElem?_take, if_pos (by omega), List.getElem?_drop] at hi
      exact hi
    rw [this]; simp

/-- The pointer to cell o of element i. -/
def elQ (a : AV) (i o : Nat) : AV := match a with | .sl r v s _ => .ptr r v (s + i) o | _ => .nilptr
theorem elP_Q (a : AV) (i : Nat) : elP a i = elQ a i 0 := by cases a <;> rfl
theorem SlAt.fadrQ {st : Store} {sz : Nat} {a : AV} {els : List (List AV)} (h : SlAt st sz a els) {i : Nat} (hi : i < els.length) (o : Nat) : fadrV o (.v (elP a i)) = some (.v (elQ a i o)) := by
  rcases h.cases with ⟨rfl, rfl⟩ | ⟨r, v, s, n, row, rfl, _⟩
  · simp at hi
  · simp [elP, elQ, fadrV]
theorem SlAt.nilcQ {st : Store} {sz : Nat} {a : AV} {els : List (List AV)} (h : SlAt st sz a els) {i : Nat} (hi : i < els.length) : nilcV (.v (elP a i)) = some (.v (elP a i)) := by
  rcases h.cases with ⟨rfl, rfl⟩ | ⟨r, v, s, n, row, rfl, _⟩
  · simp at hi
  · rfl
theorem SlAt.placeQ {st : Store} {sz : Nat} {a : AV} {els : List (List AV)} (h : SlAt st sz a els) (bx : Boxes) {i : Nat} {cs : List AV} (hi : els[i]? = some cs) (o : Nat) : Go.X.place ⟨bx, st⟩ (.v (elQ a i o)) = some (cs, o) := by
  obtain ⟨q, h1, h2⟩ := h.fadr bx hi o
  rw [h.fadrQ (List.getElem?_eq_some_iff.1 hi).1 o] at h1
  cases h1
  exact h2

/-! ### More rows -/

theorem rowAt_append {st : Store} {r v : Nat} {row : Row} (h : rowAt st r v = some row) (l : Store) : rowAt (st ++ l) r v = some row := by
  simp only [rowAt] at h ⊢
  cases hr : st[r]? with
  | none => simp [hr] at h
  | some row' =>
    rw [List.getElem?_append_left (List.getElem?_eq_some_iff.1 hr).1, hr]
    rw [hr] at h
    exact h
theorem SlAt.append {st : Store} {sz : Nat} {a : AV} {els : List (List AV)} (h : SlAt st sz a els) (l : Store) : SlAt (st ++ l) sz a els := by
  rcases h.cases with ⟨rfl, rfl⟩ | ⟨r, v, s, n, row, rfl, hr, hs, hn, he, hl⟩
  · rfl
  · rw [he]; exact SlAt.mk (rowAt_append hr l) hs hn
theorem SlAt.mono {st st' : Store} {sz : Nat} {a : AV} {els : List (List AV)} (h : SlAt st sz a els) (hp : st <+: st') : SlAt st' sz a els := by
  obtain ⟨l, rfl⟩ := hp
  exact h.append l
/-- A row that has just come. -/
theorem rowAt_new (st : Store) (els : List (List AV)) (sz : Nat) : rowAt (st ++ [⟨els, sz, 0, .own⟩]) st.length 0 = some ⟨els, sz, 0, .own⟩ := by
  simp [rowAt]
theorem SlAt.new (st : Store) (els : List (List AV)) (sz : Nat) : SlAt (st ++ [⟨els, sz, 0, .own⟩]) sz (.sl st.length 0 0 els.length) els := by
  have h := SlAt.mk (i := 0) (n := els.length) (rowAt_new st els sz) rfl (by simp)
  simpa using h
theorem set_new (st : Store) (a b : Row) : (st ++ [a]).set st.length b = st ++ [b] := by
  simp

end Go.X

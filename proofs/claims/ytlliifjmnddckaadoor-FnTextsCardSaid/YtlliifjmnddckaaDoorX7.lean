/- GoX, part 7: comparing structs, building values, slices out of literals, byte conversions, make. No statement of the seat is here. -/
import Derived.Test.YtlliifjmnddckaaDoorX6
import Derived.Laws.StructEq
import Derived.Laws.MakeOwn
import Derived.Laws.BytesArg
set_option linter.unusedVariables false
set_option linter.unusedSimpArgs false
namespace Go.X
open Go

section
variable {P : Program} {base : Nat} {c0 : Ctx} {n : Nat} {c : Ctx} {γ : Nat → Nat} {g : Regs} {bx : Boxes} {tmps : Array Value} {a : Act} {o : Oper}

theorem cellsEq_length : ∀ {ks : List CK} {as bs : List AV} {e : Bool}, cellsEq ks as bs = some e → as.length = ks.length ∧ bs.length = ks.length
  | [], [], [], _, _ => ⟨rfl, rfl⟩
  | k :: ks, a :: as, b :: bs, e, h => by
    simp only [cellsEq, bind_some'] at h
    obtain ⟨x, _, y, h2, _⟩ := h
    have := cellsEq_length h2
    simp [this.1, this.2]
  | [], _ :: _, _, _, h => by simp [cellsEq] at h
  | [], [], _ :: _, _, h => by simp [cellsEq] at h
  | _ :: _, [], _, _, h => by simp [cellsEq] at h
  | _ :: _, _ :: _, [], _, h => by simp [cellsEq] at h

theorem cellsEq_append : ∀ {ks ks' : List CK} {as bs : List AV} {e : Bool}, cellsEq (ks ++ ks') as bs = some e →
    ∃ x y, cellsEq ks (as.take ks.length) (bs.take ks.length) = some x ∧ cellsEq ks' (as.drop ks.length) (bs.drop ks.length) = some y ∧ e = (x && y)
  | [], ks', as, bs, e, h => ⟨true, e, by simp [cellsEq], by simpa using h, by simp⟩
  | k :: ks, ks', a :: as, b :: bs, e, h => by
    simp only [List.cons_append, cellsEq, bind_some', Option.some.injEq] at h
    obtain ⟨x, h1, y, h2, rfl⟩ := h
    obtain ⟨x', y', h3, h4, rfl⟩ := cellsEq_append h2
    exact ⟨x && x', y', by simp [cellsEq, h1, h3], by simpa using h4, by simp [Bool.and_assoc]⟩
  | k :: ks, ks', [], bs, e, h => by simp [cellsEq] at h
  | k :: ks, ks', a :: as, [], e, h => by simp [cellsEq] at h

/-- A value of a type out of its cells. -/
def packT (P : Program) (t : TypeId) (xs : List Value) : Option Value :=
  match isAggT P t with
  | some true => some (.agg xs.toArray)
  | some false => (match xs with | [x] => some x | _ => none)
  | none => none

theorem run_part {t : TypeId} {xs : Array Value} {o s : Nat} (hs : szOf P t = some s) {v : Value} (hp : packT P t ((xs.toList.drop o).take s) = some v) (w : World) (h1 : s = 1 ∨ isAggT P t = some true) : (part t xs o).run P w = .ok v w := by
  unfold packT at hp
  unfold part
  split at hp
  · rename_i hag
    cases hp
    simp only [Sem.run_bind, isAggT_run hag, Result.andThen_ok, if_true, szOf_run hs, Sem.run_pure]
    congr 2
    apply Array.ext'
    simp [List.extract_eq_take_drop, Nat.add_sub_cancel_left]
  · rename_i hag
    have hs1 : s = 1 := by
      rcases h1 with h1 | h1
      · exact h1
      · rw [hag] at h1; cases h1
    subst hs1
    split at hp
    · rename_i x hx
      cases hp
      have : xs[o]? = some v := by
        have e : (xs.toList.drop o)[0]? = some v := by
          have : ((xs.toList.drop o).take 1)[0]? = some v := by rw [hx]; rfl
          rw [List.getElem?_take] at this
          simpa using this
        rw [List.getElem?_drop] at e
        simpa using e
      simp only [Sem.run_bind, isAggT_run hag, Result.andThen_ok, Bool.false_eq_true, if_false, this, Sem.run_pure]
    · simp at hp
  · simp at hp

theorem cellsOf_szOf {t : TypeId} {k : Nat} (h : P.cellsOf t = k) (hk : k ≠ 0) : szOf P t = some k := by
  unfold Program.cellsOf at h
  unfold szOf
  cases hi : P.info? t with
  | none => simp [hi] at h; omega
  | some i => simp [hi] at h ⊢; exact h

theorem cmpT_agg : ∀ {d : Nat} {t : TypeId} {ks : List CK}, cmpT P d t = some ks → (isAggT P t = some true) ∨ (isAggT P t = some false ∧ ks.length = 1)
  | d + 1, t, ks, h => by
    unfold cmpT at h
    unfold isAggT
    split at h
    · rename_i hu; rw [hu]; split at h <;> simp at h; subst h; exact .inr ⟨rfl, rfl⟩
    · rename_i hu; rw [hu]; split at h <;> simp at h; subst h; exact .inr ⟨rfl, rfl⟩
    · rename_i hu; rw [hu]; split at h <;> simp at h; subst h; exact .inr ⟨rfl, rfl⟩
    · rename_i hu; rw [hu]; exact .inl rfl
    · simp at h
  | 0, t, ks, h => by simp [cmpT] at h

theorem packT_some {d : Nat} {t : TypeId} {ks : List CK} (h : cmpT P d t = some ks) {xs : List Value} (hl : xs.length = ks.length) : ∃ v, packT P t xs = some v := by
  unfold packT
  rcases cmpT_agg h with h1 | ⟨h1, h2⟩
  · rw [h1]; exact ⟨_, rfl⟩
  · rw [h1]
    rw [h2] at hl
    obtain ⟨x, rfl⟩ := List.length_eq_one_iff.1 hl
    exact ⟨x, rfl⟩

/-- Comparing values cell by cell is what the model does. -/
theorem run_cmp : ∀ (d k : Nat) (t : TypeId) (ks : List CK), cmpT P d t = some ks → ∀ (as bs : List AV) (xs ys : List Value) (e : Bool), VRs c as xs → VRs c bs ys → cellsEq ks as bs = some e → ∀ u v, packT P t xs = some u → packT P t ys = some v →
    ∀ w, (Op.equalIn (d + k) t u v).run P w = .ok e w := by
  intro d
  induction d with
  | zero => intro k t ks h; simp [cmpT] at h
  | succ d ih =>
    intro k t ks hc as bs xs ys e hx hy he u v hu hv w
    obtain ⟨hla, hlb⟩ := cellsEq_length he
    have hlx := VRs_length hx
    have hly := VRs_length hy
    rw [show d + 1 + k = (d + k) + 1 by omega]
    have hc0 := hc
    unfold cmpT at hc
    -- the scalars: one cell
    have scalar : ∀ q : CK, ks = [q] → isAggT P t = some false → ∃ a b, VR c a u ∧ VR c b v ∧ cellEq q a b = some e := by
      intro q hk hag
      subst hk
      obtain ⟨a, rfl⟩ := List.length_eq_one_iff.1 hla
      obtain ⟨b, rfl⟩ := List.length_eq_one_iff.1 hlb
      obtain ⟨x, rfl⟩ := List.length_eq_one_iff.1 hlx.symm
      obtain ⟨y, rfl⟩ := List.length_eq_one_iff.1 hly.symm
      simp only [VRs, and_true] at hx hy
      simp only [packT, hag, Option.some.injEq] at hu hv
      subst hu; subst hv
      simp only [cellsEq, bind_some', Option.some.injEq] at he
      obtain ⟨z, h2, z', h3, h4⟩ := he
      subst h3
      exact ⟨a, b, hx, hy, by rw [h2]; simpa using h4⟩
    split at hc
    · rename_i hut
      split at hc <;> simp at hc
      obtain ⟨a', b', h3, h4, h5⟩ := scalar .b hc.symm (by simp [isAggT, hut])
      cases a' <;> cases b' <;> simp only [cellEq, reduceCtorEq, Option.some.injEq] at h5
      simp only [VR] at h3 h4
      subst h3; subst h4; subst h5
      exact run_equalIn_bool' w _ t _ _ hut
    · rename_i kd hut
      split at hc <;> simp at hc
      obtain ⟨a', b', h3, h4, h5⟩ := scalar .i hc.symm (by simp [isAggT, hut])
      cases a' <;> cases b' <;> simp only [cellEq, reduceCtorEq, Option.some.injEq] at h5
      split at h5
      · rename_i hk
        simp only [Option.some.injEq] at h5
        simp only [VR] at h3 h4
        subst h3; subst h4; subst h5; subst hk
        exact run_equalIn_int w _ t _ _ _ _ hut
      · simp at h5
    · rename_i hut
      split at hc <;> simp at hc
      obtain ⟨a', b', h3, h4, h5⟩ := scalar .s hc.symm (by simp [isAggT, hut])
      cases a' <;> cases b' <;> simp only [cellEq, reduceCtorEq, Option.some.injEq] at h5
      simp only [VR] at h3 h4
      obtain ⟨s, rfl, h6⟩ := h3
      obtain ⟨s', rfl, h7⟩ := h4
      subst h5
      rw [← str_eq h6 h7]
      exact run_equalIn_string w _ t _ _ hut
    · rename_i fs hut
      split at hc
      · rename_i hst
        have hag : isAggT P t = some true := by simp [isAggT, hut]
        simp only [packT, hag, Option.some.injEq] at hu hv
        subst hu; subst hv
        have hfo : P.fieldsOf t = fs := by simp [Program.fieldsOf, hut]
        rw [run_equalIn_struct w _ t _ _ (by rw [hfo]; exact hut) hst, hfo]
        -- field by field
        have key : ∀ (l : List Field) (o : Nat) (ks' : List CK) (e : Bool), cmpFs P (cmpT P d) o l = some ks' → cellsEq ks' (as.drop o) (bs.drop o) = some e → (Op.eqFields (d + k) xs.toArray ys.toArray l).run P w = .ok e w := by
          intro l
          induction l with
          | nil =>
            intro o ks' e h1 h2
            simp only [cmpFs, Option.some.injEq] at h1
            subst h1
            have : e = true := by
              cases ha : as.drop o <;> cases hb : bs.drop o <;> simp [ha, hb, cellsEq] at h2
              exact h2
            subst this
            simp [Op.eqFields]
          | cons f l ihl =>
            intro o ks' e h1 h2
            simp only [cmpFs] at h1
            split at h1
            · rename_i hf
              simp only [bind_some'] at h1
              obtain ⟨k1, h3, h4⟩ := h1
              split at h4
              · rename_i hsz
                simp only [bind_some', Option.some.injEq] at h4
                obtain ⟨r, h5, rfl⟩ := h4
                obtain ⟨x, y, h6, h7, rfl⟩ := cellsEq_append h2
                rw [List.drop_drop] at h7
                rw [List.drop_drop] at h7
                have hs := cellsOf_szOf hsz.1 hsz.2
                have hl6 := cellsEq_length h6
                have hxp := VRs_part hx o k1.length
                have hyp := VRs_part hy o k1.length
                obtain ⟨u', hu'⟩ := packT_some h3 (xs := (xs.drop o).take k1.length) (by rw [← VRs_length hxp]; exact hl6.1)
                obtain ⟨v', hv'⟩ := packT_some h3 (xs := (ys.drop o).take k1.length) (by rw [← VRs_length hyp]; exact hl6.2)
                have h1' : k1.length = 1 ∨ isAggT P f.type = some true := by
                  rcases cmpT_agg h3 with h | h
                  · exact .inr h
                  · exact .inl h.2
                have e1 := run_part (P := P) (xs := xs.toArray) hs (by simpa using hu') w h1'
                have e2 := run_part (P := P) (xs := ys.toArray) hs (by simpa using hv') w h1'
                have e3 := ih k f.type k1 h3 _ _ _ _ x hxp hyp h6 u' v' hu' hv' w
                have e4 := ihl (o + k1.length) r y h5 h7
                simp only [Op.eqFields, ne_eq, hf.2, not_false_eq_true, if_true, Sem.run_bind, hf.1, e1, Result.andThen_ok, e2, e3]
                cases x with
                | true => simpa using e4
                | false => simp
              · simp at h4
            · simp at h1
        exact key fs.toList 0 ks e hc (by simpa using he)
      · simp at hc
    · simp at hc

theorem s_seq (h : FI base c0 n c γ g bx tmps) (ha : a.tmps = tmps) {t u : TypeId} {x y : Operand} {xo yo : XO} {neg : Bool} {ks : List CK} {fs : Array Field} (ho : o.op = .binOp (if neg then .neq else .eql) t x y u) (hu : P.underlying t = some (.struct fs)) (hg0 : P.eqGuardType P.depth t = false)
    (hks : cmpT P 9 t = some ks) (hx : cO x = some xo) (hy : cO y = some yo) {rv : RV} {M' : Mem}
    (he : evP g ⟨bx, c.σ⟩ (.seq neg ks xo yo) = some (rv, M')) : OpRes P base c0 n c g tmps a o rv M' := by
  simp only [evP, bind_some'] at he
  obtain ⟨av, h1, bv, h2, h3⟩ := he
  have hv := opndv h ha hx h1
  have hw := opndv h ha hy h2
  cases av with
  | agg p =>
    cases bv with
    | agg q =>
      simp only [bind_some', Option.some.injEq, Prod.mk.injEq] at h3
      obtain ⟨e, h4, rfl, rfl⟩ := h3
      rw [VR] at hv hw
      obtain ⟨xs, e1, h5, _⟩ := hv
      obtain ⟨ys, e2, h6, _⟩ := hw
      have hag : isAggT P t = some true := by simp [isAggT, hu]
      have hq : (Op.equal t (.agg xs) (.agg ys)).run P c.w = .ok e c.w := by
        show (Op.equalIn (9 + 9991) t (.agg xs) (.agg ys)).run P c.w = _
        exact run_cmp 9 9991 t ks hks _ _ _ _ e h5 h6 h4 _ _ (by simp [packT, hag]) (by simp [packT, hag]) c.w
      have hgd : ∀ op, (eqGuard op t x y (.agg xs) (.agg ys)).run P c.w = .ok () c.w := by
        intro op
        unfold eqGuard
        cases op <;> first | rfl | (simp [run_program, hg0])
      refine OpRes.same h ?_ RR_bool
      cases neg <;> simp only [Bool.false_eq_true, if_false, if_true] at ho ⊢ <;> simp only [execOp, ho, e1, e2, hgd, binOp, Sem.run_bind, Sem.run_pure, Result.andThen_ok, hq]
    | _ => simp at h3
  | _ => simp at h3

theorem run_equal_nil {k : NK} {d : TypeDesc} {t : TypeId} {y : Operand} {av : AV} {b : Bool} (hu : P.underlying t = some d) (hk : nilKind d y = some k) (hn : nilOf k av = some b) {v : Value} (hv : VR c av v) (op : BinOp) (hop : op = .eql ∨ op = .neq) (x : Operand) (a : Act) (w : World) :
    (eqGuard op t x y v (a.eval y)).run P w = .ok () w ∧ (binOp op t v (a.eval y)).run P w = .ok (.bool (if op = .neq then !b else b)) w := by
  have fin : ∀ (u u' : Value) (e : Bool), (Op.equalIn (9999 + 1) t u u').run P w = .ok e w → (Op.equal t u u').run P w = .ok e w := fun _ _ _ h => h
  unfold nilKind at hk
  split at hk <;> simp only [reduceCtorEq, Option.some.injEq] at hk <;> subst hk <;> cases av <;> simp only [nilOf, reduceCtorEq, Option.some.injEq] at hn <;> simp only [VR] at hv
  all_goals
    first
      | subst hv
      | (obtain ⟨ad, rfl, _⟩ := hv)
      | (obtain ⟨ad, cap, rfl, _⟩ := hv)
    rcases hop with rfl | rfl
    all_goals
      refine ⟨by simp [eqGuard, Act.eval], ?_⟩
      simp only [Act.eval, binOp, Sem.run_bind, reduceCtorEq, if_false, if_true]
      rw [fin _ _ b (by subst hn; unfold Op.equalIn; simp [run_underlying hu])]
      simp

theorem s_isnil (h : FI base c0 n c γ g bx tmps) (ha : a.tmps = tmps) {t u : TypeId} {x y : Operand} {xo : XO} {neg : Bool} {d : TypeDesc} {k : NK} (ho : o.op = .binOp (if neg then .neq else .eql) t x y u) (hu : P.underlying t = some d) (hx : cO x = some xo) (hk : nilKind d y = some k) {rv : RV} {M' : Mem}
    (he : evP g ⟨bx, c.σ⟩ (.isnil k neg xo) = some (rv, M')) : OpRes P base c0 n c g tmps a o rv M' := by
  simp only [evP, bind_some', Option.some.injEq, Prod.mk.injEq] at he
  obtain ⟨av, h1, b, h2, rfl, rfl⟩ := he
  have hv := opndv h ha hx h1
  obtain ⟨e1, e2⟩ := run_equal_nil (P := P) hu hk h2 hv (if neg then .neq else .eql) (by cases neg <;> simp) x a c.w
  refine OpRes.same h ?_ RR_bool
  cases neg <;> simp only [Bool.false_eq_true, if_false, if_true, reduceCtorEq] at ho e1 e2 ⊢ <;> simp only [execOp, ho, Sem.run_bind, e1, e2, Result.andThen_ok, Sem.run_pure]

end
end Go.X

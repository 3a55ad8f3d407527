/- GoX, part 21: slices of whole numbers and of texts: compared, marked, held; slices that grow. No statement of the seat is here. -/
import Derived.Test.YtlliifjmnddckaaDoorX20
set_option linter.unusedVariables false
set_option linter.unusedSimpArgs false
set_option maxRecDepth 20000
namespace Go.X
open Go
variable {α β R : Type}

/-! ### Rows in the middle -/

theorem rowAt_mid (σ t : Store) (row : Row) (h : row.kd ≠ .map) : rowAt (σ ++ row :: t) σ.length row.ver = some row := by simp [rowAt, h]
theorem set_mid (σ t : Store) (a b : Row) : (σ ++ a :: t).set σ.length b = σ ++ b :: t := by simp
/-- A slice that grows, from nothing on, in a row of its own. -/
theorem appV_mid (sz bytes : Nat) (σ t : Store) (els ys : List (List AV)) (v : Nat) (hb : (els.length + ys.length) * bytes ≤ 140737488355328) :
    appV sz bytes (σ ++ ⟨els, sz, v, .own⟩ :: t) ys (.sl σ.length v 0 els.length) = some (.sl σ.length (v + 1) 0 (els.length + ys.length), σ ++ ⟨els ++ ys, sz, v + 1, .own⟩ :: t) := by
  have hr := rowAt_mid σ t ⟨els, sz, v, .own⟩ (by simp)
  simp only at hr
  simp only [appV, hr, Option.bind_some]
  rw [if_pos ⟨trivial, trivial, by omega, hb⟩]
  simp
theorem SlAt.mid (σ t : Store) (els : List (List AV)) (sz v : Nat) : SlAt (σ ++ ⟨els, sz, v, .own⟩ :: t) sz (.sl σ.length v 0 els.length) els := by
  have h := SlAt.mk (i := 0) (n := els.length) (rowAt_mid σ t ⟨els, sz, v, .own⟩ (by simp)) rfl (by simp)
  simpa using h
theorem KA.mid (σ t : Store) (els : List (List AV)) (sz v n : Nat) : KA (ownK σ.length (σ.length + 1)) (σ ++ ⟨els, sz, v, .own⟩ :: t) (.sl σ.length v 0 n) := by
  intro r v' i n' e
  cases e
  exact ⟨_, rowAt_mid σ t ⟨els, sz, v, .own⟩ (by simp), Nat.le_refl _, by omega, rfl⟩

/-- A store into an element's cell, in a row of the store's own. -/
theorem put_own {σ : Store} {sz lo hi : Nat} {a : AV} {els : List (List AV)} (h : SlAt σ sz a els) (hk : KA (ownK lo hi) σ a) {i : Nat} {cs : List AV} (hi' : els[i]? = some cs) (o : Nat) (y : List AV) (hy : o + y.length ≤ cs.length) :
    ∃ σ', (∀ bx, putAt ⟨bx, σ⟩ (.v (elQ a i o)) y = some ⟨bx, σ'⟩) ∧ SlAt σ' sz a (els.set i (upd cs o y)) ∧ KA (ownK lo hi) σ' a ∧ Same lo hi σ σ' := by
  have hlt := (List.getElem?_eq_some_iff.1 hi').1
  rcases h.cases with ⟨rfl, rfl⟩ | ⟨r, v, s, n, row, rfl, hr, hs, hn, he, hl⟩
  · simp at hlt
  · obtain ⟨row', hr', h1, h2, h3⟩ := hk r v s n rfl
    rw [hr] at hr'; cases hr'
    have hg : row.els[s + i]? = some cs := by
      rw [he, List.getElem?_take, if_pos (by omega), List.getElem?_drop] at hi'
      exact hi'
    have hrlt : r < σ.length := by
      cases hq : σ[r]? with
      | none => simp [rowAt, hq] at hr
      | some x => exact (List.getElem?_eq_some_iff.1 hq).1
    have hv : row.ver = v := by
      cases hq : σ[r]? with
      | none => simp [rowAt, hq] at hr
      | some x =>
        simp only [rowAt, hq, Option.bind_some] at hr
        split at hr
        · rename_i hc; cases hr; exact hc.1
        · cases hr
    have hr2 : rowAt (σ.set r { row with els := row.els.set (s + i) (upd cs o y) }) r v = some { row with els := row.els.set (s + i) (upd cs o y) } := by
      simp only [rowAt, List.getElem?_set_self hrlt, Option.bind_some]
      rw [if_pos ⟨hv, by rw [h3]; simp⟩]
    refine ⟨σ.set r { row with els := row.els.set (s + i) (upd cs o y) }, fun bx => ?_, ?_, ?_, by simp, fun q hq => ?_⟩
    · simp only [elQ, putAt, hr, Option.bind_some, hg]
      rw [if_pos ⟨h3, hy⟩]
    · have := SlAt.mk (i := s) (n := n) hr2 hs (by simpa using hn)
      have e : ((row.els.set (s + i) (upd cs o y)).drop s).take n = els.set i (upd cs o y) := by
        rw [he, List.drop_set]
        rw [if_neg (by omega), Nat.add_sub_cancel_left, List.take_set]
      simp only at this
      rw [e] at this
      exact this
    · intro r2 v2 i2 n2 e2
      cases e2
      exact ⟨_, hr2, h1, h2, h3⟩
    · rw [List.getElem?_set_ne (by omega)]

/-! ### Plain elements -/

def RP (emb : α → AV) (ok : α → Prop) : Rp α := fun _ m cs => cs = [emb m] ∧ ok m
theorem RP.mono (emb : α → AV) (ok : α → Prop) : Mono (RP emb ok) := fun _ _ _ _ h => h
theorem RP.sized (emb : α → AV) (ok : α → Prop) : Sized (RP emb ok) 1 := fun _ _ _ h => by rw [h.1]; rfl

theorem eqP_loop {E : Call} [BEq α] {emb : α → AV} {ok : α → Prop} (hemb : ∀ a b, binV .neq (emb a) (emb b) = some (.bool (!(a == b)))) (σ : Store) (a a' : AV) (l l' : List α) (ha : RS (RP emb ok) 1 σ l a) (ha' : RS (RP emb ok) 1 σ l' a') (hl : l.length = l'.length) (hn : l.length ≤ 9223372036854775807) (k : Out → S → Option R) :
    ∀ (m i : Nat), m = l.length - i → i ≤ l.length →
      loopK E [0, 1, 5] eqPBody ([(0, .v a), (1, .v a'), (5, .v (int i))], ⟨[], σ⟩) k =
        br (l.drop i == l'.drop i) (k (.exit 0) ([(0, .v a), (1, .v a'), (5, .v (int l.length)), (14, .v (.bool false))], ⟨[], σ⟩)) (k .ret ([(4, .v (.bool false))], ⟨[], σ⟩)) := by
  intro m
  induction m with
  | zero =>
    intro i hm hi
    have e : i = l.length := by omega
    subst e
    have hd : (l.drop l.length == l'.drop l.length) = true := by rw [List.drop_length, hl, List.drop_length]; rfl
    rw [loopK_step eqPBody.eq_1, hd]
    simp (config := {contextual := true, implicitDefEqProofs := false, maxSteps := 1000000}) only [
    ↓runK_seq, ↓runK_reg, ↓runK_draw0, ↓runK_drawT, ↓runK_block, ↓runK_cond, ↓runK_loop, ↓runK_skip, ↓runK_ret, ↓runK_exit, ↓seqK_norm, ↓seqK_ret, ↓seqK_exit, ↓blkK_norm, ↓blkK_ret, ↓blkK_exit, ↓lpK_norm, ↓lpK_ret, ↓lpK_exit, ↓regK_eq, 
    frK_eq, ↓opsK_op, ↓opsK_og, ↓opsK_nil, ↓nxtK_some, ↓nxtK_none, ↓opsT_op, ↓opsT_og, ↓opsT_nil, ↓nxtT_some, ↓nxtT_none, ↓endT_nil, ↓opK_mv, ↓opK_pick, ↓opK_load, ↓opK_store, ↓opK_bin, ↓opK_fadr, ↓opK_alloc, ↓opK_allocE, ↓opK_box, 
    ↓opK_boxE, ↓opK_iadr, ↓opK_fld, ↓opK_beq, ↓opK_seq, ↓opK_isnil, ↓opK_bnot, ↓opK_neg, ↓opK_len, ↓opK_ext, ↓opK_build, ↓opK_bsl, ↓opK_bslE, ↓opK_app, ↓opK_slc, ↓opK_sstr, ↓opK_idx, ↓opK_s2b, ↓opK_b2s, ↓opK_cvt, ↓opK_mks, ↓opK_nilc, 
    ↓opK_mkf, ↓opK_call, ↓opK_calld, ↓opK_mx, ↓finK_ret, ↓finK_norm, th_some, th_none, ↓ch_br, ↓ch_true, ↓ch_false, ↓br_true, ↓br_false, ↓br_not, boolK_bool, gdK_true, gdK_false, gdK_undef, pickK_bb, pickK_bool, fnK_fn, ev_t, ev_c, evv_t, 
    evv_c, evs_nil, evs_cons, av_v, lk_hit, lk_miss, lk_nil, projR_nil, projR_cons, projB_nil, projB_cons, pr1_v, pr1_none, pr1_lp, pr1_ls, pb1_v, pb1_none, pb1_nob, pb1_lp, binV_add, binV_sub, binV_mul, binV_eql, binV_neq, binV_lss, 
    binV_leq, binV_gtr, binV_geq, binV_seql, binV_sneq, binV_slss, binV_sleq, binV_sgtr, binV_sgeq, cellsOf_int, cellsOf_bool, cellsOf_str, cellsOf_agg, cellsOf_sl, cellsOf_nilsl, cellsOf_ptr, cellsOf_nilptr, cellsOf_fn, cellsOf_nilfn, 
    place_lp, ld_cell, ld_agg, putAt_lp, fadrV_lp, fadrV_ptr, fldV_agg, beqV_eq, beqV_ne, seqV_eq, seqV_ne, cellsEq_nil, cellsEq_cons, cellEq_int, cellEq_bool, cellEq_str, isnilV_eq, isnilV_ne, bnotV_bool, negV_int, lenV_str, lenV_sl, 
    lenV_nilsl, extV_tup, fillP_nil, fillP_cons, fillS_nil, fillS_cons, intOf_int, bnd_none, bnd_some, sstrV_str, idxV_str, strOf_str, mksV_int, nilcV_ptr, nilcV_lp, mxV_max, mxV_min, result, resOf, allSome, number, upd, List.map, 
    List.length_cons, List.length_nil, List.append_nil, List.nil_append, List.cons_append, List.getElem?_cons_zero, List.getElem?_cons_succ, List.drop_zero, List.drop_succ_cons, List.drop_nil, List.take_zero, List.take_succ_cons, 
    List.take_nil, Option.bind_some, Option.isNone_none, Option.isNone_some, Option.isSome_some, Nat.reduceAdd, Nat.reduceSub, Nat.reduceLeDiff, Nat.reduceLT, Nat.reduceEqDiff, Nat.zero_add, Nat.add_zero, Nat.le_refl, reduceIte, ne_eq, 
    not_false_eq_true, and_self, true_and, and_true, reduceCtorEq, cond_true, cond_false, stT_nil, st1_some, evG_load, evG_gd, same3_eq, same3_none, endT_cons, ha.len, Int.lt_irrefl, decide_false]
  | succ m ih =>
    intro i hm hi
    have hlt : i < l.length := by omega
    have hlt2 : i < l'.length := by omega
    have hlt' : (i : Int) < (l.length : Int) := by omega
    have hw : IntKind.i64.wrap ((i : Int) + 1) = ((i + 1 : Nat) : Int) := wrap64 (by omega) (by omega)
    obtain ⟨cs, ⟨hp, _⟩, ha1, ha2⟩ := ha.get (List.getElem?_eq_getElem hlt)
    obtain ⟨cs', ⟨hp', _⟩, ha1', ha2'⟩ := ha'.get (List.getElem?_eq_getElem hlt2)
    subst hp; subst hp'
    have ih' := ih (i + 1) (by omega) (by omega)
    rw [beq_drop l l' i hlt hlt2]
    rw [loopK_step eqPBody.eq_1]
    simp (config := {contextual := true, implicitDefEqProofs := false, maxSteps := 1000000}) only [
    ↓runK_seq, ↓runK_reg, ↓runK_draw0, ↓runK_drawT, ↓runK_block, ↓runK_cond, ↓runK_loop, ↓runK_skip, ↓runK_ret, ↓runK_exit, ↓seqK_norm, ↓seqK_ret, ↓seqK_exit, ↓blkK_norm, ↓blkK_ret, ↓blkK_exit, ↓lpK_norm, ↓lpK_ret, ↓lpK_exit, ↓regK_eq, 
    frK_eq, ↓opsK_op, ↓opsK_og, ↓opsK_nil, ↓nxtK_some, ↓nxtK_none, ↓opsT_op, ↓opsT_og, ↓opsT_nil, ↓nxtT_some, ↓nxtT_none, ↓endT_nil, ↓opK_mv, ↓opK_pick, ↓opK_load, ↓opK_store, ↓opK_bin, ↓opK_fadr, ↓opK_alloc, ↓opK_allocE, ↓opK_box, 
    ↓opK_boxE, ↓opK_iadr, ↓opK_fld, ↓opK_beq, ↓opK_seq, ↓opK_isnil, ↓opK_bnot, ↓opK_neg, ↓opK_len, ↓opK_ext, ↓opK_build, ↓opK_bsl, ↓opK_bslE, ↓opK_app, ↓opK_slc, ↓opK_sstr, ↓opK_idx, ↓opK_s2b, ↓opK_b2s, ↓opK_cvt, ↓opK_mks, ↓opK_nilc, 
    ↓opK_mkf, ↓opK_call, ↓opK_calld, ↓opK_mx, ↓finK_ret, ↓finK_norm, th_some, th_none, ↓ch_br, ↓ch_true, ↓ch_false, ↓br_true, ↓br_false, ↓br_not, boolK_bool, gdK_true, gdK_false, gdK_undef, pickK_bb, pickK_bool, fnK_fn, ev_t, ev_c, evv_t, 
    evv_c, evs_nil, evs_cons, av_v, lk_hit, lk_miss, lk_nil, projR_nil, projR_cons, projB_nil, projB_cons, pr1_v, pr1_none, pr1_lp, pr1_ls, pb1_v, pb1_none, pb1_nob, pb1_lp, binV_add, binV_sub, binV_mul, binV_eql, binV_neq, binV_lss, 
    binV_leq, binV_gtr, binV_geq, binV_seql, binV_sneq, binV_slss, binV_sleq, binV_sgtr, binV_sgeq, cellsOf_int, cellsOf_bool, cellsOf_str, cellsOf_agg, cellsOf_sl, cellsOf_nilsl, cellsOf_ptr, cellsOf_nilptr, cellsOf_fn, cellsOf_nilfn, 
    place_lp, ld_cell, ld_agg, putAt_lp, fadrV_lp, fadrV_ptr, fldV_agg, beqV_eq, beqV_ne, seqV_eq, seqV_ne, cellsEq_nil, cellsEq_cons, cellEq_int, cellEq_bool, cellEq_str, isnilV_eq, isnilV_ne, bnotV_bool, negV_int, lenV_str, lenV_sl, 
    lenV_nilsl, extV_tup, fillP_nil, fillP_cons, fillS_nil, fillS_cons, intOf_int, bnd_none, bnd_some, sstrV_str, idxV_str, strOf_str, mksV_int, nilcV_ptr, nilcV_lp, mxV_max, mxV_min, result, resOf, allSome, number, upd, List.map, 
    List.length_cons, List.length_nil, List.append_nil, List.nil_append, List.cons_append, List.getElem?_cons_zero, List.getElem?_cons_succ, List.drop_zero, List.drop_succ_cons, List.drop_nil, List.take_zero, List.take_succ_cons, 
    List.take_nil, Option.bind_some, Option.isNone_none, Option.isNone_some, Option.isSome_some, Nat.reduceAdd, Nat.reduceSub, Nat.reduceLeDiff, Nat.reduceLT, Nat.reduceEqDiff, Nat.zero_add, Nat.add_zero, Nat.le_refl, reduceIte, ne_eq, 
    not_false_eq_true, and_self, true_and, and_true, reduceCtorEq, cond_true, cond_false, stT_nil, st1_some, evG_load, evG_gd, same3_eq, same3_none, endT_cons, ha.len, hlt', decide_true, ha1, ha2, ha1', ha2', hemb, hw, ih']
    cases l[i] == l'[i] <;> rfl

theorem eqP {C : FuncId → Option CFun} {X : Call} {fS : FuncId} [BEq α] {emb : α → AV} {ok : α → Prop} (hC : C fS = some (eqSFun eqPBody)) (hemb : ∀ a b, binV .neq (emb a) (emb b) = some (.bool (!(a == b)))) : EqsS (Ex C X) fS (RP emb ok) 1 := by
  intro σ l a l' a' ha ha' hn
  rw [Ex_run hC rfl]
  by_cases hl : l.length = l'.length
  · have h := fun k : Out → S → Option (AV × Store) => eqP_loop (E := Ex C X) (R := AV × Store) hemb σ a a' l l' ha ha' hl hn k l.length 0 (by omega) (by omega)
    simp only [List.drop_zero, Int.cast_ofNat_Int] at h
    have hne : ((l.length : Int) != (l'.length : Int)) = false := by rw [hl]; simp
    simp (config := {contextual := true, implicitDefEqProofs := false, maxSteps := 1000000}) only [
    ↓runK_seq, ↓runK_reg, ↓runK_draw0, ↓runK_drawT, ↓runK_block, ↓runK_cond, ↓runK_loop, ↓runK_skip, ↓runK_ret, ↓runK_exit, ↓seqK_norm, ↓seqK_ret, ↓seqK_exit, ↓blkK_norm, ↓blkK_ret, ↓blkK_exit, ↓lpK_norm, ↓lpK_ret, ↓lpK_exit, ↓regK_eq, 
    frK_eq, ↓opsK_op, ↓opsK_og, ↓opsK_nil, ↓nxtK_some, ↓nxtK_none, ↓opsT_op, ↓opsT_og, ↓opsT_nil, ↓nxtT_some, ↓nxtT_none, ↓endT_nil, ↓opK_mv, ↓opK_pick, ↓opK_load, ↓opK_store, ↓opK_bin, ↓opK_fadr, ↓opK_alloc, ↓opK_allocE, ↓opK_box, 
    ↓opK_boxE, ↓opK_iadr, ↓opK_fld, ↓opK_beq, ↓opK_seq, ↓opK_isnil, ↓opK_bnot, ↓opK_neg, ↓opK_len, ↓opK_ext, ↓opK_build, ↓opK_bsl, ↓opK_bslE, ↓opK_app, ↓opK_slc, ↓opK_sstr, ↓opK_idx, ↓opK_s2b, ↓opK_b2s, ↓opK_cvt, ↓opK_mks, ↓opK_nilc, 
    ↓opK_mkf, ↓opK_call, ↓opK_calld, ↓opK_mx, ↓finK_ret, ↓finK_norm, th_some, th_none, ↓ch_br, ↓ch_true, ↓ch_false, ↓br_true, ↓br_false, ↓br_not, boolK_bool, gdK_true, gdK_false, gdK_undef, pickK_bb, pickK_bool, fnK_fn, ev_t, ev_c, evv_t, 
    evv_c, evs_nil, evs_cons, av_v, lk_hit, lk_miss, lk_nil, projR_nil, projR_cons, projB_nil, projB_cons, pr1_v, pr1_none, pr1_lp, pr1_ls, pb1_v, pb1_none, pb1_nob, pb1_lp, binV_add, binV_sub, binV_mul, binV_eql, binV_neq, binV_lss, 
    binV_leq, binV_gtr, binV_geq, binV_seql, binV_sneq, binV_slss, binV_sleq, binV_sgtr, binV_sgeq, cellsOf_int, cellsOf_bool, cellsOf_str, cellsOf_agg, cellsOf_sl, cellsOf_nilsl, cellsOf_ptr, cellsOf_nilptr, cellsOf_fn, cellsOf_nilfn, 
    place_lp, ld_cell, ld_agg, putAt_lp, fadrV_lp, fadrV_ptr, fldV_agg, beqV_eq, beqV_ne, seqV_eq, seqV_ne, cellsEq_nil, cellsEq_cons, cellEq_int, cellEq_bool, cellEq_str, isnilV_eq, isnilV_ne, bnotV_bool, negV_int, lenV_str, lenV_sl, 
    lenV_nilsl, extV_tup, fillP_nil, fillP_cons, fillS_nil, fillS_cons, intOf_int, bnd_none, bnd_some, sstrV_str, idxV_str, strOf_str, mksV_int, nilcV_ptr, nilcV_lp, mxV_max, mxV_min, result, resOf, allSome, number, upd, List.map, 
    List.length_cons, List.length_nil, List.append_nil, List.nil_append, List.cons_append, List.getElem?_cons_zero, List.getElem?_cons_succ, List.drop_zero, List.drop_succ_cons, List.drop_nil, List.take_zero, List.take_succ_cons, 
    List.take_nil, Option.bind_some, Option.isNone_none, Option.isNone_some, Option.isSome_some, Nat.reduceAdd, Nat.reduceSub, Nat.reduceLeDiff, Nat.reduceLT, Nat.reduceEqDiff, Nat.zero_add, Nat.add_zero, Nat.le_refl, reduceIte, ne_eq, 
    not_false_eq_true, and_self, true_and, and_true, reduceCtorEq, cond_true, cond_false, stT_nil, st1_some, evG_load, evG_gd, same3_eq, same3_none, endT_cons, eqSFun, ha.len, ha'.len, hne, h]
    cases hb : l == l' <;> rfl
  · have hne : ((l.length : Int) != (l'.length : Int)) = true := by rw [bne_iff_ne]; omega
    rw [beq_len l l' hl]
    simp (config := {contextual := true, implicitDefEqProofs := false, maxSteps := 1000000}) only [
    ↓runK_seq, ↓runK_reg, ↓runK_draw0, ↓runK_drawT, ↓runK_block, ↓runK_cond, ↓runK_loop, ↓runK_skip, ↓runK_ret, ↓runK_exit, ↓seqK_norm, ↓seqK_ret, ↓seqK_exit, ↓blkK_norm, ↓blkK_ret, ↓blkK_exit, ↓lpK_norm, ↓lpK_ret, ↓lpK_exit, ↓regK_eq, 
    frK_eq, ↓opsK_op, ↓opsK_og, ↓opsK_nil, ↓nxtK_some, ↓nxtK_none, ↓opsT_op, ↓opsT_og, ↓opsT_nil, ↓nxtT_some, ↓nxtT_none, ↓endT_nil, ↓opK_mv, ↓opK_pick, ↓opK_load, ↓opK_store, ↓opK_bin, ↓opK_fadr, ↓opK_alloc, ↓opK_allocE, ↓opK_box, 
    ↓opK_boxE, ↓opK_iadr, ↓opK_fld, ↓opK_beq, ↓opK_seq, ↓opK_isnil, ↓opK_bnot, ↓opK_neg, ↓opK_len, ↓opK_ext, ↓opK_build, ↓opK_bsl, ↓opK_bslE, ↓opK_app, ↓opK_slc, ↓opK_sstr, ↓opK_idx, ↓opK_s2b, ↓opK_b2s, ↓opK_cvt, ↓opK_mks, ↓opK_nilc, 
    ↓opK_mkf, ↓opK_call, ↓opK_calld, ↓opK_mx, ↓finK_ret, ↓finK_norm, th_some, th_none, ↓ch_br, ↓ch_true, ↓ch_false, ↓br_true, ↓br_false, ↓br_not, boolK_bool, gdK_true, gdK_false, gdK_undef, pickK_bb, pickK_bool, fnK_fn, ev_t, ev_c, evv_t, 
    evv_c, evs_nil, evs_cons, av_v, lk_hit, lk_miss, lk_nil, projR_nil, projR_cons, projB_nil, projB_cons, pr1_v, pr1_none, pr1_lp, pr1_ls, pb1_v, pb1_none, pb1_nob, pb1_lp, binV_add, binV_sub, binV_mul, binV_eql, binV_neq, binV_lss, 
    binV_leq, binV_gtr, binV_geq, binV_seql, binV_sneq, binV_slss, binV_sleq, binV_sgtr, binV_sgeq, cellsOf_int, cellsOf_bool, cellsOf_str, cellsOf_agg, cellsOf_sl, cellsOf_nilsl, cellsOf_ptr, cellsOf_nilptr, cellsOf_fn, cellsOf_nilfn, 
    place_lp, ld_cell, ld_agg, putAt_lp, fadrV_lp, fadrV_ptr, fldV_agg, beqV_eq, beqV_ne, seqV_eq, seqV_ne, cellsEq_nil, cellsEq_cons, cellEq_int, cellEq_bool, cellEq_str, isnilV_eq, isnilV_ne, bnotV_bool, negV_int, lenV_str, lenV_sl, 
    lenV_nilsl, extV_tup, fillP_nil, fillP_cons, fillS_nil, fillS_cons, intOf_int, bnd_none, bnd_some, sstrV_str, idxV_str, strOf_str, mksV_int, nilcV_ptr, nilcV_lp, mxV_max, mxV_min, result, resOf, allSome, number, upd, List.map, 
    List.length_cons, List.length_nil, List.append_nil, List.nil_append, List.cons_append, List.getElem?_cons_zero, List.getElem?_cons_succ, List.drop_zero, List.drop_succ_cons, List.drop_nil, List.take_zero, List.take_succ_cons, 
    List.take_nil, Option.bind_some, Option.isNone_none, Option.isNone_some, Option.isSome_some, Nat.reduceAdd, Nat.reduceSub, Nat.reduceLeDiff, Nat.reduceLT, Nat.reduceEqDiff, Nat.zero_add, Nat.add_zero, Nat.le_refl, reduceIte, ne_eq, 
    not_false_eq_true, and_self, true_and, and_true, reduceCtorEq, cond_true, cond_false, stT_nil, st1_some, evG_load, evG_gd, same3_eq, same3_none, endT_cons, eqSFun, ha.len, ha'.len, hne]

abbrev RI : Rp Int := RP int I64
abbrev RT : Rp (List UInt8) := RP .str (fun s => LenOk s.length)
theorem RI_neq (a b : Int) : binV .neq (int a) (int b) = some (.bool (!(a == b))) := by rw [binV_neq]; rfl
theorem RT_neq (a b : List UInt8) : binV .neq (.str a) (.str b) = some (.bool (!(a == b))) := rfl

end Go.X

/- Values: drawn ones; their order; unary operations. -/
import Derived.Test.YtlliifjmnddckaaXV2
set_option linter.unusedVariables false
set_option linter.unusedSimpArgs false
set_option maxRecDepth 20000
namespace Go.X
open Go
variable {X : Call}

def cmpI (a b : Int) : Int := bif decide (a < b) then -1 else bif decide (b < a) then 1 else 0
def cmpS (a b : List UInt8) : Int := bif Op.bytesLess a b then -1 else bif !(Op.bytesLess a b || a == b) then 1 else 0
def orI (a b : Int) : Int := bif a != 0 then a else b
def orderM (a b : ValueM) : Int := orI (cmpI a.kind b.kind) (orI (cmpI a.n b.n) (cmpS a.t b.t))
theorem compareInt_eq (a b : Int) (σ : Store) : EE X f_cmp_Compare_int [int a, int b] σ = some (int (cmpI a b), σ) := by
  have hn : ∀ x, EE X f_cmp_isNaN_int [int x] σ = some (.bool false, σ) := by
    intro x
    rw [EE, Ex_run C_cmp_isNaN_int rfl]
    simp (config := {contextual := true, implicitDefEqProofs := false, maxSteps := 1000000}) only [
    ↓runK_seq, ↓runK_reg, ↓runK_draw0, ↓runK_drawT, ↓runK_block, ↓runK_cond, ↓runK_loop, ↓runK_skip, ↓runK_ret, ↓runK_exit, ↓seqK_norm, ↓seqK_ret, ↓seqK_exit, ↓blkK_norm, ↓blkK_ret, ↓blkK_exit, ↓lpK_norm, ↓lpK_ret, ↓lpK_exit, ↓regK_eq, 
    frK_eq, ↓opsK_op, ↓opsK_og, ↓opsK_nil, ↓nxtK_some, ↓nxtK_none, ↓opsT_op, ↓opsT_og, ↓opsT_nil, ↓nxtT_some, ↓nxtT_none, ↓endT_nil, ↓opK_mv, ↓opK_pick, ↓opK_load, ↓opK_store, ↓opK_bin, ↓opK_fadr, ↓opK_alloc, ↓opK_allocE, ↓opK_box, 
    ↓opK_boxE, ↓opK_iadr, ↓opK_fld, ↓opK_beq, ↓opK_seq, ↓opK_isnil, ↓opK_bnot, ↓opK_neg, ↓opK_len, ↓opK_ext, ↓opK_build, ↓opK_bsl, ↓opK_bslE, ↓opK_app, ↓opK_slc, ↓opK_sstr, ↓opK_idx, ↓opK_s2b, ↓opK_b2s, ↓opK_cvt, ↓opK_mks, ↓opK_nilc, 
    ↓opK_mkf, ↓opK_call, ↓opK_calld, ↓finK_ret, ↓finK_norm, th_some, th_none, ↓ch_br, ↓ch_true, ↓ch_false, ↓br_true, ↓br_false, ↓br_not, boolK_bool, gdK_true, gdK_false, gdK_undef, pickK_bb, pickK_bool, fnK_fn, ev_t, ev_c, evv_t, evv_c, 
    evs_nil, evs_cons, av_v, lk_hit, lk_miss, lk_nil, projR_nil, projR_cons, projB_nil, projB_cons, pr1_v, pr1_none, pr1_lp, pr1_ls, pb1_v, pb1_none, pb1_nob, pb1_lp, binV_add, binV_sub, binV_mul, binV_eql, binV_neq, binV_lss, binV_leq, 
    binV_gtr, binV_geq, binV_seql, binV_sneq, binV_slss, binV_sleq, binV_sgtr, binV_sgeq, cellsOf_int, cellsOf_bool, cellsOf_str, cellsOf_agg, cellsOf_sl, cellsOf_nilsl, cellsOf_ptr, cellsOf_nilptr, cellsOf_fn, cellsOf_nilfn, place_lp, 
    ld_cell, ld_agg, putAt_lp, fadrV_lp, fadrV_ptr, fldV_agg, beqV_eq, beqV_ne, seqV_eq, seqV_ne, cellsEq_nil, cellsEq_cons, cellEq_int, cellEq_bool, cellEq_str, isnilV_eq, isnilV_ne, bnotV_bool, negV_int, lenV_str, lenV_sl, lenV_nilsl, 
    extV_tup, fillP_nil, fillP_cons, fillS_nil, fillS_cons, intOf_int, bnd_none, bnd_some, sstrV_str, idxV_str, strOf_str, mksV_int, nilcV_ptr, nilcV_lp, result, resOf, allSome, number, upd, List.map, List.length_cons, List.length_nil, 
    List.append_nil, List.nil_append, List.cons_append, List.getElem?_cons_zero, List.getElem?_cons_succ, List.drop_zero, List.drop_succ_cons, List.drop_nil, List.take_zero, List.take_succ_cons, List.take_nil, Option.bind_some, 
    Option.isNone_none, Option.isNone_some, Option.isSome_some, Nat.reduceAdd, Nat.reduceSub, Nat.reduceLeDiff, Nat.reduceLT, Nat.reduceEqDiff, Nat.zero_add, Nat.add_zero, Nat.le_refl, reduceIte, ne_eq, not_false_eq_true, and_self, true_and, 
    and_true, reduceCtorEq, cond_true, cond_false, stT_nil, st1_some, evG_load, evG_gd, same3_eq, same3_none, endT_cons, c_cmp_isNaN_int, bne_self_eq_false]
  rw [EE, Ex_run C_cmp_Compare_int rfl]
  simp (config := {contextual := true, implicitDefEqProofs := false, maxSteps := 1000000}) only [
    ↓runK_seq, ↓runK_reg, ↓runK_draw0, ↓runK_drawT, ↓runK_block, ↓runK_cond, ↓runK_loop, ↓runK_skip, ↓runK_ret, ↓runK_exit, ↓seqK_norm, ↓seqK_ret, ↓seqK_exit, ↓blkK_norm, ↓blkK_ret, ↓blkK_exit, ↓lpK_norm, ↓lpK_ret, ↓lpK_exit, ↓regK_eq, 
    frK_eq, ↓opsK_op, ↓opsK_og, ↓opsK_nil, ↓nxtK_some, ↓nxtK_none, ↓opsT_op, ↓opsT_og, ↓opsT_nil, ↓nxtT_some, ↓nxtT_none, ↓endT_nil, ↓opK_mv, ↓opK_pick, ↓opK_load, ↓opK_store, ↓opK_bin, ↓opK_fadr, ↓opK_alloc, ↓opK_allocE, ↓opK_box, 
    ↓opK_boxE, ↓opK_iadr, ↓opK_fld, ↓opK_beq, ↓opK_seq, ↓opK_isnil, ↓opK_bnot, ↓opK_neg, ↓opK_len, ↓opK_ext, ↓opK_build, ↓opK_bsl, ↓opK_bslE, ↓opK_app, ↓opK_slc, ↓opK_sstr, ↓opK_idx, ↓opK_s2b, ↓opK_b2s, ↓opK_cvt, ↓opK_mks, ↓opK_nilc, 
    ↓opK_mkf, ↓opK_call, ↓opK_calld, ↓finK_ret, ↓finK_norm, th_some, th_none, ↓ch_br, ↓ch_true, ↓ch_false, ↓br_true, ↓br_false, ↓br_not, boolK_bool, gdK_true, gdK_false, gdK_undef, pickK_bb, pickK_bool, fnK_fn, ev_t, ev_c, evv_t, evv_c, 
    evs_nil, evs_cons, av_v, lk_hit, lk_miss, lk_nil, projR_nil, projR_cons, projB_nil, projB_cons, pr1_v, pr1_none, pr1_lp, pr1_ls, pb1_v, pb1_none, pb1_nob, pb1_lp, binV_add, binV_sub, binV_mul, binV_eql, binV_neq, binV_lss, binV_leq, 
    binV_gtr, binV_geq, binV_seql, binV_sneq, binV_slss, binV_sleq, binV_sgtr, binV_sgeq, cellsOf_int, cellsOf_bool, cellsOf_str, cellsOf_agg, cellsOf_sl, cellsOf_nilsl, cellsOf_ptr, cellsOf_nilptr, cellsOf_fn, cellsOf_nilfn, place_lp, 
    ld_cell, ld_agg, putAt_lp, fadrV_lp, fadrV_ptr, fldV_agg, beqV_eq, beqV_ne, seqV_eq, seqV_ne, cellsEq_nil, cellsEq_cons, cellEq_int, cellEq_bool, cellEq_str, isnilV_eq, isnilV_ne, bnotV_bool, negV_int, lenV_str, lenV_sl, lenV_nilsl, 
    extV_tup, fillP_nil, fillP_cons, fillS_nil, fillS_cons, intOf_int, bnd_none, bnd_some, sstrV_str, idxV_str, strOf_str, mksV_int, nilcV_ptr, nilcV_lp, result, resOf, allSome, number, upd, List.map, List.length_cons, List.length_nil, 
    List.append_nil, List.nil_append, List.cons_append, List.getElem?_cons_zero, List.getElem?_cons_succ, List.drop_zero, List.drop_succ_cons, List.drop_nil, List.take_zero, List.take_succ_cons, List.take_nil, Option.bind_some, 
    Option.isNone_none, Option.isNone_some, Option.isSome_some, Nat.reduceAdd, Nat.reduceSub, Nat.reduceLeDiff, Nat.reduceLT, Nat.reduceEqDiff, Nat.zero_add, Nat.add_zero, Nat.le_refl, reduceIte, ne_eq, not_false_eq_true, and_self, true_and, 
    and_true, reduceCtorEq, cond_true, cond_false, stT_nil, st1_some, evG_load, evG_gd, same3_eq, same3_none, endT_cons, c_cmp_Compare_int, hn]
  simp only [cmpI]
  cases decide (a < b) <;> cases decide (b < a) <;> rfl
theorem compareStr_eq (a b : List UInt8) (σ : Store) : EE X f_cmp_Compare_string [.str a, .str b] σ = some (int (cmpS a b), σ) := by
  have hn : ∀ x, EE X f_cmp_isNaN_string [.str x] σ = some (.bool false, σ) := by
    intro x
    rw [EE, Ex_run C_cmp_isNaN_string rfl]
    simp (config := {contextual := true, implicitDefEqProofs := false, maxSteps := 1000000}) only [
    ↓runK_seq, ↓runK_reg, ↓runK_draw0, ↓runK_drawT, ↓runK_block, ↓runK_cond, ↓runK_loop, ↓runK_skip, ↓runK_ret, ↓runK_exit, ↓seqK_norm, ↓seqK_ret, ↓seqK_exit, ↓blkK_norm, ↓blkK_ret, ↓blkK_exit, ↓lpK_norm, ↓lpK_ret, ↓lpK_exit, ↓regK_eq, 
    frK_eq, ↓opsK_op, ↓opsK_og, ↓opsK_nil, ↓nxtK_some, ↓nxtK_none, ↓opsT_op, ↓opsT_og, ↓opsT_nil, ↓nxtT_some, ↓nxtT_none, ↓endT_nil, ↓opK_mv, ↓opK_pick, ↓opK_load, ↓opK_store, ↓opK_bin, ↓opK_fadr, ↓opK_alloc, ↓opK_allocE, ↓opK_box, 
    ↓opK_boxE, ↓opK_iadr, ↓opK_fld, ↓opK_beq, ↓opK_seq, ↓opK_isnil, ↓opK_bnot, ↓opK_neg, ↓opK_len, ↓opK_ext, ↓opK_build, ↓opK_bsl, ↓opK_bslE, ↓opK_app, ↓opK_slc, ↓opK_sstr, ↓opK_idx, ↓opK_s2b, ↓opK_b2s, ↓opK_cvt, ↓opK_mks, ↓opK_nilc, 
    ↓opK_mkf, ↓opK_call, ↓opK_calld, ↓finK_ret, ↓finK_norm, th_some, th_none, ↓ch_br, ↓ch_true, ↓ch_false, ↓br_true, ↓br_false, ↓br_not, boolK_bool, gdK_true, gdK_false, gdK_undef, pickK_bb, pickK_bool, fnK_fn, ev_t, ev_c, evv_t, evv_c, 
    evs_nil, evs_cons, av_v, lk_hit, lk_miss, lk_nil, projR_nil, projR_cons, projB_nil, projB_cons, pr1_v, pr1_none, pr1_lp, pr1_ls, pb1_v, pb1_none, pb1_nob, pb1_lp, binV_add, binV_sub, binV_mul, binV_eql, binV_neq, binV_lss, binV_leq, 
    binV_gtr, binV_geq, binV_seql, binV_sneq, binV_slss, binV_sleq, binV_sgtr, binV_sgeq, cellsOf_int, cellsOf_bool, cellsOf_str, cellsOf_agg, cellsOf_sl, cellsOf_nilsl, cellsOf_ptr, cellsOf_nilptr, cellsOf_fn, cellsOf_nilfn, place_lp, 
    ld_cell, ld_agg, putAt_lp, fadrV_lp, fadrV_ptr, fldV_agg, beqV_eq, beqV_ne, seqV_eq, seqV_ne, cellsEq_nil, cellsEq_cons, cellEq_int, cellEq_bool, cellEq_str, isnilV_eq, isnilV_ne, bnotV_bool, negV_int, lenV_str, lenV_sl, lenV_nilsl, 
    extV_tup, fillP_nil, fillP_cons, fillS_nil, fillS_cons, intOf_int, bnd_none, bnd_some, sstrV_str, idxV_str, strOf_str, mksV_int, nilcV_ptr, nilcV_lp, result, resOf, allSome, number, upd, List.map, List.length_cons, List.length_nil, 
    List.append_nil, List.nil_append, List.cons_append, List.getElem?_cons_zero, List.getElem?_cons_succ, List.drop_zero, List.drop_succ_cons, List.drop_nil, List.take_zero, List.take_succ_cons, List.take_nil, Option.bind_some, 
    Option.isNone_none, Option.isNone_some, Option.isSome_some, Nat.reduceAdd, Nat.reduceSub, Nat.reduceLeDiff, Nat.reduceLT, Nat.reduceEqDiff, Nat.zero_add, Nat.add_zero, Nat.le_refl, reduceIte, ne_eq, not_false_eq_true, and_self, true_and, 
    and_true, reduceCtorEq, cond_true, cond_false, stT_nil, st1_some, evG_load, evG_gd, same3_eq, same3_none, endT_cons, c_cmp_isNaN_string, bne_self_eq_false]
  rw [EE, Ex_run C_cmp_Compare_string rfl]
  simp (config := {contextual := true, implicitDefEqProofs := false, maxSteps := 1000000}) only [
    ↓runK_seq, ↓runK_reg, ↓runK_draw0, ↓runK_drawT, ↓runK_block, ↓runK_cond, ↓runK_loop, ↓runK_skip, ↓runK_ret, ↓runK_exit, ↓seqK_norm, ↓seqK_ret, ↓seqK_exit, ↓blkK_norm, ↓blkK_ret, ↓blkK_exit, ↓lpK_norm, ↓lpK_ret, ↓lpK_exit, ↓regK_eq, 
    frK_eq, ↓opsK_op, ↓opsK_og, ↓opsK_nil, ↓nxtK_some, ↓nxtK_none, ↓opsT_op, ↓opsT_og, ↓opsT_nil, ↓nxtT_some, ↓nxtT_none, ↓endT_nil, ↓opK_mv, ↓opK_pick, ↓opK_load, ↓opK_store, ↓opK_bin, ↓opK_fadr, ↓opK_alloc, ↓opK_allocE, ↓opK_box, 
    ↓opK_boxE, ↓opK_iadr, ↓opK_fld, ↓opK_beq, ↓opK_seq, ↓opK_isnil, ↓opK_bnot, ↓opK_neg, ↓opK_len, ↓opK_ext, ↓opK_build, ↓opK_bsl, ↓opK_bslE, ↓opK_app, ↓opK_slc, ↓opK_sstr, ↓opK_idx, ↓opK_s2b, ↓opK_b2s, ↓opK_cvt, ↓opK_mks, ↓opK_nilc, 
    ↓opK_mkf, ↓opK_call, ↓opK_calld, ↓finK_ret, ↓finK_norm, th_some, th_none, ↓ch_br, ↓ch_true, ↓ch_false, ↓br_true, ↓br_false, ↓br_not, boolK_bool, gdK_true, gdK_false, gdK_undef, pickK_bb, pickK_bool, fnK_fn, ev_t, ev_c, evv_t, evv_c, 
    evs_nil, evs_cons, av_v, lk_hit, lk_miss, lk_nil, projR_nil, projR_cons, projB_nil, projB_cons, pr1_v, pr1_none, pr1_lp, pr1_ls, pb1_v, pb1_none, pb1_nob, pb1_lp, binV_add, binV_sub, binV_mul, binV_eql, binV_neq, binV_lss, binV_leq, 
    binV_gtr, binV_geq, binV_seql, binV_sneq, binV_slss, binV_sleq, binV_sgtr, binV_sgeq, cellsOf_int, cellsOf_bool, cellsOf_str, cellsOf_agg, cellsOf_sl, cellsOf_nilsl, cellsOf_ptr, cellsOf_nilptr, cellsOf_fn, cellsOf_nilfn, place_lp, 
    ld_cell, ld_agg, putAt_lp, fadrV_lp, fadrV_ptr, fldV_agg, beqV_eq, beqV_ne, seqV_eq, seqV_ne, cellsEq_nil, cellsEq_cons, cellEq_int, cellEq_bool, cellEq_str, isnilV_eq, isnilV_ne, bnotV_bool, negV_int, lenV_str, lenV_sl, lenV_nilsl, 
    extV_tup, fillP_nil, fillP_cons, fillS_nil, fillS_cons, intOf_int, bnd_none, bnd_some, sstrV_str, idxV_str, strOf_str, mksV_int, nilcV_ptr, nilcV_lp, result, resOf, allSome, number, upd, List.map, List.length_cons, List.length_nil, 
    List.append_nil, List.nil_append, List.cons_append, List.getElem?_cons_zero, List.getElem?_cons_succ, List.drop_zero, List.drop_succ_cons, List.drop_nil, List.take_zero, List.take_succ_cons, List.take_nil, Option.bind_some, 
    Option.isNone_none, Option.isNone_some, Option.isSome_some, Nat.reduceAdd, Nat.reduceSub, Nat.reduceLeDiff, Nat.reduceLT, Nat.reduceEqDiff, Nat.zero_add, Nat.add_zero, Nat.le_refl, reduceIte, ne_eq, not_false_eq_true, and_self, true_and, 
    and_true, reduceCtorEq, cond_true, cond_false, stT_nil, st1_some, evG_load, evG_gd, same3_eq, same3_none, endT_cons, c_cmp_Compare_string, hn]
  simp only [cmpS]
  cases Op.bytesLess a b <;> cases a == b <;> rfl
theorem orInt_eq (a b c : Int) (ha : I64 a) (hb : I64 b) (hc : I64 c) (σ : Store) : EE X f_cmp_Or_int [.sl σ.length 0 0 3] (σ ++ [⟨[[int a], [int b], [int c]], 1, 0, .own⟩]) = some (int (orI a (orI b c)), σ ++ [⟨[[int a], [int b], [int c]], 1, 0, .own⟩]) := by
  have hs : RS RI 1 (σ ++ [⟨[[int a], [int b], [int c]], 1, 0, .own⟩]) [a, b, c] (.sl σ.length 0 0 3) := ⟨_, SlAt.new σ [[int a], [int b], [int c]] 1, .cons ⟨rfl, ha⟩ (.cons ⟨rfl, hb⟩ (.cons ⟨rfl, hc⟩ .nil))⟩
  have hle := hs.len
  obtain ⟨_, ⟨e0, _⟩, i0, p0, _⟩ := hs.get (i := 0) rfl
  subst e0
  obtain ⟨_, ⟨e0, _⟩, i1, p1, _⟩ := hs.get (i := 1) rfl
  subst e0
  obtain ⟨_, ⟨e0, _⟩, i2, p2, _⟩ := hs.get (i := 2) rfl
  subst e0
  simp only [List.length_cons, List.length_nil, Nat.zero_add, Nat.reduceAdd, Int.cast_ofNat_Int] at hle i0 i1 i2
  have w1 : IntKind.i64.wrap (0 + 1) = 1 := by decide
  have w2 : IntKind.i64.wrap (1 + 1) = 2 := by decide
  have w3 : IntKind.i64.wrap (2 + 1) = 3 := by decide
  have c0 : (0 : Int) < 3 := by decide
  have c1 : (1 : Int) < 3 := by decide
  have c2 : (2 : Int) < 3 := by decide
  have c3 : ¬ (3 : Int) < 3 := by decide
  have st : ∀ (i : Int) (kk : Out → S → Option (AV × Store)), loopK (EE X) [3, 6, 7, 8] l_cmp_Or_int_0 ([(3, .v (int 0)), (6, .v (.sl σ.length 0 0 3)), (7, .v (int 3)), (8, .v (int i))], ⟨[], σ ++ [⟨[[int a], [int b], [int c]], 1, 0, .own⟩]⟩) kk = runK (EE X) (_) ([(3, .v (int 0)), (6, .v (.sl σ.length 0 0 3)), (7, .v (int 3)), (8, .v (int i))], ⟨[], σ ++ [⟨[[int a], [int b], [int c]], 1, 0, .own⟩]⟩) (lpK (EE X) [3, 6, 7, 8] l_cmp_Or_int_0 kk) := fun i kk => loopK_step l_cmp_Or_int_0.eq_1 _ _ _ _
  rw [EE, Ex_run C_cmp_Or_int rfl]
  simp (config := {contextual := true, implicitDefEqProofs := false, maxSteps := 1000000}) only [
    ↓runK_seq, ↓runK_reg, ↓runK_draw0, ↓runK_drawT, ↓runK_block, ↓runK_cond, ↓runK_loop, ↓runK_skip, ↓runK_ret, ↓runK_exit, ↓seqK_norm, ↓seqK_ret, ↓seqK_exit, ↓blkK_norm, ↓blkK_ret, ↓blkK_exit, ↓lpK_norm, ↓lpK_ret, ↓lpK_exit, ↓regK_eq, 
    frK_eq, ↓opsK_op, ↓opsK_og, ↓opsK_nil, ↓nxtK_some, ↓nxtK_none, ↓opsT_op, ↓opsT_og, ↓opsT_nil, ↓nxtT_some, ↓nxtT_none, ↓endT_nil, ↓opK_mv, ↓opK_pick, ↓opK_load, ↓opK_store, ↓opK_bin, ↓opK_fadr, ↓opK_alloc, ↓opK_allocE, ↓opK_box, 
    ↓opK_boxE, ↓opK_iadr, ↓opK_fld, ↓opK_beq, ↓opK_seq, ↓opK_isnil, ↓opK_bnot, ↓opK_neg, ↓opK_len, ↓opK_ext, ↓opK_build, ↓opK_bsl, ↓opK_bslE, ↓opK_app, ↓opK_slc, ↓opK_sstr, ↓opK_idx, ↓opK_s2b, ↓opK_b2s, ↓opK_cvt, ↓opK_mks, ↓opK_nilc, 
    ↓opK_mkf, ↓opK_call, ↓opK_calld, ↓finK_ret, ↓finK_norm, th_some, th_none, ↓ch_br, ↓ch_true, ↓ch_false, ↓br_true, ↓br_false, ↓br_not, boolK_bool, gdK_true, gdK_false, gdK_undef, pickK_bb, pickK_bool, fnK_fn, ev_t, ev_c, evv_t, evv_c, 
    evs_nil, evs_cons, av_v, lk_hit, lk_miss, lk_nil, projR_nil, projR_cons, projB_nil, projB_cons, pr1_v, pr1_none, pr1_lp, pr1_ls, pb1_v, pb1_none, pb1_nob, pb1_lp, binV_add, binV_sub, binV_mul, binV_eql, binV_neq, binV_lss, binV_leq, 
    binV_gtr, binV_geq, binV_seql, binV_sneq, binV_slss, binV_sleq, binV_sgtr, binV_sgeq, cellsOf_int, cellsOf_bool, cellsOf_str, cellsOf_agg, cellsOf_sl, cellsOf_nilsl, cellsOf_ptr, cellsOf_nilptr, cellsOf_fn, cellsOf_nilfn, place_lp, 
    ld_cell, ld_agg, putAt_lp, fadrV_lp, fadrV_ptr, fldV_agg, beqV_eq, beqV_ne, seqV_eq, seqV_ne, cellsEq_nil, cellsEq_cons, cellEq_int, cellEq_bool, cellEq_str, isnilV_eq, isnilV_ne, bnotV_bool, negV_int, lenV_str, lenV_sl, lenV_nilsl, 
    extV_tup, fillP_nil, fillP_cons, fillS_nil, fillS_cons, intOf_int, bnd_none, bnd_some, sstrV_str, idxV_str, strOf_str, mksV_int, nilcV_ptr, nilcV_lp, result, resOf, allSome, number, upd, List.map, List.length_cons, List.length_nil, 
    List.append_nil, List.nil_append, List.cons_append, List.getElem?_cons_zero, List.getElem?_cons_succ, List.drop_zero, List.drop_succ_cons, List.drop_nil, List.take_zero, List.take_succ_cons, List.take_nil, Option.bind_some, 
    Option.isNone_none, Option.isNone_some, Option.isSome_some, Nat.reduceAdd, Nat.reduceSub, Nat.reduceLeDiff, Nat.reduceLT, Nat.reduceEqDiff, Nat.zero_add, Nat.add_zero, Nat.le_refl, reduceIte, ne_eq, not_false_eq_true, and_self, true_and, 
    and_true, reduceCtorEq, cond_true, cond_false, stT_nil, st1_some, evG_load, evG_gd, same3_eq, same3_none, endT_cons, c_cmp_Or_int, hle, ↓st, w1, w2, w3, c0, c1, c2, c3, decide_true, decide_false, i0, i1, i2, p0, p1, p2]
  simp only [orI]
  cases a != 0 <;> cases b != 0 <;> try rfl
  cases h : c != 0
  · have : c = 0 := by simpa using h
    subst this; rfl
  · rfl
theorem cmpI_range (a b : Int) : I64 (cmpI a b) ∧ -1 ≤ cmpI a b ∧ cmpI a b ≤ 1 := by
  simp only [cmpI, I64]
  cases decide (a < b) <;> cases decide (b < a) <;> decide
theorem cmpS_range (a b : List UInt8) : I64 (cmpS a b) ∧ -1 ≤ cmpS a b ∧ cmpS a b ≤ 1 := by
  simp only [cmpS, I64]
  cases Op.bytesLess a b <;> cases !(false || a == b) <;> cases !(true || a == b) <;> decide
theorem implOrder_eq (a b : ValueM) (ha : OkV a) (hb : OkV b) (σ : Store) : ∃ σ', EE X f_impl_OrderValues [.agg a.cells, .agg b.cells] σ = some (.tup [int (orderM a b), int 0], σ') ∧ Pre σ σ' := by
  have v1 := implValueOK_eq (X := X) a σ
  have v2 := implValueOK_eq (X := X) b σ
  rw [ha.ok] at v1
  rw [hb.ok] at v2
  simp only [ValueM.cells] at v1 v2
  refine ⟨_, ?_, Pre.app σ [(⟨[[int (cmpI a.kind b.kind)], [int (cmpI a.n b.n)], [int (cmpS a.t b.t)]], 1, 0, .own⟩ : Row)]⟩
  have ho := orInt_eq (X := X) _ _ _ (cmpI_range a.kind b.kind).1 (cmpI_range a.n b.n).1 (cmpS_range a.t b.t).1 σ
  rw [EE, Ex_run C_impl_OrderValues rfl]
  simp (config := {contextual := true, implicitDefEqProofs := false, maxSteps := 1000000}) only [
    ↓runK_seq, ↓runK_reg, ↓runK_draw0, ↓runK_drawT, ↓runK_block, ↓runK_cond, ↓runK_loop, ↓runK_skip, ↓runK_ret, ↓runK_exit, ↓seqK_norm, ↓seqK_ret, ↓seqK_exit, ↓blkK_norm, ↓blkK_ret, ↓blkK_exit, ↓lpK_norm, ↓lpK_ret, ↓lpK_exit, ↓regK_eq, 
    frK_eq, ↓opsK_op, ↓opsK_og, ↓opsK_nil, ↓nxtK_some, ↓nxtK_none, ↓opsT_op, ↓opsT_og, ↓opsT_nil, ↓nxtT_some, ↓nxtT_none, ↓endT_nil, ↓opK_mv, ↓opK_pick, ↓opK_load, ↓opK_store, ↓opK_bin, ↓opK_fadr, ↓opK_alloc, ↓opK_allocE, ↓opK_box, 
    ↓opK_boxE, ↓opK_iadr, ↓opK_fld, ↓opK_beq, ↓opK_seq, ↓opK_isnil, ↓opK_bnot, ↓opK_neg, ↓opK_len, ↓opK_ext, ↓opK_build, ↓opK_bsl, ↓opK_bslE, ↓opK_app, ↓opK_slc, ↓opK_sstr, ↓opK_idx, ↓opK_s2b, ↓opK_b2s, ↓opK_cvt, ↓opK_mks, ↓opK_nilc, 
    ↓opK_mkf, ↓opK_call, ↓opK_calld, ↓finK_ret, ↓finK_norm, th_some, th_none, ↓ch_br, ↓ch_true, ↓ch_false, ↓br_true, ↓br_false, ↓br_not, boolK_bool, gdK_true, gdK_false, gdK_undef, pickK_bb, pickK_bool, fnK_fn, ev_t, ev_c, evv_t, evv_c, 
    evs_nil, evs_cons, av_v, lk_hit, lk_miss, lk_nil, projR_nil, projR_cons, projB_nil, projB_cons, pr1_v, pr1_none, pr1_lp, pr1_ls, pb1_v, pb1_none, pb1_nob, pb1_lp, binV_add, binV_sub, binV_mul, binV_eql, binV_neq, binV_lss, binV_leq, 
    binV_gtr, binV_geq, binV_seql, binV_sneq, binV_slss, binV_sleq, binV_sgtr, binV_sgeq, cellsOf_int, cellsOf_bool, cellsOf_str, cellsOf_agg, cellsOf_sl, cellsOf_nilsl, cellsOf_ptr, cellsOf_nilptr, cellsOf_fn, cellsOf_nilfn, place_lp, 
    ld_cell, ld_agg, putAt_lp, fadrV_lp, fadrV_ptr, fldV_agg, beqV_eq, beqV_ne, seqV_eq, seqV_ne, cellsEq_nil, cellsEq_cons, cellEq_int, cellEq_bool, cellEq_str, isnilV_eq, isnilV_ne, bnotV_bool, negV_int, lenV_str, lenV_sl, lenV_nilsl, 
    extV_tup, fillP_nil, fillP_cons, fillS_nil, fillS_cons, intOf_int, bnd_none, bnd_some, sstrV_str, idxV_str, strOf_str, mksV_int, nilcV_ptr, nilcV_lp, result, resOf, allSome, number, upd, List.map, List.length_cons, List.length_nil, 
    List.append_nil, List.nil_append, List.cons_append, List.getElem?_cons_zero, List.getElem?_cons_succ, List.drop_zero, List.drop_succ_cons, List.drop_nil, List.take_zero, List.take_succ_cons, List.take_nil, Option.bind_some, 
    Option.isNone_none, Option.isNone_some, Option.isSome_some, Nat.reduceAdd, Nat.reduceSub, Nat.reduceLeDiff, Nat.reduceLT, Nat.reduceEqDiff, Nat.zero_add, Nat.add_zero, Nat.le_refl, reduceIte, ne_eq, not_false_eq_true, and_self, true_and, 
    and_true, reduceCtorEq, cond_true, cond_false, stT_nil, st1_some, evG_load, evG_gd, same3_eq, same3_none, endT_cons, c_impl_OrderValues, ValueM.cells, v1, v2, Bool.not_true, compareInt_eq (X := X), compareStr_eq (X := X), 
    List.replicate_succ, List.replicate_zero, List.set_cons_zero, List.set_cons_succ, ho, orderM]

theorem cmpI_neg (a b : Int) : cmpI a b = - cmpI b a := by
  simp only [cmpI]
  by_cases h1 : a < b
  · have h2 : ¬ b < a := by omega
    simp [h1, h2]
  · by_cases h2 : b < a <;> simp [h1, h2]
theorem cmpI_zero (a b : Int) : (cmpI a b == 0) = (a == b) := by
  simp only [cmpI]
  by_cases h1 : a < b
  · have h2 : ¬ a = b := by omega
    simp [h1, h2]
  · by_cases h2 : b < a
    · have h3 : ¬ a = b := by omega
      simp [h1, h2, h3]
    · have h3 : a = b := by omega
      simp [h3]
theorem cmpS_zero (a b : List UInt8) : (cmpS a b == 0) = (a == b) := by
  simp only [cmpS]
  cases h1 : Op.bytesLess a b with
  | true => rw [(bl_asymm a b h1).2]; rfl
  | false => cases h2 : a == b <;> rfl
theorem cmpS_neg (a b : List UInt8) : cmpS a b = - cmpS b a := by
  simp only [cmpS]
  cases h1 : Op.bytesLess a b with
  | true =>
    obtain ⟨h2, h3⟩ := bl_asymm a b h1
    have h4 : (b == a) = false := by rw [beq_eq_false_iff_ne] at h3 ⊢; exact fun e => h3 e.symm
    simp [h2, h4]
  | false =>
    cases h2 : a == b with
    | true =>
      have e : a = b := by simpa using h2
      subst e
      simp [h1]
    | false =>
      have h3 := bl_total a b h1 h2
      simp [h3]
theorem orderM_neg (a b : ValueM) : orderM a b = - orderM b a := by
  simp only [orderM, orI]
  rw [cmpI_neg a.kind, cmpI_neg a.n, cmpS_neg a.t]
  have e1 : ((- cmpI b.kind a.kind) != 0) = (cmpI b.kind a.kind != 0) := by
    simp only [bne]; congr 1; rw [Bool.eq_iff_iff]; simp
  have e2 : ((- cmpI b.n a.n) != 0) = (cmpI b.n a.n != 0) := by
    simp only [bne]; congr 1; rw [Bool.eq_iff_iff]; simp
  rw [e1, e2]
  cases cmpI b.kind a.kind != 0 <;> cases cmpI b.n a.n != 0 <;> rfl
theorem orderM_zero (a b : ValueM) : (orderM a b == 0) = (a == b) := by
  simp only [orderM, orI, ValueM.beq_def, bne]
  rw [cmpI_zero, cmpI_zero]
  cases h1 : a.kind == b.kind with
  | false =>
    have := cmpI_zero a.kind b.kind
    rw [h1] at this
    simpa using this
  | true =>
    cases h2 : a.n == b.n with
    | false =>
      have := cmpI_zero a.n b.n
      rw [h2] at this
      simpa using this
    | true =>
      have := cmpS_zero a.t b.t
      simpa using this
theorem orderM_range (a b : ValueM) : -1 ≤ orderM a b ∧ orderM a b ≤ 1 := by
  have h1 := cmpI_range a.kind b.kind
  have h2 := cmpI_range a.n b.n
  have h3 := cmpS_range a.t b.t
  simp only [orderM, orI]
  cases cmpI a.kind b.kind != 0 <;> cases cmpI a.n b.n != 0 <;> simp only [cond_true, cond_false] <;> omega

theorem implUnary_not (a : ValueM) (ha : OkV a) (σ : Store) : EE X f_impl_Unary [.str [33], .agg a.cells] σ = some (.tup [.agg (vBool (!truthM a)).cells, int 0], σ) := by
  have v1 := implValueOK_eq (X := X) a σ
  rw [ha.ok] at v1
  have u1 : EE X f_impl_isUnary [.str [33]] σ = some (.bool true, σ) := by
    rw [EE, Ex_run C_impl_isUnary rfl]
    simp (config := {contextual := true, implicitDefEqProofs := false, maxSteps := 1000000}) only [
    ↓runK_seq, ↓runK_reg, ↓runK_draw0, ↓runK_drawT, ↓runK_block, ↓runK_cond, ↓runK_loop, ↓runK_skip, ↓runK_ret, ↓runK_exit, ↓seqK_norm, ↓seqK_ret, ↓seqK_exit, ↓blkK_norm, ↓blkK_ret, ↓blkK_exit, ↓lpK_norm, ↓lpK_ret, ↓lpK_exit, ↓regK_eq, 
    frK_eq, ↓opsK_op, ↓opsK_og, ↓opsK_nil, ↓nxtK_some, ↓nxtK_none, ↓opsT_op, ↓opsT_og, ↓opsT_nil, ↓nxtT_some, ↓nxtT_none, ↓endT_nil, ↓opK_mv, ↓opK_pick, ↓opK_load, ↓opK_store, ↓opK_bin, ↓opK_fadr, ↓opK_alloc, ↓opK_allocE, ↓opK_box, 
    ↓opK_boxE, ↓opK_iadr, ↓opK_fld, ↓opK_beq, ↓opK_seq, ↓opK_isnil, ↓opK_bnot, ↓opK_neg, ↓opK_len, ↓opK_ext, ↓opK_build, ↓opK_bsl, ↓opK_bslE, ↓opK_app, ↓opK_slc, ↓opK_sstr, ↓opK_idx, ↓opK_s2b, ↓opK_b2s, ↓opK_cvt, ↓opK_mks, ↓opK_nilc, 
    ↓opK_mkf, ↓opK_call, ↓opK_calld, ↓finK_ret, ↓finK_norm, th_some, th_none, ↓ch_br, ↓ch_true, ↓ch_false, ↓br_true, ↓br_false, ↓br_not, boolK_bool, gdK_true, gdK_false, gdK_undef, pickK_bb, pickK_bool, fnK_fn, ev_t, ev_c, evv_t, evv_c, 
    evs_nil, evs_cons, av_v, lk_hit, lk_miss, lk_nil, projR_nil, projR_cons, projB_nil, projB_cons, pr1_v, pr1_none, pr1_lp, pr1_ls, pb1_v, pb1_none, pb1_nob, pb1_lp, binV_add, binV_sub, binV_mul, binV_eql, binV_neq, binV_lss, binV_leq, 
    binV_gtr, binV_geq, binV_seql, binV_sneq, binV_slss, binV_sleq, binV_sgtr, binV_sgeq, cellsOf_int, cellsOf_bool, cellsOf_str, cellsOf_agg, cellsOf_sl, cellsOf_nilsl, cellsOf_ptr, cellsOf_nilptr, cellsOf_fn, cellsOf_nilfn, place_lp, 
    ld_cell, ld_agg, putAt_lp, fadrV_lp, fadrV_ptr, fldV_agg, beqV_eq, beqV_ne, seqV_eq, seqV_ne, cellsEq_nil, cellsEq_cons, cellEq_int, cellEq_bool, cellEq_str, isnilV_eq, isnilV_ne, bnotV_bool, negV_int, lenV_str, lenV_sl, lenV_nilsl, 
    extV_tup, fillP_nil, fillP_cons, fillS_nil, fillS_cons, intOf_int, bnd_none, bnd_some, sstrV_str, idxV_str, strOf_str, mksV_int, nilcV_ptr, nilcV_lp, result, resOf, allSome, number, upd, List.map, List.length_cons, List.length_nil, 
    List.append_nil, List.nil_append, List.cons_append, List.getElem?_cons_zero, List.getElem?_cons_succ, List.drop_zero, List.drop_succ_cons, List.drop_nil, List.take_zero, List.take_succ_cons, List.take_nil, Option.bind_some, 
    Option.isNone_none, Option.isNone_some, Option.isSome_some, Nat.reduceAdd, Nat.reduceSub, Nat.reduceLeDiff, Nat.reduceLT, Nat.reduceEqDiff, Nat.zero_add, Nat.add_zero, Nat.le_refl, reduceIte, ne_eq, not_false_eq_true, and_self, true_and, 
    and_true, reduceCtorEq, cond_true, cond_false, stT_nil, st1_some, evG_load, evG_gd, same3_eq, same3_none, endT_cons, c_impl_isUnary, beq_self_eq_true]
  have tr := truth_eq (X := X) a σ
  simp only [ValueM.cells] at v1 tr
  have u2 : EE X f_impl_unary [.str [33], .agg a.cells] σ = some (.tup [.agg (vBool (!truthM a)).cells, int 0], σ) := by
    rw [EE, Ex_run C_impl_unary rfl]
    simp (config := {contextual := true, implicitDefEqProofs := false, maxSteps := 1000000}) only [
    ↓runK_seq, ↓runK_reg, ↓runK_draw0, ↓runK_drawT, ↓runK_block, ↓runK_cond, ↓runK_loop, ↓runK_skip, ↓runK_ret, ↓runK_exit, ↓seqK_norm, ↓seqK_ret, ↓seqK_exit, ↓blkK_norm, ↓blkK_ret, ↓blkK_exit, ↓lpK_norm, ↓lpK_ret, ↓lpK_exit, ↓regK_eq, 
    frK_eq, ↓opsK_op, ↓opsK_og, ↓opsK_nil, ↓nxtK_some, ↓nxtK_none, ↓opsT_op, ↓opsT_og, ↓opsT_nil, ↓nxtT_some, ↓nxtT_none, ↓endT_nil, ↓opK_mv, ↓opK_pick, ↓opK_load, ↓opK_store, ↓opK_bin, ↓opK_fadr, ↓opK_alloc, ↓opK_allocE, ↓opK_box, 
    ↓opK_boxE, ↓opK_iadr, ↓opK_fld, ↓opK_beq, ↓opK_seq, ↓opK_isnil, ↓opK_bnot, ↓opK_neg, ↓opK_len, ↓opK_ext, ↓opK_build, ↓opK_bsl, ↓opK_bslE, ↓opK_app, ↓opK_slc, ↓opK_sstr, ↓opK_idx, ↓opK_s2b, ↓opK_b2s, ↓opK_cvt, ↓opK_mks, ↓opK_nilc, 
    ↓opK_mkf, ↓opK_call, ↓opK_calld, ↓finK_ret, ↓finK_norm, th_some, th_none, ↓ch_br, ↓ch_true, ↓ch_false, ↓br_true, ↓br_false, ↓br_not, boolK_bool, gdK_true, gdK_false, gdK_undef, pickK_bb, pickK_bool, fnK_fn, ev_t, ev_c, evv_t, evv_c, 
    evs_nil, evs_cons, av_v, lk_hit, lk_miss, lk_nil, projR_nil, projR_cons, projB_nil, projB_cons, pr1_v, pr1_none, pr1_lp, pr1_ls, pb1_v, pb1_none, pb1_nob, pb1_lp, binV_add, binV_sub, binV_mul, binV_eql, binV_neq, binV_lss, binV_leq, 
    binV_gtr, binV_geq, binV_seql, binV_sneq, binV_slss, binV_sleq, binV_sgtr, binV_sgeq, cellsOf_int, cellsOf_bool, cellsOf_str, cellsOf_agg, cellsOf_sl, cellsOf_nilsl, cellsOf_ptr, cellsOf_nilptr, cellsOf_fn, cellsOf_nilfn, place_lp, 
    ld_cell, ld_agg, putAt_lp, fadrV_lp, fadrV_ptr, fldV_agg, beqV_eq, beqV_ne, seqV_eq, seqV_ne, cellsEq_nil, cellsEq_cons, cellEq_int, cellEq_bool, cellEq_str, isnilV_eq, isnilV_ne, bnotV_bool, negV_int, lenV_str, lenV_sl, lenV_nilsl, 
    extV_tup, fillP_nil, fillP_cons, fillS_nil, fillS_cons, intOf_int, bnd_none, bnd_some, sstrV_str, idxV_str, strOf_str, mksV_int, nilcV_ptr, nilcV_lp, result, resOf, allSome, number, upd, List.map, List.length_cons, List.length_nil, 
    List.append_nil, List.nil_append, List.cons_append, List.getElem?_cons_zero, List.getElem?_cons_succ, List.drop_zero, List.drop_succ_cons, List.drop_nil, List.take_zero, List.take_succ_cons, List.take_nil, Option.bind_some, 
    Option.isNone_none, Option.isNone_some, Option.isSome_some, Nat.reduceAdd, Nat.reduceSub, Nat.reduceLeDiff, Nat.reduceLT, Nat.reduceEqDiff, Nat.zero_add, Nat.add_zero, Nat.le_refl, reduceIte, ne_eq, not_false_eq_true, and_self, true_and, 
    and_true, reduceCtorEq, cond_true, cond_false, stT_nil, st1_some, evG_load, evG_gd, same3_eq, same3_none, endT_cons, c_impl_unary, beq_self_eq_true, ValueM.cells, tr, ofBool_eq (X := X)]
  simp only [ValueM.cells] at u2
  have hl : ¬ ((65536 : Int) < 1) := by decide
  rw [EE, Ex_run C_impl_Unary rfl]
  simp (config := {contextual := true, implicitDefEqProofs := false, maxSteps := 1000000}) only [
    ↓runK_seq, ↓runK_reg, ↓runK_draw0, ↓runK_drawT, ↓runK_block, ↓runK_cond, ↓runK_loop, ↓runK_skip, ↓runK_ret, ↓runK_exit, ↓seqK_norm, ↓seqK_ret, ↓seqK_exit, ↓blkK_norm, ↓blkK_ret, ↓blkK_exit, ↓lpK_norm, ↓lpK_ret, ↓lpK_exit, ↓regK_eq, 
    frK_eq, ↓opsK_op, ↓opsK_og, ↓opsK_nil, ↓nxtK_some, ↓nxtK_none, ↓opsT_op, ↓opsT_og, ↓opsT_nil, ↓nxtT_some, ↓nxtT_none, ↓endT_nil, ↓opK_mv, ↓opK_pick, ↓opK_load, ↓opK_store, ↓opK_bin, ↓opK_fadr, ↓opK_alloc, ↓opK_allocE, ↓opK_box, 
    ↓opK_boxE, ↓opK_iadr, ↓opK_fld, ↓opK_beq, ↓opK_seq, ↓opK_isnil, ↓opK_bnot, ↓opK_neg, ↓opK_len, ↓opK_ext, ↓opK_build, ↓opK_bsl, ↓opK_bslE, ↓opK_app, ↓opK_slc, ↓opK_sstr, ↓opK_idx, ↓opK_s2b, ↓opK_b2s, ↓opK_cvt, ↓opK_mks, ↓opK_nilc, 
    ↓opK_mkf, ↓opK_call, ↓opK_calld, ↓finK_ret, ↓finK_norm, th_some, th_none, ↓ch_br, ↓ch_true, ↓ch_false, ↓br_true, ↓br_false, ↓br_not, boolK_bool, gdK_true, gdK_false, gdK_undef, pickK_bb, pickK_bool, fnK_fn, ev_t, ev_c, evv_t, evv_c, 
    evs_nil, evs_cons, av_v, lk_hit, lk_miss, lk_nil, projR_nil, projR_cons, projB_nil, projB_cons, pr1_v, pr1_none, pr1_lp, pr1_ls, pb1_v, pb1_none, pb1_nob, pb1_lp, binV_add, binV_sub, binV_mul, binV_eql, binV_neq, binV_lss, binV_leq, 
    binV_gtr, binV_geq, binV_seql, binV_sneq, binV_slss, binV_sleq, binV_sgtr, binV_sgeq, cellsOf_int, cellsOf_bool, cellsOf_str, cellsOf_agg, cellsOf_sl, cellsOf_nilsl, cellsOf_ptr, cellsOf_nilptr, cellsOf_fn, cellsOf_nilfn, place_lp, 
    ld_cell, ld_agg, putAt_lp, fadrV_lp, fadrV_ptr, fldV_agg, beqV_eq, beqV_ne, seqV_eq, seqV_ne, cellsEq_nil, cellsEq_cons, cellEq_int, cellEq_bool, cellEq_str, isnilV_eq, isnilV_ne, bnotV_bool, negV_int, lenV_str, lenV_sl, lenV_nilsl, 
    extV_tup, fillP_nil, fillP_cons, fillS_nil, fillS_cons, intOf_int, bnd_none, bnd_some, sstrV_str, idxV_str, strOf_str, mksV_int, nilcV_ptr, nilcV_lp, result, resOf, allSome, number, upd, List.map, List.length_cons, List.length_nil, 
    List.append_nil, List.nil_append, List.cons_append, List.getElem?_cons_zero, List.getElem?_cons_succ, List.drop_zero, List.drop_succ_cons, List.drop_nil, List.take_zero, List.take_succ_cons, List.take_nil, Option.bind_some, 
    Option.isNone_none, Option.isNone_some, Option.isSome_some, Nat.reduceAdd, Nat.reduceSub, Nat.reduceLeDiff, Nat.reduceLT, Nat.reduceEqDiff, Nat.zero_add, Nat.add_zero, Nat.le_refl, reduceIte, ne_eq, not_false_eq_true, and_self, true_and, 
    and_true, reduceCtorEq, cond_true, cond_false, stT_nil, st1_some, evG_load, evG_gd, same3_eq, same3_none, endT_cons, c_impl_Unary, ValueM.cells, Int.cast_ofNat_Int, hl, decide_false, v1, Bool.not_true, u1, u2]
theorem specUnary_not (a : ValueM) (ha : OkV a) (σ : Store) : EE X f_spec_Unary [.str [33], .agg a.cells] σ = some (.tup [.agg (vBool (!truthM a)).cells, int 0], σ) := by
  have v1 := specValueOK_eq (X := X) a σ
  rw [ha.ok] at v1
  have tr := l01Truth_eq (X := X) a σ
  simp only [ValueM.cells] at v1 tr
  have u2 : EE X f_spec_l01Unary [.str [33], .agg a.cells] σ = some (.tup [.agg (vBool (!truthM a)).cells, int 0], σ) := by
    rw [EE, Ex_run C_spec_l01Unary rfl]
    simp (config := {contextual := true, implicitDefEqProofs := false, maxSteps := 1000000}) only [
    ↓runK_seq, ↓runK_reg, ↓runK_draw0, ↓runK_drawT, ↓runK_block, ↓runK_cond, ↓runK_loop, ↓runK_skip, ↓runK_ret, ↓runK_exit, ↓seqK_norm, ↓seqK_ret, ↓seqK_exit, ↓blkK_norm, ↓blkK_ret, ↓blkK_exit, ↓lpK_norm, ↓lpK_ret, ↓lpK_exit, ↓regK_eq, 
    frK_eq, ↓opsK_op, ↓opsK_og, ↓opsK_nil, ↓nxtK_some, ↓nxtK_none, ↓opsT_op, ↓opsT_og, ↓opsT_nil, ↓nxtT_some, ↓nxtT_none, ↓endT_nil, ↓opK_mv, ↓opK_pick, ↓opK_load, ↓opK_store, ↓opK_bin, ↓opK_fadr, ↓opK_alloc, ↓opK_allocE, ↓opK_box, 
    ↓opK_boxE, ↓opK_iadr, ↓opK_fld, ↓opK_beq, ↓opK_seq, ↓opK_isnil, ↓opK_bnot, ↓opK_neg, ↓opK_len, ↓opK_ext, ↓opK_build, ↓opK_bsl, ↓opK_bslE, ↓opK_app, ↓opK_slc, ↓opK_sstr, ↓opK_idx, ↓opK_s2b, ↓opK_b2s, ↓opK_cvt, ↓opK_mks, ↓opK_nilc, 
    ↓opK_mkf, ↓opK_call, ↓opK_calld, ↓finK_ret, ↓finK_norm, th_some, th_none, ↓ch_br, ↓ch_true, ↓ch_false, ↓br_true, ↓br_false, ↓br_not, boolK_bool, gdK_true, gdK_false, gdK_undef, pickK_bb, pickK_bool, fnK_fn, ev_t, ev_c, evv_t, evv_c, 
    evs_nil, evs_cons, av_v, lk_hit, lk_miss, lk_nil, projR_nil, projR_cons, projB_nil, projB_cons, pr1_v, pr1_none, pr1_lp, pr1_ls, pb1_v, pb1_none, pb1_nob, pb1_lp, binV_add, binV_sub, binV_mul, binV_eql, binV_neq, binV_lss, binV_leq, 
    binV_gtr, binV_geq, binV_seql, binV_sneq, binV_slss, binV_sleq, binV_sgtr, binV_sgeq, cellsOf_int, cellsOf_bool, cellsOf_str, cellsOf_agg, cellsOf_sl, cellsOf_nilsl, cellsOf_ptr, cellsOf_nilptr, cellsOf_fn, cellsOf_nilfn, place_lp, 
    ld_cell, ld_agg, putAt_lp, fadrV_lp, fadrV_ptr, fldV_agg, beqV_eq, beqV_ne, seqV_eq, seqV_ne, cellsEq_nil, cellsEq_cons, cellEq_int, cellEq_bool, cellEq_str, isnilV_eq, isnilV_ne, bnotV_bool, negV_int, lenV_str, lenV_sl, lenV_nilsl, 
    extV_tup, fillP_nil, fillP_cons, fillS_nil, fillS_cons, intOf_int, bnd_none, bnd_some, sstrV_str, idxV_str, strOf_str, mksV_int, nilcV_ptr, nilcV_lp, result, resOf, allSome, number, upd, List.map, List.length_cons, List.length_nil, 
    List.append_nil, List.nil_append, List.cons_append, List.getElem?_cons_zero, List.getElem?_cons_succ, List.drop_zero, List.drop_succ_cons, List.drop_nil, List.take_zero, List.take_succ_cons, List.take_nil, Option.bind_some, 
    Option.isNone_none, Option.isNone_some, Option.isSome_some, Nat.reduceAdd, Nat.reduceSub, Nat.reduceLeDiff, Nat.reduceLT, Nat.reduceEqDiff, Nat.zero_add, Nat.add_zero, Nat.le_refl, reduceIte, ne_eq, not_false_eq_true, and_self, true_and, 
    and_true, reduceCtorEq, cond_true, cond_false, stT_nil, st1_some, evG_load, evG_gd, same3_eq, same3_none, endT_cons, c_spec_l01Unary, beq_self_eq_true, ValueM.cells, tr, l01Bool_eq (X := X)]
  simp only [ValueM.cells] at u2
  have hl : ¬ ((65536 : Int) < 1) := by decide
  rw [EE, Ex_run C_spec_Unary rfl]
  simp (config := {contextual := true, implicitDefEqProofs := false, maxSteps := 1000000}) only [
    ↓runK_seq, ↓runK_reg, ↓runK_draw0, ↓runK_drawT, ↓runK_block, ↓runK_cond, ↓runK_loop, ↓runK_skip, ↓runK_ret, ↓runK_exit, ↓seqK_norm, ↓seqK_ret, ↓seqK_exit, ↓blkK_norm, ↓blkK_ret, ↓blkK_exit, ↓lpK_norm, ↓lpK_ret, ↓lpK_exit, ↓regK_eq, 
    frK_eq, ↓opsK_op, ↓opsK_og, ↓opsK_nil, ↓nxtK_some, ↓nxtK_none, ↓opsT_op, ↓opsT_og, ↓opsT_nil, ↓nxtT_some, ↓nxtT_none, ↓endT_nil, ↓opK_mv, ↓opK_pick, ↓opK_load, ↓opK_store, ↓opK_bin, ↓opK_fadr, ↓opK_alloc, ↓opK_allocE, ↓opK_box, 
    ↓opK_boxE, ↓opK_iadr, ↓opK_fld, ↓opK_beq, ↓opK_seq, ↓opK_isnil, ↓opK_bnot, ↓opK_neg, ↓opK_len, ↓opK_ext, ↓opK_build, ↓opK_bsl, ↓opK_bslE, ↓opK_app, ↓opK_slc, ↓opK_sstr, ↓opK_idx, ↓opK_s2b, ↓opK_b2s, ↓opK_cvt, ↓opK_mks, ↓opK_nilc, 
    ↓opK_mkf, ↓opK_call, ↓opK_calld, ↓finK_ret, ↓finK_norm, th_some, th_none, ↓ch_br, ↓ch_true, ↓ch_false, ↓br_true, ↓br_false, ↓br_not, boolK_bool, gdK_true, gdK_false, gdK_undef, pickK_bb, pickK_bool, fnK_fn, ev_t, ev_c, evv_t, evv_c, 
    evs_nil, evs_cons, av_v, lk_hit, lk_miss, lk_nil, projR_nil, projR_cons, projB_nil, projB_cons, pr1_v, pr1_none, pr1_lp, pr1_ls, pb1_v, pb1_none, pb1_nob, pb1_lp, binV_add, binV_sub, binV_mul, binV_eql, binV_neq, binV_lss, binV_leq, 
    binV_gtr, binV_geq, binV_seql, binV_sneq, binV_slss, binV_sleq, binV_sgtr, binV_sgeq, cellsOf_int, cellsOf_bool, cellsOf_str, cellsOf_agg, cellsOf_sl, cellsOf_nilsl, cellsOf_ptr, cellsOf_nilptr, cellsOf_fn, cellsOf_nilfn, place_lp, 
    ld_cell, ld_agg, putAt_lp, fadrV_lp, fadrV_ptr, fldV_agg, beqV_eq, beqV_ne, seqV_eq, seqV_ne, cellsEq_nil, cellsEq_cons, cellEq_int, cellEq_bool, cellEq_str, isnilV_eq, isnilV_ne, bnotV_bool, negV_int, lenV_str, lenV_sl, lenV_nilsl, 
    extV_tup, fillP_nil, fillP_cons, fillS_nil, fillS_cons, intOf_int, bnd_none, bnd_some, sstrV_str, idxV_str, strOf_str, mksV_int, nilcV_ptr, nilcV_lp, result, resOf, allSome, number, upd, List.map, List.length_cons, List.length_nil, 
    List.append_nil, List.nil_append, List.cons_append, List.getElem?_cons_zero, List.getElem?_cons_succ, List.drop_zero, List.drop_succ_cons, List.drop_nil, List.take_zero, List.take_succ_cons, List.take_nil, Option.bind_some, 
    Option.isNone_none, Option.isNone_some, Option.isSome_some, Nat.reduceAdd, Nat.reduceSub, Nat.reduceLeDiff, Nat.reduceLT, Nat.reduceEqDiff, Nat.zero_add, Nat.add_zero, Nat.le_refl, reduceIte, ne_eq, not_false_eq_true, and_self, true_and, 
    and_true, reduceCtorEq, cond_true, cond_false, stT_nil, st1_some, evG_load, evG_gd, same3_eq, same3_none, endT_cons, c_spec_Unary, ValueM.cells, Int.cast_ofNat_Int, hl, decide_false, v1, Bool.not_true, bne_self_eq_false, u2]

/-! ### Drawn values -/

theorem mks40 (σ : Store) : mksV 1 1 [.int .u8 0] σ (int 40) (int 40) = some (.sl σ.length 0 0 40, σ ++ [⟨List.replicate 40 [.int .u8 0], 1, 0, .own⟩]) := rfl
theorem value_eq (σ : Store) (p N : Nat) (h : Src σ p N) (hN : N ≤ 999000) : ∃ v σ', EE X f_spec_l00Src_value [.ptr p 0 0 0] σ = some (.agg v.cells, σ') ∧ OkV v ∧ Src σ' p (N + 6) ∧ Fr (fun q => q = p) σ σ' := by
  obtain ⟨k, σ1, e1, a1, b1, s1, f1⟩ := next_eq (X := X) σ p N 9 h (by omega)
  by_cases h0 : k = 0
  · subst h0
    refine ⟨vNil, σ1, ?_, .nil, s1.more (by omega), f1⟩
    rw [EE, Ex_run C_spec_l00Src_value rfl]
    simp (config := {contextual := true, implicitDefEqProofs := false, maxSteps := 1000000}) only [
    ↓runK_seq, ↓runK_reg, ↓runK_draw0, ↓runK_drawT, ↓runK_block, ↓runK_cond, ↓runK_loop, ↓runK_skip, ↓runK_ret, ↓runK_exit, ↓seqK_norm, ↓seqK_ret, ↓seqK_exit, ↓blkK_norm, ↓blkK_ret, ↓blkK_exit, ↓lpK_norm, ↓lpK_ret, ↓lpK_exit, ↓regK_eq, 
    frK_eq, ↓opsK_op, ↓opsK_og, ↓opsK_nil, ↓nxtK_some, ↓nxtK_none, ↓opsT_op, ↓opsT_og, ↓opsT_nil, ↓nxtT_some, ↓nxtT_none, ↓endT_nil, ↓opK_mv, ↓opK_pick, ↓opK_load, ↓opK_store, ↓opK_bin, ↓opK_fadr, ↓opK_alloc, ↓opK_allocE, ↓opK_box, 
    ↓opK_boxE, ↓opK_iadr, ↓opK_fld, ↓opK_beq, ↓opK_seq, ↓opK_isnil, ↓opK_bnot, ↓opK_neg, ↓opK_len, ↓opK_ext, ↓opK_build, ↓opK_bsl, ↓opK_bslE, ↓opK_app, ↓opK_slc, ↓opK_sstr, ↓opK_idx, ↓opK_s2b, ↓opK_b2s, ↓opK_cvt, ↓opK_mks, ↓opK_nilc, 
    ↓opK_mkf, ↓opK_call, ↓opK_calld, ↓finK_ret, ↓finK_norm, th_some, th_none, ↓ch_br, ↓ch_true, ↓ch_false, ↓br_true, ↓br_false, ↓br_not, boolK_bool, gdK_true, gdK_false, gdK_undef, pickK_bb, pickK_bool, fnK_fn, ev_t, ev_c, evv_t, evv_c, 
    evs_nil, evs_cons, av_v, lk_hit, lk_miss, lk_nil, projR_nil, projR_cons, projB_nil, projB_cons, pr1_v, pr1_none, pr1_lp, pr1_ls, pb1_v, pb1_none, pb1_nob, pb1_lp, binV_add, binV_sub, binV_mul, binV_eql, binV_neq, binV_lss, binV_leq, 
    binV_gtr, binV_geq, binV_seql, binV_sneq, binV_slss, binV_sleq, binV_sgtr, binV_sgeq, cellsOf_int, cellsOf_bool, cellsOf_str, cellsOf_agg, cellsOf_sl, cellsOf_nilsl, cellsOf_ptr, cellsOf_nilptr, cellsOf_fn, cellsOf_nilfn, place_lp, 
    ld_cell, ld_agg, putAt_lp, fadrV_lp, fadrV_ptr, fldV_agg, beqV_eq, beqV_ne, seqV_eq, seqV_ne, cellsEq_nil, cellsEq_cons, cellEq_int, cellEq_bool, cellEq_str, isnilV_eq, isnilV_ne, bnotV_bool, negV_int, lenV_str, lenV_sl, lenV_nilsl, 
    extV_tup, fillP_nil, fillP_cons, fillS_nil, fillS_cons, intOf_int, bnd_none, bnd_some, sstrV_str, idxV_str, strOf_str, mksV_int, nilcV_ptr, nilcV_lp, result, resOf, allSome, number, upd, List.map, List.length_cons, List.length_nil, 
    List.append_nil, List.nil_append, List.cons_append, List.getElem?_cons_zero, List.getElem?_cons_succ, List.drop_zero, List.drop_succ_cons, List.drop_nil, List.take_zero, List.take_succ_cons, List.take_nil, Option.bind_some, 
    Option.isNone_none, Option.isNone_some, Option.isSome_some, Nat.reduceAdd, Nat.reduceSub, Nat.reduceLeDiff, Nat.reduceLT, Nat.reduceEqDiff, Nat.zero_add, Nat.add_zero, Nat.le_refl, reduceIte, ne_eq, not_false_eq_true, and_self, true_and, 
    and_true, reduceCtorEq, cond_true, cond_false, stT_nil, st1_some, evG_load, evG_gd, same3_eq, same3_none, endT_cons, c_spec_l00Src_value, e1, beq_self_eq_true]
  have n0 : (k == 0) = false := by simpa using h0
  by_cases h1 : k = 1
  · subst h1
    obtain ⟨b, σ2, e2, s2, f2⟩ := chance_eq (X := X) σ1 p _ 2 s1 (by omega) (by omega)
    refine ⟨vBool b, σ2, ?_, .bool b, s2.more (by omega), f1.step f2⟩
    rw [EE, Ex_run C_spec_l00Src_value rfl]
    simp (config := {contextual := true, implicitDefEqProofs := false, maxSteps := 1000000}) only [
    ↓runK_seq, ↓runK_reg, ↓runK_draw0, ↓runK_drawT, ↓runK_block, ↓runK_cond, ↓runK_loop, ↓runK_skip, ↓runK_ret, ↓runK_exit, ↓seqK_norm, ↓seqK_ret, ↓seqK_exit, ↓blkK_norm, ↓blkK_ret, ↓blkK_exit, ↓lpK_norm, ↓lpK_ret, ↓lpK_exit, ↓regK_eq, 
    frK_eq, ↓opsK_op, ↓opsK_og, ↓opsK_nil, ↓nxtK_some, ↓nxtK_none, ↓opsT_op, ↓opsT_og, ↓opsT_nil, ↓nxtT_some, ↓nxtT_none, ↓endT_nil, ↓opK_mv, ↓opK_pick, ↓opK_load, ↓opK_store, ↓opK_bin, ↓opK_fadr, ↓opK_alloc, ↓opK_allocE, ↓opK_box, 
    ↓opK_boxE, ↓opK_iadr, ↓opK_fld, ↓opK_beq, ↓opK_seq, ↓opK_isnil, ↓opK_bnot, ↓opK_neg, ↓opK_len, ↓opK_ext, ↓opK_build, ↓opK_bsl, ↓opK_bslE, ↓opK_app, ↓opK_slc, ↓opK_sstr, ↓opK_idx, ↓opK_s2b, ↓opK_b2s, ↓opK_cvt, ↓opK_mks, ↓opK_nilc, 
    ↓opK_mkf, ↓opK_call, ↓opK_calld, ↓finK_ret, ↓finK_norm, th_some, th_none, ↓ch_br, ↓ch_true, ↓ch_false, ↓br_true, ↓br_false, ↓br_not, boolK_bool, gdK_true, gdK_false, gdK_undef, pickK_bb, pickK_bool, fnK_fn, ev_t, ev_c, evv_t, evv_c, 
    evs_nil, evs_cons, av_v, lk_hit, lk_miss, lk_nil, projR_nil, projR_cons, projB_nil, projB_cons, pr1_v, pr1_none, pr1_lp, pr1_ls, pb1_v, pb1_none, pb1_nob, pb1_lp, binV_add, binV_sub, binV_mul, binV_eql, binV_neq, binV_lss, binV_leq, 
    binV_gtr, binV_geq, binV_seql, binV_sneq, binV_slss, binV_sleq, binV_sgtr, binV_sgeq, cellsOf_int, cellsOf_bool, cellsOf_str, cellsOf_agg, cellsOf_sl, cellsOf_nilsl, cellsOf_ptr, cellsOf_nilptr, cellsOf_fn, cellsOf_nilfn, place_lp, 
    ld_cell, ld_agg, putAt_lp, fadrV_lp, fadrV_ptr, fldV_agg, beqV_eq, beqV_ne, seqV_eq, seqV_ne, cellsEq_nil, cellsEq_cons, cellEq_int, cellEq_bool, cellEq_str, isnilV_eq, isnilV_ne, bnotV_bool, negV_int, lenV_str, lenV_sl, lenV_nilsl, 
    extV_tup, fillP_nil, fillP_cons, fillS_nil, fillS_cons, intOf_int, bnd_none, bnd_some, sstrV_str, idxV_str, strOf_str, mksV_int, nilcV_ptr, nilcV_lp, result, resOf, allSome, number, upd, List.map, List.length_cons, List.length_nil, 
    List.append_nil, List.nil_append, List.cons_append, List.getElem?_cons_zero, List.getElem?_cons_succ, List.drop_zero, List.drop_succ_cons, List.drop_nil, List.take_zero, List.take_succ_cons, List.take_nil, Option.bind_some, 
    Option.isNone_none, Option.isNone_some, Option.isSome_some, Nat.reduceAdd, Nat.reduceSub, Nat.reduceLeDiff, Nat.reduceLT, Nat.reduceEqDiff, Nat.zero_add, Nat.add_zero, Nat.le_refl, reduceIte, ne_eq, not_false_eq_true, and_self, true_and, 
    and_true, reduceCtorEq, cond_true, cond_false, stT_nil, st1_some, evG_load, evG_gd, same3_eq, same3_none, endT_cons, c_spec_l00Src_value, e1, n0, beq_self_eq_true, e2, l01Bool_eq (X := X)]
  have n1 : (k == 1) = false := by simpa using h1
  by_cases h23 : k = 2 ∨ k = 3
  · have hp1 := s1.lt
    have p2 := Pre.app σ1 [(⟨List.replicate 40 [.int .u8 0], 1, 0, .own⟩ : Row)]
    have hel : ∀ bx, elsOf ⟨bx, σ1 ++ [⟨List.replicate 40 [.int .u8 0], 1, 0, .own⟩]⟩ 1 (.v (.sl σ1.length 0 0 40)) = some (List.replicate 40 [.int .u8 0]) := fun bx => (SlAt.new σ1 (List.replicate 40 [.int .u8 0]) 1).els bx
    have c40 : ((0 : Int) ≤ 40 ∧ (40 : Int) ≤ 40 ∧ (40 : Int) * ((1 : Nat) : Int) ≤ 140737488355328 ∧ (40 : Int) ≤ 140737488355328) := by decide
    have t40 : (40 : Int).toNat = 40 := rfl
    have r6 : List.replicate 6 [AV.str []] = [[.str []], [.str []], [.str []], [.str []], [.str []], [.str []]] := rfl
    have hal : allSome byteOfCell (List.replicate 40 [.int .u8 0]) = some (List.replicate 40 0) := by decide
    obtain ⟨L, hL⟩ : ∃ L : List (List UInt8), L = [[], [97], [97, 98], [116, 101, 120, 116], [98], List.replicate 40 0] := ⟨_, rfl⟩
    have hLl : ∀ t ∈ L, t.length ≤ 60 := by rw [hL]; decide
    have hlit := lits (σ1 ++ [⟨List.replicate 40 [.int .u8 0], 1, 0, .own⟩]) L (fun t ht => by have := hLl t ht; unfold LenOk; omega)
    have p3 := Pre.app (σ1 ++ [⟨List.replicate 40 [.int .u8 0], 1, 0, .own⟩]) [(⟨L.map (fun t => [.str t]), 1, 0, .own⟩ : Row)]
    have hLn : L.length = 6 := by rw [hL]; rfl
    rw [hLn] at hlit
    obtain ⟨t, σ4, e4, m4, s4, f4⟩ := pick_eq (X := X) _ p _ L _ hlit (lits_off _ (by simp; omega)) ((s1.pre p2).pre p3) (by omega) (by rw [hLn]; decide)
    have hmem : t ∈ L := by
      rcases m4 with h | h
      · exact h
      · rw [h] at hLn; cases hLn
    refine ⟨vText t, σ4, ?_, .text t (hLl t hmem), s4.more (by omega), (f1.pre (p2.pre p3)).step f4⟩
    rw [hL] at e4
    simp only [List.map_cons, List.map_nil, List.length_append, List.length_cons, List.length_nil, Nat.zero_add] at e4
    rcases h23 with rfl | rfl
    · rw [EE, Ex_run C_spec_l00Src_value rfl]
      simp (config := {contextual := true, implicitDefEqProofs := false, maxSteps := 1000000}) only [
    ↓runK_seq, ↓runK_reg, ↓runK_draw0, ↓runK_drawT, ↓runK_block, ↓runK_cond, ↓runK_loop, ↓runK_skip, ↓runK_ret, ↓runK_exit, ↓seqK_norm, ↓seqK_ret, ↓seqK_exit, ↓blkK_norm, ↓blkK_ret, ↓blkK_exit, ↓lpK_norm, ↓lpK_ret, ↓lpK_exit, ↓regK_eq, 
    frK_eq, ↓opsK_op, ↓opsK_og, ↓opsK_nil, ↓nxtK_some, ↓nxtK_none, ↓opsT_op, ↓opsT_og, ↓opsT_nil, ↓nxtT_some, ↓nxtT_none, ↓endT_nil, ↓opK_mv, ↓opK_pick, ↓opK_load, ↓opK_store, ↓opK_bin, ↓opK_fadr, ↓opK_alloc, ↓opK_allocE, ↓opK_box, 
    ↓opK_boxE, ↓opK_iadr, ↓opK_fld, ↓opK_beq, ↓opK_seq, ↓opK_isnil, ↓opK_bnot, ↓opK_neg, ↓opK_len, ↓opK_ext, ↓opK_build, ↓opK_bsl, ↓opK_bslE, ↓opK_app, ↓opK_slc, ↓opK_sstr, ↓opK_idx, ↓opK_s2b, ↓opK_b2s, ↓opK_cvt, ↓opK_mks, ↓opK_nilc, 
    ↓opK_mkf, ↓opK_call, ↓opK_calld, ↓finK_ret, ↓finK_norm, th_some, th_none, ↓ch_br, ↓ch_true, ↓ch_false, ↓br_true, ↓br_false, ↓br_not, boolK_bool, gdK_true, gdK_false, gdK_undef, pickK_bb, pickK_bool, fnK_fn, ev_t, ev_c, evv_t, evv_c, 
    evs_nil, evs_cons, av_v, lk_hit, lk_miss, lk_nil, projR_nil, projR_cons, projB_nil, projB_cons, pr1_v, pr1_none, pr1_lp, pr1_ls, pb1_v, pb1_none, pb1_nob, pb1_lp, binV_add, binV_sub, binV_mul, binV_eql, binV_neq, binV_lss, binV_leq, 
    binV_gtr, binV_geq, binV_seql, binV_sneq, binV_slss, binV_sleq, binV_sgtr, binV_sgeq, cellsOf_int, cellsOf_bool, cellsOf_str, cellsOf_agg, cellsOf_sl, cellsOf_nilsl, cellsOf_ptr, cellsOf_nilptr, cellsOf_fn, cellsOf_nilfn, place_lp, 
    ld_cell, ld_agg, putAt_lp, fadrV_lp, fadrV_ptr, fldV_agg, beqV_eq, beqV_ne, seqV_eq, seqV_ne, cellsEq_nil, cellsEq_cons, cellEq_int, cellEq_bool, cellEq_str, isnilV_eq, isnilV_ne, bnotV_bool, negV_int, lenV_str, lenV_sl, lenV_nilsl, 
    extV_tup, fillP_nil, fillP_cons, fillS_nil, fillS_cons, intOf_int, bnd_none, bnd_some, sstrV_str, idxV_str, strOf_str, mksV_int, nilcV_ptr, nilcV_lp, result, resOf, allSome, number, upd, List.map, List.length_cons, List.length_nil, 
    List.append_nil, List.nil_append, List.cons_append, List.getElem?_cons_zero, List.getElem?_cons_succ, List.drop_zero, List.drop_succ_cons, List.drop_nil, List.take_zero, List.take_succ_cons, List.take_nil, Option.bind_some, 
    Option.isNone_none, Option.isNone_some, Option.isSome_some, Nat.reduceAdd, Nat.reduceSub, Nat.reduceLeDiff, Nat.reduceLT, Nat.reduceEqDiff, Nat.zero_add, Nat.add_zero, Nat.le_refl, reduceIte, ne_eq, not_false_eq_true, and_self, true_and, 
    and_true, reduceCtorEq, cond_true, cond_false, stT_nil, st1_some, evG_load, evG_gd, same3_eq, same3_none, endT_cons, c_spec_l00Src_value, e1, n0, n1, beq_self_eq_true, c40, t40, r6, hel, hal, List.set_cons_zero, List.set_cons_succ, 
    List.length_append, e4, l01Text_eq (X := X)]
    · have n2 : ((3 : Int) == 2) = false := by decide
      rw [EE, Ex_run C_spec_l00Src_value rfl]
      simp (config := {contextual := true, implicitDefEqProofs := false, maxSteps := 1000000}) only [
    ↓runK_seq, ↓runK_reg, ↓runK_draw0, ↓runK_drawT, ↓runK_block, ↓runK_cond, ↓runK_loop, ↓runK_skip, ↓runK_ret, ↓runK_exit, ↓seqK_norm, ↓seqK_ret, ↓seqK_exit, ↓blkK_norm, ↓blkK_ret, ↓blkK_exit, ↓lpK_norm, ↓lpK_ret, ↓lpK_exit, ↓regK_eq, 
    frK_eq, ↓opsK_op, ↓opsK_og, ↓opsK_nil, ↓nxtK_some, ↓nxtK_none, ↓opsT_op, ↓opsT_og, ↓opsT_nil, ↓nxtT_some, ↓nxtT_none, ↓endT_nil, ↓opK_mv, ↓opK_pick, ↓opK_load, ↓opK_store, ↓opK_bin, ↓opK_fadr, ↓opK_alloc, ↓opK_allocE, ↓opK_box, 
    ↓opK_boxE, ↓opK_iadr, ↓opK_fld, ↓opK_beq, ↓opK_seq, ↓opK_isnil, ↓opK_bnot, ↓opK_neg, ↓opK_len, ↓opK_ext, ↓opK_build, ↓opK_bsl, ↓opK_bslE, ↓opK_app, ↓opK_slc, ↓opK_sstr, ↓opK_idx, ↓opK_s2b, ↓opK_b2s, ↓opK_cvt, ↓opK_mks, ↓opK_nilc, 
    ↓opK_mkf, ↓opK_call, ↓opK_calld, ↓finK_ret, ↓finK_norm, th_some, th_none, ↓ch_br, ↓ch_true, ↓ch_false, ↓br_true, ↓br_false, ↓br_not, boolK_bool, gdK_true, gdK_false, gdK_undef, pickK_bb, pickK_bool, fnK_fn, ev_t, ev_c, evv_t, evv_c, 
    evs_nil, evs_cons, av_v, lk_hit, lk_miss, lk_nil, projR_nil, projR_cons, projB_nil, projB_cons, pr1_v, pr1_none, pr1_lp, pr1_ls, pb1_v, pb1_none, pb1_nob, pb1_lp, binV_add, binV_sub, binV_mul, binV_eql, binV_neq, binV_lss, binV_leq, 
    binV_gtr, binV_geq, binV_seql, binV_sneq, binV_slss, binV_sleq, binV_sgtr, binV_sgeq, cellsOf_int, cellsOf_bool, cellsOf_str, cellsOf_agg, cellsOf_sl, cellsOf_nilsl, cellsOf_ptr, cellsOf_nilptr, cellsOf_fn, cellsOf_nilfn, place_lp, 
    ld_cell, ld_agg, putAt_lp, fadrV_lp, fadrV_ptr, fldV_agg, beqV_eq, beqV_ne, seqV_eq, seqV_ne, cellsEq_nil, cellsEq_cons, cellEq_int, cellEq_bool, cellEq_str, isnilV_eq, isnilV_ne, bnotV_bool, negV_int, lenV_str, lenV_sl, lenV_nilsl, 
    extV_tup, fillP_nil, fillP_cons, fillS_nil, fillS_cons, intOf_int, bnd_none, bnd_some, sstrV_str, idxV_str, strOf_str, mksV_int, nilcV_ptr, nilcV_lp, result, resOf, allSome, number, upd, List.map, List.length_cons, List.length_nil, 
    List.append_nil, List.nil_append, List.cons_append, List.getElem?_cons_zero, List.getElem?_cons_succ, List.drop_zero, List.drop_succ_cons, List.drop_nil, List.take_zero, List.take_succ_cons, List.take_nil, Option.bind_some, 
    Option.isNone_none, Option.isNone_some, Option.isSome_some, Nat.reduceAdd, Nat.reduceSub, Nat.reduceLeDiff, Nat.reduceLT, Nat.reduceEqDiff, Nat.zero_add, Nat.add_zero, Nat.le_refl, reduceIte, ne_eq, not_false_eq_true, and_self, true_and, 
    and_true, reduceCtorEq, cond_true, cond_false, stT_nil, st1_some, evG_load, evG_gd, same3_eq, same3_none, endT_cons, c_spec_l00Src_value, e1, n0, n1, n2, beq_self_eq_true, c40, t40, r6, hel, hal, List.set_cons_zero, List.set_cons_succ, 
    List.length_append, e4, l01Text_eq (X := X)]
  have n2 : (k == 2) = false := by simpa using fun e => h23 (.inl e)
  have n3 : (k == 3) = false := by simpa using fun e => h23 (.inr e)
  by_cases h4 : k = 4
  · subst h4
    obtain ⟨L, hL⟩ : ∃ L : List Int, L = [2147483647, -2147483648, -1] := ⟨_, rfl⟩
    have hLl : ∀ x ∈ L, -2147483648 ≤ x ∧ x ≤ 2147483647 := by rw [hL]; decide
    have hr : RS RI 1 (σ1 ++ [⟨L.map (fun x => [int x]), 1, 0, .own⟩]) L (.sl σ1.length 0 0 L.length) :=
      ⟨_, by simpa using SlAt.new σ1 (L.map (fun x => [int x])) 1, All2.map (fun x hx => ⟨rfl, by have := hLl x hx; unfold I64; omega⟩)⟩
    have hp1 := s1.lt
    obtain ⟨k2, σ2, e2, a2, b2, s2, f2⟩ := next_eq (X := X) _ p _ 3 (s1.pre (Pre.app σ1 [(⟨L.map (fun x => [int x]), 1, 0, .own⟩ : Row)])) (by omega)
    have hr2 : RS RI 1 σ2 L (.sl σ1.length 0 0 L.length) := RS.frA (P := fun (m : Int) cs => cs = [int m] ∧ I64 m) hr f2 (lits_off σ1 hp1)
    obtain ⟨q, rfl⟩ := Int.eq_ofNat_of_zero_le a2
    have hLn : L.length = 3 := by rw [hL]; rfl
    have hq : q < L.length := by omega
    obtain ⟨cs, ⟨hc, _⟩, i1, i2, _⟩ := hr2.get (List.getElem?_eq_getElem hq)
    subst hc
    have hx := hLl L[q] (List.getElem_mem hq)
    refine ⟨vInt L[q], σ2, ?_, .int _ hx.1 hx.2, s2.more (by omega), (f1.pre (Pre.app _ _)).step f2⟩
    rw [hLn] at i1 i2
    generalize L[q] = y at *
    rw [hL] at e2
    simp only [List.map_cons, List.map_nil] at e2
    rw [EE, Ex_run C_spec_l00Src_value rfl]
    simp (config := {contextual := true, implicitDefEqProofs := false, maxSteps := 1000000}) only [
    ↓runK_seq, ↓runK_reg, ↓runK_draw0, ↓runK_drawT, ↓runK_block, ↓runK_cond, ↓runK_loop, ↓runK_skip, ↓runK_ret, ↓runK_exit, ↓seqK_norm, ↓seqK_ret, ↓seqK_exit, ↓blkK_norm, ↓blkK_ret, ↓blkK_exit, ↓lpK_norm, ↓lpK_ret, ↓lpK_exit, ↓regK_eq, 
    frK_eq, ↓opsK_op, ↓opsK_og, ↓opsK_nil, ↓nxtK_some, ↓nxtK_none, ↓opsT_op, ↓opsT_og, ↓opsT_nil, ↓nxtT_some, ↓nxtT_none, ↓endT_nil, ↓opK_mv, ↓opK_pick, ↓opK_load, ↓opK_store, ↓opK_bin, ↓opK_fadr, ↓opK_alloc, ↓opK_allocE, ↓opK_box, 
    ↓opK_boxE, ↓opK_iadr, ↓opK_fld, ↓opK_beq, ↓opK_seq, ↓opK_isnil, ↓opK_bnot, ↓opK_neg, ↓opK_len, ↓opK_ext, ↓opK_build, ↓opK_bsl, ↓opK_bslE, ↓opK_app, ↓opK_slc, ↓opK_sstr, ↓opK_idx, ↓opK_s2b, ↓opK_b2s, ↓opK_cvt, ↓opK_mks, ↓opK_nilc, 
    ↓opK_mkf, ↓opK_call, ↓opK_calld, ↓finK_ret, ↓finK_norm, th_some, th_none, ↓ch_br, ↓ch_true, ↓ch_false, ↓br_true, ↓br_false, ↓br_not, boolK_bool, gdK_true, gdK_false, gdK_undef, pickK_bb, pickK_bool, fnK_fn, ev_t, ev_c, evv_t, evv_c, 
    evs_nil, evs_cons, av_v, lk_hit, lk_miss, lk_nil, projR_nil, projR_cons, projB_nil, projB_cons, pr1_v, pr1_none, pr1_lp, pr1_ls, pb1_v, pb1_none, pb1_nob, pb1_lp, binV_add, binV_sub, binV_mul, binV_eql, binV_neq, binV_lss, binV_leq, 
    binV_gtr, binV_geq, binV_seql, binV_sneq, binV_slss, binV_sleq, binV_sgtr, binV_sgeq, cellsOf_int, cellsOf_bool, cellsOf_str, cellsOf_agg, cellsOf_sl, cellsOf_nilsl, cellsOf_ptr, cellsOf_nilptr, cellsOf_fn, cellsOf_nilfn, place_lp, 
    ld_cell, ld_agg, putAt_lp, fadrV_lp, fadrV_ptr, fldV_agg, beqV_eq, beqV_ne, seqV_eq, seqV_ne, cellsEq_nil, cellsEq_cons, cellEq_int, cellEq_bool, cellEq_str, isnilV_eq, isnilV_ne, bnotV_bool, negV_int, lenV_str, lenV_sl, lenV_nilsl, 
    extV_tup, fillP_nil, fillP_cons, fillS_nil, fillS_cons, intOf_int, bnd_none, bnd_some, sstrV_str, idxV_str, strOf_str, mksV_int, nilcV_ptr, nilcV_lp, result, resOf, allSome, number, upd, List.map, List.length_cons, List.length_nil, 
    List.append_nil, List.nil_append, List.cons_append, List.getElem?_cons_zero, List.getElem?_cons_succ, List.drop_zero, List.drop_succ_cons, List.drop_nil, List.take_zero, List.take_succ_cons, List.take_nil, Option.bind_some, 
    Option.isNone_none, Option.isNone_some, Option.isSome_some, Nat.reduceAdd, Nat.reduceSub, Nat.reduceLeDiff, Nat.reduceLT, Nat.reduceEqDiff, Nat.zero_add, Nat.add_zero, Nat.le_refl, reduceIte, ne_eq, not_false_eq_true, and_self, true_and, 
    and_true, reduceCtorEq, cond_true, cond_false, stT_nil, st1_some, evG_load, evG_gd, same3_eq, same3_none, endT_cons, c_spec_l00Src_value, e1, n0, n1, n2, n3, beq_self_eq_true, List.replicate_succ, List.replicate_zero, List.set_cons_zero, 
    List.set_cons_succ, e2, i1, i2, l01Int_eq (X := X)]
  have n4 : (k == 4) = false := by simpa using h4
  obtain ⟨k2, σ2, e2, a2, b2, s2, f2⟩ := next_eq (X := X) σ1 p _ 20 s1 (by omega)
  have w : IntKind.i64.wrap (k2 - 8) = k2 - 8 := wrap64 (by omega) (by omega)
  refine ⟨vInt (k2 - 8), σ2, ?_, .int _ (by omega) (by omega), s2.more (by omega), f1.step f2⟩
  rw [EE, Ex_run C_spec_l00Src_value rfl]
  simp (config := {contextual := true, implicitDefEqProofs := false, maxSteps := 1000000}) only [
    ↓runK_seq, ↓runK_reg, ↓runK_draw0, ↓runK_drawT, ↓runK_block, ↓runK_cond, ↓runK_loop, ↓runK_skip, ↓runK_ret, ↓runK_exit, ↓seqK_norm, ↓seqK_ret, ↓seqK_exit, ↓blkK_norm, ↓blkK_ret, ↓blkK_exit, ↓lpK_norm, ↓lpK_ret, ↓lpK_exit, ↓regK_eq, 
    frK_eq, ↓opsK_op, ↓opsK_og, ↓opsK_nil, ↓nxtK_some, ↓nxtK_none, ↓opsT_op, ↓opsT_og, ↓opsT_nil, ↓nxtT_some, ↓nxtT_none, ↓endT_nil, ↓opK_mv, ↓opK_pick, ↓opK_load, ↓opK_store, ↓opK_bin, ↓opK_fadr, ↓opK_alloc, ↓opK_allocE, ↓opK_box, 
    ↓opK_boxE, ↓opK_iadr, ↓opK_fld, ↓opK_beq, ↓opK_seq, ↓opK_isnil, ↓opK_bnot, ↓opK_neg, ↓opK_len, ↓opK_ext, ↓opK_build, ↓opK_bsl, ↓opK_bslE, ↓opK_app, ↓opK_slc, ↓opK_sstr, ↓opK_idx, ↓opK_s2b, ↓opK_b2s, ↓opK_cvt, ↓opK_mks, ↓opK_nilc, 
    ↓opK_mkf, ↓opK_call, ↓opK_calld, ↓finK_ret, ↓finK_norm, th_some, th_none, ↓ch_br, ↓ch_true, ↓ch_false, ↓br_true, ↓br_false, ↓br_not, boolK_bool, gdK_true, gdK_false, gdK_undef, pickK_bb, pickK_bool, fnK_fn, ev_t, ev_c, evv_t, evv_c, 
    evs_nil, evs_cons, av_v, lk_hit, lk_miss, lk_nil, projR_nil, projR_cons, projB_nil, projB_cons, pr1_v, pr1_none, pr1_lp, pr1_ls, pb1_v, pb1_none, pb1_nob, pb1_lp, binV_add, binV_sub, binV_mul, binV_eql, binV_neq, binV_lss, binV_leq, 
    binV_gtr, binV_geq, binV_seql, binV_sneq, binV_slss, binV_sleq, binV_sgtr, binV_sgeq, cellsOf_int, cellsOf_bool, cellsOf_str, cellsOf_agg, cellsOf_sl, cellsOf_nilsl, cellsOf_ptr, cellsOf_nilptr, cellsOf_fn, cellsOf_nilfn, place_lp, 
    ld_cell, ld_agg, putAt_lp, fadrV_lp, fadrV_ptr, fldV_agg, beqV_eq, beqV_ne, seqV_eq, seqV_ne, cellsEq_nil, cellsEq_cons, cellEq_int, cellEq_bool, cellEq_str, isnilV_eq, isnilV_ne, bnotV_bool, negV_int, lenV_str, lenV_sl, lenV_nilsl, 
    extV_tup, fillP_nil, fillP_cons, fillS_nil, fillS_cons, intOf_int, bnd_none, bnd_some, sstrV_str, idxV_str, strOf_str, mksV_int, nilcV_ptr, nilcV_lp, result, resOf, allSome, number, upd, List.map, List.length_cons, List.length_nil, 
    List.append_nil, List.nil_append, List.cons_append, List.getElem?_cons_zero, List.getElem?_cons_succ, List.drop_zero, List.drop_succ_cons, List.drop_nil, List.take_zero, List.take_succ_cons, List.take_nil, Option.bind_some, 
    Option.isNone_none, Option.isNone_some, Option.isSome_some, Nat.reduceAdd, Nat.reduceSub, Nat.reduceLeDiff, Nat.reduceLT, Nat.reduceEqDiff, Nat.zero_add, Nat.add_zero, Nat.le_refl, reduceIte, ne_eq, not_false_eq_true, and_self, true_and, 
    and_true, reduceCtorEq, cond_true, cond_false, stT_nil, st1_some, evG_load, evG_gd, same3_eq, same3_none, endT_cons, c_spec_l00Src_value, e1, n0, n1, n2, n3, n4, e2, w, l01Int_eq (X := X)]
end Go.X

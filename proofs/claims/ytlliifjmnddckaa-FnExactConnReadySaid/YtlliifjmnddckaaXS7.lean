/- Connections: taking bytes. -/
import Derived.Test.YtlliifjmnddckaaXS6
set_option linter.unusedVariables false
set_option linter.unusedSimpArgs false
set_option maxRecDepth 20000
namespace Go.X
open Go
variable {X : Call}

def takeM (m : ConnM) (t : List UInt8) : ConnM × Int :=
  if m.shut then (m, 19) else if 400 < m.inp.length + t.length then (m, 7) else ({ m with inp := m.inp ++ t }, 0)

theorem l10Take_eq (σ : Store) (m : ConnM) (t : List UInt8) (a : AV) (hca : cellsOf a = some [a]) (h1 : m.inp.length ≤ 400) (h2 : t.length ≤ 65536) :
    EE X f_spec_l10Take [.agg [.bool m.opn, .bool m.ending, .str m.inp, a, int m.next], .str t] σ =
      some (.tup [.agg [.bool (takeM m t).1.opn, .bool (takeM m t).1.ending, .str (takeM m t).1.inp, a, int (takeM m t).1.next], int (takeM m t).2], σ) := by
  obtain ⟨opn, ending, inp, slots, next⟩ := m
  simp only at h1
  have hw : IntKind.i64.wrap ((inp.length : Int) + (t.length : Int)) = ((inp.length + t.length : Nat) : Int) := by rw [wrap64 (by omega) (by omega)]; omega
  have hcat : inp.length + t.length ≤ 140737488355328 := by omega
  rw [EE, Ex_run C_spec_l10Take rfl]
  by_cases h : 400 < inp.length + t.length
  · have h' : (400 : Int) < ((inp.length + t.length : Nat) : Int) := by omega
    simp (config := {contextual := true, implicitDefEqProofs := false}) only [
    ↓runK_seq, ↓runK_reg, ↓runK_draw0, ↓runK_drawT, ↓runK_block, ↓runK_cond, ↓runK_loop, ↓runK_skip, ↓runK_ret, ↓runK_exit, ↓seqK_norm, ↓seqK_ret, ↓seqK_exit, ↓blkK_norm, ↓blkK_ret, ↓blkK_exit, ↓lpK_norm, ↓lpK_ret, ↓lpK_exit, ↓regK_eq, 
    frK_eq, ↓opsK_op, ↓opsK_og, ↓opsK_nil, ↓nxtK_some, ↓nxtK_none, ↓opsT_op, ↓opsT_og, ↓opsT_nil, ↓nxtT_some, ↓nxtT_none, ↓endT_nil, ↓opK_mv, ↓opK_pick, ↓opK_load, ↓opK_store, ↓opK_bin, ↓opK_fadr, ↓opK_alloc, ↓opK_allocE, ↓opK_box, 
    ↓opK_boxE, ↓opK_iadr, ↓opK_fld, ↓opK_beq, ↓opK_seq, ↓opK_isnil, ↓opK_bnot, ↓opK_neg, ↓opK_len, ↓opK_ext, ↓opK_build, ↓opK_bsl, ↓opK_bslE, ↓opK_app, ↓opK_slc, ↓opK_sstr, ↓opK_idx, ↓opK_s2b, ↓opK_b2s, ↓opK_cvt, ↓opK_mks, ↓opK_nilc, 
    ↓opK_mkf, ↓opK_call, ↓opK_calld, ↓finK_ret, ↓finK_norm, th_some, th_none, ↓ch_br, ↓ch_true, ↓ch_false, ↓br_true, ↓br_false, ↓br_not, boolK_bool, gdK_true, gdK_false, gdK_undef, pickK_bb, pickK_bool, fnK_fn, ev_t, ev_c, evv_t, evv_c, 
    evs_nil, evs_cons, av_v, lk_hit, lk_miss, lk_nil, projR_nil, projR_cons, projB_nil, projB_cons, pr1_v, pr1_none, pr1_lp, pr1_ls, pb1_v, pb1_none, pb1_nob, pb1_lp, binV_add, binV_sub, binV_mul, binV_eql, binV_neq, binV_lss, binV_leq, 
    binV_gtr, binV_geq, binV_seql, binV_sneq, binV_slss, binV_sleq, binV_sgtr, binV_sgeq, cellsOf_int, cellsOf_bool, cellsOf_str, cellsOf_agg, cellsOf_sl, cellsOf_nilsl, cellsOf_ptr, cellsOf_nilptr, cellsOf_fn, cellsOf_nilfn, place_lp, 
    ld_cell, ld_agg, putAt_lp, fadrV_lp, fadrV_ptr, fldV_agg, beqV_eq, beqV_ne, seqV_eq, seqV_ne, cellsEq_nil, cellsEq_cons, cellEq_int, cellEq_bool, cellEq_str, isnilV_eq, isnilV_ne, bnotV_bool, negV_int, lenV_str, lenV_sl, lenV_nilsl, 
    extV_tup, fillP_nil, fillP_cons, fillS_nil, fillS_cons, intOf_int, bnd_none, bnd_some, sstrV_str, idxV_str, strOf_str, mksV_int, nilcV_ptr, nilcV_lp, result, resOf, allSome, number, upd, List.map, List.length_cons, List.length_nil, 
    List.append_nil, List.nil_append, List.cons_append, List.getElem?_cons_zero, List.getElem?_cons_succ, List.drop_zero, List.drop_succ_cons, List.drop_nil, List.take_zero, List.take_succ_cons, List.take_nil, Option.bind_some, 
    Option.isNone_none, Option.isNone_some, Option.isSome_some, Nat.reduceAdd, Nat.reduceSub, Nat.reduceLeDiff, Nat.reduceLT, Nat.reduceEqDiff, Nat.zero_add, Nat.add_zero, Nat.le_refl, reduceIte, ne_eq, not_false_eq_true, and_self, true_and, 
    and_true, reduceCtorEq, cond_true, cond_false, stT_nil, st1_some, evG_load, evG_gd, same3_eq, same3_none, endT_cons, c_spec_l10Take, hca, hw, h', decide_true]
    simp only [takeM, ConnM.shut, h, if_true]
    cases opn <;> cases ending <;> rfl
  · have h' : ¬ ((400 : Int) < ((inp.length + t.length : Nat) : Int)) := by omega
    simp (config := {contextual := true, implicitDefEqProofs := false}) only [
    ↓runK_seq, ↓runK_reg, ↓runK_draw0, ↓runK_drawT, ↓runK_block, ↓runK_cond, ↓runK_loop, ↓runK_skip, ↓runK_ret, ↓runK_exit, ↓seqK_norm, ↓seqK_ret, ↓seqK_exit, ↓blkK_norm, ↓blkK_ret, ↓blkK_exit, ↓lpK_norm, ↓lpK_ret, ↓lpK_exit, ↓regK_eq, 
    frK_eq, ↓opsK_op, ↓opsK_og, ↓opsK_nil, ↓nxtK_some, ↓nxtK_none, ↓opsT_op, ↓opsT_og, ↓opsT_nil, ↓nxtT_some, ↓nxtT_none, ↓endT_nil, ↓opK_mv, ↓opK_pick, ↓opK_load, ↓opK_store, ↓opK_bin, ↓opK_fadr, ↓opK_alloc, ↓opK_allocE, ↓opK_box, 
    ↓opK_boxE, ↓opK_iadr, ↓opK_fld, ↓opK_beq, ↓opK_seq, ↓opK_isnil, ↓opK_bnot, ↓opK_neg, ↓opK_len, ↓opK_ext, ↓opK_build, ↓opK_bsl, ↓opK_bslE, ↓opK_app, ↓opK_slc, ↓opK_sstr, ↓opK_idx, ↓opK_s2b, ↓opK_b2s, ↓opK_cvt, ↓opK_mks, ↓opK_nilc, 
    ↓opK_mkf, ↓opK_call, ↓opK_calld, ↓finK_ret, ↓finK_norm, th_some, th_none, ↓ch_br, ↓ch_true, ↓ch_false, ↓br_true, ↓br_false, ↓br_not, boolK_bool, gdK_true, gdK_false, gdK_undef, pickK_bb, pickK_bool, fnK_fn, ev_t, ev_c, evv_t, evv_c, 
    evs_nil, evs_cons, av_v, lk_hit, lk_miss, lk_nil, projR_nil, projR_cons, projB_nil, projB_cons, pr1_v, pr1_none, pr1_lp, pr1_ls, pb1_v, pb1_none, pb1_nob, pb1_lp, binV_add, binV_sub, binV_mul, binV_eql, binV_neq, binV_lss, binV_leq, 
    binV_gtr, binV_geq, binV_seql, binV_sneq, binV_slss, binV_sleq, binV_sgtr, binV_sgeq, cellsOf_int, cellsOf_bool, cellsOf_str, cellsOf_agg, cellsOf_sl, cellsOf_nilsl, cellsOf_ptr, cellsOf_nilptr, cellsOf_fn, cellsOf_nilfn, place_lp, 
    ld_cell, ld_agg, putAt_lp, fadrV_lp, fadrV_ptr, fldV_agg, beqV_eq, beqV_ne, seqV_eq, seqV_ne, cellsEq_nil, cellsEq_cons, cellEq_int, cellEq_bool, cellEq_str, isnilV_eq, isnilV_ne, bnotV_bool, negV_int, lenV_str, lenV_sl, lenV_nilsl, 
    extV_tup, fillP_nil, fillP_cons, fillS_nil, fillS_cons, intOf_int, bnd_none, bnd_some, sstrV_str, idxV_str, strOf_str, mksV_int, nilcV_ptr, nilcV_lp, result, resOf, allSome, number, upd, List.map, List.length_cons, List.length_nil, 
    List.append_nil, List.nil_append, List.cons_append, List.getElem?_cons_zero, List.getElem?_cons_succ, List.drop_zero, List.drop_succ_cons, List.drop_nil, List.take_zero, List.take_succ_cons, List.take_nil, Option.bind_some, 
    Option.isNone_none, Option.isNone_some, Option.isSome_some, Nat.reduceAdd, Nat.reduceSub, Nat.reduceLeDiff, Nat.reduceLT, Nat.reduceEqDiff, Nat.zero_add, Nat.add_zero, Nat.le_refl, reduceIte, ne_eq, not_false_eq_true, and_self, true_and, 
    and_true, reduceCtorEq, cond_true, cond_false, stT_nil, st1_some, evG_load, evG_gd, same3_eq, same3_none, endT_cons, c_spec_l10Take, hca, hw, h', decide_false, binV_cat _ _ hcat]
    simp only [takeM, ConnM.shut, h, if_false]
    cases opn <;> cases ending <;> rfl

theorem implTake_eq (σ r : Store) (m : ConnM) (t : List UInt8) (a : AV) (h1 : m.inp.length ≤ 400) (h2 : t.length ≤ 65536) :
    EE X f_impl_Conn_take [.ptr σ.length 0 0 0, .str t] (σ ++ ⟨[[.bool m.opn, .bool m.ending, .str m.inp, a, int m.next]], 5, 0, .own⟩ :: r) =
      some (int (takeM m t).2, σ ++ ⟨[[.bool (takeM m t).1.opn, .bool (takeM m t).1.ending, .str (takeM m t).1.inp, a, int (takeM m t).1.next]], 5, 0, .own⟩ :: r) := by
  have hsh := shut_eq (X := X) _ _ 0 0 m a (fun bx o => place_row σ r [.bool m.opn, .bool m.ending, .str m.inp, a, int m.next] 5 o bx)
  obtain ⟨opn, ending, inp, slots, next⟩ := m
  simp only at h1 hsh
  have hw : IntKind.i64.wrap ((inp.length : Int) + (t.length : Int)) = ((inp.length + t.length : Nat) : Int) := by rw [wrap64 (by omega) (by omega)]; omega
  have hcat : inp.length + t.length ≤ 140737488355328 := by omega
  have hput := fun bx => putAt_box σ r [.bool opn, .bool ending, .str inp, a, int next] 5 2 [.str (inp ++ t)] bx (by simp)
  rw [EE, Ex_run C_impl_Conn_take rfl]
  by_cases h : 400 < inp.length + t.length
  · have h' : (400 : Int) < ((inp.length + t.length : Nat) : Int) := by omega
    simp (config := {contextual := true, implicitDefEqProofs := false}) only [
    ↓runK_seq, ↓runK_reg, ↓runK_draw0, ↓runK_drawT, ↓runK_block, ↓runK_cond, ↓runK_loop, ↓runK_skip, ↓runK_ret, ↓runK_exit, ↓seqK_norm, ↓seqK_ret, ↓seqK_exit, ↓blkK_norm, ↓blkK_ret, ↓blkK_exit, ↓lpK_norm, ↓lpK_ret, ↓lpK_exit, ↓regK_eq, 
    frK_eq, ↓opsK_op, ↓opsK_og, ↓opsK_nil, ↓nxtK_some, ↓nxtK_none, ↓opsT_op, ↓opsT_og, ↓opsT_nil, ↓nxtT_some, ↓nxtT_none, ↓endT_nil, ↓opK_mv, ↓opK_pick, ↓opK_load, ↓opK_store, ↓opK_bin, ↓opK_fadr, ↓opK_alloc, ↓opK_allocE, ↓opK_box, 
    ↓opK_boxE, ↓opK_iadr, ↓opK_fld, ↓opK_beq, ↓opK_seq, ↓opK_isnil, ↓opK_bnot, ↓opK_neg, ↓opK_len, ↓opK_ext, ↓opK_build, ↓opK_bsl, ↓opK_bslE, ↓opK_app, ↓opK_slc, ↓opK_sstr, ↓opK_idx, ↓opK_s2b, ↓opK_b2s, ↓opK_cvt, ↓opK_mks, ↓opK_nilc, 
    ↓opK_mkf, ↓opK_call, ↓opK_calld, ↓finK_ret, ↓finK_norm, th_some, th_none, ↓ch_br, ↓ch_true, ↓ch_false, ↓br_true, ↓br_false, ↓br_not, boolK_bool, gdK_true, gdK_false, gdK_undef, pickK_bb, pickK_bool, fnK_fn, ev_t, ev_c, evv_t, evv_c, 
    evs_nil, evs_cons, av_v, lk_hit, lk_miss, lk_nil, projR_nil, projR_cons, projB_nil, projB_cons, pr1_v, pr1_none, pr1_lp, pr1_ls, pb1_v, pb1_none, pb1_nob, pb1_lp, binV_add, binV_sub, binV_mul, binV_eql, binV_neq, binV_lss, binV_leq, 
    binV_gtr, binV_geq, binV_seql, binV_sneq, binV_slss, binV_sleq, binV_sgtr, binV_sgeq, cellsOf_int, cellsOf_bool, cellsOf_str, cellsOf_agg, cellsOf_sl, cellsOf_nilsl, cellsOf_ptr, cellsOf_nilptr, cellsOf_fn, cellsOf_nilfn, place_lp, 
    ld_cell, ld_agg, putAt_lp, fadrV_lp, fadrV_ptr, fldV_agg, beqV_eq, beqV_ne, seqV_eq, seqV_ne, cellsEq_nil, cellsEq_cons, cellEq_int, cellEq_bool, cellEq_str, isnilV_eq, isnilV_ne, bnotV_bool, negV_int, lenV_str, lenV_sl, lenV_nilsl, 
    extV_tup, fillP_nil, fillP_cons, fillS_nil, fillS_cons, intOf_int, bnd_none, bnd_some, sstrV_str, idxV_str, strOf_str, mksV_int, nilcV_ptr, nilcV_lp, result, resOf, allSome, number, upd, List.map, List.length_cons, List.length_nil, 
    List.append_nil, List.nil_append, List.cons_append, List.getElem?_cons_zero, List.getElem?_cons_succ, List.drop_zero, List.drop_succ_cons, List.drop_nil, List.take_zero, List.take_succ_cons, List.take_nil, Option.bind_some, 
    Option.isNone_none, Option.isNone_some, Option.isSome_some, Nat.reduceAdd, Nat.reduceSub, Nat.reduceLeDiff, Nat.reduceLT, Nat.reduceEqDiff, Nat.zero_add, Nat.add_zero, Nat.le_refl, reduceIte, ne_eq, not_false_eq_true, and_self, true_and, 
    and_true, reduceCtorEq, cond_true, cond_false, stT_nil, st1_some, evG_load, evG_gd, same3_eq, same3_none, endT_cons, c_impl_Conn_take, hsh, place_row, hw, h', decide_true]
    simp only [takeM, h, if_true]
    cases ConnM.shut ⟨opn, ending, inp, slots, next⟩ <;> rfl
  · have h' : ¬ ((400 : Int) < ((inp.length + t.length : Nat) : Int)) := by omega
    simp (config := {contextual := true, implicitDefEqProofs := false}) only [
    ↓runK_seq, ↓runK_reg, ↓runK_draw0, ↓runK_drawT, ↓runK_block, ↓runK_cond, ↓runK_loop, ↓runK_skip, ↓runK_ret, ↓runK_exit, ↓seqK_norm, ↓seqK_ret, ↓seqK_exit, ↓blkK_norm, ↓blkK_ret, ↓blkK_exit, ↓lpK_norm, ↓lpK_ret, ↓lpK_exit, ↓regK_eq, 
    frK_eq, ↓opsK_op, ↓opsK_og, ↓opsK_nil, ↓nxtK_some, ↓nxtK_none, ↓opsT_op, ↓opsT_og, ↓opsT_nil, ↓nxtT_some, ↓nxtT_none, ↓endT_nil, ↓opK_mv, ↓opK_pick, ↓opK_load, ↓opK_store, ↓opK_bin, ↓opK_fadr, ↓opK_alloc, ↓opK_allocE, ↓opK_box, 
    ↓opK_boxE, ↓opK_iadr, ↓opK_fld, ↓opK_beq, ↓opK_seq, ↓opK_isnil, ↓opK_bnot, ↓opK_neg, ↓opK_len, ↓opK_ext, ↓opK_build, ↓opK_bsl, ↓opK_bslE, ↓opK_app, ↓opK_slc, ↓opK_sstr, ↓opK_idx, ↓opK_s2b, ↓opK_b2s, ↓opK_cvt, ↓opK_mks, ↓opK_nilc, 
    ↓opK_mkf, ↓opK_call, ↓opK_calld, ↓finK_ret, ↓finK_norm, th_some, th_none, ↓ch_br, ↓ch_true, ↓ch_false, ↓br_true, ↓br_false, ↓br_not, boolK_bool, gdK_true, gdK_false, gdK_undef, pickK_bb, pickK_bool, fnK_fn, ev_t, ev_c, evv_t, evv_c, 
    evs_nil, evs_cons, av_v, lk_hit, lk_miss, lk_nil, projR_nil, projR_cons, projB_nil, projB_cons, pr1_v, pr1_none, pr1_lp, pr1_ls, pb1_v, pb1_none, pb1_nob, pb1_lp, binV_add, binV_sub, binV_mul, binV_eql, binV_neq, binV_lss, binV_leq, 
    binV_gtr, binV_geq, binV_seql, binV_sneq, binV_slss, binV_sleq, binV_sgtr, binV_sgeq, cellsOf_int, cellsOf_bool, cellsOf_str, cellsOf_agg, cellsOf_sl, cellsOf_nilsl, cellsOf_ptr, cellsOf_nilptr, cellsOf_fn, cellsOf_nilfn, place_lp, 
    ld_cell, ld_agg, putAt_lp, fadrV_lp, fadrV_ptr, fldV_agg, beqV_eq, beqV_ne, seqV_eq, seqV_ne, cellsEq_nil, cellsEq_cons, cellEq_int, cellEq_bool, cellEq_str, isnilV_eq, isnilV_ne, bnotV_bool, negV_int, lenV_str, lenV_sl, lenV_nilsl, 
    extV_tup, fillP_nil, fillP_cons, fillS_nil, fillS_cons, intOf_int, bnd_none, bnd_some, sstrV_str, idxV_str, strOf_str, mksV_int, nilcV_ptr, nilcV_lp, result, resOf, allSome, number, upd, List.map, List.length_cons, List.length_nil, 
    List.append_nil, List.nil_append, List.cons_append, List.getElem?_cons_zero, List.getElem?_cons_succ, List.drop_zero, List.drop_succ_cons, List.drop_nil, List.take_zero, List.take_succ_cons, List.take_nil, Option.bind_some, 
    Option.isNone_none, Option.isNone_some, Option.isSome_some, Nat.reduceAdd, Nat.reduceSub, Nat.reduceLeDiff, Nat.reduceLT, Nat.reduceEqDiff, Nat.zero_add, Nat.add_zero, Nat.le_refl, reduceIte, ne_eq, not_false_eq_true, and_self, true_and, 
    and_true, reduceCtorEq, cond_true, cond_false, stT_nil, st1_some, evG_load, evG_gd, same3_eq, same3_none, endT_cons, c_impl_Conn_take, hsh, place_row, hw, h', decide_false, binV_cat _ _ hcat, hput]
    simp only [takeM, h, if_false]
    cases ConnM.shut ⟨opn, ending, inp, slots, next⟩ <;> rfl
end Go.X

/- The law of RoomOf. -/
import Derived.Test.YtlliifjmnddckaaXS2
set_option linter.unusedVariables false
set_option linter.unusedSimpArgs false
set_option maxRecDepth 20000
namespace Go.X
open Go
variable {X : Call}

theorem ConnM.refl (m : ConnM) : (m == m) = true := by
  show (m.opn == m.opn && m.ending == m.ending && m.inp == m.inp && m.slots == m.slots && m.next == m.next) = true
  have h : ∀ l : List SlotM, (l == l) = true := by
    intro l
    induction l with
    | nil => rfl
    | cons s l ih => show (s == s && l == l) = true; rw [SlotM.refl, ih]; rfl
  simp [h]

theorem law_RoomOf (σ : Store) (m : ConnM) (cs : List AV) (hm : RConn σ m cs) : ∃ σ', EE X f_laws_FnExactRoomOf [.agg cs] σ = some (.bool true, σ') := by
  have hl := RConn.sized σ m cs hm
  obtain ⟨w, hw, hw1, hw2⟩ := szConn_eq (X := X) σ m cs 1048576 hm (by omega) (by omega)
  by_cases hneg : w < 0
  · refine ⟨σ, ?_⟩
    rw [EE, Ex_run C_laws_FnExactRoomOf rfl]
    simp (config := {contextual := true, implicitDefEqProofs := false}) only [
    ↓runK_seq, ↓runK_reg, ↓runK_draw0, ↓runK_drawT, ↓runK_block, ↓runK_cond, ↓runK_loop, ↓runK_skip, ↓runK_ret, ↓runK_exit, ↓seqK_norm, ↓seqK_ret, ↓seqK_exit, ↓blkK_norm, ↓blkK_ret, ↓blkK_exit, ↓lpK_norm, ↓lpK_ret, ↓lpK_exit, ↓regK_eq, 
    frK_eq, ↓opsK_op, ↓opsK_og, ↓opsK_nil, ↓nxtK_some, ↓nxtK_none, ↓opsT_op, ↓opsT_og, ↓opsT_nil, ↓nxtT_some, ↓nxtT_none, ↓endT_nil, ↓opK_mv, ↓opK_pick, ↓opK_load, ↓opK_store, ↓opK_bin, ↓opK_fadr, ↓opK_alloc, ↓opK_allocE, ↓opK_box, 
    ↓opK_boxE, ↓opK_iadr, ↓opK_fld, ↓opK_beq, ↓opK_seq, ↓opK_isnil, ↓opK_bnot, ↓opK_neg, ↓opK_len, ↓opK_ext, ↓opK_build, ↓opK_bsl, ↓opK_bslE, ↓opK_app, ↓opK_slc, ↓opK_sstr, ↓opK_idx, ↓opK_s2b, ↓opK_b2s, ↓opK_cvt, ↓opK_mks, ↓opK_nilc, 
    ↓opK_mkf, ↓opK_call, ↓opK_calld, ↓finK_ret, ↓finK_norm, th_some, th_none, ↓ch_br, ↓ch_true, ↓ch_false, ↓br_true, ↓br_false, ↓br_not, boolK_bool, gdK_true, gdK_false, gdK_undef, pickK_bb, pickK_bool, fnK_fn, ev_t, ev_c, evv_t, evv_c, 
    evs_nil, evs_cons, av_v, lk_hit, lk_miss, lk_nil, projR_nil, projR_cons, projB_nil, projB_cons, pr1_v, pr1_none, pr1_lp, pr1_ls, pb1_v, pb1_none, pb1_nob, pb1_lp, binV_add, binV_sub, binV_mul, binV_eql, binV_neq, binV_lss, binV_leq, 
    binV_gtr, binV_geq, binV_seql, binV_sneq, binV_slss, binV_sleq, binV_sgtr, binV_sgeq, cellsOf_int, cellsOf_bool, cellsOf_str, cellsOf_agg, cellsOf_sl, cellsOf_nilsl, cellsOf_ptr, cellsOf_nilptr, cellsOf_fn, cellsOf_nilfn, place_lp, 
    ld_cell, ld_agg, putAt_lp, fadrV_lp, fadrV_ptr, fldV_agg, beqV_eq, beqV_ne, seqV_eq, seqV_ne, cellsEq_nil, cellsEq_cons, cellEq_int, cellEq_bool, cellEq_str, isnilV_eq, isnilV_ne, bnotV_bool, negV_int, lenV_str, lenV_sl, lenV_nilsl, 
    extV_tup, fillP_nil, fillP_cons, fillS_nil, fillS_cons, intOf_int, bnd_none, bnd_some, sstrV_str, idxV_str, strOf_str, mksV_int, nilcV_ptr, nilcV_lp, result, resOf, allSome, number, upd, List.map, List.length_cons, List.length_nil, 
    List.append_nil, List.nil_append, List.cons_append, List.getElem?_cons_zero, List.getElem?_cons_succ, List.drop_zero, List.drop_succ_cons, List.drop_nil, List.take_zero, List.take_succ_cons, List.take_nil, Option.bind_some, 
    Option.isNone_none, Option.isNone_some, Option.isSome_some, Nat.reduceAdd, Nat.reduceSub, Nat.reduceLeDiff, Nat.reduceLT, Nat.reduceEqDiff, Nat.zero_add, Nat.add_zero, Nat.le_refl, reduceIte, ne_eq, not_false_eq_true, and_self, true_and, 
    and_true, reduceCtorEq, cond_true, cond_false, stT_nil, st1_some, evG_load, evG_gd, same3_eq, same3_none, endT_cons, c_laws_FnExactRoomOf, hl, ld_all hl, hw, hneg, decide_true]
  · have hsz : m.size ≤ 1048576 := by rcases hw2 with h | h <;> omega
    obtain ⟨cs1, e1, t1, l1, r1⟩ := toConn_eq (X := X) σ m cs hm hsz
    have s1 := specRoomOf_eq (X := X) _ m cs1 r1.self.rc
    obtain ⟨cs2, e2, t2, l2, r2⟩ := toConn_eq (X := X) _ m cs (RConn.mono σ e1 m cs hm) hsz
    obtain ⟨e3, s2⟩ := implRoomOf_eq (X := X) _ m cs2 r2.self.rc
    obtain ⟨cs3, e4, t3, l3, r3⟩ := toConn_eq (X := X) _ m cs (RConn.mono _ e3 m cs (RConn.mono _ e2 m cs (RConn.mono σ e1 m cs hm))) hsz
    have q := eqConn_eq (X := X) _ m m cs2 cs3 (RConn.mono _ e4 m cs2 (RConn.mono _ e3 m cs2 r2.self.rc)) r3.self.rc
    rw [ConnM.refl] at q
    refine ⟨σ ++ e1 ++ e2 ++ e3 ++ e4, ?_⟩
    rw [EE, Ex_run C_laws_FnExactRoomOf rfl]
    simp (config := {contextual := true, implicitDefEqProofs := false}) only [
    ↓runK_seq, ↓runK_reg, ↓runK_draw0, ↓runK_drawT, ↓runK_block, ↓runK_cond, ↓runK_loop, ↓runK_skip, ↓runK_ret, ↓runK_exit, ↓seqK_norm, ↓seqK_ret, ↓seqK_exit, ↓blkK_norm, ↓blkK_ret, ↓blkK_exit, ↓lpK_norm, ↓lpK_ret, ↓lpK_exit, ↓regK_eq, 
    frK_eq, ↓opsK_op, ↓opsK_og, ↓opsK_nil, ↓nxtK_some, ↓nxtK_none, ↓opsT_op, ↓opsT_og, ↓opsT_nil, ↓nxtT_some, ↓nxtT_none, ↓endT_nil, ↓opK_mv, ↓opK_pick, ↓opK_load, ↓opK_store, ↓opK_bin, ↓opK_fadr, ↓opK_alloc, ↓opK_allocE, ↓opK_box, 
    ↓opK_boxE, ↓opK_iadr, ↓opK_fld, ↓opK_beq, ↓opK_seq, ↓opK_isnil, ↓opK_bnot, ↓opK_neg, ↓opK_len, ↓opK_ext, ↓opK_build, ↓opK_bsl, ↓opK_bslE, ↓opK_app, ↓opK_slc, ↓opK_sstr, ↓opK_idx, ↓opK_s2b, ↓opK_b2s, ↓opK_cvt, ↓opK_mks, ↓opK_nilc, 
    ↓opK_mkf, ↓opK_call, ↓opK_calld, ↓finK_ret, ↓finK_norm, th_some, th_none, ↓ch_br, ↓ch_true, ↓ch_false, ↓br_true, ↓br_false, ↓br_not, boolK_bool, gdK_true, gdK_false, gdK_undef, pickK_bb, pickK_bool, fnK_fn, ev_t, ev_c, evv_t, evv_c, 
    evs_nil, evs_cons, av_v, lk_hit, lk_miss, lk_nil, projR_nil, projR_cons, projB_nil, projB_cons, pr1_v, pr1_none, pr1_lp, pr1_ls, pb1_v, pb1_none, pb1_nob, pb1_lp, binV_add, binV_sub, binV_mul, binV_eql, binV_neq, binV_lss, binV_leq, 
    binV_gtr, binV_geq, binV_seql, binV_sneq, binV_slss, binV_sleq, binV_sgtr, binV_sgeq, cellsOf_int, cellsOf_bool, cellsOf_str, cellsOf_agg, cellsOf_sl, cellsOf_nilsl, cellsOf_ptr, cellsOf_nilptr, cellsOf_fn, cellsOf_nilfn, place_lp, 
    ld_cell, ld_agg, putAt_lp, fadrV_lp, fadrV_ptr, fldV_agg, beqV_eq, beqV_ne, seqV_eq, seqV_ne, cellsEq_nil, cellsEq_cons, cellEq_int, cellEq_bool, cellEq_str, isnilV_eq, isnilV_ne, bnotV_bool, negV_int, lenV_str, lenV_sl, lenV_nilsl, 
    extV_tup, fillP_nil, fillP_cons, fillS_nil, fillS_cons, intOf_int, bnd_none, bnd_some, sstrV_str, idxV_str, strOf_str, mksV_int, nilcV_ptr, nilcV_lp, result, resOf, allSome, number, upd, List.map, List.length_cons, List.length_nil, 
    List.append_nil, List.nil_append, List.cons_append, List.getElem?_cons_zero, List.getElem?_cons_succ, List.drop_zero, List.drop_succ_cons, List.drop_nil, List.take_zero, List.take_succ_cons, List.take_nil, Option.bind_some, 
    Option.isNone_none, Option.isNone_some, Option.isSome_some, Nat.reduceAdd, Nat.reduceSub, Nat.reduceLeDiff, Nat.reduceLT, Nat.reduceEqDiff, Nat.zero_add, Nat.add_zero, Nat.le_refl, reduceIte, ne_eq, not_false_eq_true, and_self, true_and, 
    and_true, reduceCtorEq, cond_true, cond_false, stT_nil, st1_some, evG_load, evG_gd, same3_eq, same3_none, endT_cons, c_laws_FnExactRoomOf, hl, ld_all hl, hw, hneg, decide_false, t1, s1, t2, l2, ld_all l2, s2, bne, beq_self_eq_true, 
    Bool.not_true, t3, q]


end Go.X

/- The law of ConnTake. -/
import Derived.Test.YtlliifjmnddckaaXS8
set_option linter.unusedVariables false
set_option linter.unusedSimpArgs false
set_option maxRecDepth 20000
namespace Go.X
open Go
variable {X : Call}

theorem connTake_slots (m : ConnM) (t : List UInt8) (h : m.slots.length ≤ 1048576) : (connTake m t).1.slots.length ≤ 1048576 := by
  simp only [connTake]
  split
  · simp [ConnM.zero]
  · split
    · simp [ConnM.zero]
    · simp only [takeM]; split
      · exact h
      · split <;> exact h

theorem law_ConnTake (σ : Store) (m : ConnM) (cs : List AV) (t : List UInt8) (hm : RConn σ m cs) (ht : LenOk t.length) : ∃ σ', EE X f_laws_FnExactConnTake [.agg cs, .str t] σ = some (.bool true, σ') := by
  have hl := RConn.sized σ m cs hm
  by_cases hbig : 1048576 < t.length
  · have h' : (1048576 : Int) < (t.length : Int) := by omega
    refine ⟨σ, ?_⟩
    rw [EE, Ex_run C_laws_FnExactConnTake rfl]
    simp (config := {contextual := true, implicitDefEqProofs := false}) only [
    ↓runK_seq, ↓runK_reg, ↓runK_draw0, ↓runK_drawT, ↓runK_block, ↓runK_cond, ↓runK_loop, ↓runK_skip, ↓runK_ret, ↓runK_exit, ↓seqK_norm, ↓seqK_ret, ↓seqK_exit, ↓blkK_norm, ↓blkK_ret, ↓blkK_exit, ↓lpK_norm, ↓lpK_ret, ↓lpK_exit, ↓regK_eq, 
    frK_eq, ↓opsK_op, ↓opsK_og, ↓opsK_nil, ↓nxtK_some, ↓nxtK_none, ↓opsT_op, ↓opsT_og, ↓opsT_nil, ↓nxtT_some, ↓nxtT_none, ↓endT_nil, ↓opK_mv, ↓opK_pick, ↓opK_load, ↓opK_store, ↓opK_bin, ↓opK_fadr, ↓opK_alloc, ↓opK_allocE, ↓opK_box, 
    ↓opK_boxE, ↓opK_iadr, ↓opK_fld, ↓opK_beq, ↓opK_seq, ↓opK_isnil, ↓opK_bnot, ↓opK_neg, ↓opK_len, ↓opK_ext, ↓opK_build, ↓opK_bsl, ↓opK_bslE, ↓opK_app, ↓opK_slc, ↓opK_sstr, ↓opK_idx, ↓opK_s2b, ↓opK_b2s, ↓opK_cvt, ↓opK_mks, ↓opK_nilc, 
    ↓opK_mkf, ↓opK_call, ↓opK_calld, ↓finK_ret, ↓finK_norm, th_some, th_none, ↓ch_br, ↓ch_true, ↓ch_false, ↓br_true, ↓br_false, ↓br_not, boolK_bool, gdK_true, gdK_false, gdK_undef, pickK_bb, pickK_bool, fnK_fn, ev_t, ev_c, evv_t, evv_c, 
    evs_nil, evs_cons, av_v, lk_hit, lk_miss, lk_nil, projR_nil, projR_cons, projB_nil, projB_cons, pr1_v, pr1_none, pr1_lp, pr1_ls, pb1_v, pb1_none, pb1_nob, pb1_lp, binV_add, binV_sub, binV_mul, binV_eql, binV_neq, binV_lss, binV_leq, 
    binV_gtr, binV_geq, binV_seql, binV_sneq, binV_slss, binV_sleq, binV_sgtr, binV_sgeq, cellsOf_int, cellsOf_bool, cellsOf_str, cellsOf_agg, cellsOf_sl, cellsOf_nilsl, cellsOf_ptr, cellsOf_nilptr, cellsOf_fn, cellsOf_nilfn, place_lp, 
    ld_cell, ld_agg, putAt_lp, fadrV_lp, fadrV_ptr, fldV_agg, beqV_eq, beqV_ne, seqV_eq, seqV_ne, cellsEq_nil, cellsEq_cons, cellEq_int, cellEq_bool, cellEq_str, isnilV_eq, isnilV_ne, bnotV_bool, negV_int, lenV_str, lenV_sl, lenV_nilsl, 
    extV_tup, fillP_nil, fillP_cons, fillS_nil, fillS_cons, intOf_int, bnd_none, bnd_some, sstrV_str, idxV_str, strOf_str, mksV_int, nilcV_ptr, nilcV_lp, result, resOf, allSome, number, upd, List.map, List.length_cons, List.length_nil, 
    List.append_nil, List.nil_append, List.cons_append, List.getElem?_cons_zero, List.getElem?_cons_succ, List.drop_zero, List.drop_succ_cons, List.drop_nil, List.take_zero, List.take_succ_cons, List.take_nil, Option.bind_some, 
    Option.isNone_none, Option.isNone_some, Option.isSome_some, Nat.reduceAdd, Nat.reduceSub, Nat.reduceLeDiff, Nat.reduceLT, Nat.reduceEqDiff, Nat.zero_add, Nat.add_zero, Nat.le_refl, reduceIte, ne_eq, not_false_eq_true, and_self, true_and, 
    and_true, reduceCtorEq, cond_true, cond_false, stT_nil, st1_some, evG_load, evG_gd, same3_eq, same3_none, endT_cons, c_laws_FnExactConnTake, hl, ld_all hl, h', decide_true]
  have hbig' : ¬ ((1048576 : Int) < (t.length : Int)) := by omega
  obtain ⟨w, hw, hw1, hw2⟩ := szConn_eq (X := X) σ m cs 1048576 hm (by omega) (by omega)
  by_cases hneg : w < 0
  · refine ⟨σ, ?_⟩
    rw [EE, Ex_run C_laws_FnExactConnTake rfl]
    simp (config := {contextual := true, implicitDefEqProofs := false}) only [
    ↓runK_seq, ↓runK_reg, ↓runK_draw0, ↓runK_drawT, ↓runK_block, ↓runK_cond, ↓runK_loop, ↓runK_skip, ↓runK_ret, ↓runK_exit, ↓seqK_norm, ↓seqK_ret, ↓seqK_exit, ↓blkK_norm, ↓blkK_ret, ↓blkK_exit, ↓lpK_norm, ↓lpK_ret, ↓lpK_exit, ↓regK_eq, 
    frK_eq, ↓opsK_op, ↓opsK_og, ↓opsK_nil, ↓nxtK_some, ↓nxtK_none, ↓opsT_op, ↓opsT_og, ↓opsT_nil, ↓nxtT_some, ↓nxtT_none, ↓endT_nil, ↓opK_mv, ↓opK_pick, ↓opK_load, ↓opK_store, ↓opK_bin, ↓opK_fadr, ↓opK_alloc, ↓opK_allocE, ↓opK_box, 
    ↓opK_boxE, ↓opK_iadr, ↓opK_fld, ↓opK_beq, ↓opK_seq, ↓opK_isnil, ↓opK_bnot, ↓opK_neg, ↓opK_len, ↓opK_ext, ↓opK_build, ↓opK_bsl, ↓opK_bslE, ↓opK_app, ↓opK_slc, ↓opK_sstr, ↓opK_idx, ↓opK_s2b, ↓opK_b2s, ↓opK_cvt, ↓opK_mks, ↓opK_nilc, 
    ↓opK_mkf, ↓opK_call, ↓opK_calld, ↓finK_ret, ↓finK_norm, th_some, th_none, ↓ch_br, ↓ch_true, ↓ch_false, ↓br_true, ↓br_false, ↓br_not, boolK_bool, gdK_true, gdK_false, gdK_undef, pickK_bb, pickK_bool, fnK_fn, ev_t, ev_c, evv_t, evv_c, 
    evs_nil, evs_cons, av_v, lk_hit, lk_miss, lk_nil, projR_nil, projR_cons, projB_nil, projB_cons, pr1_v, pr1_none, pr1_lp, pr1_ls, pb1_v, pb1_none, pb1_nob, pb1_lp, binV_add, binV_sub, binV_mul, binV_eql, binV_neq, binV_lss, binV_leq, 
    binV_gtr, binV_geq, binV_seql, binV_sneq, binV_slss, binV_sleq, binV_sgtr, binV_sgeq, cellsOf_int, cellsOf_bool, cellsOf_str, cellsOf_agg, cellsOf_sl, cellsOf_nilsl, cellsOf_ptr, cellsOf_nilptr, cellsOf_fn, cellsOf_nilfn, place_lp, 
    ld_cell, ld_agg, putAt_lp, fadrV_lp, fadrV_ptr, fldV_agg, beqV_eq, beqV_ne, seqV_eq, seqV_ne, cellsEq_nil, cellsEq_cons, cellEq_int, cellEq_bool, cellEq_str, isnilV_eq, isnilV_ne, bnotV_bool, negV_int, lenV_str, lenV_sl, lenV_nilsl, 
    extV_tup, fillP_nil, fillP_cons, fillS_nil, fillS_cons, intOf_int, bnd_none, bnd_some, sstrV_str, idxV_str, strOf_str, mksV_int, nilcV_ptr, nilcV_lp, result, resOf, allSome, number, upd, List.map, List.length_cons, List.length_nil, 
    List.append_nil, List.nil_append, List.cons_append, List.getElem?_cons_zero, List.getElem?_cons_succ, List.drop_zero, List.drop_succ_cons, List.drop_nil, List.take_zero, List.take_succ_cons, List.take_nil, Option.bind_some, 
    Option.isNone_none, Option.isNone_some, Option.isSome_some, Nat.reduceAdd, Nat.reduceSub, Nat.reduceLeDiff, Nat.reduceLT, Nat.reduceEqDiff, Nat.zero_add, Nat.add_zero, Nat.le_refl, reduceIte, ne_eq, not_false_eq_true, and_self, true_and, 
    and_true, reduceCtorEq, cond_true, cond_false, stT_nil, st1_some, evG_load, evG_gd, same3_eq, same3_none, endT_cons, c_laws_FnExactConnTake, hl, ld_all hl, hbig', hw, hneg, decide_true, decide_false]
  · have hsz : m.size ≤ 1048576 := by rcases hw2 with h | h <;> omega
    have hsl : m.slots.length ≤ 1048576 := by simp only [ConnM.size] at hsz; omega
    have hrl := connTake_slots m t hsl
    obtain ⟨cs1, e1, t1, l1, r1⟩ := toConn_eq (X := X) σ m cs hm hsz
    have m1 := RConn.mono σ e1 m cs hm
    obtain ⟨w0, e2, s1, lw, f1⟩ := specConnTake_eq (X := X) _ m cs1 t r1.self.rc ht hsl
    have m2 := RConn.mono _ e2 m cs m1
    obtain ⟨cs2, e3, t2, l2, r2⟩ := toConn_eq (X := X) _ m cs m2 hsz
    have m3 := RConn.mono _ e3 m cs m2
    obtain ⟨g0, e4, s2, lg, f2⟩ := implConnTake_eq (X := X) _ m cs2 t r2.self.rc ht hsl
    have m4 := RConn.mono _ e4 m cs m3
    have q1 := eqConn_eq (X := X) _ _ _ g0 w0 f2.self.rc (((f1.ext e3).ext e4).self.rc)
    rw [ConnM.refl] at q1
    obtain ⟨cs3, e5, t3, l3, r3⟩ := toConn_eq (X := X) _ m cs m4 hsz
    have r2' := (r2.ext e4).ext e5
    have q2 := eqConn_eq (X := X) _ m m cs2 cs3 r2'.self.rc r3.self.rc
    rw [ConnM.refl] at q2
    obtain ⟨σ6, k1, rm, sm⟩ := markConn_eq (X := X) _ m cs2 _ _ r2'.self hsl 1 (by omega)
    obtain ⟨t6, p6⟩ : ∃ t6, σ6 = σ ++ e1 ++ e2 ++ t6 := by
      have sm' : Same (σ ++ e1 ++ e2).length (σ ++ e1 ++ e2 ++ e3).length (σ ++ e1 ++ e2 ++ (e3 ++ e4 ++ e5)) σ6 := by simpa [List.append_assoc] using sm
      exact sm'.pre (Nat.le_refl _)
    have g6 := ((f2.ext e5).same sm (Nat.le_refl _)).self
    have w6 : RConnO (σ ++ e1).length (σ ++ e1 ++ e2).length σ6 (connTake m t).1 w0 := by rw [p6]; exact (f1.ext t6).self
    have q3 := eqConn_eq (X := X) _ _ _ g0 w0 g6.rc w6.rc
    rw [ConnM.refl] at q3
    obtain ⟨σ7, k2, rm2, sm2⟩ := markConn_eq (X := X) σ6 _ g0 _ _ g6 hrl 1 (by omega)
    have q4 := heldConn_eq (X := X) σ7 _ 1 g0 (by omega) hrl rm2.rc
    obtain ⟨t7, p7⟩ : ∃ t7, σ7 = σ ++ e1 ++ e2 ++ t7 := by
      rw [p6] at sm2
      exact sm2.pre (by simp <;> omega)
    have m7 : RConn σ7 m cs := by rw [p7]; exact RConn.mono _ t7 m cs m2
    obtain ⟨cs4, e8, t8, l8, r8⟩ := toConn_eq (X := X) _ m cs m7 hsz
    obtain ⟨g1, e9, s9, lg9, f9⟩ := implConnTake_eq (X := X) _ m cs4 t r8.self.rc ht hsl
    have w9 : RConnO (σ ++ e1).length (σ ++ e1 ++ e2).length (σ7 ++ e8 ++ e9) (connTake m t).1 w0 := by
      rw [p7]; exact (((f1.ext t7).ext e8).ext e9).self
    have q9 := eqConn_eq (X := X) _ _ _ g1 w0 f9.self.rc w9.rc
    rw [ConnM.refl] at q9
    have q10 := heldConn_eq (X := X) (σ7 ++ e8 ++ e9) _ 1 g0 (by omega) hrl (RConn.mono _ e9 _ _ (RConn.mono _ e8 _ _ rm2.rc))
    have k1' : EE X f_laws_markConn [AV.agg cs2, int 1] (σ ++ e1 ++ e2 ++ e3 ++ e4 ++ e5) = some (int ((1 + 3 * m.slots.length : Nat) : Int), σ6) := k1
    have k2' : EE X f_laws_markConn [AV.agg g0, int 1] σ6 = some (int ((1 + 3 * (connTake m t).1.slots.length : Nat) : Int), σ7) := k2
    have q4' : EE X f_laws_heldConn [AV.agg g0, int 1] σ7 = some (int ((1 + 3 * (connTake m t).1.slots.length : Nat) : Int), σ7) := q4
    have q10' : EE X f_laws_heldConn [AV.agg g0, int 1] (σ7 ++ e8 ++ e9) = some (int ((1 + 3 * (connTake m t).1.slots.length : Nat) : Int), σ7 ++ e8 ++ e9) := q10
    have n1 : ¬ (((1 + 3 * m.slots.length : Nat) : Int) < 0) := by omega
    have n2 : ¬ (((1 + 3 * (connTake m t).1.slots.length : Nat) : Int) < 0) := by omega
    refine ⟨σ7 ++ e8 ++ e9, ?_⟩
    rw [EE, Ex_run C_laws_FnExactConnTake rfl]
    simp (config := {contextual := true, implicitDefEqProofs := false}) only [
    ↓runK_seq, ↓runK_reg, ↓runK_draw0, ↓runK_drawT, ↓runK_block, ↓runK_cond, ↓runK_loop, ↓runK_skip, ↓runK_ret, ↓runK_exit, ↓seqK_norm, ↓seqK_ret, ↓seqK_exit, ↓blkK_norm, ↓blkK_ret, ↓blkK_exit, ↓lpK_norm, ↓lpK_ret, ↓lpK_exit, ↓regK_eq, 
    frK_eq, ↓opsK_op, ↓opsK_og, ↓opsK_nil, ↓nxtK_some, ↓nxtK_none, ↓opsT_op, ↓opsT_og, ↓opsT_nil, ↓nxtT_some, ↓nxtT_none, ↓endT_nil, ↓opK_mv, ↓opK_pick, ↓opK_load, ↓opK_store, ↓opK_bin, ↓opK_fadr, ↓opK_alloc, ↓opK_allocE, ↓opK_box, 
    ↓opK_boxE, ↓opK_iadr, ↓opK_fld, ↓opK_beq, ↓opK_seq, ↓opK_isnil, ↓opK_bnot, ↓opK_neg, ↓opK_len, ↓opK_ext, ↓opK_build, ↓opK_bsl, ↓opK_bslE, ↓opK_app, ↓opK_slc, ↓opK_sstr, ↓opK_idx, ↓opK_s2b, ↓opK_b2s, ↓opK_cvt, ↓opK_mks, ↓opK_nilc, 
    ↓opK_mkf, ↓opK_call, ↓opK_calld, ↓finK_ret, ↓finK_norm, th_some, th_none, ↓ch_br, ↓ch_true, ↓ch_false, ↓br_true, ↓br_false, ↓br_not, boolK_bool, gdK_true, gdK_false, gdK_undef, pickK_bb, pickK_bool, fnK_fn, ev_t, ev_c, evv_t, evv_c, 
    evs_nil, evs_cons, av_v, lk_hit, lk_miss, lk_nil, projR_nil, projR_cons, projB_nil, projB_cons, pr1_v, pr1_none, pr1_lp, pr1_ls, pb1_v, pb1_none, pb1_nob, pb1_lp, binV_add, binV_sub, binV_mul, binV_eql, binV_neq, binV_lss, binV_leq, 
    binV_gtr, binV_geq, binV_seql, binV_sneq, binV_slss, binV_sleq, binV_sgtr, binV_sgeq, cellsOf_int, cellsOf_bool, cellsOf_str, cellsOf_agg, cellsOf_sl, cellsOf_nilsl, cellsOf_ptr, cellsOf_nilptr, cellsOf_fn, cellsOf_nilfn, place_lp, 
    ld_cell, ld_agg, putAt_lp, fadrV_lp, fadrV_ptr, fldV_agg, beqV_eq, beqV_ne, seqV_eq, seqV_ne, cellsEq_nil, cellsEq_cons, cellEq_int, cellEq_bool, cellEq_str, isnilV_eq, isnilV_ne, bnotV_bool, negV_int, lenV_str, lenV_sl, lenV_nilsl, 
    extV_tup, fillP_nil, fillP_cons, fillS_nil, fillS_cons, intOf_int, bnd_none, bnd_some, sstrV_str, idxV_str, strOf_str, mksV_int, nilcV_ptr, nilcV_lp, result, resOf, allSome, number, upd, List.map, List.length_cons, List.length_nil, 
    List.append_nil, List.nil_append, List.cons_append, List.getElem?_cons_zero, List.getElem?_cons_succ, List.drop_zero, List.drop_succ_cons, List.drop_nil, List.take_zero, List.take_succ_cons, List.take_nil, Option.bind_some, 
    Option.isNone_none, Option.isNone_some, Option.isSome_some, Nat.reduceAdd, Nat.reduceSub, Nat.reduceLeDiff, Nat.reduceLT, Nat.reduceEqDiff, Nat.zero_add, Nat.add_zero, Nat.le_refl, reduceIte, ne_eq, not_false_eq_true, and_self, true_and, 
    and_true, reduceCtorEq, cond_true, cond_false, stT_nil, st1_some, evG_load, evG_gd, same3_eq, same3_none, endT_cons, c_laws_FnExactConnTake, hl, ld_all hl, hbig', hw, hneg, decide_false, t1, s1, lw, ld_all lw, t2, l2, ld_all l2, s2, lg, 
    ld_all lg, bne, beq_self_eq_true, Bool.not_true, q1, t3, q2, k1', n1, q3, k2', q4', n2, t8, l8, s9, lg9, ld_all lg9, q9, q10']
end Go.X

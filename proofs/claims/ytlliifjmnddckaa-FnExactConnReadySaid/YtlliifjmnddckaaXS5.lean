/- The law of WaitingOf. -/
import Derived.Test.YtlliifjmnddckaaXS3
import Derived.Test.YtlliifjmnddckaaXS4
set_option linter.unusedVariables false
set_option linter.unusedSimpArgs false
set_option maxRecDepth 20000
namespace Go.X
open Go
variable {X : Call}

/-- What is fresh from lo on holds on if only rows before lo change. -/
theorem FR.same {lo a b : Nat} {st st' : Store} {P : Store → Prop} (h : FR lo st P) (hs : Same a b st st') (hb : b ≤ lo) : FR lo st' P :=
  h.mono (Nat.le_refl _) (Nat.le_of_eq hs.1.symm) (fun r hr _ => hs.2 r (.inr (Nat.le_trans hb hr)))
theorem FR.ext {lo : Nat} {st : Store} {P : Store → Prop} (h : FR lo st P) (t : Store) : FR lo (st ++ t) P :=
  h.mono (Nat.le_refl _) (by simp) (fun r _ hr => List.getElem?_append_left hr)
/-- What is told of st holds in a store that has st's rows and other rows changed behind them. -/
theorem FR.to {lo a b : Nat} {st t st' : Store} {P : Store → Prop} (h : FR lo st P) (hs : Same a b (st ++ t) st') (ha : st.length ≤ a) : P st' :=
  h st' (fun r _ hr => by rw [hs.2 r (.inl (Nat.lt_of_lt_of_le hr ha)), List.getElem?_append_left hr])
theorem Same.pre {a b : Nat} {σ t st' : Store} (hs : Same a b (σ ++ t) st') (ha : σ.length ≤ a) : ∃ t', st' = σ ++ t' := by
  refine ⟨st'.drop σ.length, ?_⟩
  have : st'.take σ.length = σ := by
    apply List.ext_getElem?
    intro r
    rw [List.getElem?_take]
    split
    · rename_i h
      rw [hs.2 r (.inl (Nat.lt_of_lt_of_le h ha)), List.getElem?_append_left h]
    · rename_i h
      rw [List.getElem?_eq_none (by omega)]
  conv => rhs; lhs; rw [← this]
  rw [List.take_append_drop]
theorem intl_refl (l : List Int) : (l == l) = true := by simp

theorem law_WaitingOf (σ : Store) (m : ConnM) (cs : List AV) (hm : RConn σ m cs) : ∃ σ', EE X f_laws_FnExactWaitingOf [.agg cs] σ = some (.bool true, σ') := by
  have hl := RConn.sized σ m cs hm
  obtain ⟨w, hw, hw1, hw2⟩ := szConn_eq (X := X) σ m cs 1048576 hm (by omega) (by omega)
  by_cases hneg : w < 0
  · refine ⟨σ, ?_⟩
    rw [EE, Ex_run C_laws_FnExactWaitingOf rfl]
    simp (config := {contextual := true, implicitDefEqProofs := false}) only [
    ↓runK_seq, ↓runK_reg, ↓runK_draw0, ↓runK_drawT, ↓runK_block, ↓runK_cond, ↓runK_loop, ↓runK_skip, ↓runK_ret, ↓runK_exit, ↓seqK_norm, ↓seqK_ret, ↓seqK_exit, ↓blkK_norm, ↓blkK_ret, ↓blkK_exit, ↓lpK_norm, ↓lpK_ret, ↓lpK_exit, ↓regK_eq, 
    frK_eq, ↓opsK_op, ↓opsK_og, ↓opsK_nil, ↓nxtK_some, ↓nxtK_none, ↓opsT_op, ↓opsT_og, ↓opsT_nil, ↓nxtT_some, ↓nxtT_none, ↓endT_nil, ↓opK_mv, ↓opK_pick, ↓opK_load, ↓opK_store, ↓opK_bin, ↓opK_fadr, ↓opK_alloc, ↓opK_allocE, ↓opK_box, 
    ↓opK_boxE, ↓opK_iadr, ↓opK_fld, ↓opK_beq, ↓opK_seq, ↓opK_isnil, ↓opK_bnot, ↓opK_neg, ↓opK_len, ↓opK_ext, ↓opK_build, ↓opK_bsl, ↓opK_bslE, ↓opK_app, ↓opK_slc, ↓opK_sstr, ↓opK_idx, ↓opK_s2b, ↓opK_b2s, ↓opK_cvt, ↓opK_mks, ↓opK_nilc, 
    ↓opK_mkf, ↓opK_call, ↓opK_calld, ↓finK_ret, ↓finK_norm, th_some, th_none, ↓ch_br, ↓ch_true, ↓ch_false, ↓br_true, ↓br_false, ↓br_not, boolK_bool, gdK_true, gdK_false, gdK_undef, pickK_bb, pickK_bool, fnK_fn, ev_t, ev_c, evv_t, evv_c, 
    evs_nil, evs_cons, av_v, lk_hit, lk_miss, lk_nil, projR_nil, projR_cons, projB_nil, projB_cons, pr1_v, pr1_none, pr1_lp, pr1_ls, pb1_v, pb1_none, pb1_nob, pb1_lp, binV_add, binV_sub, binV_mul, binV_eql, binV_neq, binV_lss, binV_leq, 
    binV_gtr, binV_geq, binV_seql, binV_sneq, binV_slss, binV_sleq, binV_sgtr, binV_sgeq, cellsOf_int, cellsOf_bool, cellsOf_str, cellsOf_agg, cellsOf_sl, cellsOf_nilsl, cellsOf_ptr, cellsOf_nilptr, cellsOf_fn, cellsOf_nilfn, place_lp, 
    ld_cell, ld_agg, putAt_lp, fadrV_lp, fadrV_ptr, fldV_agg, beqV_eq, beqV_ne, seqV_eq, seqV_ne, cellsEq_nil, cellsEq_cons, cellEq_int, cellEq_bool, cellEq_str, isnilV_eq, isnilV_ne, bnotV_bool, negV_int, lenV_str, lenV_sl, lenV_nilsl, 
    extV_tup, fillP_nil, fillP_cons, fillS_nil, fillS_cons, intOf_int, bnd_none, bnd_some, sstrV_str, idxV_str, strOf_str, mksV_int, nilcV_ptr, nilcV_lp, result, resOf, allSome, number, upd, List.map, List.length_cons, List.length_nil, 
    List.append_nil, List.nil_append, List.cons_append, List.getElem?_cons_zero, List.getElem?_cons_succ, List.drop_zero, List.drop_succ_cons, List.drop_nil, List.take_zero, List.take_succ_cons, List.take_nil, Option.bind_some, 
    Option.isNone_none, Option.isNone_some, Option.isSome_some, Nat.reduceAdd, Nat.reduceSub, Nat.reduceLeDiff, Nat.reduceLT, Nat.reduceEqDiff, Nat.zero_add, Nat.add_zero, Nat.le_refl, reduceIte, ne_eq, not_false_eq_true, and_self, true_and, 
    and_true, reduceCtorEq, cond_true, cond_false, stT_nil, st1_some, evG_load, evG_gd, same3_eq, same3_none, endT_cons, c_laws_FnExactWaitingOf, hl, ld_all hl, hw, hneg, decide_true]
  · have hsz : m.size ≤ 1048576 := by rcases hw2 with h | h <;> omega
    have hsl : m.slots.length ≤ 1048576 := by simp only [ConnM.size] at hsz; omega
    have hwl : (waitingOf m).1.length ≤ 100000000 := by
      simp only [waitingOf]
      split
      · have := waitsL_len m.slots; simp only; omega
      · simp
    obtain ⟨cs1, e1, t1, l1, r1⟩ := toConn_eq (X := X) σ m cs hm hsz
    have m1 := RConn.mono σ e1 m cs hm
    obtain ⟨w0, e2, s1, f1⟩ := specWaitingOf_eq (X := X) _ m cs1 r1.self.rc
    have m2 := RConn.mono _ e2 m cs m1
    obtain ⟨cs2, e3, t2, l2, r2⟩ := toConn_eq (X := X) _ m cs m2 hsz
    have m3 := RConn.mono _ e3 m cs m2
    obtain ⟨g0, e4, s2, f2, c2⟩ := implWaitingOf_eq (X := X) _ m cs2 r2.self.rc
    have m4 := RConn.mono _ e4 m cs m3
    have f1' := (f1.ext e3).ext e4
    have q1 := eqIntS_eq (X := X) _ _ g0 _ w0 f2.self.1 f1'.self.1 (by omega)
    rw [intl_refl] at q1
    obtain ⟨cs3, e5, t3, l3, r3⟩ := toConn_eq (X := X) _ m cs m4 hsz
    have r2' := (r2.ext e4).ext e5
    have q2 := eqConn_eq (X := X) _ m m cs2 cs3 r2'.self.rc r3.self.rc
    rw [ConnM.refl] at q2
    obtain ⟨σ6, k1, rm, sm⟩ := markConn_eq (X := X) _ m cs2 _ _ r2'.self hsl 1 (by omega)
    obtain ⟨t6, p6⟩ : ∃ t6, σ6 = σ ++ e1 ++ e2 ++ t6 := by
      have sm' : Same (σ ++ e1 ++ e2).length (σ ++ e1 ++ e2 ++ e3).length (σ ++ e1 ++ e2 ++ (e3 ++ e4 ++ e5)) σ6 := by simpa [List.append_assoc] using sm
      exact sm'.pre (Nat.le_refl _)
    have g6 : RSO (fun _ _ => RI) 1 (σ ++ e1 ++ e2 ++ e3).length (σ ++ e1 ++ e2 ++ e3 ++ e4).length σ6 (waitingOf m).1 g0 := ((f2.ext e5).same sm (Nat.le_refl _)).self
    have w6 : RSO (fun _ _ => RI) 1 (σ ++ e1).length (σ ++ e1 ++ e2).length σ6 (waitingOf m).1 w0 := by
      have sm' : Same (σ ++ e1 ++ e2).length (σ ++ e1 ++ e2 ++ e3).length ((σ ++ e1 ++ e2) ++ (e3 ++ e4 ++ e5)) σ6 := by simpa [List.append_assoc] using sm
      exact f1.to sm' (Nat.le_refl _)
    have q3 := eqIntS_eq (X := X) _ _ g0 _ w0 g6.1 w6.1 (by omega)
    rw [intl_refl] at q3
    obtain ⟨σ7, k2, rm2, sm2⟩ := markIntS_eq (X := X) σ6 _ g0 _ _ g6 hwl 1 (by omega) (by omega)
    have q4 := heldIntS_eq (X := X) σ7 _ g0 hwl 1 (by omega) (by omega) rm2.1
    obtain ⟨t7, p7⟩ : ∃ t7, σ7 = σ ++ e1 ++ e2 ++ t7 := by
      rw [p6] at sm2
      exact sm2.pre (by simp <;> omega)
    have m7 : RConn σ7 m cs := by rw [p7]; exact RConn.mono _ t7 m cs m2
    obtain ⟨cs4, e8, t8, l8, r8⟩ := toConn_eq (X := X) _ m cs m7 hsz
    obtain ⟨g1, e9, s9, f9, c9⟩ := implWaitingOf_eq (X := X) _ m cs4 r8.self.rc
    have w9 : RSO (fun _ _ => RI) 1 (σ ++ e1).length (σ ++ e1 ++ e2).length (σ7 ++ e8 ++ e9) (waitingOf m).1 w0 := by
      rw [p7]; exact (((f1.ext t7).ext e8).ext e9).self
    have q9 := eqIntS_eq (X := X) _ _ g1 _ w0 f9.self.1 w9.1 (by omega)
    rw [intl_refl] at q9
    have q10 := heldIntS_eq (X := X) (σ7 ++ e8 ++ e9) _ g0 hwl 1 (by omega) (by omega) ((rm2.1.mono (RP.mono _ _) e8).mono (RP.mono _ _) e9)
    have k1' : EE X f_laws_markConn [AV.agg cs2, int 1] (σ ++ e1 ++ e2 ++ e3 ++ e4 ++ e5) = some (int ((1 + 3 * m.slots.length : Nat) : Int), σ6) := k1
    have n1 : ¬ (((1 + 3 * m.slots.length : Nat) : Int) < 0) := by omega
    have n2 : ¬ ((1 + ((waitingOf m).1.length : Int)) < 0) := by omega
    refine ⟨σ7 ++ e8 ++ e9, ?_⟩
    rw [EE, Ex_run C_laws_FnExactWaitingOf rfl]
    simp (config := {contextual := true, implicitDefEqProofs := false}) only [
    ↓runK_seq, ↓runK_reg, ↓runK_draw0, ↓runK_drawT, ↓runK_block, ↓runK_cond, ↓runK_loop, ↓runK_skip, ↓runK_ret, ↓runK_exit, ↓seqK_norm, ↓seqK_ret, ↓seqK_exit, ↓blkK_norm, ↓blkK_ret, ↓blkK_exit, ↓lpK_norm, ↓lpK_ret, ↓lpK_exit, ↓regK_eq, 
    frK_eq, ↓opsK_op, ↓opsK_og, ↓opsK_nil, ↓nxtK_some, ↓nxtK_none, ↓opsT_op, ↓opsT_og, ↓opsT_nil, ↓nxtT_some, ↓nxtT_none, ↓endT_nil, ↓opK_mv, ↓opK_pick, ↓opK_load, ↓opK_store, ↓opK_bin, ↓opK_fadr, ↓opK_alloc, ↓opK_allocE, ↓opK_box, 
    ↓opK_boxE, ↓opK_iadr, ↓opK_fld, ↓opK_beq, ↓opK_seq, ↓opK_isnil, ↓opK_bnot, ↓opK_neg, ↓opK_len, ↓opK_ext, ↓opK_build, ↓opK_bsl, ↓opK_bslE, ↓opK_app, ↓opK_slc, ↓opK_sstr, ↓opK_idx, ↓opK_s2b, ↓opK_b2s, ↓opK_cvt, ↓opK_mks, ↓opK_nilc, 
    ↓opK_mkf, ↓opK_call, ↓opK_calld, ↓finK_ret, ↓finK_norm, th_some, th_none, ↓ch_br, ↓ch_true, ↓ch_false, ↓br_true, ↓br_false, ↓br_not, boolK_bool, gdK_true, gdK_false, gdK_undef, pickK_bb, pickK_bool, fnK_fn, ev_t, ev_c, evv_t, evv_c, 
    evs_nil, evs_cons, av_v, lk_hit, lk_miss, lk_nil, projR_nil, projR_cons, projB_nil, projB_cons, pr1_v, pr1_none, pr1_lp, pr1_ls, pb1_v, pb1_none, pb1_nob, pb1_lp, binV_add, binV_sub, binV_mul, binV_eql, binV_neq, binV_lss, binV_leq, 
    binV_gtr, binV_geq, binV_seql, binV_sneq, binV_slss, binV_sleq, binV_sgtr, binV_sgeq, cellsOf_int, cellsOf_bool, cellsOf_str, cellsOf_agg, cellsOf_sl, cellsOf_nilsl, cellsOf_ptr, cellsOf_nilptr, cellsOf_fn, cellsOf_nilfn, place_lp, 
    ld_cell, ld_agg, putAt_lp, fadrV_lp, fadrV_ptr, fldV_agg, beqV_eq, beqV_ne, seqV_eq, seqV_ne, cellsEq_nil, cellsEq_cons, cellEq_int, cellEq_bool, cellEq_str, isnilV_eq, isnilV_ne, bnotV_bool, negV_int, lenV_str, lenV_sl, lenV_nilsl, 
    extV_tup, fillP_nil, fillP_cons, fillS_nil, fillS_cons, intOf_int, bnd_none, bnd_some, sstrV_str, idxV_str, strOf_str, mksV_int, nilcV_ptr, nilcV_lp, result, resOf, allSome, number, upd, List.map, List.length_cons, List.length_nil, 
    List.append_nil, List.nil_append, List.cons_append, List.getElem?_cons_zero, List.getElem?_cons_succ, List.drop_zero, List.drop_succ_cons, List.drop_nil, List.take_zero, List.take_succ_cons, List.take_nil, Option.bind_some, 
    Option.isNone_none, Option.isNone_some, Option.isSome_some, Nat.reduceAdd, Nat.reduceSub, Nat.reduceLeDiff, Nat.reduceLT, Nat.reduceEqDiff, Nat.zero_add, Nat.add_zero, Nat.le_refl, reduceIte, ne_eq, not_false_eq_true, and_self, true_and, 
    and_true, reduceCtorEq, cond_true, cond_false, stT_nil, st1_some, evG_load, evG_gd, same3_eq, same3_none, endT_cons, c_laws_FnExactWaitingOf, hl, ld_all hl, hw, hneg, decide_false, t1, s1, t2, l2, ld_all l2, s2, bne, beq_self_eq_true, 
    Bool.not_true, q1, t3, q2, k1', n1, q3, k2, q4, n2, t8, l8, s9, q9, q10]
end Go.X

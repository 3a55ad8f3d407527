/- Connections: which slots wait. -/
import Derived.Test.YtlliifjmnddckaaXS2
import Derived.Test.YtlliifjmnddckaaXM3
set_option linter.unusedVariables false
set_option linter.unusedSimpArgs false
set_option maxRecDepth 20000
namespace Go.X
open Go
variable {X : Call}

def waitsL : List SlotM → List Int
  | [] => []
  | s :: l => if s.ready then waitsL l else s.seq :: waitsL l
theorem waitsL_len : ∀ l : List SlotM, (waitsL l).length ≤ l.length
  | [] => by simp [waitsL]
  | s :: l => by
    have := waitsL_len l
    simp only [waitsL]
    split <;> simp <;> omega
theorem elsOf_ls1 (M : Mem) (c : AV) : elsOf M 1 (.ls [[c]]) = some [[c]] := rfl
/-- Whole numbers as elements. -/
def ic (l : List Int) : List (List AV) := l.map fun x => [int x]

theorem specWaits_loop {R : Type} (σ : Store) (m : ConnM) (a : AV) (ha : RS RSlot 3 σ m.slots a) (h6 : m.slots.length ≤ 1000) (kk : Out → S → Option R) :
    ∀ (n i v : Nat) (d : List Int), n = m.slots.length - i → i ≤ m.slots.length → d.length ≤ i → ∃ v',
      loopK (EE X) [1, 4, 5] l_spec_WaitingOf_0 ([(1, .lp 1 0), (4, .v (.sl σ.length v 0 d.length)), (5, .v (int i))], ⟨[(1, [.bool m.opn, .bool m.ending, .str m.inp, a, int m.next])], σ ++ [⟨ic d, 1, v, .own⟩]⟩) kk =
        kk (.exit 0) ([(1, .lp 1 0), (4, .v (.sl σ.length v' 0 (d ++ waitsL (m.slots.drop i)).length)), (5, .v (int m.slots.length)), (15, .v (.bool false))], ⟨[(1, [.bool m.opn, .bool m.ending, .str m.inp, a, int m.next])], σ ++ [⟨ic (d ++ waitsL (m.slots.drop i)), 1, v', .own⟩]⟩) := by
  intro n
  induction n with
  | zero =>
    intro i v d hm hi hd
    have e : i = m.slots.length := by omega
    subst e
    refine ⟨v, ?_⟩
    rw [loopK_step l_spec_WaitingOf_0.eq_1]
    simp (config := {contextual := true, implicitDefEqProofs := false}) only [
    ↓runK_seq, ↓runK_reg, ↓runK_draw0, ↓runK_drawT, ↓runK_block, ↓runK_cond, ↓runK_loop, ↓runK_skip, ↓runK_ret, ↓runK_exit, ↓seqK_norm, ↓seqK_ret, ↓seqK_exit, ↓blkK_norm, ↓blkK_ret, ↓blkK_exit, ↓lpK_norm, ↓lpK_ret, ↓lpK_exit, ↓regK_eq, 
    frK_eq, ↓opsK_op, ↓opsK_og, ↓opsK_nil, ↓nxtK_some, ↓nxtK_none, ↓opsT_op, ↓opsT_og, ↓opsT_nil, ↓nxtT_some, ↓nxtT_none, ↓endT_nil, ↓opK_mv, ↓opK_pick, ↓opK_load, ↓opK_store, ↓opK_bin, ↓opK_fadr, ↓opK_alloc, ↓opK_allocE, ↓opK_box, 
    ↓opK_boxE, ↓opK_iadr, ↓opK_fld, ↓opK_beq, ↓opK_seq, ↓opK_isnil, ↓opK_bnot, ↓opK_neg, ↓opK_len, ↓opK_ext, ↓opK_build, ↓opK_bsl, ↓opK_bslE, ↓opK_app, ↓opK_slc, ↓opK_sstr, ↓opK_idx, ↓opK_s2b, ↓opK_b2s, ↓opK_cvt, ↓opK_mks, ↓opK_nilc, 
    ↓opK_mkf, ↓opK_call, ↓opK_calld, ↓finK_ret, ↓finK_norm, th_some, th_none, ↓ch_br, ↓ch_true, ↓ch_false, ↓br_true, ↓br_false, ↓br_not, boolK_bool, gdK_true, gdK_false, gdK_undef, pickK_bb, pickK_bool, fnK_fn, ev_t, ev_c, evv_t, evv_c, 
    evs_nil, evs_cons, av_v, lk_hit, lk_miss, lk_nil, projR_nil, projR_cons, projB_nil, projB_cons, pr1_v, pr1_none, pr1_lp, pr1_ls, pb1_v, pb1_none, pb1_nob, pb1_lp, binV_add, binV_sub, binV_mul, binV_eql, binV_neq, binV_lss, binV_leq, 
    binV_gtr, binV_geq, binV_seql, binV_sneq, binV_slss, binV_sleq, binV_sgtr, binV_sgeq, cellsOf_int, cellsOf_bool, cellsOf_str, cellsOf_agg, cellsOf_sl, cellsOf_nilsl, cellsOf_ptr, cellsOf_nilptr, cellsOf_fn, cellsOf_nilfn, place_lp, 
    ld_cell, ld_agg, putAt_lp, fadrV_lp, fadrV_ptr, fldV_agg, beqV_eq, beqV_ne, seqV_eq, seqV_ne, cellsEq_nil, cellsEq_cons, cellEq_int, cellEq_bool, cellEq_str, isnilV_eq, isnilV_ne, bnotV_bool, negV_int, lenV_str, lenV_sl, lenV_nilsl, 
    extV_tup, fillP_nil, fillP_cons, fillS_nil, fillS_cons, intOf_int, bnd_none, bnd_some, sstrV_str, idxV_str, strOf_str, mksV_int, nilcV_ptr, nilcV_lp, result, resOf, allSome, number, upd, List.map, List.length_cons, List.length_nil, 
    List.append_nil, List.nil_append, List.cons_append, List.getElem?_cons_zero, List.getElem?_cons_succ, List.drop_zero, List.drop_succ_cons, List.drop_nil, List.take_zero, List.take_succ_cons, List.take_nil, Option.bind_some, 
    Option.isNone_none, Option.isNone_some, Option.isSome_some, Nat.reduceAdd, Nat.reduceSub, Nat.reduceLeDiff, Nat.reduceLT, Nat.reduceEqDiff, Nat.zero_add, Nat.add_zero, Nat.le_refl, reduceIte, ne_eq, not_false_eq_true, and_self, true_and, 
    and_true, reduceCtorEq, cond_true, cond_false, stT_nil, st1_some, evG_load, evG_gd, same3_eq, same3_none, endT_cons, ha.len, ha.cellsOf, Int.lt_irrefl, decide_false, List.drop_length, waitsL]
  | succ n ih =>
    intro i v d hm hi hd
    have hlt : i < m.slots.length := by omega
    have hlt' : (i : Int) < (m.slots.length : Int) := by omega
    have hw : IntKind.i64.wrap ((i : Int) + 1) = ((i + 1 : Nat) : Int) := wrap64 (by omega) (by omega)
    obtain ⟨cs, ⟨hc, hq, ht⟩, ha1, ha2⟩ := (ha.mono RSlot.mono [⟨ic d, 1, v, .own⟩]).get (List.getElem?_eq_getElem hlt)
    subst hc
    have hl : lenV false a = some (.int .i64 m.slots.length) := ha.len
    rw [List.drop_eq_getElem_cons hlt]
    cases hr : m.slots[i].ready with
    | true =>
      obtain ⟨v', ih'⟩ := ih (i + 1) v d (by omega) (by omega) (by omega)
      refine ⟨v', ?_⟩
      have e : waitsL (m.slots[i] :: m.slots.drop (i + 1)) = waitsL (m.slots.drop (i + 1)) := by simp only [waitsL, hr, if_true]
      rw [e, ← ih', loopK_step l_spec_WaitingOf_0.eq_1]
      simp (config := {contextual := true, implicitDefEqProofs := false}) only [
    ↓runK_seq, ↓runK_reg, ↓runK_draw0, ↓runK_drawT, ↓runK_block, ↓runK_cond, ↓runK_loop, ↓runK_skip, ↓runK_ret, ↓runK_exit, ↓seqK_norm, ↓seqK_ret, ↓seqK_exit, ↓blkK_norm, ↓blkK_ret, ↓blkK_exit, ↓lpK_norm, ↓lpK_ret, ↓lpK_exit, ↓regK_eq, 
    frK_eq, ↓opsK_op, ↓opsK_og, ↓opsK_nil, ↓nxtK_some, ↓nxtK_none, ↓opsT_op, ↓opsT_og, ↓opsT_nil, ↓nxtT_some, ↓nxtT_none, ↓endT_nil, ↓opK_mv, ↓opK_pick, ↓opK_load, ↓opK_store, ↓opK_bin, ↓opK_fadr, ↓opK_alloc, ↓opK_allocE, ↓opK_box, 
    ↓opK_boxE, ↓opK_iadr, ↓opK_fld, ↓opK_beq, ↓opK_seq, ↓opK_isnil, ↓opK_bnot, ↓opK_neg, ↓opK_len, ↓opK_ext, ↓opK_build, ↓opK_bsl, ↓opK_bslE, ↓opK_app, ↓opK_slc, ↓opK_sstr, ↓opK_idx, ↓opK_s2b, ↓opK_b2s, ↓opK_cvt, ↓opK_mks, ↓opK_nilc, 
    ↓opK_mkf, ↓opK_call, ↓opK_calld, ↓finK_ret, ↓finK_norm, th_some, th_none, ↓ch_br, ↓ch_true, ↓ch_false, ↓br_true, ↓br_false, ↓br_not, boolK_bool, gdK_true, gdK_false, gdK_undef, pickK_bb, pickK_bool, fnK_fn, ev_t, ev_c, evv_t, evv_c, 
    evs_nil, evs_cons, av_v, lk_hit, lk_miss, lk_nil, projR_nil, projR_cons, projB_nil, projB_cons, pr1_v, pr1_none, pr1_lp, pr1_ls, pb1_v, pb1_none, pb1_nob, pb1_lp, binV_add, binV_sub, binV_mul, binV_eql, binV_neq, binV_lss, binV_leq, 
    binV_gtr, binV_geq, binV_seql, binV_sneq, binV_slss, binV_sleq, binV_sgtr, binV_sgeq, cellsOf_int, cellsOf_bool, cellsOf_str, cellsOf_agg, cellsOf_sl, cellsOf_nilsl, cellsOf_ptr, cellsOf_nilptr, cellsOf_fn, cellsOf_nilfn, place_lp, 
    ld_cell, ld_agg, putAt_lp, fadrV_lp, fadrV_ptr, fldV_agg, beqV_eq, beqV_ne, seqV_eq, seqV_ne, cellsEq_nil, cellsEq_cons, cellEq_int, cellEq_bool, cellEq_str, isnilV_eq, isnilV_ne, bnotV_bool, negV_int, lenV_str, lenV_sl, lenV_nilsl, 
    extV_tup, fillP_nil, fillP_cons, fillS_nil, fillS_cons, intOf_int, bnd_none, bnd_some, sstrV_str, idxV_str, strOf_str, mksV_int, nilcV_ptr, nilcV_lp, result, resOf, allSome, number, upd, List.map, List.length_cons, List.length_nil, 
    List.append_nil, List.nil_append, List.cons_append, List.getElem?_cons_zero, List.getElem?_cons_succ, List.drop_zero, List.drop_succ_cons, List.drop_nil, List.take_zero, List.take_succ_cons, List.take_nil, Option.bind_some, 
    Option.isNone_none, Option.isNone_some, Option.isSome_some, Nat.reduceAdd, Nat.reduceSub, Nat.reduceLeDiff, Nat.reduceLT, Nat.reduceEqDiff, Nat.zero_add, Nat.add_zero, Nat.le_refl, reduceIte, ne_eq, not_false_eq_true, and_self, true_and, 
    and_true, reduceCtorEq, cond_true, cond_false, stT_nil, st1_some, evG_load, evG_gd, same3_eq, same3_none, endT_cons, hl, ha.cellsOf, hlt', decide_true, ha1, ha2, SlotM.cells, hr, Bool.not_true, hw]
    | false =>
      have happ := appV_mid 1 8 σ [] (ic d) [[int m.slots[i].seq]] v (by simp [ic]; omega)
      have e1 : (ic d).length = d.length := by simp [ic]
      have e2 : ic d ++ [[int m.slots[i].seq]] = ic (d ++ [m.slots[i].seq]) := by simp [ic]
      have e3 : (ic d).length + [[int m.slots[i].seq]].length = (d ++ [m.slots[i].seq]).length := by simp [ic]
      rw [e2, e3, e1] at happ
      obtain ⟨v', ih'⟩ := ih (i + 1) (v + 1) (d ++ [m.slots[i].seq]) (by omega) (by omega) (by simp; omega)
      refine ⟨v', ?_⟩
      have e : d ++ waitsL (m.slots[i] :: m.slots.drop (i + 1)) = d ++ [m.slots[i].seq] ++ waitsL (m.slots.drop (i + 1)) := by simp [waitsL, hr]
      rw [e, ← ih', loopK_step l_spec_WaitingOf_0.eq_1]
      simp (config := {contextual := true, implicitDefEqProofs := false}) only [
    ↓runK_seq, ↓runK_reg, ↓runK_draw0, ↓runK_drawT, ↓runK_block, ↓runK_cond, ↓runK_loop, ↓runK_skip, ↓runK_ret, ↓runK_exit, ↓seqK_norm, ↓seqK_ret, ↓seqK_exit, ↓blkK_norm, ↓blkK_ret, ↓blkK_exit, ↓lpK_norm, ↓lpK_ret, ↓lpK_exit, ↓regK_eq, 
    frK_eq, ↓opsK_op, ↓opsK_og, ↓opsK_nil, ↓nxtK_some, ↓nxtK_none, ↓opsT_op, ↓opsT_og, ↓opsT_nil, ↓nxtT_some, ↓nxtT_none, ↓endT_nil, ↓opK_mv, ↓opK_pick, ↓opK_load, ↓opK_store, ↓opK_bin, ↓opK_fadr, ↓opK_alloc, ↓opK_allocE, ↓opK_box, 
    ↓opK_boxE, ↓opK_iadr, ↓opK_fld, ↓opK_beq, ↓opK_seq, ↓opK_isnil, ↓opK_bnot, ↓opK_neg, ↓opK_len, ↓opK_ext, ↓opK_build, ↓opK_bsl, ↓opK_bslE, ↓opK_app, ↓opK_slc, ↓opK_sstr, ↓opK_idx, ↓opK_s2b, ↓opK_b2s, ↓opK_cvt, ↓opK_mks, ↓opK_nilc, 
    ↓opK_mkf, ↓opK_call, ↓opK_calld, ↓finK_ret, ↓finK_norm, th_some, th_none, ↓ch_br, ↓ch_true, ↓ch_false, ↓br_true, ↓br_false, ↓br_not, boolK_bool, gdK_true, gdK_false, gdK_undef, pickK_bb, pickK_bool, fnK_fn, ev_t, ev_c, evv_t, evv_c, 
    evs_nil, evs_cons, av_v, lk_hit, lk_miss, lk_nil, projR_nil, projR_cons, projB_nil, projB_cons, pr1_v, pr1_none, pr1_lp, pr1_ls, pb1_v, pb1_none, pb1_nob, pb1_lp, binV_add, binV_sub, binV_mul, binV_eql, binV_neq, binV_lss, binV_leq, 
    binV_gtr, binV_geq, binV_seql, binV_sneq, binV_slss, binV_sleq, binV_sgtr, binV_sgeq, cellsOf_int, cellsOf_bool, cellsOf_str, cellsOf_agg, cellsOf_sl, cellsOf_nilsl, cellsOf_ptr, cellsOf_nilptr, cellsOf_fn, cellsOf_nilfn, place_lp, 
    ld_cell, ld_agg, putAt_lp, fadrV_lp, fadrV_ptr, fldV_agg, beqV_eq, beqV_ne, seqV_eq, seqV_ne, cellsEq_nil, cellsEq_cons, cellEq_int, cellEq_bool, cellEq_str, isnilV_eq, isnilV_ne, bnotV_bool, negV_int, lenV_str, lenV_sl, lenV_nilsl, 
    extV_tup, fillP_nil, fillP_cons, fillS_nil, fillS_cons, intOf_int, bnd_none, bnd_some, sstrV_str, idxV_str, strOf_str, mksV_int, nilcV_ptr, nilcV_lp, result, resOf, allSome, number, upd, List.map, List.length_cons, List.length_nil, 
    List.append_nil, List.nil_append, List.cons_append, List.getElem?_cons_zero, List.getElem?_cons_succ, List.drop_zero, List.drop_succ_cons, List.drop_nil, List.take_zero, List.take_succ_cons, List.take_nil, Option.bind_some, 
    Option.isNone_none, Option.isNone_some, Option.isSome_some, Nat.reduceAdd, Nat.reduceSub, Nat.reduceLeDiff, Nat.reduceLT, Nat.reduceEqDiff, Nat.zero_add, Nat.add_zero, Nat.le_refl, reduceIte, ne_eq, not_false_eq_true, and_self, true_and, 
    and_true, reduceCtorEq, cond_true, cond_false, stT_nil, st1_some, evG_load, evG_gd, same3_eq, same3_none, endT_cons, hl, ha.cellsOf, hlt', decide_true, ha1, ha2, SlotM.cells, hr, Bool.not_false, hw, List.replicate_succ, 
    List.replicate_zero, List.set_cons_zero, elsOf_ls1, happ]

theorem implWaits_loop {R : Type} (σ : Store) (l : List SlotM) (a : AV) (ha : RS RSlot 3 σ l a) (h6 : l.length ≤ 1000) (kk : Out → S → Option R) :
    ∀ (n i v : Nat) (d : List Int), n = l.length - i → i ≤ l.length → d.length ≤ i → ∃ v',
      loopK (EE X) [3, 10, 11, 12] l_impl_Conn_waits_0 ([(3, .v (.sl σ.length v 0 d.length)), (10, .v a), (11, .v (int l.length)), (12, .v (int i))], ⟨[], σ ++ [⟨ic d, 1, v, .own⟩]⟩) kk =
        kk (.exit 0) ([(3, .v (.sl σ.length v' 0 (d ++ waitsL (l.drop i)).length)), (10, .v a), (11, .v (int l.length)), (12, .v (int l.length)), (13, .v (.bool false))], ⟨[], σ ++ [⟨ic (d ++ waitsL (l.drop i)), 1, v', .own⟩]⟩) := by
  intro n
  induction n with
  | zero =>
    intro i v d hm hi hd
    have e : i = l.length := by omega
    subst e
    refine ⟨v, ?_⟩
    rw [loopK_step l_impl_Conn_waits_0.eq_1]
    simp (config := {contextual := true, implicitDefEqProofs := false}) only [
    ↓runK_seq, ↓runK_reg, ↓runK_draw0, ↓runK_drawT, ↓runK_block, ↓runK_cond, ↓runK_loop, ↓runK_skip, ↓runK_ret, ↓runK_exit, ↓seqK_norm, ↓seqK_ret, ↓seqK_exit, ↓blkK_norm, ↓blkK_ret, ↓blkK_exit, ↓lpK_norm, ↓lpK_ret, ↓lpK_exit, ↓regK_eq, 
    frK_eq, ↓opsK_op, ↓opsK_og, ↓opsK_nil, ↓nxtK_some, ↓nxtK_none, ↓opsT_op, ↓opsT_og, ↓opsT_nil, ↓nxtT_some, ↓nxtT_none, ↓endT_nil, ↓opK_mv, ↓opK_pick, ↓opK_load, ↓opK_store, ↓opK_bin, ↓opK_fadr, ↓opK_alloc, ↓opK_allocE, ↓opK_box, 
    ↓opK_boxE, ↓opK_iadr, ↓opK_fld, ↓opK_beq, ↓opK_seq, ↓opK_isnil, ↓opK_bnot, ↓opK_neg, ↓opK_len, ↓opK_ext, ↓opK_build, ↓opK_bsl, ↓opK_bslE, ↓opK_app, ↓opK_slc, ↓opK_sstr, ↓opK_idx, ↓opK_s2b, ↓opK_b2s, ↓opK_cvt, ↓opK_mks, ↓opK_nilc, 
    ↓opK_mkf, ↓opK_call, ↓opK_calld, ↓finK_ret, ↓finK_norm, th_some, th_none, ↓ch_br, ↓ch_true, ↓ch_false, ↓br_true, ↓br_false, ↓br_not, boolK_bool, gdK_true, gdK_false, gdK_undef, pickK_bb, pickK_bool, fnK_fn, ev_t, ev_c, evv_t, evv_c, 
    evs_nil, evs_cons, av_v, lk_hit, lk_miss, lk_nil, projR_nil, projR_cons, projB_nil, projB_cons, pr1_v, pr1_none, pr1_lp, pr1_ls, pb1_v, pb1_none, pb1_nob, pb1_lp, binV_add, binV_sub, binV_mul, binV_eql, binV_neq, binV_lss, binV_leq, 
    binV_gtr, binV_geq, binV_seql, binV_sneq, binV_slss, binV_sleq, binV_sgtr, binV_sgeq, cellsOf_int, cellsOf_bool, cellsOf_str, cellsOf_agg, cellsOf_sl, cellsOf_nilsl, cellsOf_ptr, cellsOf_nilptr, cellsOf_fn, cellsOf_nilfn, place_lp, 
    ld_cell, ld_agg, putAt_lp, fadrV_lp, fadrV_ptr, fldV_agg, beqV_eq, beqV_ne, seqV_eq, seqV_ne, cellsEq_nil, cellsEq_cons, cellEq_int, cellEq_bool, cellEq_str, isnilV_eq, isnilV_ne, bnotV_bool, negV_int, lenV_str, lenV_sl, lenV_nilsl, 
    extV_tup, fillP_nil, fillP_cons, fillS_nil, fillS_cons, intOf_int, bnd_none, bnd_some, sstrV_str, idxV_str, strOf_str, mksV_int, nilcV_ptr, nilcV_lp, result, resOf, allSome, number, upd, List.map, List.length_cons, List.length_nil, 
    List.append_nil, List.nil_append, List.cons_append, List.getElem?_cons_zero, List.getElem?_cons_succ, List.drop_zero, List.drop_succ_cons, List.drop_nil, List.take_zero, List.take_succ_cons, List.take_nil, Option.bind_some, 
    Option.isNone_none, Option.isNone_some, Option.isSome_some, Nat.reduceAdd, Nat.reduceSub, Nat.reduceLeDiff, Nat.reduceLT, Nat.reduceEqDiff, Nat.zero_add, Nat.add_zero, Nat.le_refl, reduceIte, ne_eq, not_false_eq_true, and_self, true_and, 
    and_true, reduceCtorEq, cond_true, cond_false, stT_nil, st1_some, evG_load, evG_gd, same3_eq, same3_none, endT_cons, Int.lt_irrefl, decide_false, List.drop_length, waitsL]
  | succ n ih =>
    intro i v d hm hi hd
    have hlt : i < l.length := by omega
    have hlt' : (i : Int) < (l.length : Int) := by omega
    have hw : IntKind.i64.wrap ((i : Int) + 1) = ((i + 1 : Nat) : Int) := wrap64 (by omega) (by omega)
    obtain ⟨cs, ⟨hc, hq, ht⟩, ha1, ha2⟩ := (ha.mono RSlot.mono [⟨ic d, 1, v, .own⟩]).get (List.getElem?_eq_getElem hlt)
    subst hc
    rw [List.drop_eq_getElem_cons hlt]
    cases hr : l[i].ready with
    | true =>
      obtain ⟨v', ih'⟩ := ih (i + 1) v d (by omega) (by omega) (by omega)
      refine ⟨v', ?_⟩
      have e : waitsL (l[i] :: l.drop (i + 1)) = waitsL (l.drop (i + 1)) := by simp only [waitsL, hr, if_true]
      rw [e, ← ih', loopK_step l_impl_Conn_waits_0.eq_1]
      simp (config := {contextual := true, implicitDefEqProofs := false}) only [
    ↓runK_seq, ↓runK_reg, ↓runK_draw0, ↓runK_drawT, ↓runK_block, ↓runK_cond, ↓runK_loop, ↓runK_skip, ↓runK_ret, ↓runK_exit, ↓seqK_norm, ↓seqK_ret, ↓seqK_exit, ↓blkK_norm, ↓blkK_ret, ↓blkK_exit, ↓lpK_norm, ↓lpK_ret, ↓lpK_exit, ↓regK_eq, 
    frK_eq, ↓opsK_op, ↓opsK_og, ↓opsK_nil, ↓nxtK_some, ↓nxtK_none, ↓opsT_op, ↓opsT_og, ↓opsT_nil, ↓nxtT_some, ↓nxtT_none, ↓endT_nil, ↓opK_mv, ↓opK_pick, ↓opK_load, ↓opK_store, ↓opK_bin, ↓opK_fadr, ↓opK_alloc, ↓opK_allocE, ↓opK_box, 
    ↓opK_boxE, ↓opK_iadr, ↓opK_fld, ↓opK_beq, ↓opK_seq, ↓opK_isnil, ↓opK_bnot, ↓opK_neg, ↓opK_len, ↓opK_ext, ↓opK_build, ↓opK_bsl, ↓opK_bslE, ↓opK_app, ↓opK_slc, ↓opK_sstr, ↓opK_idx, ↓opK_s2b, ↓opK_b2s, ↓opK_cvt, ↓opK_mks, ↓opK_nilc, 
    ↓opK_mkf, ↓opK_call, ↓opK_calld, ↓finK_ret, ↓finK_norm, th_some, th_none, ↓ch_br, ↓ch_true, ↓ch_false, ↓br_true, ↓br_false, ↓br_not, boolK_bool, gdK_true, gdK_false, gdK_undef, pickK_bb, pickK_bool, fnK_fn, ev_t, ev_c, evv_t, evv_c, 
    evs_nil, evs_cons, av_v, lk_hit, lk_miss, lk_nil, projR_nil, projR_cons, projB_nil, projB_cons, pr1_v, pr1_none, pr1_lp, pr1_ls, pb1_v, pb1_none, pb1_nob, pb1_lp, binV_add, binV_sub, binV_mul, binV_eql, binV_neq, binV_lss, binV_leq, 
    binV_gtr, binV_geq, binV_seql, binV_sneq, binV_slss, binV_sleq, binV_sgtr, binV_sgeq, cellsOf_int, cellsOf_bool, cellsOf_str, cellsOf_agg, cellsOf_sl, cellsOf_nilsl, cellsOf_ptr, cellsOf_nilptr, cellsOf_fn, cellsOf_nilfn, place_lp, 
    ld_cell, ld_agg, putAt_lp, fadrV_lp, fadrV_ptr, fldV_agg, beqV_eq, beqV_ne, seqV_eq, seqV_ne, cellsEq_nil, cellsEq_cons, cellEq_int, cellEq_bool, cellEq_str, isnilV_eq, isnilV_ne, bnotV_bool, negV_int, lenV_str, lenV_sl, lenV_nilsl, 
    extV_tup, fillP_nil, fillP_cons, fillS_nil, fillS_cons, intOf_int, bnd_none, bnd_some, sstrV_str, idxV_str, strOf_str, mksV_int, nilcV_ptr, nilcV_lp, result, resOf, allSome, number, upd, List.map, List.length_cons, List.length_nil, 
    List.append_nil, List.nil_append, List.cons_append, List.getElem?_cons_zero, List.getElem?_cons_succ, List.drop_zero, List.drop_succ_cons, List.drop_nil, List.take_zero, List.take_succ_cons, List.take_nil, Option.bind_some, 
    Option.isNone_none, Option.isNone_some, Option.isSome_some, Nat.reduceAdd, Nat.reduceSub, Nat.reduceLeDiff, Nat.reduceLT, Nat.reduceEqDiff, Nat.zero_add, Nat.add_zero, Nat.le_refl, reduceIte, ne_eq, not_false_eq_true, and_self, true_and, 
    and_true, reduceCtorEq, cond_true, cond_false, stT_nil, st1_some, evG_load, evG_gd, same3_eq, same3_none, endT_cons, ha.cellsOf, hlt', decide_true, ha1, ha2, SlotM.cells, hr, Bool.not_true, hw]
    | false =>
      have happ := appV_mid 1 8 σ [] (ic d) [[int l[i].seq]] v (by simp [ic]; omega)
      have e1 : (ic d).length = d.length := by simp [ic]
      have e2 : ic d ++ [[int l[i].seq]] = ic (d ++ [l[i].seq]) := by simp [ic]
      have e3 : (ic d).length + [[int l[i].seq]].length = (d ++ [l[i].seq]).length := by simp [ic]
      rw [e2, e3, e1] at happ
      obtain ⟨v', ih'⟩ := ih (i + 1) (v + 1) (d ++ [l[i].seq]) (by omega) (by omega) (by simp; omega)
      refine ⟨v', ?_⟩
      have e : d ++ waitsL (l[i] :: l.drop (i + 1)) = d ++ [l[i].seq] ++ waitsL (l.drop (i + 1)) := by simp [waitsL, hr]
      rw [e, ← ih', loopK_step l_impl_Conn_waits_0.eq_1]
      simp (config := {contextual := true, implicitDefEqProofs := false}) only [
    ↓runK_seq, ↓runK_reg, ↓runK_draw0, ↓runK_drawT, ↓runK_block, ↓runK_cond, ↓runK_loop, ↓runK_skip, ↓runK_ret, ↓runK_exit, ↓seqK_norm, ↓seqK_ret, ↓seqK_exit, ↓blkK_norm, ↓blkK_ret, ↓blkK_exit, ↓lpK_norm, ↓lpK_ret, ↓lpK_exit, ↓regK_eq, 
    frK_eq, ↓opsK_op, ↓opsK_og, ↓opsK_nil, ↓nxtK_some, ↓nxtK_none, ↓opsT_op, ↓opsT_og, ↓opsT_nil, ↓nxtT_some, ↓nxtT_none, ↓endT_nil, ↓opK_mv, ↓opK_pick, ↓opK_load, ↓opK_store, ↓opK_bin, ↓opK_fadr, ↓opK_alloc, ↓opK_allocE, ↓opK_box, 
    ↓opK_boxE, ↓opK_iadr, ↓opK_fld, ↓opK_beq, ↓opK_seq, ↓opK_isnil, ↓opK_bnot, ↓opK_neg, ↓opK_len, ↓opK_ext, ↓opK_build, ↓opK_bsl, ↓opK_bslE, ↓opK_app, ↓opK_slc, ↓opK_sstr, ↓opK_idx, ↓opK_s2b, ↓opK_b2s, ↓opK_cvt, ↓opK_mks, ↓opK_nilc, 
    ↓opK_mkf, ↓opK_call, ↓opK_calld, ↓finK_ret, ↓finK_norm, th_some, th_none, ↓ch_br, ↓ch_true, ↓ch_false, ↓br_true, ↓br_false, ↓br_not, boolK_bool, gdK_true, gdK_false, gdK_undef, pickK_bb, pickK_bool, fnK_fn, ev_t, ev_c, evv_t, evv_c, 
    evs_nil, evs_cons, av_v, lk_hit, lk_miss, lk_nil, projR_nil, projR_cons, projB_nil, projB_cons, pr1_v, pr1_none, pr1_lp, pr1_ls, pb1_v, pb1_none, pb1_nob, pb1_lp, binV_add, binV_sub, binV_mul, binV_eql, binV_neq, binV_lss, binV_leq, 
    binV_gtr, binV_geq, binV_seql, binV_sneq, binV_slss, binV_sleq, binV_sgtr, binV_sgeq, cellsOf_int, cellsOf_bool, cellsOf_str, cellsOf_agg, cellsOf_sl, cellsOf_nilsl, cellsOf_ptr, cellsOf_nilptr, cellsOf_fn, cellsOf_nilfn, place_lp, 
    ld_cell, ld_agg, putAt_lp, fadrV_lp, fadrV_ptr, fldV_agg, beqV_eq, beqV_ne, seqV_eq, seqV_ne, cellsEq_nil, cellsEq_cons, cellEq_int, cellEq_bool, cellEq_str, isnilV_eq, isnilV_ne, bnotV_bool, negV_int, lenV_str, lenV_sl, lenV_nilsl, 
    extV_tup, fillP_nil, fillP_cons, fillS_nil, fillS_cons, intOf_int, bnd_none, bnd_some, sstrV_str, idxV_str, strOf_str, mksV_int, nilcV_ptr, nilcV_lp, result, resOf, allSome, number, upd, List.map, List.length_cons, List.length_nil, 
    List.append_nil, List.nil_append, List.cons_append, List.getElem?_cons_zero, List.getElem?_cons_succ, List.drop_zero, List.drop_succ_cons, List.drop_nil, List.take_zero, List.take_succ_cons, List.take_nil, Option.bind_some, 
    Option.isNone_none, Option.isNone_some, Option.isSome_some, Nat.reduceAdd, Nat.reduceSub, Nat.reduceLeDiff, Nat.reduceLT, Nat.reduceEqDiff, Nat.zero_add, Nat.add_zero, Nat.le_refl, reduceIte, ne_eq, not_false_eq_true, and_self, true_and, 
    and_true, reduceCtorEq, cond_true, cond_false, stT_nil, st1_some, evG_load, evG_gd, same3_eq, same3_none, endT_cons, ha.cellsOf, hlt', decide_true, ha1, ha2, SlotM.cells, hr, Bool.not_false, hw, List.replicate_succ, List.replicate_zero, 
    List.set_cons_zero, elsOf_ls1, happ]

/-- Which slots wait, and a code. -/
def waitingOf (m : ConnM) : List Int × Int := if connOK m then (waitsL m.slots, 0) else ([], 1)

theorem waitsL_ok {l : List SlotM} (h : ∀ s ∈ l, I64 s.seq) : ∀ x ∈ waitsL l, I64 x := by
  induction l with
  | nil => intro x hx; cases hx
  | cons s l ih =>
    intro x hx
    simp only [waitsL] at hx
    split at hx
    · exact ih (fun t ht => h t (List.mem_cons_of_mem _ ht)) x hx
    · rcases List.mem_cons.1 hx with rfl | hx
      · exact h s (by simp)
      · exact ih (fun t ht => h t (List.mem_cons_of_mem _ ht)) x hx
theorem RS.slots_ok {σ : Store} {l : List SlotM} {a : AV} (h : RS RSlot 3 σ l a) : ∀ s ∈ l, I64 s.seq := by
  obtain ⟨els, h1, h2⟩ := h
  clear h1
  induction h2 with
  | nil => intro s hs; cases hs
  | cons h3 _ ih =>
    intro s hs
    rcases List.mem_cons.1 hs with rfl | hs
    · exact h3.2.1
    · exact ih s hs

/-- What a slice of whole numbers in a row of its own is. -/
theorem own_ints (σ t : Store) (d : List Int) (v : Nat) (ho : ∀ x ∈ d, I64 x) : FR σ.length (σ ++ ⟨ic d, 1, v, .own⟩ :: t) (fun st => RSO (fun _ _ => RI) 1 σ.length (σ ++ ⟨ic d, 1, v, .own⟩ :: t).length st d (.sl σ.length v 0 d.length)) := by
  intro st' he
  have hr : rowAt st' σ.length v = some ⟨ic d, 1, v, .own⟩ := by
    have := he σ.length (Nat.le_refl _) (by simp)
    simp [rowAt, this]
  refine ⟨RS.of1 ?_ ho, fun r v' i n e => ?_⟩
  · have := SlAt.mk (i := 0) (n := d.length) hr rfl (by simp [ic])
    have e : ((ic d).drop 0).take d.length = ic d := by rw [List.drop_zero, List.take_of_length_le (by simp [ic])]
    simp only at this
    rw [e] at this
    exact this
  · cases e
    exact ⟨_, hr, Nat.le_refl _, by simp, rfl⟩

theorem connOK_len {m : ConnM} (h : connOK m = true) : m.slots.length ≤ 6 := by
  simp only [connOK, Bool.and_eq_true, decide_eq_true_eq] at h
  exact h.1.1.1.2

theorem specWaitingOf_eq (σ : Store) (m : ConnM) (cs : List AV) (hm : RConn σ m cs) : ∃ w ext, EE X f_spec_WaitingOf [.agg cs] σ = some (.tup [w, int (waitingOf m).2], σ ++ ext) ∧
    FR σ.length (σ ++ ext) (fun st => RSO (fun _ _ => RI) 1 σ.length (σ ++ ext).length st (waitingOf m).1 w) := by
  have hok := specConnOK_eq (X := X) σ m cs hm
  obtain ⟨a, hc, ha, h2, h3, h4⟩ := hm
  subst hc
  cases hb : connOK m with
  | false =>
    have e : waitingOf m = ([], 1) := by simp [waitingOf, hb]
    rw [e]
    refine ⟨.sl σ.length 0 0 0, [⟨ic [], 1, 0, .own⟩], ?_, own_ints σ [] [] 0 (by intro x hx; cases hx)⟩
    rw [EE, Ex_run C_spec_WaitingOf rfl]
    simp (config := {contextual := true, implicitDefEqProofs := false}) only [
    ↓runK_seq, ↓runK_reg, ↓runK_draw0, ↓runK_drawT, ↓runK_block, ↓runK_cond, ↓runK_loop, ↓runK_skip, ↓runK_ret, ↓runK_exit, ↓seqK_norm, ↓seqK_ret, ↓seqK_exit, ↓blkK_norm, ↓blkK_ret, ↓blkK_exit, ↓lpK_norm, ↓lpK_ret, ↓lpK_exit, ↓regK_eq, 
    frK_eq, ↓opsK_op, ↓opsK_og, ↓opsK_nil, ↓nxtK_some, ↓nxtK_none, ↓opsT_op, ↓opsT_og, ↓opsT_nil, ↓nxtT_some, ↓nxtT_none, ↓endT_nil, ↓opK_mv, ↓opK_pick, ↓opK_load, ↓opK_store, ↓opK_bin, ↓opK_fadr, ↓opK_alloc, ↓opK_allocE, ↓opK_box, 
    ↓opK_boxE, ↓opK_iadr, ↓opK_fld, ↓opK_beq, ↓opK_seq, ↓opK_isnil, ↓opK_bnot, ↓opK_neg, ↓opK_len, ↓opK_ext, ↓opK_build, ↓opK_bsl, ↓opK_bslE, ↓opK_app, ↓opK_slc, ↓opK_sstr, ↓opK_idx, ↓opK_s2b, ↓opK_b2s, ↓opK_cvt, ↓opK_mks, ↓opK_nilc, 
    ↓opK_mkf, ↓opK_call, ↓opK_calld, ↓finK_ret, ↓finK_norm, th_some, th_none, ↓ch_br, ↓ch_true, ↓ch_false, ↓br_true, ↓br_false, ↓br_not, boolK_bool, gdK_true, gdK_false, gdK_undef, pickK_bb, pickK_bool, fnK_fn, ev_t, ev_c, evv_t, evv_c, 
    evs_nil, evs_cons, av_v, lk_hit, lk_miss, lk_nil, projR_nil, projR_cons, projB_nil, projB_cons, pr1_v, pr1_none, pr1_lp, pr1_ls, pb1_v, pb1_none, pb1_nob, pb1_lp, binV_add, binV_sub, binV_mul, binV_eql, binV_neq, binV_lss, binV_leq, 
    binV_gtr, binV_geq, binV_seql, binV_sneq, binV_slss, binV_sleq, binV_sgtr, binV_sgeq, cellsOf_int, cellsOf_bool, cellsOf_str, cellsOf_agg, cellsOf_sl, cellsOf_nilsl, cellsOf_ptr, cellsOf_nilptr, cellsOf_fn, cellsOf_nilfn, place_lp, 
    ld_cell, ld_agg, putAt_lp, fadrV_lp, fadrV_ptr, fldV_agg, beqV_eq, beqV_ne, seqV_eq, seqV_ne, cellsEq_nil, cellsEq_cons, cellEq_int, cellEq_bool, cellEq_str, isnilV_eq, isnilV_ne, bnotV_bool, negV_int, lenV_str, lenV_sl, lenV_nilsl, 
    extV_tup, fillP_nil, fillP_cons, fillS_nil, fillS_cons, intOf_int, bnd_none, bnd_some, sstrV_str, idxV_str, strOf_str, mksV_int, nilcV_ptr, nilcV_lp, result, resOf, allSome, number, upd, List.map, List.length_cons, List.length_nil, 
    List.append_nil, List.nil_append, List.cons_append, List.getElem?_cons_zero, List.getElem?_cons_succ, List.drop_zero, List.drop_succ_cons, List.drop_nil, List.take_zero, List.take_succ_cons, List.take_nil, Option.bind_some, 
    Option.isNone_none, Option.isNone_some, Option.isSome_some, Nat.reduceAdd, Nat.reduceSub, Nat.reduceLeDiff, Nat.reduceLT, Nat.reduceEqDiff, Nat.zero_add, Nat.add_zero, Nat.le_refl, reduceIte, ne_eq, not_false_eq_true, and_self, true_and, 
    and_true, reduceCtorEq, cond_true, cond_false, stT_nil, st1_some, evG_load, evG_gd, same3_eq, same3_none, endT_cons, c_spec_WaitingOf, ha.cellsOf, hok, hb, Bool.not_false, List.replicate_zero, ic, List.map_nil]
  | true =>
    have e : waitingOf m = (waitsL m.slots, 0) := by simp [waitingOf, hb]
    rw [e]
    have h6 := connOK_len hb
    obtain ⟨v', h⟩ := specWaits_loop (X := X) (R := AV × Store) σ m a ha (by omega) (blkK 0 (seqK (EE X) (.seq (.reg [op 34 (.mv (.t 4)), op 2 (.mv (.t 34)), op 3 (.mv (.c (.int .i64 0)))] [2, 3] none) .ret) (finK [.t 2, .t 3] false σ))) m.slots.length 0 0 [] (by omega) (by omega) (by simp)
    simp only [List.drop_zero, List.nil_append] at h
    refine ⟨.sl σ.length v' 0 (waitsL m.slots).length, [⟨ic (waitsL m.slots), 1, v', .own⟩], ?_, own_ints σ [] _ v' (waitsL_ok ha.slots_ok)⟩
    rw [EE, Ex_run C_spec_WaitingOf rfl]
    simp (config := {contextual := true, implicitDefEqProofs := false}) only [
    ↓runK_seq, ↓runK_reg, ↓runK_draw0, ↓runK_drawT, ↓runK_block, ↓runK_cond, ↓runK_loop, ↓runK_skip, ↓runK_ret, ↓runK_exit, ↓seqK_norm, ↓seqK_ret, ↓seqK_exit, ↓blkK_norm, ↓blkK_ret, ↓blkK_exit, ↓lpK_norm, ↓lpK_ret, ↓lpK_exit, ↓regK_eq, 
    frK_eq, ↓opsK_op, ↓opsK_og, ↓opsK_nil, ↓nxtK_some, ↓nxtK_none, ↓opsT_op, ↓opsT_og, ↓opsT_nil, ↓nxtT_some, ↓nxtT_none, ↓endT_nil, ↓opK_mv, ↓opK_pick, ↓opK_load, ↓opK_store, ↓opK_bin, ↓opK_fadr, ↓opK_alloc, ↓opK_allocE, ↓opK_box, 
    ↓opK_boxE, ↓opK_iadr, ↓opK_fld, ↓opK_beq, ↓opK_seq, ↓opK_isnil, ↓opK_bnot, ↓opK_neg, ↓opK_len, ↓opK_ext, ↓opK_build, ↓opK_bsl, ↓opK_bslE, ↓opK_app, ↓opK_slc, ↓opK_sstr, ↓opK_idx, ↓opK_s2b, ↓opK_b2s, ↓opK_cvt, ↓opK_mks, ↓opK_nilc, 
    ↓opK_mkf, ↓opK_call, ↓opK_calld, ↓finK_ret, ↓finK_norm, th_some, th_none, ↓ch_br, ↓ch_true, ↓ch_false, ↓br_true, ↓br_false, ↓br_not, boolK_bool, gdK_true, gdK_false, gdK_undef, pickK_bb, pickK_bool, fnK_fn, ev_t, ev_c, evv_t, evv_c, 
    evs_nil, evs_cons, av_v, lk_hit, lk_miss, lk_nil, projR_nil, projR_cons, projB_nil, projB_cons, pr1_v, pr1_none, pr1_lp, pr1_ls, pb1_v, pb1_none, pb1_nob, pb1_lp, binV_add, binV_sub, binV_mul, binV_eql, binV_neq, binV_lss, binV_leq, 
    binV_gtr, binV_geq, binV_seql, binV_sneq, binV_slss, binV_sleq, binV_sgtr, binV_sgeq, cellsOf_int, cellsOf_bool, cellsOf_str, cellsOf_agg, cellsOf_sl, cellsOf_nilsl, cellsOf_ptr, cellsOf_nilptr, cellsOf_fn, cellsOf_nilfn, place_lp, 
    ld_cell, ld_agg, putAt_lp, fadrV_lp, fadrV_ptr, fldV_agg, beqV_eq, beqV_ne, seqV_eq, seqV_ne, cellsEq_nil, cellsEq_cons, cellEq_int, cellEq_bool, cellEq_str, isnilV_eq, isnilV_ne, bnotV_bool, negV_int, lenV_str, lenV_sl, lenV_nilsl, 
    extV_tup, fillP_nil, fillP_cons, fillS_nil, fillS_cons, intOf_int, bnd_none, bnd_some, sstrV_str, idxV_str, strOf_str, mksV_int, nilcV_ptr, nilcV_lp, result, resOf, allSome, number, upd, List.map, List.length_cons, List.length_nil, 
    List.append_nil, List.nil_append, List.cons_append, List.getElem?_cons_zero, List.getElem?_cons_succ, List.drop_zero, List.drop_succ_cons, List.drop_nil, List.take_zero, List.take_succ_cons, List.take_nil, Option.bind_some, 
    Option.isNone_none, Option.isNone_some, Option.isSome_some, Nat.reduceAdd, Nat.reduceSub, Nat.reduceLeDiff, Nat.reduceLT, Nat.reduceEqDiff, Nat.zero_add, Nat.add_zero, Nat.le_refl, reduceIte, ne_eq, not_false_eq_true, and_self, true_and, 
    and_true, reduceCtorEq, cond_true, cond_false, stT_nil, st1_some, evG_load, evG_gd, same3_eq, same3_none, endT_cons, c_spec_WaitingOf, ha.cellsOf, hok, hb, Bool.not_true, List.replicate_zero]
    refine h.trans ?_
    simp (config := {contextual := true, implicitDefEqProofs := false}) only [
    ↓runK_seq, ↓runK_reg, ↓runK_draw0, ↓runK_drawT, ↓runK_block, ↓runK_cond, ↓runK_loop, ↓runK_skip, ↓runK_ret, ↓runK_exit, ↓seqK_norm, ↓seqK_ret, ↓seqK_exit, ↓blkK_norm, ↓blkK_ret, ↓blkK_exit, ↓lpK_norm, ↓lpK_ret, ↓lpK_exit, ↓regK_eq, 
    frK_eq, ↓opsK_op, ↓opsK_og, ↓opsK_nil, ↓nxtK_some, ↓nxtK_none, ↓opsT_op, ↓opsT_og, ↓opsT_nil, ↓nxtT_some, ↓nxtT_none, ↓endT_nil, ↓opK_mv, ↓opK_pick, ↓opK_load, ↓opK_store, ↓opK_bin, ↓opK_fadr, ↓opK_alloc, ↓opK_allocE, ↓opK_box, 
    ↓opK_boxE, ↓opK_iadr, ↓opK_fld, ↓opK_beq, ↓opK_seq, ↓opK_isnil, ↓opK_bnot, ↓opK_neg, ↓opK_len, ↓opK_ext, ↓opK_build, ↓opK_bsl, ↓opK_bslE, ↓opK_app, ↓opK_slc, ↓opK_sstr, ↓opK_idx, ↓opK_s2b, ↓opK_b2s, ↓opK_cvt, ↓opK_mks, ↓opK_nilc, 
    ↓opK_mkf, ↓opK_call, ↓opK_calld, ↓finK_ret, ↓finK_norm, th_some, th_none, ↓ch_br, ↓ch_true, ↓ch_false, ↓br_true, ↓br_false, ↓br_not, boolK_bool, gdK_true, gdK_false, gdK_undef, pickK_bb, pickK_bool, fnK_fn, ev_t, ev_c, evv_t, evv_c, 
    evs_nil, evs_cons, av_v, lk_hit, lk_miss, lk_nil, projR_nil, projR_cons, projB_nil, projB_cons, pr1_v, pr1_none, pr1_lp, pr1_ls, pb1_v, pb1_none, pb1_nob, pb1_lp, binV_add, binV_sub, binV_mul, binV_eql, binV_neq, binV_lss, binV_leq, 
    binV_gtr, binV_geq, binV_seql, binV_sneq, binV_slss, binV_sleq, binV_sgtr, binV_sgeq, cellsOf_int, cellsOf_bool, cellsOf_str, cellsOf_agg, cellsOf_sl, cellsOf_nilsl, cellsOf_ptr, cellsOf_nilptr, cellsOf_fn, cellsOf_nilfn, place_lp, 
    ld_cell, ld_agg, putAt_lp, fadrV_lp, fadrV_ptr, fldV_agg, beqV_eq, beqV_ne, seqV_eq, seqV_ne, cellsEq_nil, cellsEq_cons, cellEq_int, cellEq_bool, cellEq_str, isnilV_eq, isnilV_ne, bnotV_bool, negV_int, lenV_str, lenV_sl, lenV_nilsl, 
    extV_tup, fillP_nil, fillP_cons, fillS_nil, fillS_cons, intOf_int, bnd_none, bnd_some, sstrV_str, idxV_str, strOf_str, mksV_int, nilcV_ptr, nilcV_lp, result, resOf, allSome, number, upd, List.map, List.length_cons, List.length_nil, 
    List.append_nil, List.nil_append, List.cons_append, List.getElem?_cons_zero, List.getElem?_cons_succ, List.drop_zero, List.drop_succ_cons, List.drop_nil, List.take_zero, List.take_succ_cons, List.take_nil, Option.bind_some, 
    Option.isNone_none, Option.isNone_some, Option.isSome_some, Nat.reduceAdd, Nat.reduceSub, Nat.reduceLeDiff, Nat.reduceLT, Nat.reduceEqDiff, Nat.zero_add, Nat.add_zero, Nat.le_refl, reduceIte, ne_eq, not_false_eq_true, and_self, true_and, 
    and_true, reduceCtorEq, cond_true, cond_false, stT_nil, st1_some, evG_load, evG_gd, same3_eq, same3_none, endT_cons]

theorem implWaits_eq (σ : Store) (r v i : Nat) (m : ConnM) (a : AV) (ha : RS RSlot 3 σ m.slots a) (h6 : m.slots.length ≤ 6) (hp : ∀ bx t o, place ⟨bx, σ ++ t⟩ (.v (.ptr r v i o)) = some ([.bool m.opn, .bool m.ending, .str m.inp, a, int m.next], o)) :
    ∃ v', EE X f_impl_Conn_waits [.ptr r v i 0] σ = some (.sl σ.length v' 0 (waitsL m.slots).length, σ ++ [⟨ic (waitsL m.slots), 1, v', .own⟩]) := by
  obtain ⟨v', h⟩ := implWaits_loop (X := X) (R := AV × Store) σ m.slots a ha (by omega) (blkK 0 (seqK (EE X) (.seq (.reg [op 25 (.mv (.t 3)), op 2 (.mv (.t 25))] [2] none) .ret) (finK [.t 2] false σ))) m.slots.length 0 0 [] (by omega) (by omega) (by simp)
  simp only [List.drop_zero, List.nil_append] at h
  refine ⟨v', ?_⟩
  have hl : lenV false a = some (.int .i64 m.slots.length) := ha.len
  rw [EE, Ex_run C_impl_Conn_waits rfl]
  simp (config := {contextual := true, implicitDefEqProofs := false}) only [
    ↓runK_seq, ↓runK_reg, ↓runK_draw0, ↓runK_drawT, ↓runK_block, ↓runK_cond, ↓runK_loop, ↓runK_skip, ↓runK_ret, ↓runK_exit, ↓seqK_norm, ↓seqK_ret, ↓seqK_exit, ↓blkK_norm, ↓blkK_ret, ↓blkK_exit, ↓lpK_norm, ↓lpK_ret, ↓lpK_exit, ↓regK_eq, 
    frK_eq, ↓opsK_op, ↓opsK_og, ↓opsK_nil, ↓nxtK_some, ↓nxtK_none, ↓opsT_op, ↓opsT_og, ↓opsT_nil, ↓nxtT_some, ↓nxtT_none, ↓endT_nil, ↓opK_mv, ↓opK_pick, ↓opK_load, ↓opK_store, ↓opK_bin, ↓opK_fadr, ↓opK_alloc, ↓opK_allocE, ↓opK_box, 
    ↓opK_boxE, ↓opK_iadr, ↓opK_fld, ↓opK_beq, ↓opK_seq, ↓opK_isnil, ↓opK_bnot, ↓opK_neg, ↓opK_len, ↓opK_ext, ↓opK_build, ↓opK_bsl, ↓opK_bslE, ↓opK_app, ↓opK_slc, ↓opK_sstr, ↓opK_idx, ↓opK_s2b, ↓opK_b2s, ↓opK_cvt, ↓opK_mks, ↓opK_nilc, 
    ↓opK_mkf, ↓opK_call, ↓opK_calld, ↓finK_ret, ↓finK_norm, th_some, th_none, ↓ch_br, ↓ch_true, ↓ch_false, ↓br_true, ↓br_false, ↓br_not, boolK_bool, gdK_true, gdK_false, gdK_undef, pickK_bb, pickK_bool, fnK_fn, ev_t, ev_c, evv_t, evv_c, 
    evs_nil, evs_cons, av_v, lk_hit, lk_miss, lk_nil, projR_nil, projR_cons, projB_nil, projB_cons, pr1_v, pr1_none, pr1_lp, pr1_ls, pb1_v, pb1_none, pb1_nob, pb1_lp, binV_add, binV_sub, binV_mul, binV_eql, binV_neq, binV_lss, binV_leq, 
    binV_gtr, binV_geq, binV_seql, binV_sneq, binV_slss, binV_sleq, binV_sgtr, binV_sgeq, cellsOf_int, cellsOf_bool, cellsOf_str, cellsOf_agg, cellsOf_sl, cellsOf_nilsl, cellsOf_ptr, cellsOf_nilptr, cellsOf_fn, cellsOf_nilfn, place_lp, 
    ld_cell, ld_agg, putAt_lp, fadrV_lp, fadrV_ptr, fldV_agg, beqV_eq, beqV_ne, seqV_eq, seqV_ne, cellsEq_nil, cellsEq_cons, cellEq_int, cellEq_bool, cellEq_str, isnilV_eq, isnilV_ne, bnotV_bool, negV_int, lenV_str, lenV_sl, lenV_nilsl, 
    extV_tup, fillP_nil, fillP_cons, fillS_nil, fillS_cons, intOf_int, bnd_none, bnd_some, sstrV_str, idxV_str, strOf_str, mksV_int, nilcV_ptr, nilcV_lp, result, resOf, allSome, number, upd, List.map, List.length_cons, List.length_nil, 
    List.append_nil, List.nil_append, List.cons_append, List.getElem?_cons_zero, List.getElem?_cons_succ, List.drop_zero, List.drop_succ_cons, List.drop_nil, List.take_zero, List.take_succ_cons, List.take_nil, Option.bind_some, 
    Option.isNone_none, Option.isNone_some, Option.isSome_some, Nat.reduceAdd, Nat.reduceSub, Nat.reduceLeDiff, Nat.reduceLT, Nat.reduceEqDiff, Nat.zero_add, Nat.add_zero, Nat.le_refl, reduceIte, ne_eq, not_false_eq_true, and_self, true_and, 
    and_true, reduceCtorEq, cond_true, cond_false, stT_nil, st1_some, evG_load, evG_gd, same3_eq, same3_none, endT_cons, c_impl_Conn_waits, hp, hl, List.replicate_zero]
  refine h.trans ?_
  simp (config := {contextual := true, implicitDefEqProofs := false}) only [
    ↓runK_seq, ↓runK_reg, ↓runK_draw0, ↓runK_drawT, ↓runK_block, ↓runK_cond, ↓runK_loop, ↓runK_skip, ↓runK_ret, ↓runK_exit, ↓seqK_norm, ↓seqK_ret, ↓seqK_exit, ↓blkK_norm, ↓blkK_ret, ↓blkK_exit, ↓lpK_norm, ↓lpK_ret, ↓lpK_exit, ↓regK_eq, 
    frK_eq, ↓opsK_op, ↓opsK_og, ↓opsK_nil, ↓nxtK_some, ↓nxtK_none, ↓opsT_op, ↓opsT_og, ↓opsT_nil, ↓nxtT_some, ↓nxtT_none, ↓endT_nil, ↓opK_mv, ↓opK_pick, ↓opK_load, ↓opK_store, ↓opK_bin, ↓opK_fadr, ↓opK_alloc, ↓opK_allocE, ↓opK_box, 
    ↓opK_boxE, ↓opK_iadr, ↓opK_fld, ↓opK_beq, ↓opK_seq, ↓opK_isnil, ↓opK_bnot, ↓opK_neg, ↓opK_len, ↓opK_ext, ↓opK_build, ↓opK_bsl, ↓opK_bslE, ↓opK_app, ↓opK_slc, ↓opK_sstr, ↓opK_idx, ↓opK_s2b, ↓opK_b2s, ↓opK_cvt, ↓opK_mks, ↓opK_nilc, 
    ↓opK_mkf, ↓opK_call, ↓opK_calld, ↓finK_ret, ↓finK_norm, th_some, th_none, ↓ch_br, ↓ch_true, ↓ch_false, ↓br_true, ↓br_false, ↓br_not, boolK_bool, gdK_true, gdK_false, gdK_undef, pickK_bb, pickK_bool, fnK_fn, ev_t, ev_c, evv_t, evv_c, 
    evs_nil, evs_cons, av_v, lk_hit, lk_miss, lk_nil, projR_nil, projR_cons, projB_nil, projB_cons, pr1_v, pr1_none, pr1_lp, pr1_ls, pb1_v, pb1_none, pb1_nob, pb1_lp, binV_add, binV_sub, binV_mul, binV_eql, binV_neq, binV_lss, binV_leq, 
    binV_gtr, binV_geq, binV_seql, binV_sneq, binV_slss, binV_sleq, binV_sgtr, binV_sgeq, cellsOf_int, cellsOf_bool, cellsOf_str, cellsOf_agg, cellsOf_sl, cellsOf_nilsl, cellsOf_ptr, cellsOf_nilptr, cellsOf_fn, cellsOf_nilfn, place_lp, 
    ld_cell, ld_agg, putAt_lp, fadrV_lp, fadrV_ptr, fldV_agg, beqV_eq, beqV_ne, seqV_eq, seqV_ne, cellsEq_nil, cellsEq_cons, cellEq_int, cellEq_bool, cellEq_str, isnilV_eq, isnilV_ne, bnotV_bool, negV_int, lenV_str, lenV_sl, lenV_nilsl, 
    extV_tup, fillP_nil, fillP_cons, fillS_nil, fillS_cons, intOf_int, bnd_none, bnd_some, sstrV_str, idxV_str, strOf_str, mksV_int, nilcV_ptr, nilcV_lp, result, resOf, allSome, number, upd, List.map, List.length_cons, List.length_nil, 
    List.append_nil, List.nil_append, List.cons_append, List.getElem?_cons_zero, List.getElem?_cons_succ, List.drop_zero, List.drop_succ_cons, List.drop_nil, List.take_zero, List.take_succ_cons, List.take_nil, Option.bind_some, 
    Option.isNone_none, Option.isNone_some, Option.isSome_some, Nat.reduceAdd, Nat.reduceSub, Nat.reduceLeDiff, Nat.reduceLT, Nat.reduceEqDiff, Nat.zero_add, Nat.add_zero, Nat.le_refl, reduceIte, ne_eq, not_false_eq_true, and_self, true_and, 
    and_true, reduceCtorEq, cond_true, cond_false, stT_nil, st1_some, evG_load, evG_gd, same3_eq, same3_none, endT_cons]

theorem implWaitingOf_eq (σ : Store) (m : ConnM) (cs : List AV) (hm : RConn σ m cs) : ∃ w ext, EE X f_impl_WaitingOf [.agg cs] σ = some (.tup [w, int (waitingOf m).2], σ ++ ext) ∧
    FR σ.length (σ ++ ext) (fun st => RSO (fun _ _ => RI) 1 σ.length (σ ++ ext).length st (waitingOf m).1 w) ∧ cellsOf w = some [w] := by
  have hok : ∀ row : Row, _ := fun row => implConnOK_eq (X := X) (σ ++ [row]) m cs (RConn.mono σ [row] m cs hm)
  obtain ⟨a, hc, ha, h2, h3, h4⟩ := hm
  subst hc
  cases hb : connOK m with
  | false =>
    have e : waitingOf m = ([], 1) := by simp [waitingOf, hb]
    rw [e]
    refine ⟨.nilsl, [⟨[[.bool m.opn, .bool m.ending, .str m.inp, a, int m.next]], 5, 0, .own⟩], ?_, FR.of (fun s => ⟨⟨[], SlAt.nil _ _, .nil⟩, KA.nil _ _⟩), rfl⟩
    rw [EE, Ex_run C_impl_WaitingOf rfl]
    simp (config := {contextual := true, implicitDefEqProofs := false}) only [
    ↓runK_seq, ↓runK_reg, ↓runK_draw0, ↓runK_drawT, ↓runK_block, ↓runK_cond, ↓runK_loop, ↓runK_skip, ↓runK_ret, ↓runK_exit, ↓seqK_norm, ↓seqK_ret, ↓seqK_exit, ↓blkK_norm, ↓blkK_ret, ↓blkK_exit, ↓lpK_norm, ↓lpK_ret, ↓lpK_exit, ↓regK_eq, 
    frK_eq, ↓opsK_op, ↓opsK_og, ↓opsK_nil, ↓nxtK_some, ↓nxtK_none, ↓opsT_op, ↓opsT_og, ↓opsT_nil, ↓nxtT_some, ↓nxtT_none, ↓endT_nil, ↓opK_mv, ↓opK_pick, ↓opK_load, ↓opK_store, ↓opK_bin, ↓opK_fadr, ↓opK_alloc, ↓opK_allocE, ↓opK_box, 
    ↓opK_boxE, ↓opK_iadr, ↓opK_fld, ↓opK_beq, ↓opK_seq, ↓opK_isnil, ↓opK_bnot, ↓opK_neg, ↓opK_len, ↓opK_ext, ↓opK_build, ↓opK_bsl, ↓opK_bslE, ↓opK_app, ↓opK_slc, ↓opK_sstr, ↓opK_idx, ↓opK_s2b, ↓opK_b2s, ↓opK_cvt, ↓opK_mks, ↓opK_nilc, 
    ↓opK_mkf, ↓opK_call, ↓opK_calld, ↓finK_ret, ↓finK_norm, th_some, th_none, ↓ch_br, ↓ch_true, ↓ch_false, ↓br_true, ↓br_false, ↓br_not, boolK_bool, gdK_true, gdK_false, gdK_undef, pickK_bb, pickK_bool, fnK_fn, ev_t, ev_c, evv_t, evv_c, 
    evs_nil, evs_cons, av_v, lk_hit, lk_miss, lk_nil, projR_nil, projR_cons, projB_nil, projB_cons, pr1_v, pr1_none, pr1_lp, pr1_ls, pb1_v, pb1_none, pb1_nob, pb1_lp, binV_add, binV_sub, binV_mul, binV_eql, binV_neq, binV_lss, binV_leq, 
    binV_gtr, binV_geq, binV_seql, binV_sneq, binV_slss, binV_sleq, binV_sgtr, binV_sgeq, cellsOf_int, cellsOf_bool, cellsOf_str, cellsOf_agg, cellsOf_sl, cellsOf_nilsl, cellsOf_ptr, cellsOf_nilptr, cellsOf_fn, cellsOf_nilfn, place_lp, 
    ld_cell, ld_agg, putAt_lp, fadrV_lp, fadrV_ptr, fldV_agg, beqV_eq, beqV_ne, seqV_eq, seqV_ne, cellsEq_nil, cellsEq_cons, cellEq_int, cellEq_bool, cellEq_str, isnilV_eq, isnilV_ne, bnotV_bool, negV_int, lenV_str, lenV_sl, lenV_nilsl, 
    extV_tup, fillP_nil, fillP_cons, fillS_nil, fillS_cons, intOf_int, bnd_none, bnd_some, sstrV_str, idxV_str, strOf_str, mksV_int, nilcV_ptr, nilcV_lp, result, resOf, allSome, number, upd, List.map, List.length_cons, List.length_nil, 
    List.append_nil, List.nil_append, List.cons_append, List.getElem?_cons_zero, List.getElem?_cons_succ, List.drop_zero, List.drop_succ_cons, List.drop_nil, List.take_zero, List.take_succ_cons, List.take_nil, Option.bind_some, 
    Option.isNone_none, Option.isNone_some, Option.isSome_some, Nat.reduceAdd, Nat.reduceSub, Nat.reduceLeDiff, Nat.reduceLT, Nat.reduceEqDiff, Nat.zero_add, Nat.add_zero, Nat.le_refl, reduceIte, ne_eq, not_false_eq_true, and_self, true_and, 
    and_true, reduceCtorEq, cond_true, cond_false, stT_nil, st1_some, evG_load, evG_gd, same3_eq, same3_none, endT_cons, c_impl_WaitingOf, ha.cellsOf, place_row, hok, hb, Bool.not_false]
  | true =>
    have e : waitingOf m = (waitsL m.slots, 0) := by simp [waitingOf, hb]
    rw [e]
    have h6 := connOK_len hb
    obtain ⟨v', h⟩ := implWaits_eq (X := X) (σ ++ [⟨[[.bool m.opn, .bool m.ending, .str m.inp, a, int m.next]], 5, 0, .own⟩]) σ.length 0 0 m a (ha.mono RSlot.mono _) h6 (fun bx t o => by rw [List.append_assoc]; exact place_row σ t _ 5 o bx)
    have hf := own_ints (σ ++ [⟨[[.bool m.opn, .bool m.ending, .str m.inp, a, int m.next]], 5, 0, .own⟩]) [] (waitsL m.slots) v' (waitsL_ok ha.slots_ok)
    refine ⟨.sl (σ ++ [(⟨[[.bool m.opn, .bool m.ending, .str m.inp, a, int m.next]], 5, 0, .own⟩ : Row)]).length v' 0 (waitsL m.slots).length, [⟨[[.bool m.opn, .bool m.ending, .str m.inp, a, int m.next]], 5, 0, .own⟩, ⟨ic (waitsL m.slots), 1, v', .own⟩], ?_, ?_, rfl⟩
    rotate_left
    · rw [List.append_assoc] at hf
      exact (hf.mono (lo' := σ.length) (by simp) (Nat.le_refl _) (fun _ _ _ => rfl)).imp (fun s hs => RSO.wide (fun _ _ _ _ _ _ _ _ _ h => h) (by simp) (Nat.le_refl _) hs)
    · rw [EE, Ex_run C_impl_WaitingOf rfl]
      simp (config := {contextual := true, implicitDefEqProofs := false}) only [
    ↓runK_seq, ↓runK_reg, ↓runK_draw0, ↓runK_drawT, ↓runK_block, ↓runK_cond, ↓runK_loop, ↓runK_skip, ↓runK_ret, ↓runK_exit, ↓seqK_norm, ↓seqK_ret, ↓seqK_exit, ↓blkK_norm, ↓blkK_ret, ↓blkK_exit, ↓lpK_norm, ↓lpK_ret, ↓lpK_exit, ↓regK_eq, 
    frK_eq, ↓opsK_op, ↓opsK_og, ↓opsK_nil, ↓nxtK_some, ↓nxtK_none, ↓opsT_op, ↓opsT_og, ↓opsT_nil, ↓nxtT_some, ↓nxtT_none, ↓endT_nil, ↓opK_mv, ↓opK_pick, ↓opK_load, ↓opK_store, ↓opK_bin, ↓opK_fadr, ↓opK_alloc, ↓opK_allocE, ↓opK_box, 
    ↓opK_boxE, ↓opK_iadr, ↓opK_fld, ↓opK_beq, ↓opK_seq, ↓opK_isnil, ↓opK_bnot, ↓opK_neg, ↓opK_len, ↓opK_ext, ↓opK_build, ↓opK_bsl, ↓opK_bslE, ↓opK_app, ↓opK_slc, ↓opK_sstr, ↓opK_idx, ↓opK_s2b, ↓opK_b2s, ↓opK_cvt, ↓opK_mks, ↓opK_nilc, 
    ↓opK_mkf, ↓opK_call, ↓opK_calld, ↓finK_ret, ↓finK_norm, th_some, th_none, ↓ch_br, ↓ch_true, ↓ch_false, ↓br_true, ↓br_false, ↓br_not, boolK_bool, gdK_true, gdK_false, gdK_undef, pickK_bb, pickK_bool, fnK_fn, ev_t, ev_c, evv_t, evv_c, 
    evs_nil, evs_cons, av_v, lk_hit, lk_miss, lk_nil, projR_nil, projR_cons, projB_nil, projB_cons, pr1_v, pr1_none, pr1_lp, pr1_ls, pb1_v, pb1_none, pb1_nob, pb1_lp, binV_add, binV_sub, binV_mul, binV_eql, binV_neq, binV_lss, binV_leq, 
    binV_gtr, binV_geq, binV_seql, binV_sneq, binV_slss, binV_sleq, binV_sgtr, binV_sgeq, cellsOf_int, cellsOf_bool, cellsOf_str, cellsOf_agg, cellsOf_sl, cellsOf_nilsl, cellsOf_ptr, cellsOf_nilptr, cellsOf_fn, cellsOf_nilfn, place_lp, 
    ld_cell, ld_agg, putAt_lp, fadrV_lp, fadrV_ptr, fldV_agg, beqV_eq, beqV_ne, seqV_eq, seqV_ne, cellsEq_nil, cellsEq_cons, cellEq_int, cellEq_bool, cellEq_str, isnilV_eq, isnilV_ne, bnotV_bool, negV_int, lenV_str, lenV_sl, lenV_nilsl, 
    extV_tup, fillP_nil, fillP_cons, fillS_nil, fillS_cons, intOf_int, bnd_none, bnd_some, sstrV_str, idxV_str, strOf_str, mksV_int, nilcV_ptr, nilcV_lp, result, resOf, allSome, number, upd, List.map, List.length_cons, List.length_nil, 
    List.append_nil, List.nil_append, List.cons_append, List.getElem?_cons_zero, List.getElem?_cons_succ, List.drop_zero, List.drop_succ_cons, List.drop_nil, List.take_zero, List.take_succ_cons, List.take_nil, Option.bind_some, 
    Option.isNone_none, Option.isNone_some, Option.isSome_some, Nat.reduceAdd, Nat.reduceSub, Nat.reduceLeDiff, Nat.reduceLT, Nat.reduceEqDiff, Nat.zero_add, Nat.add_zero, Nat.le_refl, reduceIte, ne_eq, not_false_eq_true, and_self, true_and, 
    and_true, reduceCtorEq, cond_true, cond_false, stT_nil, st1_some, evG_load, evG_gd, same3_eq, same3_none, endT_cons, c_impl_WaitingOf, ha.cellsOf, place_row, hok, hb, Bool.not_true, h, List.append_assoc]
end Go.X

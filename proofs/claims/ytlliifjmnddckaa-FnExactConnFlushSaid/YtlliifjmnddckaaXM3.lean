/- Slots, marked and held. -/
import Derived.Test.YtlliifjmnddckaaXM2
import Derived.Test.YtlliifjmnddckaaXS1
set_option linter.unusedVariables false
set_option linter.unusedSimpArgs false
set_option maxRecDepth 20000
namespace Go.X
open Go
variable {X : Call}

/-- The slot that a mark writes. -/
def mkSl (k : Nat) : SlotM := ⟨k, ((k + 1 : Nat) : Int).tmod 3 == 0, mtext (k + 2)⟩
def mkS : Nat → Nat → List SlotM
  | 0, _ => []
  | n + 1, k => mkSl k :: mkS n (k + 3)
theorem mkS_len : ∀ (n k : Nat), (mkS n k).length = n
  | 0, _ => rfl
  | n + 1, k => by simp [mkS, mkS_len n]

theorem markSlotS_loop {R : Type} (a : AV) (len lo hi : Nat) (hlen : len ≤ 10000000) (kk : Out → S → Option R) : ∀ (n i : Nat) (k : Nat) (σ : Store) (els : List (List AV)), n = len - i → i ≤ len → els.length = len → (∀ (i : Nat) (cs : List AV), els[i]? = some cs → cs.length = 3) → k + 3 * n ≤ 100000000 →
    SlAt σ 3 a els → KA (ownK lo hi) σ a → ∃ σ', loopK (EE X) [0, 1, 5] l_laws_markSlotS_0 ([(0, .v a), (1, .v (int k)), (5, .v (int i))], ⟨[], σ⟩) kk = kk (.exit 0) ([(0, .v a), (1, .v (int ((k + 3 * n : Nat) : Int))), (5, .v (int len)), (9, .v (.bool false))], ⟨[], σ'⟩) ∧
      SlAt σ' 3 a (els.take i ++ (mkS n k).map SlotM.cells) ∧ KA (ownK lo hi) σ' a ∧ Same lo hi σ σ' := by
  intro n
  induction n with
  | zero =>
    intro i k σ els hn hi he hc h2 hs hk
    have e : i = len := by omega
    subst e
    refine ⟨σ, ?_, by rw [List.take_of_length_le (by omega)]; simpa [mkS] using hs, hk, Same.refl _ _ _⟩
    rw [loopK_step l_laws_markSlotS_0.eq_1]
    simp (config := {contextual := true, implicitDefEqProofs := false}) only [
    ↓runK_seq, ↓runK_reg, ↓runK_draw0, ↓runK_drawT, ↓runK_block, ↓runK_cond, ↓runK_loop, ↓runK_skip, ↓runK_ret, ↓runK_exit, ↓seqK_norm, ↓seqK_ret, ↓seqK_exit, ↓blkK_norm, ↓blkK_ret, ↓blkK_exit, ↓lpK_norm, ↓lpK_ret, ↓lpK_exit, ↓regK_eq, 
    frK_eq, ↓opsK_op, ↓opsK_og, ↓opsK_nil, ↓nxtK_some, ↓nxtK_none, ↓opsT_op, ↓opsT_og, ↓opsT_nil, ↓nxtT_some, ↓nxtT_none, ↓endT_nil, ↓opK_mv, ↓opK_pick, ↓opK_load, ↓opK_store, ↓opK_bin, ↓opK_fadr, ↓opK_alloc, ↓opK_allocE, ↓opK_box, 
    ↓opK_boxE, ↓opK_iadr, ↓opK_fld, ↓opK_beq, ↓opK_seq, ↓opK_isnil, ↓opK_bnot, ↓opK_neg, ↓opK_len, ↓opK_ext, ↓opK_build, ↓opK_bsl, ↓opK_bslE, ↓opK_app, ↓opK_slc, ↓opK_sstr, ↓opK_idx, ↓opK_s2b, ↓opK_b2s, ↓opK_cvt, ↓opK_mks, ↓opK_nilc, 
    ↓opK_mkf, ↓opK_call, ↓opK_calld, ↓finK_ret, ↓finK_norm, th_some, th_none, ↓ch_br, ↓ch_true, ↓ch_false, ↓br_true, ↓br_false, ↓br_not, boolK_bool, gdK_true, gdK_false, gdK_undef, pickK_bb, pickK_bool, fnK_fn, ev_t, ev_c, evv_t, evv_c, 
    evs_nil, evs_cons, av_v, lk_hit, lk_miss, lk_nil, projR_nil, projR_cons, projB_nil, projB_cons, pr1_v, pr1_none, pr1_lp, pr1_ls, pb1_v, pb1_none, pb1_nob, pb1_lp, binV_add, binV_sub, binV_mul, binV_eql, binV_neq, binV_lss, binV_leq, 
    binV_gtr, binV_geq, binV_seql, binV_sneq, binV_slss, binV_sleq, binV_sgtr, binV_sgeq, cellsOf_int, cellsOf_bool, cellsOf_str, cellsOf_agg, cellsOf_sl, cellsOf_nilsl, cellsOf_ptr, cellsOf_nilptr, cellsOf_fn, cellsOf_nilfn, place_lp, 
    ld_cell, ld_agg, putAt_lp, fadrV_lp, fadrV_ptr, fldV_agg, beqV_eq, beqV_ne, seqV_eq, seqV_ne, cellsEq_nil, cellsEq_cons, cellEq_int, cellEq_bool, cellEq_str, isnilV_eq, isnilV_ne, bnotV_bool, negV_int, lenV_str, lenV_sl, lenV_nilsl, 
    extV_tup, fillP_nil, fillP_cons, fillS_nil, fillS_cons, intOf_int, bnd_none, bnd_some, sstrV_str, idxV_str, strOf_str, mksV_int, nilcV_ptr, nilcV_lp, result, resOf, allSome, number, upd, List.map, List.length_cons, List.length_nil, 
    List.append_nil, List.nil_append, List.cons_append, List.getElem?_cons_zero, List.getElem?_cons_succ, List.drop_zero, List.drop_succ_cons, List.drop_nil, List.take_zero, List.take_succ_cons, List.take_nil, Option.bind_some, 
    Option.isNone_none, Option.isNone_some, Option.isSome_some, Nat.reduceAdd, Nat.reduceSub, Nat.reduceLeDiff, Nat.reduceLT, Nat.reduceEqDiff, Nat.zero_add, Nat.add_zero, Nat.le_refl, reduceIte, ne_eq, not_false_eq_true, and_self, true_and, 
    and_true, reduceCtorEq, cond_true, cond_false, stT_nil, st1_some, evG_load, evG_gd, same3_eq, same3_none, endT_cons, hs.len, he, Int.lt_irrefl, decide_false, Nat.mul_zero, Nat.add_zero]
  | succ n ih =>
    intro i k σ els hn hi he hc h2 hs hk
    have hlt : i < els.length := by omega
    have hlt' : (i : Int) < (len : Int) := by omega
    have hw : IntKind.i64.wrap ((i : Int) + 1) = ((i + 1 : Nat) : Int) := wrap64 (by omega) (by omega)
    have hwk : IntKind.i64.wrap ((k : Int) + 1) = ((k + 1 : Nat) : Int) := by rw [wrap64 (by omega) (by omega)]; omega
    have hwk2 : IntKind.i64.wrap (((k + 1 : Nat) : Int) + 1) = ((k + 2 : Nat) : Int) := by rw [wrap64 (by omega) (by omega)]; omega
    have hwk3 : IntKind.i64.wrap (((k + 2 : Nat) : Int) + 1) = ((k + 3 : Nat) : Int) := by rw [wrap64 (by omega) (by omega)]; omega
    have h3 : (3 : Int) ≠ 0 := by decide
    have hg := List.getElem?_eq_getElem hlt
    obtain ⟨x0, x1, x2, hx⟩ : ∃ x0 x1 x2, els[i] = [x0, x1, x2] := by
      have hl1 := hc i _ hg
      match els[i], hl1 with
      | [x0, x1, x2], _ => exact ⟨x0, x1, x2, rfl⟩
    rw [hx] at hg
    obtain ⟨σ1, hp1, hs1, hk1, hm1⟩ := put_own hs hk hg 0 [int k] (by simp)
    have hg1 : (els.set i (upd [x0, x1, x2] 0 [int k]))[i]? = some [int k, x1, x2] := by rw [List.getElem?_set_self hlt]; rfl
    obtain ⟨σ2, hp2, hs2, hk2, hm2⟩ := put_own hs1 hk1 hg1 1 [.bool (((k + 1 : Nat) : Int).tmod 3 == 0)] (by simp)
    rw [List.set_set] at hs2
    have hg2 : (els.set i (upd [int k, x1, x2] 1 [.bool (((k + 1 : Nat) : Int).tmod 3 == 0)]))[i]? = some [int k, .bool (((k + 1 : Nat) : Int).tmod 3 == 0), x2] := by rw [List.getElem?_set_self hlt]; rfl
    obtain ⟨σ3, hp3, hs3, hk3, hm3⟩ := put_own hs2 hk2 hg2 2 [.str (mtext (k + 2))] (by simp)
    rw [List.set_set] at hs3
    have hu : upd [int k, .bool (((k + 1 : Nat) : Int).tmod 3 == 0), x2] 2 [.str (mtext (k + 2))] = (mkSl k).cells := rfl
    rw [hu] at hs3
    have hl2 : i < (els.set i (upd [x0, x1, x2] 0 [int k])).length := by simpa using hlt
    have hl3 : i < (els.set i (upd [int k, x1, x2] 1 [.bool (((k + 1 : Nat) : Int).tmod 3 == 0)])).length := by simpa using hlt
    have i1 := hs.iadr .i64 hlt
    have i2 := hs1.iadr .i64 hl2
    have i3 := hs2.iadr .i64 hl3
    have f1 := fun o => hs.fadrQ hlt o
    have mt := fun s => markText_eq (X := X) (k + 2) (by omega) s
    obtain ⟨σ', r1, r2, r3, r4⟩ := ih (i + 1) (k + 3) σ3 (els.set i (mkSl k).cells) (by omega) (by omega) (by simpa using he) (fun j cs hj => by
      by_cases e : i = j
      · subst e; rw [List.getElem?_set_self hlt] at hj; cases hj; rfl
      · rw [List.getElem?_set_ne e] at hj; exact hc j cs hj) (by omega) hs3 hk3
    refine ⟨σ', ?_, ?_, r3, hm1.trans (hm2.trans (hm3.trans r4))⟩
    · have ek : k + 3 * (n + 1) = k + 3 + 3 * n := by omega
      rw [ek, ← r1, loopK_step l_laws_markSlotS_0.eq_1]
      simp (config := {contextual := true, implicitDefEqProofs := false}) only [
    ↓runK_seq, ↓runK_reg, ↓runK_draw0, ↓runK_drawT, ↓runK_block, ↓runK_cond, ↓runK_loop, ↓runK_skip, ↓runK_ret, ↓runK_exit, ↓seqK_norm, ↓seqK_ret, ↓seqK_exit, ↓blkK_norm, ↓blkK_ret, ↓blkK_exit, ↓lpK_norm, ↓lpK_ret, ↓lpK_exit, ↓regK_eq, 
    frK_eq, ↓opsK_op, ↓opsK_og, ↓opsK_nil, ↓nxtK_some, ↓nxtK_none, ↓opsT_op, ↓opsT_og, ↓opsT_nil, ↓nxtT_some, ↓nxtT_none, ↓endT_nil, ↓opK_mv, ↓opK_pick, ↓opK_load, ↓opK_store, ↓opK_bin, ↓opK_fadr, ↓opK_alloc, ↓opK_allocE, ↓opK_box, 
    ↓opK_boxE, ↓opK_iadr, ↓opK_fld, ↓opK_beq, ↓opK_seq, ↓opK_isnil, ↓opK_bnot, ↓opK_neg, ↓opK_len, ↓opK_ext, ↓opK_build, ↓opK_bsl, ↓opK_bslE, ↓opK_app, ↓opK_slc, ↓opK_sstr, ↓opK_idx, ↓opK_s2b, ↓opK_b2s, ↓opK_cvt, ↓opK_mks, ↓opK_nilc, 
    ↓opK_mkf, ↓opK_call, ↓opK_calld, ↓finK_ret, ↓finK_norm, th_some, th_none, ↓ch_br, ↓ch_true, ↓ch_false, ↓br_true, ↓br_false, ↓br_not, boolK_bool, gdK_true, gdK_false, gdK_undef, pickK_bb, pickK_bool, fnK_fn, ev_t, ev_c, evv_t, evv_c, 
    evs_nil, evs_cons, av_v, lk_hit, lk_miss, lk_nil, projR_nil, projR_cons, projB_nil, projB_cons, pr1_v, pr1_none, pr1_lp, pr1_ls, pb1_v, pb1_none, pb1_nob, pb1_lp, binV_add, binV_sub, binV_mul, binV_eql, binV_neq, binV_lss, binV_leq, 
    binV_gtr, binV_geq, binV_seql, binV_sneq, binV_slss, binV_sleq, binV_sgtr, binV_sgeq, cellsOf_int, cellsOf_bool, cellsOf_str, cellsOf_agg, cellsOf_sl, cellsOf_nilsl, cellsOf_ptr, cellsOf_nilptr, cellsOf_fn, cellsOf_nilfn, place_lp, 
    ld_cell, ld_agg, putAt_lp, fadrV_lp, fadrV_ptr, fldV_agg, beqV_eq, beqV_ne, seqV_eq, seqV_ne, cellsEq_nil, cellsEq_cons, cellEq_int, cellEq_bool, cellEq_str, isnilV_eq, isnilV_ne, bnotV_bool, negV_int, lenV_str, lenV_sl, lenV_nilsl, 
    extV_tup, fillP_nil, fillP_cons, fillS_nil, fillS_cons, intOf_int, bnd_none, bnd_some, sstrV_str, idxV_str, strOf_str, mksV_int, nilcV_ptr, nilcV_lp, result, resOf, allSome, number, upd, List.map, List.length_cons, List.length_nil, 
    List.append_nil, List.nil_append, List.cons_append, List.getElem?_cons_zero, List.getElem?_cons_succ, List.drop_zero, List.drop_succ_cons, List.drop_nil, List.take_zero, List.take_succ_cons, List.take_nil, Option.bind_some, 
    Option.isNone_none, Option.isNone_some, Option.isSome_some, Nat.reduceAdd, Nat.reduceSub, Nat.reduceLeDiff, Nat.reduceLT, Nat.reduceEqDiff, Nat.zero_add, Nat.add_zero, Nat.le_refl, reduceIte, ne_eq, not_false_eq_true, and_self, true_and, 
    and_true, reduceCtorEq, cond_true, cond_false, stT_nil, st1_some, evG_load, evG_gd, same3_eq, same3_none, endT_cons, hs.len, he, hlt', decide_true, i1, i2, i3, f1, hp1, hp2, hp3, binV_rem _ _ _ h3, mt, hw, hwk, hwk2, hwk3]
    · rw [take_set_succ els i (mkSl k).cells hlt] at r2
      simpa [mkS] using r2

theorem RSlot.map_els {σ : Store} {l : List SlotM} {els : List (List AV)} (h : All2 (RSlot σ) l els) : els = l.map SlotM.cells := (h.imp (fun m cs h => h.1)).eq_map
theorem mkS_ok : ∀ (n k : Nat), k + 3 * n ≤ 100000000 → ∀ s ∈ mkS n k, I64 s.seq ∧ LenOk s.text.length
  | 0, _, _, s, hs => by cases hs
  | n + 1, k, h, s, hs => by
    rcases List.mem_cons.1 hs with rfl | hs
    · refine ⟨by simp only [mkSl, I64]; omega, ?_⟩
      have key : ∀ (n k : Nat) (acc : List UInt8), (mgo n k acc).length ≤ acc.length + n := by
        intro n
        induction n with
        | zero => intro k acc; simp [mgo]
        | succ n ih =>
          intro k acc
          simp only [mgo]
          split
          · omega
          · have := ih (k / 10) (mdig k :: acc)
            simp only [List.length_cons] at this
            omega
      have := key (k + 2) (k + 2) []
      simp only [mkSl, mtext, LenOk]
      split
      · decide
      · simp only [List.length_cons, List.length_nil] at this ⊢; omega
    · exact mkS_ok n (k + 3) (by omega) s hs

theorem markSlotS_eq (σ : Store) (l : List SlotM) (a : AV) (lo hi : Nat) (h : RSO (fun _ _ => RSlot) 3 lo hi σ l a) (hn : l.length ≤ 1048576) (k : Nat) (h1 : k ≤ 1000000) :
    ∃ σ', EE X f_laws_markSlotS [a, int k] σ = some (int ((k + 3 * l.length : Nat) : Int), σ') ∧ RSO (fun _ _ => RSlot) 3 lo hi σ' (mkS l.length k) a ∧ Same lo hi σ σ' := by
  obtain ⟨⟨els, hs, hall⟩, hk⟩ := h
  have he := RSlot.map_els hall
  subst he
  obtain ⟨σ', r1, r2, r3, r4⟩ := markSlotS_loop (X := X) (R := AV × Store) a l.length lo hi (by omega) (blkK 0 (seqK (EE X) (.seq (.reg [op 36 (.mv (.t 1)), op 4 (.mv (.t 36))] [4] none) .ret) (finK [.t 4] false σ))) l.length 0 k σ _ (by omega) (by omega) (by simp) (by
    intro i cs hi'
    simp only [List.getElem?_map] at hi'
    cases hq : l[i]? with
    | none => rw [hq] at hi'; cases hi'
    | some x => rw [hq] at hi'; cases hi'; rfl) (by omega) hs hk
  refine ⟨σ', ?_, ⟨⟨_, by simpa using r2, All2.map (fun s hs => ⟨rfl, mkS_ok _ _ (by omega) s hs⟩)⟩, r3⟩, r4⟩
  rw [EE, Ex_run C_laws_markSlotS rfl]
  simp (config := {contextual := true, implicitDefEqProofs := false}) only [
    ↓runK_seq, ↓runK_reg, ↓runK_draw0, ↓runK_drawT, ↓runK_block, ↓runK_cond, ↓runK_loop, ↓runK_skip, ↓runK_ret, ↓runK_exit, ↓seqK_norm, ↓seqK_ret, ↓seqK_exit, ↓blkK_norm, ↓blkK_ret, ↓blkK_exit, ↓lpK_norm, ↓lpK_ret, ↓lpK_exit, ↓regK_eq, 
    frK_eq, ↓opsK_op, ↓opsK_og, ↓opsK_nil, ↓nxtK_some, ↓nxtK_none, ↓opsT_op, ↓opsT_og, ↓opsT_nil, ↓nxtT_some, ↓nxtT_none, ↓endT_nil, ↓opK_mv, ↓opK_pick, ↓opK_load, ↓opK_store, ↓opK_bin, ↓opK_fadr, ↓opK_alloc, ↓opK_allocE, ↓opK_box, 
    ↓opK_boxE, ↓opK_iadr, ↓opK_fld, ↓opK_beq, ↓opK_seq, ↓opK_isnil, ↓opK_bnot, ↓opK_neg, ↓opK_len, ↓opK_ext, ↓opK_build, ↓opK_bsl, ↓opK_bslE, ↓opK_app, ↓opK_slc, ↓opK_sstr, ↓opK_idx, ↓opK_s2b, ↓opK_b2s, ↓opK_cvt, ↓opK_mks, ↓opK_nilc, 
    ↓opK_mkf, ↓opK_call, ↓opK_calld, ↓finK_ret, ↓finK_norm, th_some, th_none, ↓ch_br, ↓ch_true, ↓ch_false, ↓br_true, ↓br_false, ↓br_not, boolK_bool, gdK_true, gdK_false, gdK_undef, pickK_bb, pickK_bool, fnK_fn, ev_t, ev_c, evv_t, evv_c, 
    evs_nil, evs_cons, av_v, lk_hit, lk_miss, lk_nil, projR_nil, projR_cons, projB_nil, projB_cons, pr1_v, pr1_none, pr1_lp, pr1_ls, pb1_v, pb1_none, pb1_nob, pb1_lp, binV_add, binV_sub, binV_mul, binV_eql, binV_neq, binV_lss, binV_leq, 
    binV_gtr, binV_geq, binV_seql, binV_sneq, binV_slss, binV_sleq, binV_sgtr, binV_sgeq, cellsOf_int, cellsOf_bool, cellsOf_str, cellsOf_agg, cellsOf_sl, cellsOf_nilsl, cellsOf_ptr, cellsOf_nilptr, cellsOf_fn, cellsOf_nilfn, place_lp, 
    ld_cell, ld_agg, putAt_lp, fadrV_lp, fadrV_ptr, fldV_agg, beqV_eq, beqV_ne, seqV_eq, seqV_ne, cellsEq_nil, cellsEq_cons, cellEq_int, cellEq_bool, cellEq_str, isnilV_eq, isnilV_ne, bnotV_bool, negV_int, lenV_str, lenV_sl, lenV_nilsl, 
    extV_tup, fillP_nil, fillP_cons, fillS_nil, fillS_cons, intOf_int, bnd_none, bnd_some, sstrV_str, idxV_str, strOf_str, mksV_int, nilcV_ptr, nilcV_lp, result, resOf, allSome, number, upd, List.map, List.length_cons, List.length_nil, 
    List.append_nil, List.nil_append, List.cons_append, List.getElem?_cons_zero, List.getElem?_cons_succ, List.drop_zero, List.drop_succ_cons, List.drop_nil, List.take_zero, List.take_succ_cons, List.take_nil, Option.bind_some, 
    Option.isNone_none, Option.isNone_some, Option.isSome_some, Nat.reduceAdd, Nat.reduceSub, Nat.reduceLeDiff, Nat.reduceLT, Nat.reduceEqDiff, Nat.zero_add, Nat.add_zero, Nat.le_refl, reduceIte, ne_eq, not_false_eq_true, and_self, true_and, 
    and_true, reduceCtorEq, cond_true, cond_false, stT_nil, st1_some, evG_load, evG_gd, same3_eq, same3_none, endT_cons, c_laws_markSlotS, hs.cellsOf]
  refine r1.trans ?_
  simp (config := {contextual := true, implicitDefEqProofs := false}) only [
    ↓runK_seq, ↓runK_reg, ↓runK_draw0, ↓runK_drawT, ↓runK_block, ↓runK_cond, ↓runK_loop, ↓runK_skip, ↓runK_ret, ↓runK_exit, ↓seqK_norm, ↓seqK_ret, ↓seqK_exit, ↓blkK_norm, ↓blkK_ret, ↓blkK_exit, ↓lpK_norm, ↓lpK_ret, ↓lpK_exit, ↓regK_eq, 
    frK_eq, ↓opsK_op, ↓opsK_og, ↓opsK_nil, ↓nxtK_some, ↓nxtK_none, ↓opsT_op, ↓opsT_og, ↓opsT_nil, ↓nxtT_some, ↓nxtT_none, ↓endT_nil, ↓opK_mv, ↓opK_pick, ↓opK_load, ↓opK_store, ↓opK_bin, ↓opK_fadr, ↓opK_alloc, ↓opK_allocE, ↓opK_box, 
    ↓opK_boxE, ↓opK_iadr, ↓opK_fld, ↓opK_beq, ↓opK_seq, ↓opK_isnil, ↓opK_bnot, ↓opK_neg, ↓opK_len, ↓opK_ext, ↓opK_build, ↓opK_bsl, ↓opK_bslE, ↓opK_app, ↓opK_slc, ↓opK_sstr, ↓opK_idx, ↓opK_s2b, ↓opK_b2s, ↓opK_cvt, ↓opK_mks, ↓opK_nilc, 
    ↓opK_mkf, ↓opK_call, ↓opK_calld, ↓finK_ret, ↓finK_norm, th_some, th_none, ↓ch_br, ↓ch_true, ↓ch_false, ↓br_true, ↓br_false, ↓br_not, boolK_bool, gdK_true, gdK_false, gdK_undef, pickK_bb, pickK_bool, fnK_fn, ev_t, ev_c, evv_t, evv_c, 
    evs_nil, evs_cons, av_v, lk_hit, lk_miss, lk_nil, projR_nil, projR_cons, projB_nil, projB_cons, pr1_v, pr1_none, pr1_lp, pr1_ls, pb1_v, pb1_none, pb1_nob, pb1_lp, binV_add, binV_sub, binV_mul, binV_eql, binV_neq, binV_lss, binV_leq, 
    binV_gtr, binV_geq, binV_seql, binV_sneq, binV_slss, binV_sleq, binV_sgtr, binV_sgeq, cellsOf_int, cellsOf_bool, cellsOf_str, cellsOf_agg, cellsOf_sl, cellsOf_nilsl, cellsOf_ptr, cellsOf_nilptr, cellsOf_fn, cellsOf_nilfn, place_lp, 
    ld_cell, ld_agg, putAt_lp, fadrV_lp, fadrV_ptr, fldV_agg, beqV_eq, beqV_ne, seqV_eq, seqV_ne, cellsEq_nil, cellsEq_cons, cellEq_int, cellEq_bool, cellEq_str, isnilV_eq, isnilV_ne, bnotV_bool, negV_int, lenV_str, lenV_sl, lenV_nilsl, 
    extV_tup, fillP_nil, fillP_cons, fillS_nil, fillS_cons, intOf_int, bnd_none, bnd_some, sstrV_str, idxV_str, strOf_str, mksV_int, nilcV_ptr, nilcV_lp, result, resOf, allSome, number, upd, List.map, List.length_cons, List.length_nil, 
    List.append_nil, List.nil_append, List.cons_append, List.getElem?_cons_zero, List.getElem?_cons_succ, List.drop_zero, List.drop_succ_cons, List.drop_nil, List.take_zero, List.take_succ_cons, List.take_nil, Option.bind_some, 
    Option.isNone_none, Option.isNone_some, Option.isSome_some, Nat.reduceAdd, Nat.reduceSub, Nat.reduceLeDiff, Nat.reduceLT, Nat.reduceEqDiff, Nat.zero_add, Nat.add_zero, Nat.le_refl, reduceIte, ne_eq, not_false_eq_true, and_self, true_and, 
    and_true, reduceCtorEq, cond_true, cond_false, stT_nil, st1_some, evG_load, evG_gd, same3_eq, same3_none, endT_cons]

/-- The connection that a mark writes. -/
def ConnM.mark (m : ConnM) (k : Nat) : ConnM := { m with slots := mkS m.slots.length k }
theorem markConn_eq (σ : Store) (m : ConnM) (cs : List AV) (lo hi : Nat) (h : RConnO lo hi σ m cs) (hn : m.slots.length ≤ 1048576) (k : Nat) (h1 : k ≤ 1000000) :
    ∃ σ', EE X f_laws_markConn [.agg cs, int k] σ = some (int ((k + 3 * m.slots.length : Nat) : Int), σ') ∧ RConnO lo hi σ' (m.mark k) cs ∧ Same lo hi σ σ' := by
  obtain ⟨a, hc, hs, h2, h3, h4⟩ := h
  subst hc
  obtain ⟨σ', r1, r2, r3⟩ := markSlotS_eq (X := X) σ m.slots a lo hi hs hn k h1
  refine ⟨σ', ?_, ⟨a, rfl, r2, h2, h3, by simp only [ConnM.mark, mkS_len]; exact h4⟩, r3⟩
  rw [EE, Ex_run C_laws_markConn rfl]
  simp (config := {contextual := true, implicitDefEqProofs := false}) only [
    ↓runK_seq, ↓runK_reg, ↓runK_draw0, ↓runK_drawT, ↓runK_block, ↓runK_cond, ↓runK_loop, ↓runK_skip, ↓runK_ret, ↓runK_exit, ↓seqK_norm, ↓seqK_ret, ↓seqK_exit, ↓blkK_norm, ↓blkK_ret, ↓blkK_exit, ↓lpK_norm, ↓lpK_ret, ↓lpK_exit, ↓regK_eq, 
    frK_eq, ↓opsK_op, ↓opsK_og, ↓opsK_nil, ↓nxtK_some, ↓nxtK_none, ↓opsT_op, ↓opsT_og, ↓opsT_nil, ↓nxtT_some, ↓nxtT_none, ↓endT_nil, ↓opK_mv, ↓opK_pick, ↓opK_load, ↓opK_store, ↓opK_bin, ↓opK_fadr, ↓opK_alloc, ↓opK_allocE, ↓opK_box, 
    ↓opK_boxE, ↓opK_iadr, ↓opK_fld, ↓opK_beq, ↓opK_seq, ↓opK_isnil, ↓opK_bnot, ↓opK_neg, ↓opK_len, ↓opK_ext, ↓opK_build, ↓opK_bsl, ↓opK_bslE, ↓opK_app, ↓opK_slc, ↓opK_sstr, ↓opK_idx, ↓opK_s2b, ↓opK_b2s, ↓opK_cvt, ↓opK_mks, ↓opK_nilc, 
    ↓opK_mkf, ↓opK_call, ↓opK_calld, ↓finK_ret, ↓finK_norm, th_some, th_none, ↓ch_br, ↓ch_true, ↓ch_false, ↓br_true, ↓br_false, ↓br_not, boolK_bool, gdK_true, gdK_false, gdK_undef, pickK_bb, pickK_bool, fnK_fn, ev_t, ev_c, evv_t, evv_c, 
    evs_nil, evs_cons, av_v, lk_hit, lk_miss, lk_nil, projR_nil, projR_cons, projB_nil, projB_cons, pr1_v, pr1_none, pr1_lp, pr1_ls, pb1_v, pb1_none, pb1_nob, pb1_lp, binV_add, binV_sub, binV_mul, binV_eql, binV_neq, binV_lss, binV_leq, 
    binV_gtr, binV_geq, binV_seql, binV_sneq, binV_slss, binV_sleq, binV_sgtr, binV_sgeq, cellsOf_int, cellsOf_bool, cellsOf_str, cellsOf_agg, cellsOf_sl, cellsOf_nilsl, cellsOf_ptr, cellsOf_nilptr, cellsOf_fn, cellsOf_nilfn, place_lp, 
    ld_cell, ld_agg, putAt_lp, fadrV_lp, fadrV_ptr, fldV_agg, beqV_eq, beqV_ne, seqV_eq, seqV_ne, cellsEq_nil, cellsEq_cons, cellEq_int, cellEq_bool, cellEq_str, isnilV_eq, isnilV_ne, bnotV_bool, negV_int, lenV_str, lenV_sl, lenV_nilsl, 
    extV_tup, fillP_nil, fillP_cons, fillS_nil, fillS_cons, intOf_int, bnd_none, bnd_some, sstrV_str, idxV_str, strOf_str, mksV_int, nilcV_ptr, nilcV_lp, result, resOf, allSome, number, upd, List.map, List.length_cons, List.length_nil, 
    List.append_nil, List.nil_append, List.cons_append, List.getElem?_cons_zero, List.getElem?_cons_succ, List.drop_zero, List.drop_succ_cons, List.drop_nil, List.take_zero, List.take_succ_cons, List.take_nil, Option.bind_some, 
    Option.isNone_none, Option.isNone_some, Option.isSome_some, Nat.reduceAdd, Nat.reduceSub, Nat.reduceLeDiff, Nat.reduceLT, Nat.reduceEqDiff, Nat.zero_add, Nat.add_zero, Nat.le_refl, reduceIte, ne_eq, not_false_eq_true, and_self, true_and, 
    and_true, reduceCtorEq, cond_true, cond_false, stT_nil, st1_some, evG_load, evG_gd, same3_eq, same3_none, endT_cons, c_laws_markConn, hs.1.cellsOf, r1]
end Go.X

/- Connections: a slot that is let be ready. -/
import Derived.Test.YtlliifjmnddckaaXS9
import Derived.Test.YtlliifjmnddckaaX22
set_option linter.unusedVariables false
set_option linter.unusedSimpArgs false
set_option maxRecDepth 20000
namespace Go.X
open Go
variable {X : Call}

theorem RConnO.fr {lo hi : Nat} {W : Nat → Prop} {σ σ' : Store} {m : ConnM} {cs : List AV} (h : RConnO lo hi σ m cs) (k : Fr W σ σ') (hw : ∀ r, lo ≤ r → r < hi → ¬ W r) : RConnO lo hi σ' m cs := by
  obtain ⟨a, h1, ⟨⟨els, h2, h3⟩, h4⟩, h5⟩ := h
  obtain ⟨h6, h7⟩ := ((h2.dep h4).fr k (fun r _ h => hw r h.1 h.2)).self
  exact ⟨a, h1, ⟨⟨els, h6, h3⟩, h7⟩, h5⟩
theorem toConn_pre (σ : Store) (m : ConnM) (cs : List AV) (hm : RConn σ m cs) (hb : m.size ≤ 1048576) :
    ∃ cs' σ', EE X f_laws_toConn [.agg cs] σ = some (.agg cs', σ') ∧ cs'.length = 5 ∧ Pre σ σ' ∧ RConnO σ.length σ'.length σ' m cs' := by
  obtain ⟨cs', ext, h1, h2, h3⟩ := toConn_eq (X := X) σ m cs hm hb
  exact ⟨cs', _, h1, h2, Pre.app _ _, h3.self⟩
theorem markConn_fr (σ : Store) (m : ConnM) (cs : List AV) (lo hi : Nat) (h : RConnO lo hi σ m cs) (hn : m.slots.length ≤ 1048576) :
    ∃ σ', EE X f_laws_markConn [.agg cs, int 1] σ = some (int ((1 + 3 * m.slots.length : Nat) : Int), σ') ∧ RConnO lo hi σ' (m.mark 1) cs ∧ Fr (fun r => lo ≤ r ∧ r < hi) σ σ' ∧ σ'.length = σ.length := by
  obtain ⟨σ', h1, h2, h3⟩ := markConn_eq (X := X) σ m cs lo hi h hn 1 (by omega)
  exact ⟨σ', h1, h2, Fr.same h3, h3.1⟩

def fnd (seq : Int) : List SlotM → Option Nat
  | [] => none
  | s :: l => if s.seq == seq then some 0 else (fnd seq l).map (· + 1)
theorem fnd_none {seq : Int} : ∀ {l : List SlotM}, fnd seq l = none → ∀ (j : Nat) (s : SlotM), l[j]? = some s → (s.seq == seq) = false
  | [], _, j, s, h => by simp at h
  | x :: l, hn, j, s, h => by
    simp only [fnd] at hn
    split at hn
    · cases hn
    · rename_i hx
      have hn' : fnd seq l = none := by simpa using hn
      cases j with
      | zero => simp at h; subst h; simpa using hx
      | succ j => exact fnd_none hn' j s (by simpa using h)
theorem fnd_some {seq : Int} : ∀ {l : List SlotM} {k : Nat}, fnd seq l = some k → (∃ s, l[k]? = some s ∧ (s.seq == seq) = true) ∧ ∀ (j : Nat) (s : SlotM), j < k → l[j]? = some s → (s.seq == seq) = false
  | [], k, h => by simp [fnd] at h
  | x :: l, k, hn => by
    simp only [fnd] at hn
    split at hn
    · rename_i hx
      cases hn
      exact ⟨⟨x, rfl, hx⟩, fun j s h => by omega⟩
    · rename_i hx
      cases hf : fnd seq l with
      | none => simp [hf] at hn
      | some q =>
        simp [hf] at hn
        subst hn
        obtain ⟨⟨s, h1, h2⟩, h3⟩ := fnd_some hf
        refine ⟨⟨s, by simpa using h1, h2⟩, fun j s' hj h => ?_⟩
        cases j with
        | zero => simp at h; subst h; simpa using hx
        | succ j => exact h3 j s' (by omega) (by simpa using h)

def readyM (m : ConnM) (seq : Int) (text : List UInt8) : ConnM × Int := match fnd seq m.slots with
  | none => (m, 5)
  | some k => match m.slots[k]? with
    | none => (m, 5)
    | some s => if s.ready = true then (m, 12) else ({ m with slots := m.slots.set k ⟨s.seq, true, text⟩ }, 0)
def connReady (m : ConnM) (seq : Int) (t : List UInt8) : ConnM × Int :=
  if 65536 < t.length then (ConnM.zero, 2) else if connOK m = false then (ConnM.zero, 1) else if t.length = 0 ∨ 300 < t.length then (ConnM.zero, 4) else readyM m seq t
theorem readyM_len (m : ConnM) (seq : Int) (t : List UInt8) : (readyM m seq t).1.slots.length = m.slots.length := by
  simp only [readyM]
  split
  · rfl
  · split
    · rfl
    · split
      · rfl
      · simp

abbrev cc5 (m : ConnM) (a : AV) : List AV := [.bool m.opn, .bool m.ending, .str m.inp, a, int m.next]
abbrev z5 : List AV := [.bool false, .bool false, .str [], .nilsl, int 0]

section
variable {R : Type} (σ : Store) (m : ConnM) (a : AV) (ha : RS RSlot 3 σ m.slots a) (h6 : m.slots.length ≤ 1048576) (seq : Int) (text : List UInt8) (kk : Out → S → Option R)
include ha h6
theorem specReady_skip : ∀ d i, i + d ≤ m.slots.length → (∀ (j : Nat) (s : SlotM), j < i + d → m.slots[j]? = some s → (s.seq == seq) = false) →
    loopK (EE X) [1, 2, 3, 6, 8] l_spec_l10Ready_0 ([(1, .v (int seq)), (2, .v (.str text)), (3, .lp 3 0), (6, .lp 6 0), (8, .v (int i))], ⟨[(3, cc5 m a), (6, z5)], σ⟩) kk =
      loopK (EE X) [1, 2, 3, 6, 8] l_spec_l10Ready_0 ([(1, .v (int seq)), (2, .v (.str text)), (3, .lp 3 0), (6, .lp 6 0), (8, .v (int ((i + d : Nat) : Int)))], ⟨[(3, cc5 m a), (6, z5)], σ⟩) kk := by
  intro d
  induction d with
  | zero => intro i _ _; rfl
  | succ d ih =>
    intro i hi hn
    have hlt : i < m.slots.length := by omega
    have hlt' : (i : Int) < (m.slots.length : Int) := by omega
    have hw : IntKind.i64.wrap ((i : Int) + 1) = ((i + 1 : Nat) : Int) := wrap64 (by omega) (by omega)
    obtain ⟨cs, ⟨hp, _⟩, ha1, ha2, ha3, ha4⟩ := ha.get (List.getElem?_eq_getElem hlt)
    subst hp
    have hne := hn i _ (by omega) (List.getElem?_eq_getElem hlt)
    have e : i + (d + 1) = (i + 1) + d := by omega
    rw [e, ← ih (i + 1) (by omega) (fun j s hj => hn j s (by omega)), loopK_step l_spec_l10Ready_0.eq_1]
    simp (config := {contextual := true, implicitDefEqProofs := false}) only [
    ↓runK_seq, ↓runK_reg, ↓runK_draw0, ↓runK_drawT, ↓runK_block, ↓runK_cond, ↓runK_loop, ↓runK_skip, ↓runK_ret, ↓runK_exit, ↓seqK_norm, ↓seqK_ret, ↓seqK_exit, ↓blkK_norm, ↓blkK_ret, ↓blkK_exit, ↓lpK_norm, ↓lpK_ret, ↓lpK_exit, ↓regK_eq, 
    frK_eq, ↓opsK_op, ↓opsK_og, ↓opsK_nil, ↓nxtK_some, ↓nxtK_none, ↓opsT_op, ↓opsT_og, ↓opsT_nil, ↓nxtT_some, ↓nxtT_none, ↓endT_nil, ↓opK_mv, ↓opK_pick, ↓opK_load, ↓opK_store, ↓opK_bin, ↓opK_fadr, ↓opK_alloc, ↓opK_allocE, ↓opK_box, 
    ↓opK_boxE, ↓opK_iadr, ↓opK_fld, ↓opK_beq, ↓opK_seq, ↓opK_isnil, ↓opK_bnot, ↓opK_neg, ↓opK_len, ↓opK_ext, ↓opK_build, ↓opK_bsl, ↓opK_bslE, ↓opK_app, ↓opK_slc, ↓opK_sstr, ↓opK_idx, ↓opK_s2b, ↓opK_b2s, ↓opK_cvt, ↓opK_mks, ↓opK_nilc, 
    ↓opK_mkf, ↓opK_call, ↓opK_calld, ↓finK_ret, ↓finK_norm, th_some, th_none, ↓ch_br, ↓ch_true, ↓ch_false, ↓br_true, ↓br_false, ↓br_not, boolK_bool, gdK_true, gdK_false, gdK_undef, pickK_bb, pickK_bool, fnK_fn, ev_t, ev_c, evv_t, evv_c, 
    evs_nil, evs_cons, av_v, lk_hit, lk_miss, lk_nil, projR_nil, projR_cons, projB_nil, projB_cons, pr1_v, pr1_none, pr1_lp, pr1_ls, pb1_v, pb1_none, pb1_nob, pb1_lp, binV_add, binV_sub, binV_mul, binV_eql, binV_neq, binV_lss, binV_leq, 
    binV_gtr, binV_geq, binV_seql, binV_sneq, binV_slss, binV_sleq, binV_sgtr, binV_sgeq, cellsOf_int, cellsOf_bool, cellsOf_str, cellsOf_agg, cellsOf_sl, cellsOf_nilsl, cellsOf_ptr, cellsOf_nilptr, cellsOf_fn, cellsOf_nilfn, place_lp, 
    ld_cell, ld_agg, putAt_lp, fadrV_lp, fadrV_ptr, fldV_agg, beqV_eq, beqV_ne, seqV_eq, seqV_ne, cellsEq_nil, cellsEq_cons, cellEq_int, cellEq_bool, cellEq_str, isnilV_eq, isnilV_ne, bnotV_bool, negV_int, lenV_str, lenV_sl, lenV_nilsl, 
    extV_tup, fillP_nil, fillP_cons, fillS_nil, fillS_cons, intOf_int, bnd_none, bnd_some, sstrV_str, idxV_str, strOf_str, mksV_int, nilcV_ptr, nilcV_lp, result, resOf, allSome, number, upd, List.map, List.length_cons, List.length_nil, 
    List.append_nil, List.nil_append, List.cons_append, List.getElem?_cons_zero, List.getElem?_cons_succ, List.drop_zero, List.drop_succ_cons, List.drop_nil, List.take_zero, List.take_succ_cons, List.take_nil, Option.bind_some, 
    Option.isNone_none, Option.isNone_some, Option.isSome_some, Nat.reduceAdd, Nat.reduceSub, Nat.reduceLeDiff, Nat.reduceLT, Nat.reduceEqDiff, Nat.zero_add, Nat.add_zero, Nat.le_refl, reduceIte, ne_eq, not_false_eq_true, and_self, true_and, 
    and_true, reduceCtorEq, cond_true, cond_false, stT_nil, st1_some, evG_load, evG_gd, same3_eq, same3_none, endT_cons, ha.len, hlt', decide_true, ha1, ha3, ha4, SlotM.cells, bne, hne, Bool.not_false, hw]
theorem specReady_none (hn : fnd seq m.slots = none) :
    loopK (EE X) [1, 2, 3, 6, 8] l_spec_l10Ready_0 ([(1, .v (int seq)), (2, .v (.str text)), (3, .lp 3 0), (6, .lp 6 0), (8, .v (int 0))], ⟨[(3, cc5 m a), (6, z5)], σ⟩) kk =
      kk (.exit 0) ([(1, .v (int seq)), (2, .v (.str text)), (3, .lp 3 0), (6, .lp 6 0), (8, .v (int m.slots.length)), (13, .v (.bool false))], ⟨[(3, cc5 m a), (6, z5)], σ⟩) := by
  have h := specReady_skip (X := X) σ m a ha h6 seq text kk m.slots.length 0 (by omega) (fun j s _ h => fnd_none hn j s h)
  rw [Nat.zero_add] at h
  refine Eq.trans h ?_
  rw [loopK_step l_spec_l10Ready_0.eq_1]
  simp (config := {contextual := true, implicitDefEqProofs := false}) only [
    ↓runK_seq, ↓runK_reg, ↓runK_draw0, ↓runK_drawT, ↓runK_block, ↓runK_cond, ↓runK_loop, ↓runK_skip, ↓runK_ret, ↓runK_exit, ↓seqK_norm, ↓seqK_ret, ↓seqK_exit, ↓blkK_norm, ↓blkK_ret, ↓blkK_exit, ↓lpK_norm, ↓lpK_ret, ↓lpK_exit, ↓regK_eq, 
    frK_eq, ↓opsK_op, ↓opsK_og, ↓opsK_nil, ↓nxtK_some, ↓nxtK_none, ↓opsT_op, ↓opsT_og, ↓opsT_nil, ↓nxtT_some, ↓nxtT_none, ↓endT_nil, ↓opK_mv, ↓opK_pick, ↓opK_load, ↓opK_store, ↓opK_bin, ↓opK_fadr, ↓opK_alloc, ↓opK_allocE, ↓opK_box, 
    ↓opK_boxE, ↓opK_iadr, ↓opK_fld, ↓opK_beq, ↓opK_seq, ↓opK_isnil, ↓opK_bnot, ↓opK_neg, ↓opK_len, ↓opK_ext, ↓opK_build, ↓opK_bsl, ↓opK_bslE, ↓opK_app, ↓opK_slc, ↓opK_sstr, ↓opK_idx, ↓opK_s2b, ↓opK_b2s, ↓opK_cvt, ↓opK_mks, ↓opK_nilc, 
    ↓opK_mkf, ↓opK_call, ↓opK_calld, ↓finK_ret, ↓finK_norm, th_some, th_none, ↓ch_br, ↓ch_true, ↓ch_false, ↓br_true, ↓br_false, ↓br_not, boolK_bool, gdK_true, gdK_false, gdK_undef, pickK_bb, pickK_bool, fnK_fn, ev_t, ev_c, evv_t, evv_c, 
    evs_nil, evs_cons, av_v, lk_hit, lk_miss, lk_nil, projR_nil, projR_cons, projB_nil, projB_cons, pr1_v, pr1_none, pr1_lp, pr1_ls, pb1_v, pb1_none, pb1_nob, pb1_lp, binV_add, binV_sub, binV_mul, binV_eql, binV_neq, binV_lss, binV_leq, 
    binV_gtr, binV_geq, binV_seql, binV_sneq, binV_slss, binV_sleq, binV_sgtr, binV_sgeq, cellsOf_int, cellsOf_bool, cellsOf_str, cellsOf_agg, cellsOf_sl, cellsOf_nilsl, cellsOf_ptr, cellsOf_nilptr, cellsOf_fn, cellsOf_nilfn, place_lp, 
    ld_cell, ld_agg, putAt_lp, fadrV_lp, fadrV_ptr, fldV_agg, beqV_eq, beqV_ne, seqV_eq, seqV_ne, cellsEq_nil, cellsEq_cons, cellEq_int, cellEq_bool, cellEq_str, isnilV_eq, isnilV_ne, bnotV_bool, negV_int, lenV_str, lenV_sl, lenV_nilsl, 
    extV_tup, fillP_nil, fillP_cons, fillS_nil, fillS_cons, intOf_int, bnd_none, bnd_some, sstrV_str, idxV_str, strOf_str, mksV_int, nilcV_ptr, nilcV_lp, result, resOf, allSome, number, upd, List.map, List.length_cons, List.length_nil, 
    List.append_nil, List.nil_append, List.cons_append, List.getElem?_cons_zero, List.getElem?_cons_succ, List.drop_zero, List.drop_succ_cons, List.drop_nil, List.take_zero, List.take_succ_cons, List.take_nil, Option.bind_some, 
    Option.isNone_none, Option.isNone_some, Option.isSome_some, Nat.reduceAdd, Nat.reduceSub, Nat.reduceLeDiff, Nat.reduceLT, Nat.reduceEqDiff, Nat.zero_add, Nat.add_zero, Nat.le_refl, reduceIte, ne_eq, not_false_eq_true, and_self, true_and, 
    and_true, reduceCtorEq, cond_true, cond_false, stT_nil, st1_some, evG_load, evG_gd, same3_eq, same3_none, endT_cons, ha.len, Int.lt_irrefl, decide_false]
end

theorem RConn.set {σ : Store} {m : ConnM} {a : AV} {k : Nat} {s : SlotM} {text : List UInt8} (hk : m.slots[k]? = some s) {els : List (List AV)} (he : els = (sc m.slots).set k [int s.seq, .bool true, .str text]) (h : SlAt σ 3 a els)
    (ho : ∀ s ∈ m.slots, I64 s.seq ∧ LenOk s.text.length) (ht : LenOk text.length) : RS RSlot 3 σ (m.slots.set k ⟨s.seq, true, text⟩) a := by
  refine ⟨_, h, ?_⟩
  subst he
  have e : (sc m.slots).set k [int s.seq, .bool true, .str text] = (m.slots.set k ⟨s.seq, true, text⟩).map SlotM.cells := by
    rw [List.map_set]; rfl
  rw [e]
  refine All2.map (fun x hx => ?_)
  rcases List.mem_or_eq_of_mem_set hx with h1 | h1
  · exact ⟨rfl, ho x h1⟩
  · subst h1
    exact ⟨rfl, (ho s (List.mem_of_getElem? hk)).1, ht⟩

theorem l10Ready_eq (σ : Store) (m : ConnM) (a : AV) (seq : Int) (text : List UInt8) (ha : RS RSlot 3 σ m.slots a) (h6 : m.slots.length ≤ 1048576) (h2 : I64 m.next) (h3 : LenOk m.inp.length) (ht : LenOk text.length) :
    ∃ a' σ', EE X f_spec_l10Ready [.agg (cc5 m a), int seq, .str text] σ = some (.tup [.agg (cc5 m a'), int (readyM m seq text).2], σ') ∧ Pre σ σ' ∧ RS RSlot 3 σ' (readyM m seq text).1.slots a' := by
  have h4 : LenOk m.slots.length := by unfold LenOk; omega
  cases hf : fnd seq m.slots with
  | none =>
    have hl := fun kk : Out → S → Option (AV × Store) => specReady_none (X := X) σ m a ha h6 seq text kk hf
    refine ⟨a, σ, ?_, Fr.refl _ _, by simp only [readyM, hf]; exact ha⟩
    rw [EE, Ex_run C_spec_l10Ready rfl]
    simp (config := {contextual := true, implicitDefEqProofs := false}) only [
    ↓runK_seq, ↓runK_reg, ↓runK_draw0, ↓runK_drawT, ↓runK_block, ↓runK_cond, ↓runK_loop, ↓runK_skip, ↓runK_ret, ↓runK_exit, ↓seqK_norm, ↓seqK_ret, ↓seqK_exit, ↓blkK_norm, ↓blkK_ret, ↓blkK_exit, ↓lpK_norm, ↓lpK_ret, ↓lpK_exit, ↓regK_eq, 
    frK_eq, ↓opsK_op, ↓opsK_og, ↓opsK_nil, ↓nxtK_some, ↓nxtK_none, ↓opsT_op, ↓opsT_og, ↓opsT_nil, ↓nxtT_some, ↓nxtT_none, ↓endT_nil, ↓opK_mv, ↓opK_pick, ↓opK_load, ↓opK_store, ↓opK_bin, ↓opK_fadr, ↓opK_alloc, ↓opK_allocE, ↓opK_box, 
    ↓opK_boxE, ↓opK_iadr, ↓opK_fld, ↓opK_beq, ↓opK_seq, ↓opK_isnil, ↓opK_bnot, ↓opK_neg, ↓opK_len, ↓opK_ext, ↓opK_build, ↓opK_bsl, ↓opK_bslE, ↓opK_app, ↓opK_slc, ↓opK_sstr, ↓opK_idx, ↓opK_s2b, ↓opK_b2s, ↓opK_cvt, ↓opK_mks, ↓opK_nilc, 
    ↓opK_mkf, ↓opK_call, ↓opK_calld, ↓finK_ret, ↓finK_norm, th_some, th_none, ↓ch_br, ↓ch_true, ↓ch_false, ↓br_true, ↓br_false, ↓br_not, boolK_bool, gdK_true, gdK_false, gdK_undef, pickK_bb, pickK_bool, fnK_fn, ev_t, ev_c, evv_t, evv_c, 
    evs_nil, evs_cons, av_v, lk_hit, lk_miss, lk_nil, projR_nil, projR_cons, projB_nil, projB_cons, pr1_v, pr1_none, pr1_lp, pr1_ls, pb1_v, pb1_none, pb1_nob, pb1_lp, binV_add, binV_sub, binV_mul, binV_eql, binV_neq, binV_lss, binV_leq, 
    binV_gtr, binV_geq, binV_seql, binV_sneq, binV_slss, binV_sleq, binV_sgtr, binV_sgeq, cellsOf_int, cellsOf_bool, cellsOf_str, cellsOf_agg, cellsOf_sl, cellsOf_nilsl, cellsOf_ptr, cellsOf_nilptr, cellsOf_fn, cellsOf_nilfn, place_lp, 
    ld_cell, ld_agg, putAt_lp, fadrV_lp, fadrV_ptr, fldV_agg, beqV_eq, beqV_ne, seqV_eq, seqV_ne, cellsEq_nil, cellsEq_cons, cellEq_int, cellEq_bool, cellEq_str, isnilV_eq, isnilV_ne, bnotV_bool, negV_int, lenV_str, lenV_sl, lenV_nilsl, 
    extV_tup, fillP_nil, fillP_cons, fillS_nil, fillS_cons, intOf_int, bnd_none, bnd_some, sstrV_str, idxV_str, strOf_str, mksV_int, nilcV_ptr, nilcV_lp, result, resOf, allSome, number, upd, List.map, List.length_cons, List.length_nil, 
    List.append_nil, List.nil_append, List.cons_append, List.getElem?_cons_zero, List.getElem?_cons_succ, List.drop_zero, List.drop_succ_cons, List.drop_nil, List.take_zero, List.take_succ_cons, List.take_nil, Option.bind_some, 
    Option.isNone_none, Option.isNone_some, Option.isSome_some, Nat.reduceAdd, Nat.reduceSub, Nat.reduceLeDiff, Nat.reduceLT, Nat.reduceEqDiff, Nat.zero_add, Nat.add_zero, Nat.le_refl, reduceIte, ne_eq, not_false_eq_true, and_self, true_and, 
    and_true, reduceCtorEq, cond_true, cond_false, stT_nil, st1_some, evG_load, evG_gd, same3_eq, same3_none, endT_cons, c_spec_l10Ready, ha.cellsOf, hl, readyM, hf]
  | some k =>
    obtain ⟨⟨s, hs, hse⟩, hn⟩ := fnd_some hf
    have hlt := (List.getElem?_eq_some_iff.1 hs).1
    have hlt' : (k : Int) < (m.slots.length : Int) := by omega
    have h := fun kk : Out → S → Option (AV × Store) => specReady_skip (X := X) σ m a ha h6 seq text kk k 0 (by omega) (fun j s' hj h => hn j s' (by omega) h)
    simp only [Nat.zero_add] at h
    obtain ⟨cs, ⟨hp, _⟩, ha1, ha2, ha3, ha4⟩ := ha.get hs
    subst hp
    cases hr : s.ready with
    | true =>
      have hl : ∀ kk : Out → S → Option (AV × Store), loopK (EE X) [1, 2, 3, 6, 8] l_spec_l10Ready_0 ([(1, .v (int seq)), (2, .v (.str text)), (3, .lp 3 0), (6, .lp 6 0), (8, .v (int 0))], ⟨[(3, cc5 m a), (6, z5)], σ⟩) kk = kk .ret ([(6, .lp 6 0), (7, .v (int 12))], ⟨[(6, cc5 m a)], σ⟩) := by
        intro kk
        refine Eq.trans (h kk) ?_
        rw [loopK_step l_spec_l10Ready_0.eq_1]
        simp (config := {contextual := true, implicitDefEqProofs := false}) only [
    ↓runK_seq, ↓runK_reg, ↓runK_draw0, ↓runK_drawT, ↓runK_block, ↓runK_cond, ↓runK_loop, ↓runK_skip, ↓runK_ret, ↓runK_exit, ↓seqK_norm, ↓seqK_ret, ↓seqK_exit, ↓blkK_norm, ↓blkK_ret, ↓blkK_exit, ↓lpK_norm, ↓lpK_ret, ↓lpK_exit, ↓regK_eq, 
    frK_eq, ↓opsK_op, ↓opsK_og, ↓opsK_nil, ↓nxtK_some, ↓nxtK_none, ↓opsT_op, ↓opsT_og, ↓opsT_nil, ↓nxtT_some, ↓nxtT_none, ↓endT_nil, ↓opK_mv, ↓opK_pick, ↓opK_load, ↓opK_store, ↓opK_bin, ↓opK_fadr, ↓opK_alloc, ↓opK_allocE, ↓opK_box, 
    ↓opK_boxE, ↓opK_iadr, ↓opK_fld, ↓opK_beq, ↓opK_seq, ↓opK_isnil, ↓opK_bnot, ↓opK_neg, ↓opK_len, ↓opK_ext, ↓opK_build, ↓opK_bsl, ↓opK_bslE, ↓opK_app, ↓opK_slc, ↓opK_sstr, ↓opK_idx, ↓opK_s2b, ↓opK_b2s, ↓opK_cvt, ↓opK_mks, ↓opK_nilc, 
    ↓opK_mkf, ↓opK_call, ↓opK_calld, ↓finK_ret, ↓finK_norm, th_some, th_none, ↓ch_br, ↓ch_true, ↓ch_false, ↓br_true, ↓br_false, ↓br_not, boolK_bool, gdK_true, gdK_false, gdK_undef, pickK_bb, pickK_bool, fnK_fn, ev_t, ev_c, evv_t, evv_c, 
    evs_nil, evs_cons, av_v, lk_hit, lk_miss, lk_nil, projR_nil, projR_cons, projB_nil, projB_cons, pr1_v, pr1_none, pr1_lp, pr1_ls, pb1_v, pb1_none, pb1_nob, pb1_lp, binV_add, binV_sub, binV_mul, binV_eql, binV_neq, binV_lss, binV_leq, 
    binV_gtr, binV_geq, binV_seql, binV_sneq, binV_slss, binV_sleq, binV_sgtr, binV_sgeq, cellsOf_int, cellsOf_bool, cellsOf_str, cellsOf_agg, cellsOf_sl, cellsOf_nilsl, cellsOf_ptr, cellsOf_nilptr, cellsOf_fn, cellsOf_nilfn, place_lp, 
    ld_cell, ld_agg, putAt_lp, fadrV_lp, fadrV_ptr, fldV_agg, beqV_eq, beqV_ne, seqV_eq, seqV_ne, cellsEq_nil, cellsEq_cons, cellEq_int, cellEq_bool, cellEq_str, isnilV_eq, isnilV_ne, bnotV_bool, negV_int, lenV_str, lenV_sl, lenV_nilsl, 
    extV_tup, fillP_nil, fillP_cons, fillS_nil, fillS_cons, intOf_int, bnd_none, bnd_some, sstrV_str, idxV_str, strOf_str, mksV_int, nilcV_ptr, nilcV_lp, result, resOf, allSome, number, upd, List.map, List.length_cons, List.length_nil, 
    List.append_nil, List.nil_append, List.cons_append, List.getElem?_cons_zero, List.getElem?_cons_succ, List.drop_zero, List.drop_succ_cons, List.drop_nil, List.take_zero, List.take_succ_cons, List.take_nil, Option.bind_some, 
    Option.isNone_none, Option.isNone_some, Option.isSome_some, Nat.reduceAdd, Nat.reduceSub, Nat.reduceLeDiff, Nat.reduceLT, Nat.reduceEqDiff, Nat.zero_add, Nat.add_zero, Nat.le_refl, reduceIte, ne_eq, not_false_eq_true, and_self, true_and, 
    and_true, reduceCtorEq, cond_true, cond_false, stT_nil, st1_some, evG_load, evG_gd, same3_eq, same3_none, endT_cons, ha.len, hlt', decide_true, ha1, ha3, ha4, SlotM.cells, bne, hse, Bool.not_true, hr, ha.cellsOf]
      refine ⟨a, σ, ?_, Fr.refl _ _, by simp only [readyM, hf, hs, hr, if_true]; exact ha⟩
      rw [EE, Ex_run C_spec_l10Ready rfl]
      simp (config := {contextual := true, implicitDefEqProofs := false}) only [
    ↓runK_seq, ↓runK_reg, ↓runK_draw0, ↓runK_drawT, ↓runK_block, ↓runK_cond, ↓runK_loop, ↓runK_skip, ↓runK_ret, ↓runK_exit, ↓seqK_norm, ↓seqK_ret, ↓seqK_exit, ↓blkK_norm, ↓blkK_ret, ↓blkK_exit, ↓lpK_norm, ↓lpK_ret, ↓lpK_exit, ↓regK_eq, 
    frK_eq, ↓opsK_op, ↓opsK_og, ↓opsK_nil, ↓nxtK_some, ↓nxtK_none, ↓opsT_op, ↓opsT_og, ↓opsT_nil, ↓nxtT_some, ↓nxtT_none, ↓endT_nil, ↓opK_mv, ↓opK_pick, ↓opK_load, ↓opK_store, ↓opK_bin, ↓opK_fadr, ↓opK_alloc, ↓opK_allocE, ↓opK_box, 
    ↓opK_boxE, ↓opK_iadr, ↓opK_fld, ↓opK_beq, ↓opK_seq, ↓opK_isnil, ↓opK_bnot, ↓opK_neg, ↓opK_len, ↓opK_ext, ↓opK_build, ↓opK_bsl, ↓opK_bslE, ↓opK_app, ↓opK_slc, ↓opK_sstr, ↓opK_idx, ↓opK_s2b, ↓opK_b2s, ↓opK_cvt, ↓opK_mks, ↓opK_nilc, 
    ↓opK_mkf, ↓opK_call, ↓opK_calld, ↓finK_ret, ↓finK_norm, th_some, th_none, ↓ch_br, ↓ch_true, ↓ch_false, ↓br_true, ↓br_false, ↓br_not, boolK_bool, gdK_true, gdK_false, gdK_undef, pickK_bb, pickK_bool, fnK_fn, ev_t, ev_c, evv_t, evv_c, 
    evs_nil, evs_cons, av_v, lk_hit, lk_miss, lk_nil, projR_nil, projR_cons, projB_nil, projB_cons, pr1_v, pr1_none, pr1_lp, pr1_ls, pb1_v, pb1_none, pb1_nob, pb1_lp, binV_add, binV_sub, binV_mul, binV_eql, binV_neq, binV_lss, binV_leq, 
    binV_gtr, binV_geq, binV_seql, binV_sneq, binV_slss, binV_sleq, binV_sgtr, binV_sgeq, cellsOf_int, cellsOf_bool, cellsOf_str, cellsOf_agg, cellsOf_sl, cellsOf_nilsl, cellsOf_ptr, cellsOf_nilptr, cellsOf_fn, cellsOf_nilfn, place_lp, 
    ld_cell, ld_agg, putAt_lp, fadrV_lp, fadrV_ptr, fldV_agg, beqV_eq, beqV_ne, seqV_eq, seqV_ne, cellsEq_nil, cellsEq_cons, cellEq_int, cellEq_bool, cellEq_str, isnilV_eq, isnilV_ne, bnotV_bool, negV_int, lenV_str, lenV_sl, lenV_nilsl, 
    extV_tup, fillP_nil, fillP_cons, fillS_nil, fillS_cons, intOf_int, bnd_none, bnd_some, sstrV_str, idxV_str, strOf_str, mksV_int, nilcV_ptr, nilcV_lp, result, resOf, allSome, number, upd, List.map, List.length_cons, List.length_nil, 
    List.append_nil, List.nil_append, List.cons_append, List.getElem?_cons_zero, List.getElem?_cons_succ, List.drop_zero, List.drop_succ_cons, List.drop_nil, List.take_zero, List.take_succ_cons, List.take_nil, Option.bind_some, 
    Option.isNone_none, Option.isNone_some, Option.isSome_some, Nat.reduceAdd, Nat.reduceSub, Nat.reduceLeDiff, Nat.reduceLT, Nat.reduceEqDiff, Nat.zero_add, Nat.add_zero, Nat.le_refl, reduceIte, ne_eq, not_false_eq_true, and_self, true_and, 
    and_true, reduceCtorEq, cond_true, cond_false, stT_nil, st1_some, evG_load, evG_gd, same3_eq, same3_none, endT_cons, c_spec_l10Ready, ha.cellsOf, hl, readyM, hf, hs, hr, if_true]
    | false =>
      obtain ⟨cs1, ext, o1, o2, o3⟩ := l10Own_eq (X := X) σ m (cc5 m a) ⟨a, rfl, ha, h2, h3, h4⟩ h6
      obtain ⟨a', hc, ⟨ho, hk⟩, _⟩ := o3.self
      subst hc
      have hs' : (sc m.slots)[k]? = some [int s.seq, .bool s.ready, .str s.text] := by simp only [sc, List.getElem?_map, hs, Option.map_some]
      have hlt2 : k < (sc m.slots).length := by simpa [sc] using hlt
      obtain ⟨σ1, hp1, hs1, hk1, f1, _⟩ := put_fr ho.elsS hk hs' 1 [.bool true] (by simp)
      have hs1' : ((sc m.slots).set k (upd [int s.seq, .bool s.ready, .str s.text] 1 [.bool true]))[k]? = some [int s.seq, .bool true, .str s.text] := by rw [List.getElem?_set_self hlt2]; rfl
      obtain ⟨σ2, hp2, hs2, hk2, f2, _⟩ := put_fr hs1 hk1 hs1' 2 [.str text] (by simp)
      rw [List.set_set] at hs2
      have i1 := ho.elsS.iadr .i64 hlt2
      have q1 := fun o => ho.elsS.fadrQ hlt2 o
      have i2 := hs1.iadr .i64 (i := k) (by simpa using hlt2)
      have hl : ∀ kk : Out → S → Option (AV × Store), loopK (EE X) [1, 2, 3, 6, 8] l_spec_l10Ready_0 ([(1, .v (int seq)), (2, .v (.str text)), (3, .lp 3 0), (6, .lp 6 0), (8, .v (int 0))], ⟨[(3, cc5 m a), (6, z5)], σ⟩) kk = kk .ret ([(6, .lp 6 0), (7, .v (int 0))], ⟨[(6, cc5 m a')], σ2⟩) := by
        intro kk
        refine Eq.trans (h kk) ?_
        rw [loopK_step l_spec_l10Ready_0.eq_1]
        simp (config := {contextual := true, implicitDefEqProofs := false}) only [
    ↓runK_seq, ↓runK_reg, ↓runK_draw0, ↓runK_drawT, ↓runK_block, ↓runK_cond, ↓runK_loop, ↓runK_skip, ↓runK_ret, ↓runK_exit, ↓seqK_norm, ↓seqK_ret, ↓seqK_exit, ↓blkK_norm, ↓blkK_ret, ↓blkK_exit, ↓lpK_norm, ↓lpK_ret, ↓lpK_exit, ↓regK_eq, 
    frK_eq, ↓opsK_op, ↓opsK_og, ↓opsK_nil, ↓nxtK_some, ↓nxtK_none, ↓opsT_op, ↓opsT_og, ↓opsT_nil, ↓nxtT_some, ↓nxtT_none, ↓endT_nil, ↓opK_mv, ↓opK_pick, ↓opK_load, ↓opK_store, ↓opK_bin, ↓opK_fadr, ↓opK_alloc, ↓opK_allocE, ↓opK_box, 
    ↓opK_boxE, ↓opK_iadr, ↓opK_fld, ↓opK_beq, ↓opK_seq, ↓opK_isnil, ↓opK_bnot, ↓opK_neg, ↓opK_len, ↓opK_ext, ↓opK_build, ↓opK_bsl, ↓opK_bslE, ↓opK_app, ↓opK_slc, ↓opK_sstr, ↓opK_idx, ↓opK_s2b, ↓opK_b2s, ↓opK_cvt, ↓opK_mks, ↓opK_nilc, 
    ↓opK_mkf, ↓opK_call, ↓opK_calld, ↓finK_ret, ↓finK_norm, th_some, th_none, ↓ch_br, ↓ch_true, ↓ch_false, ↓br_true, ↓br_false, ↓br_not, boolK_bool, gdK_true, gdK_false, gdK_undef, pickK_bb, pickK_bool, fnK_fn, ev_t, ev_c, evv_t, evv_c, 
    evs_nil, evs_cons, av_v, lk_hit, lk_miss, lk_nil, projR_nil, projR_cons, projB_nil, projB_cons, pr1_v, pr1_none, pr1_lp, pr1_ls, pb1_v, pb1_none, pb1_nob, pb1_lp, binV_add, binV_sub, binV_mul, binV_eql, binV_neq, binV_lss, binV_leq, 
    binV_gtr, binV_geq, binV_seql, binV_sneq, binV_slss, binV_sleq, binV_sgtr, binV_sgeq, cellsOf_int, cellsOf_bool, cellsOf_str, cellsOf_agg, cellsOf_sl, cellsOf_nilsl, cellsOf_ptr, cellsOf_nilptr, cellsOf_fn, cellsOf_nilfn, place_lp, 
    ld_cell, ld_agg, putAt_lp, fadrV_lp, fadrV_ptr, fldV_agg, beqV_eq, beqV_ne, seqV_eq, seqV_ne, cellsEq_nil, cellsEq_cons, cellEq_int, cellEq_bool, cellEq_str, isnilV_eq, isnilV_ne, bnotV_bool, negV_int, lenV_str, lenV_sl, lenV_nilsl, 
    extV_tup, fillP_nil, fillP_cons, fillS_nil, fillS_cons, intOf_int, bnd_none, bnd_some, sstrV_str, idxV_str, strOf_str, mksV_int, nilcV_ptr, nilcV_lp, result, resOf, allSome, number, upd, List.map, List.length_cons, List.length_nil, 
    List.append_nil, List.nil_append, List.cons_append, List.getElem?_cons_zero, List.getElem?_cons_succ, List.drop_zero, List.drop_succ_cons, List.drop_nil, List.take_zero, List.take_succ_cons, List.take_nil, Option.bind_some, 
    Option.isNone_none, Option.isNone_some, Option.isSome_some, Nat.reduceAdd, Nat.reduceSub, Nat.reduceLeDiff, Nat.reduceLT, Nat.reduceEqDiff, Nat.zero_add, Nat.add_zero, Nat.le_refl, reduceIte, ne_eq, not_false_eq_true, and_self, true_and, 
    and_true, reduceCtorEq, cond_true, cond_false, stT_nil, st1_some, evG_load, evG_gd, same3_eq, same3_none, endT_cons, ha.len, hlt', decide_true, ha1, ha3, ha4, SlotM.cells, bne, hse, Bool.not_true, hr, ha.cellsOf, o1, ho.cellsOf, i1, q1, 
    hp1, i2, hp2]
      refine ⟨a', σ2, ?_, ?_, ?_⟩
      · rw [EE, Ex_run C_spec_l10Ready rfl]
        simp (config := {contextual := true, implicitDefEqProofs := false}) only [
    ↓runK_seq, ↓runK_reg, ↓runK_draw0, ↓runK_drawT, ↓runK_block, ↓runK_cond, ↓runK_loop, ↓runK_skip, ↓runK_ret, ↓runK_exit, ↓seqK_norm, ↓seqK_ret, ↓seqK_exit, ↓blkK_norm, ↓blkK_ret, ↓blkK_exit, ↓lpK_norm, ↓lpK_ret, ↓lpK_exit, ↓regK_eq, 
    frK_eq, ↓opsK_op, ↓opsK_og, ↓opsK_nil, ↓nxtK_some, ↓nxtK_none, ↓opsT_op, ↓opsT_og, ↓opsT_nil, ↓nxtT_some, ↓nxtT_none, ↓endT_nil, ↓opK_mv, ↓opK_pick, ↓opK_load, ↓opK_store, ↓opK_bin, ↓opK_fadr, ↓opK_alloc, ↓opK_allocE, ↓opK_box, 
    ↓opK_boxE, ↓opK_iadr, ↓opK_fld, ↓opK_beq, ↓opK_seq, ↓opK_isnil, ↓opK_bnot, ↓opK_neg, ↓opK_len, ↓opK_ext, ↓opK_build, ↓opK_bsl, ↓opK_bslE, ↓opK_app, ↓opK_slc, ↓opK_sstr, ↓opK_idx, ↓opK_s2b, ↓opK_b2s, ↓opK_cvt, ↓opK_mks, ↓opK_nilc, 
    ↓opK_mkf, ↓opK_call, ↓opK_calld, ↓finK_ret, ↓finK_norm, th_some, th_none, ↓ch_br, ↓ch_true, ↓ch_false, ↓br_true, ↓br_false, ↓br_not, boolK_bool, gdK_true, gdK_false, gdK_undef, pickK_bb, pickK_bool, fnK_fn, ev_t, ev_c, evv_t, evv_c, 
    evs_nil, evs_cons, av_v, lk_hit, lk_miss, lk_nil, projR_nil, projR_cons, projB_nil, projB_cons, pr1_v, pr1_none, pr1_lp, pr1_ls, pb1_v, pb1_none, pb1_nob, pb1_lp, binV_add, binV_sub, binV_mul, binV_eql, binV_neq, binV_lss, binV_leq, 
    binV_gtr, binV_geq, binV_seql, binV_sneq, binV_slss, binV_sleq, binV_sgtr, binV_sgeq, cellsOf_int, cellsOf_bool, cellsOf_str, cellsOf_agg, cellsOf_sl, cellsOf_nilsl, cellsOf_ptr, cellsOf_nilptr, cellsOf_fn, cellsOf_nilfn, place_lp, 
    ld_cell, ld_agg, putAt_lp, fadrV_lp, fadrV_ptr, fldV_agg, beqV_eq, beqV_ne, seqV_eq, seqV_ne, cellsEq_nil, cellsEq_cons, cellEq_int, cellEq_bool, cellEq_str, isnilV_eq, isnilV_ne, bnotV_bool, negV_int, lenV_str, lenV_sl, lenV_nilsl, 
    extV_tup, fillP_nil, fillP_cons, fillS_nil, fillS_cons, intOf_int, bnd_none, bnd_some, sstrV_str, idxV_str, strOf_str, mksV_int, nilcV_ptr, nilcV_lp, result, resOf, allSome, number, upd, List.map, List.length_cons, List.length_nil, 
    List.append_nil, List.nil_append, List.cons_append, List.getElem?_cons_zero, List.getElem?_cons_succ, List.drop_zero, List.drop_succ_cons, List.drop_nil, List.take_zero, List.take_succ_cons, List.take_nil, Option.bind_some, 
    Option.isNone_none, Option.isNone_some, Option.isSome_some, Nat.reduceAdd, Nat.reduceSub, Nat.reduceLeDiff, Nat.reduceLT, Nat.reduceEqDiff, Nat.zero_add, Nat.add_zero, Nat.le_refl, reduceIte, ne_eq, not_false_eq_true, and_self, true_and, 
    and_true, reduceCtorEq, cond_true, cond_false, stT_nil, st1_some, evG_load, evG_gd, same3_eq, same3_none, endT_cons, c_spec_l10Ready, ha.cellsOf, hl, readyM, hf, hs, hr, if_false, Bool.false_eq_true]
      · exact ((Pre.app σ ext).trans (f1.step f2) (fun r h h' => by have := h'.1; omega))
      · simp only [readyM, hf, hs, hr, if_false, Bool.false_eq_true]
        exact RConn.set hs rfl hs2 ha.slots_ok2 ht
end Go.X

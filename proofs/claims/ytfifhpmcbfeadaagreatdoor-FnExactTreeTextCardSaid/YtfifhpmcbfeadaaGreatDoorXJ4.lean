/- Trees as texts: the program, whole; the law of TreeText. -/
import Derived.Test.YtfifhpmcbfeadaaGreatDoorXJ3
set_option linter.unusedVariables false
set_option linter.unusedSimpArgs false
set_option maxRecDepth 20000
namespace Go.X
open Go Go.Lib
variable {X : Call}

set_option maxHeartbeats 4000000 in
theorem textI_all {τ : Store} {m : TreeM} {a : AV} (hX : ItoaX X ∧ JoinX X) (hT : RTree τ m [a, int m.root]) (hR : RightT m) (hs : m.size ≤ 1048576) (hI : ∀ nd ∈ m.nodes, I64 nd.n) : ∀ f, TextI X τ m a f := by
  intro f
  induction f with
  | zero => intro k r σ h; exact h.elim
  | succ f ih =>
    intro k r σ hdn hp hob hsum
    obtain ⟨h0, nd, hnd, hkids⟩ := hdn
    obtain ⟨c, rfl⟩ := Int.eq_ofNat_of_zero_le h0
    rw [Int.toNat_natCast] at hnd
    have hnd' : m.nodes[((c : Nat) : Int).toNat]? = some nd := hnd
    obtain ⟨an, ak, hrn, han, hak, hn⟩ := hT.node hnd
    have hsz := NodeM.size_le hnd hs
    simp only [NodeM.size] at hsz
    have hkl : nd.kids.length ≤ 1048576 := by omega
    have hsl := (hR.node c nd hnd).2.1
    have hin := hI nd (List.mem_of_getElem? hnd)
    simp only [sumB, nodeW, hnd'] at hsum
    have hsum' : (nd.kids.map (sumB costM m f)).sum ≤ 18000000 := by omega
    have hlens := lens_txM hR hI f nd.kids
    have hce := han.cellsOf
    have hck := hak.cellsOf
    rw [txM_node hnd', EE, Ex_run C_impl_Tree_text rfl, c_impl_Tree_text]
    refine Wp.seq fun K hK => ?_
    simp (config := {contextual := true, implicitDefEqProofs := false, maxSteps := 1000000}) only [
    ↓PR0, ↓PR1, ↓PR2, PO0, PO1, PO2, PO3, idxV_str, result, resOf, allSome, number, upd, List.map, Option.bind_some, Nat.reduceAdd, Nat.reduceSub, Nat.reduceLeDiff, Nat.reduceLT, Nat.reduceEqDiff, Nat.zero_add, Nat.add_zero, Nat.le_refl, 
    reduceIte, ne_eq, not_false_eq_true, and_self, true_and, and_true, reduceCtorEq, cond_true, cond_false]
    subst hK
    rw [seqK_norm]
    refine Wp.seq fun K hK => ?_
    have p1 := Pre.app σ [(⟨[[.ptr r 0 0 0]], 1, 0, .own⟩ : Row)]
    have hp1 := hp.pre p1
    have ob1 := hob.pre p1
    have b1 : ObjAt (σ ++ [(⟨[[.ptr r 0 0 0]], 1, 0, .own⟩ : Row)]) σ.length [.ptr r 0 0 0] := ObjAt.new σ [.ptr r 0 0 0]
    obtain ⟨n1, n2, n3, n4⟩ := hn _ hp1
    have pl1 := fun bx o => b1.place bx o
    have plr := fun bx o => ob1.place bx o
    have b2 := ObjAt.new (σ ++ [(⟨[[.ptr r 0 0 0]], 1, 0, .own⟩ : Row)]) [int 0, int 0, .str [], .nilsl, .nilsl]
    obtain ⟨σ3, x1, x2, x3, x4⟩ := b2.write 0 [int nd.kind, int nd.n, .str nd.text, an, ak] (by simp)
    simp only [List.length_cons, List.length_nil, Nat.zero_add, Nat.reduceAdd] at x1
    simp (config := {contextual := true, implicitDefEqProofs := false, maxSteps := 1000000}) only [
    ↓PR0, ↓PR1, ↓PR2, PO0, PO1, PO2, PO3, idxV_str, result, resOf, allSome, number, upd, List.map, Option.bind_some, Nat.reduceAdd, Nat.reduceSub, Nat.reduceLeDiff, Nat.reduceLT, Nat.reduceEqDiff, Nat.zero_add, Nat.add_zero, Nat.le_refl, 
    reduceIte, ne_eq, not_false_eq_true, and_self, true_and, and_true, reduceCtorEq, cond_true, cond_false, pl1, nilcV_ptr, plr, n1, n2, x1]
    subst hK
    rw [seqK_norm]
    have hl1 : (σ ++ [(⟨[[.ptr r 0 0 0]], 1, 0, .own⟩ : Row)]).length = σ.length + 1 := by simp
    have hob1 := hob.lt
    have u2 : upd [int 0, int 0, .str [], .nilsl, .nilsl] 0 [int nd.kind, int nd.n, .str nd.text, an, ak] = nc nd an ak := rfl
    rw [u2] at x2
    have pre3 : Pre σ σ3 := (p1.pre (Pre.app _ _)).trans x3 (fun x h1 h2 => by omega)
    have hp3 := hp.pre pre3
    have ob3 := hob.pre pre3
    have c1 : ObjAt σ3 σ.length [.ptr r 0 0 0] := (b1.pre (Pre.app _ _)).fr x3 (by omega)
    generalize (σ ++ [(⟨[[.ptr r 0 0 0]], 1, 0, .own⟩ : Row)]).length = q2 at x2 hl1 ⊢
    have q1 := fun bx o => c1.place bx o
    have q2p := fun bx o => x2.place bx o
    have hie := isExpr_eq (X := X) nd.kind σ3
    refine Wp.seq fun K hK => ?_
    refine Wp.seq fun K2 hK2 => ?_
    simp (config := {contextual := true, implicitDefEqProofs := false, maxSteps := 1000000}) only [
    ↓PR0, ↓PR1, ↓PR2, PO0, PO1, PO2, PO3, idxV_str, result, resOf, allSome, number, upd, List.map, Option.bind_some, Nat.reduceAdd, Nat.reduceSub, Nat.reduceLeDiff, Nat.reduceLT, Nat.reduceEqDiff, Nat.zero_add, Nat.add_zero, Nat.le_refl, 
    reduceIte, ne_eq, not_false_eq_true, and_self, true_and, and_true, reduceCtorEq, cond_true, cond_false, q1, q2p, hie]
    subst hK2
    rw [seqK_norm]
    refine Wp.cond (c := exprK nd.kind) rfl (fun hx => ?_) (fun hx => ?_)
    · have he := exprI (r := r) hX hR hI ih (by omega) hkl hin hsl hkids hsum hak han hp3 ob3 hx
      obtain ⟨⟨v, σ4⟩, e4, rfl, p4⟩ := he
      simp only [nc] at e4 q2p
      simp (config := {contextual := true, implicitDefEqProofs := false, maxSteps := 1000000}) only [
    ↓PR0, ↓PR1, ↓PR2, PO0, PO1, PO2, PO3, idxV_str, result, resOf, allSome, number, upd, List.map, Option.bind_some, Nat.reduceAdd, Nat.reduceSub, Nat.reduceLeDiff, Nat.reduceLT, Nat.reduceEqDiff, Nat.zero_add, Nat.add_zero, Nat.le_refl, 
    reduceIte, ne_eq, not_false_eq_true, and_self, true_and, and_true, reduceCtorEq, cond_true, cond_false, q1, q2p, e4]
      subst hK
      simp (config := {contextual := true, implicitDefEqProofs := false, maxSteps := 1000000}) only [
    ↓PR0, ↓PR1, ↓PR2, PO0, PO1, PO2, PO3, idxV_str, result, resOf, allSome, number, upd, List.map, Option.bind_some, Nat.reduceAdd, Nat.reduceSub, Nat.reduceLeDiff, Nat.reduceLT, Nat.reduceEqDiff, Nat.zero_add, Nat.add_zero, Nat.le_refl, 
    reduceIte, ne_eq, not_false_eq_true, and_self, true_and, and_true, reduceCtorEq, cond_true, cond_false]
      exact Wp.some ⟨rfl, pre3.pre p4⟩
    · rw [runK_skip]
      subst hK
      rw [seqK_norm]
      refine Wp.seq fun K hK => ?_
      simp (config := {contextual := true, implicitDefEqProofs := false, maxSteps := 1000000}) only [
    ↓PR0, ↓PR1, ↓PR2, PO0, PO1, PO2, PO3, idxV_str, result, resOf, allSome, number, upd, List.map, Option.bind_some, Nat.reduceAdd, Nat.reduceSub, Nat.reduceLeDiff, Nat.reduceLT, Nat.reduceEqDiff, Nat.zero_add, Nat.add_zero, Nat.le_refl, 
    reduceIte, ne_eq, not_false_eq_true, and_self, true_and, and_true, reduceCtorEq, cond_true, cond_false]
      subst hK
      rw [seqK_norm]
      have han3 := han.pre (RP.mono _ _) hp3
      have hjn := names_cost nd
      have tx := textsI (X := X) hX.2 hR hI ih (kids := nd.kids) (ak := ak) [32] (by decide) hkids hsum' hak hkl hp3 ob3
      obtain ⟨ks, hks⟩ : ∃ ks, ks = nd.kids.map (txM m f) := ⟨_, rfl⟩
      have hkn : ks.length = nd.kids.length := by rw [hks, List.length_map]
      have kidX : ∀ (i : Nat), i < nd.kids.length → ∀ σ', Pre σ3 σ' → ∃ σ'', EE X f_impl_Tree_text_1 [int i, .ptr σ.length 0 0 0, .ptr q2 0 0 0] σ' = some (.str (kd ks i), σ'') ∧ Pre σ' σ'' := by
        intro i hi σ' hpre
        obtain ⟨⟨v, σ''⟩, e, rfl, p⟩ := kidI ih hkids hsum' hak (hp3.pre hpre) (ob3.pre hpre) (c1.pre hpre) (x2.pre hpre) hi
        rw [← hks] at e
        exact ⟨σ'', e, p⟩
      have k0 := kidX 0
      have k1 := kidX 1
      have k2 := kidX 2
      simp only [Int.cast_ofNat_Int] at k0 k1 k2
      have q2q : ∀ σ', Pre σ3 σ' → ∀ bx o, place ⟨bx, σ'⟩ (.v (.ptr q2 0 0 o)) = some (nc nd an ak, o) := fun σ' h => (x2.pre h).place
      have hkl3 := fun σ' (h : Pre σ3 σ') => (hak.pre (RP.mono _ _) (hp3.pre h)).len
      rw [← hks] at tx hlens ⊢
      have bt : BdN nd.text 2 := .up 2 (by omega)
      have b0 : BdN (kd ks 0) 18 := .up 18 (by have := kd_le ks 0; omega)
      have b1 : BdN (kd ks 1) 18 := .up 18 (by have := kd_le ks 1; omega)
      have b2 : BdN (kd ks 2) 18 := .up 18 (by have := kd_le ks 2; omega)
      have bn : BdN (Lib.join nd.names [44, 32]) 18 := .up 18 (by omega)
      have js := join_len [32] ks
      simp only [List.length_cons, List.length_nil] at js
      have bs : BdN (Lib.join ks [32]) 22 := .up 22 (by omega)
      obtain ⟨kk, n, t, ns, kids⟩ := nd
      simp only [nc] at *
      have one := fun h => sorts_one (nd := ⟨kk, n, t, ns, kids⟩) h
      have two := fun h => sorts_two (nd := ⟨kk, n, t, ns, kids⟩) h
      have sif := fun h => sorts_if (nd := ⟨kk, n, t, ns, kids⟩) h
      simp only at one two sif
      have hk20 : kk = 11 ∨ kk = 12 ∨ kk = 13 ∨ kk = 14 ∨ kk = 15 ∨ kk = 16 ∨ kk = 17 ∨ kk = 18 ∨ kk = 19 ∨ kk = 20 := by
        have hok := (hR.node c _ hnd).1
        rcases kindCases kk with rfl | rfl | rfl | rfl | rfl | rfl | rfl | rfl | rfl | rfl | rfl | rfl | rfl | rfl | rfl | rfl | rfl | rfl | rfl | rfl | hk'
        all_goals first | omega | (exfalso; revert hx; decide) | skip
        exfalso
        obtain ⟨a1, a2, a3, a4, a5, a6, a7, a8, a9, a10, a11, a12, a13, a14, a15, a16, a17, a18, a19, a20⟩ := hk'.all
        simp only [beq_eq_false_iff_ne, ne_eq] at a1 a2 a3 a4 a5 a6 a7 a8 a9 a10 a11 a12 a13 a14 a15 a16 a17 a18 a19 a20
        simp [nodeOK, namedM, a1, a2, a3, a5, a6, a7, a10, a11, a12, a17, a20] at hok
        omega
      rcases hk20 with rfl | rfl | rfl | rfl | rfl | rfl | rfl | rfl | rfl | rfl
      · have hl1 := one (by decide)
        obtain ⟨σ4, e4, p4⟩ := k0 (by omega) σ3 (Fr.refl _ _)
        have q4 := q2q σ4 p4
        simp (config := {contextual := true, implicitDefEqProofs := false, maxSteps := 1000000}) only [
    ↓PR0, ↓PR1, ↓PR2, PO0, PO1, PO2, PO3, idxV_str, result, resOf, allSome, number, upd, List.map, Option.bind_some, Nat.reduceAdd, Nat.reduceSub, Nat.reduceLeDiff, Nat.reduceLT, Nat.reduceEqDiff, Nat.zero_add, Nat.add_zero, Nat.le_refl, 
    reduceIte, ne_eq, not_false_eq_true, and_self, true_and, and_true, reduceCtorEq, cond_true, cond_false, q1, q2p, Int.reduceBEq, evG_iadr, e4, q4, binV_catB]
        exact Wp.some ⟨by simp [nodeT], pre3.pre p4⟩
      · have hl1 := one (by decide)
        obtain ⟨σ4, e4, p4⟩ := k0 (by omega) σ3 (Fr.refl _ _)
        have q4 := q2q σ4 p4
        simp (config := {contextual := true, implicitDefEqProofs := false, maxSteps := 1000000}) only [
    ↓PR0, ↓PR1, ↓PR2, PO0, PO1, PO2, PO3, idxV_str, result, resOf, allSome, number, upd, List.map, Option.bind_some, Nat.reduceAdd, Nat.reduceSub, Nat.reduceLeDiff, Nat.reduceLT, Nat.reduceEqDiff, Nat.zero_add, Nat.add_zero, Nat.le_refl, 
    reduceIte, ne_eq, not_false_eq_true, and_self, true_and, and_true, reduceCtorEq, cond_true, cond_false, q1, q2p, Int.reduceBEq, evG_iadr, e4, q4, binV_catB]
        exact Wp.some ⟨by simp [nodeT], pre3.pre p4⟩
      · have hl := sif rfl
        by_cases h3 : kids.length = 3
        · obtain ⟨σ4, e4, p4⟩ := k0 (by omega) σ3 (Fr.refl _ _)
          have q4 := q2q σ4 p4
          obtain ⟨σ5, e5, p5⟩ := k1 (by omega) σ4 p4
          have q5 := q2q σ5 (p4.pre p5)
          obtain ⟨σ6, e6, p6⟩ := k2 (by omega) σ5 (p4.pre p5)
          have hkl5 := hkl3 σ5 (p4.pre p5)
          have e3 : ((kids.length : Int) == 3) = true := by rw [h3]; rfl
          simp (config := {contextual := true, implicitDefEqProofs := false, maxSteps := 1000000}) only [
    ↓PR0, ↓PR1, ↓PR2, PO0, PO1, PO2, PO3, idxV_str, result, resOf, allSome, number, upd, List.map, Option.bind_some, Nat.reduceAdd, Nat.reduceSub, Nat.reduceLeDiff, Nat.reduceLT, Nat.reduceEqDiff, Nat.zero_add, Nat.add_zero, Nat.le_refl, 
    reduceIte, ne_eq, not_false_eq_true, and_self, true_and, and_true, reduceCtorEq, cond_true, cond_false, q1, q2p, Int.reduceBEq, evG_iadr, e4, q4, e5, q5, binV_catB, hkl5, e3, e6]
          exact Wp.some ⟨by simp [nodeT, hkn, h3], pre3.pre ((p4.pre p5).pre p6)⟩
        · rw [if_neg h3] at hl
          obtain ⟨σ4, e4, p4⟩ := k0 (by omega) σ3 (Fr.refl _ _)
          have q4 := q2q σ4 p4
          obtain ⟨σ5, e5, p5⟩ := k1 (by omega) σ4 p4
          have q5 := q2q σ5 (p4.pre p5)
          have hkl5 := hkl3 σ5 (p4.pre p5)
          have e3 : ((kids.length : Int) == 3) = false := by rw [beq_eq_false_iff_ne]; omega
          simp (config := {contextual := true, implicitDefEqProofs := false, maxSteps := 1000000}) only [
    ↓PR0, ↓PR1, ↓PR2, PO0, PO1, PO2, PO3, idxV_str, result, resOf, allSome, number, upd, List.map, Option.bind_some, Nat.reduceAdd, Nat.reduceSub, Nat.reduceLeDiff, Nat.reduceLT, Nat.reduceEqDiff, Nat.zero_add, Nat.add_zero, Nat.le_refl, 
    reduceIte, ne_eq, not_false_eq_true, and_self, true_and, and_true, reduceCtorEq, cond_true, cond_false, q1, q2p, Int.reduceBEq, evG_iadr, e4, q4, e5, q5, binV_catB, hkl5, e3]
          exact Wp.some ⟨by simp [nodeT, hkn, h3], pre3.pre (p4.pre p5)⟩
      · have hl2 := two (by decide)
        obtain ⟨σ4, e4, p4⟩ := k0 (by omega) σ3 (Fr.refl _ _)
        have q4 := q2q σ4 p4
        obtain ⟨σ5, e5, p5⟩ := k1 (by omega) σ4 p4
        have q5 := q2q σ5 (p4.pre p5)
        simp (config := {contextual := true, implicitDefEqProofs := false, maxSteps := 1000000}) only [
    ↓PR0, ↓PR1, ↓PR2, PO0, PO1, PO2, PO3, idxV_str, result, resOf, allSome, number, upd, List.map, Option.bind_some, Nat.reduceAdd, Nat.reduceSub, Nat.reduceLeDiff, Nat.reduceLT, Nat.reduceEqDiff, Nat.zero_add, Nat.add_zero, Nat.le_refl, 
    reduceIte, ne_eq, not_false_eq_true, and_self, true_and, and_true, reduceCtorEq, cond_true, cond_false, q1, q2p, Int.reduceBEq, evG_iadr, e4, q4, e5, q5, binV_catB]
        exact Wp.some ⟨by simp [nodeT], pre3.pre (p4.pre p5)⟩
      · have hl1 := one (by decide)
        obtain ⟨σ4, e4, p4⟩ := k0 (by omega) σ3 (Fr.refl _ _)
        have q4 := q2q σ4 p4
        simp (config := {contextual := true, implicitDefEqProofs := false, maxSteps := 1000000}) only [
    ↓PR0, ↓PR1, ↓PR2, PO0, PO1, PO2, PO3, idxV_str, result, resOf, allSome, number, upd, List.map, Option.bind_some, Nat.reduceAdd, Nat.reduceSub, Nat.reduceLeDiff, Nat.reduceLT, Nat.reduceEqDiff, Nat.zero_add, Nat.add_zero, Nat.le_refl, 
    reduceIte, ne_eq, not_false_eq_true, and_self, true_and, and_true, reduceCtorEq, cond_true, cond_false, q1, q2p, Int.reduceBEq, evG_iadr, e4, q4, binV_catB]
        exact Wp.some ⟨by simp [nodeT], pre3.pre p4⟩
      · have hl1 := one (by decide)
        obtain ⟨σ4, e4, p4⟩ := k0 (by omega) σ3 (Fr.refl _ _)
        have q4 := q2q σ4 p4
        simp (config := {contextual := true, implicitDefEqProofs := false, maxSteps := 1000000}) only [
    ↓PR0, ↓PR1, ↓PR2, PO0, PO1, PO2, PO3, idxV_str, result, resOf, allSome, number, upd, List.map, Option.bind_some, Nat.reduceAdd, Nat.reduceSub, Nat.reduceLeDiff, Nat.reduceLT, Nat.reduceEqDiff, Nat.zero_add, Nat.add_zero, Nat.le_refl, 
    reduceIte, ne_eq, not_false_eq_true, and_self, true_and, and_true, reduceCtorEq, cond_true, cond_false, q1, q2p, Int.reduceBEq, evG_iadr, e4, q4, binV_catB]
        exact Wp.some ⟨by simp [nodeT], pre3.pre p4⟩
      · have hl2 := two (by decide)
        obtain ⟨σ4, e4, p4⟩ := k0 (by omega) σ3 (Fr.refl _ _)
        have q4 := q2q σ4 p4
        obtain ⟨σ5, e5, p5⟩ := k1 (by omega) σ4 p4
        have q5 := q2q σ5 (p4.pre p5)
        simp (config := {contextual := true, implicitDefEqProofs := false, maxSteps := 1000000}) only [
    ↓PR0, ↓PR1, ↓PR2, PO0, PO1, PO2, PO3, idxV_str, result, resOf, allSome, number, upd, List.map, Option.bind_some, Nat.reduceAdd, Nat.reduceSub, Nat.reduceLeDiff, Nat.reduceLT, Nat.reduceEqDiff, Nat.zero_add, Nat.add_zero, Nat.le_refl, 
    reduceIte, ne_eq, not_false_eq_true, and_self, true_and, and_true, reduceCtorEq, cond_true, cond_false, q1, q2p, Int.reduceBEq, evG_iadr, e4, q4, e5, q5, binV_catB]
        exact Wp.some ⟨by simp [nodeT], pre3.pre (p4.pre p5)⟩
      · have hkl5 := hkl3 σ3 (Fr.refl _ _)
        by_cases h0 : ks = []
        · have e0 : ((kids.length : Int) == 0) = true := by rw [← hkn, h0]; rfl
          simp (config := {contextual := true, implicitDefEqProofs := false, maxSteps := 1000000}) only [
    ↓PR0, ↓PR1, ↓PR2, PO0, PO1, PO2, PO3, idxV_str, result, resOf, allSome, number, upd, List.map, Option.bind_some, Nat.reduceAdd, Nat.reduceSub, Nat.reduceLeDiff, Nat.reduceLT, Nat.reduceEqDiff, Nat.zero_add, Nat.add_zero, Nat.le_refl, 
    reduceIte, ne_eq, not_false_eq_true, and_self, true_and, and_true, reduceCtorEq, cond_true, cond_false, q1, q2p, Int.reduceBEq, evG_iadr, hkl5, e0]
          exact Wp.some ⟨by simp [nodeT, h0], pre3⟩
        · have e0 : ((kids.length : Int) == 0) = false := by
            rw [beq_eq_false_iff_ne]; intro h; apply h0; exact List.eq_nil_of_length_eq_zero (by omega)
          obtain ⟨⟨v, σ4⟩, e4, rfl, p4⟩ := tx
          simp (config := {contextual := true, implicitDefEqProofs := false, maxSteps := 1000000}) only [
    ↓PR0, ↓PR1, ↓PR2, PO0, PO1, PO2, PO3, idxV_str, result, resOf, allSome, number, upd, List.map, Option.bind_some, Nat.reduceAdd, Nat.reduceSub, Nat.reduceLeDiff, Nat.reduceLT, Nat.reduceEqDiff, Nat.zero_add, Nat.add_zero, Nat.le_refl, 
    reduceIte, ne_eq, not_false_eq_true, and_self, true_and, and_true, reduceCtorEq, cond_true, cond_false, q1, q2p, Int.reduceBEq, evG_iadr, hkl5, e0, e4, binV_catB]
          exact Wp.some ⟨by simp [nodeT, h0], pre3.pre p4⟩
      · have hl1 := one (by decide)
        obtain ⟨σ4, e4, p4⟩ := k0 (by omega) σ3 (Fr.refl _ _)
        have q4 := q2q σ4 p4
        simp (config := {contextual := true, implicitDefEqProofs := false, maxSteps := 1000000}) only [
    ↓PR0, ↓PR1, ↓PR2, PO0, PO1, PO2, PO3, idxV_str, result, resOf, allSome, number, upd, List.map, Option.bind_some, Nat.reduceAdd, Nat.reduceSub, Nat.reduceLeDiff, Nat.reduceLT, Nat.reduceEqDiff, Nat.zero_add, Nat.add_zero, Nat.le_refl, 
    reduceIte, ne_eq, not_false_eq_true, and_self, true_and, and_true, reduceCtorEq, cond_true, cond_false, q1, q2p, Int.reduceBEq, evG_iadr, e4, q4, binV_catB]
        exact Wp.some ⟨by simp [nodeT], pre3.pre p4⟩
      · have hl1 := one (by decide)
        obtain ⟨σ4, e4, p4⟩ := k0 (by omega) σ3 (Fr.refl _ _)
        have q4 := q2q σ4 p4
        have hj := hX.2 σ3 ns an [44, 32] han3 (by omega) (by omega)
        simp (config := {contextual := true, implicitDefEqProofs := false, maxSteps := 1000000}) only [
    ↓PR0, ↓PR1, ↓PR2, PO0, PO1, PO2, PO3, idxV_str, result, resOf, allSome, number, upd, List.map, Option.bind_some, Nat.reduceAdd, Nat.reduceSub, Nat.reduceLeDiff, Nat.reduceLT, Nat.reduceEqDiff, Nat.zero_add, Nat.add_zero, Nat.le_refl, 
    reduceIte, ne_eq, not_false_eq_true, and_self, true_and, and_true, reduceCtorEq, cond_true, cond_false, q1, q2p, Int.reduceBEq, evG_iadr, e4, q4, binV_catB, hj]
        exact Wp.some ⟨by simp [nodeT], pre3.pre p4⟩

/-! ### Whole trees -/

def treeTx (m : TreeM) : List UInt8 × Int := if treeOK m = true then (Lib.join ((kidsM m m.root).map (txM m 199)) [32], 0) else ([], 1)
theorem cost_sum {m : TreeM} (hl : m.nodes.length ≤ 200) (hs : m.size ≤ 1048576) : (m.nodes.map costM).sum ≤ 18000000 := by
  have key : ∀ l : List NodeM, (l.map costM).sum ≤ 60 * l.length + 8 * sumS NodeM.size l := by
    intro l
    induction l with
    | nil => simp [sumS]
    | cons nd l ih =>
      have h3 : (nd.names.map (fun t => t.length + 2)).sum ≤ sumL nd.names + nd.names.length * 2 := by
        generalize nd.names = ns
        induction ns with
        | nil => simp [sumL]
        | cons t ns ih2 => simp only [List.map_cons, List.sum_cons, List.length_cons, sumL]; omega
      simp only [List.map_cons, List.sum_cons, List.length_cons, sumS, costM, NodeM.size]
      omega
  have := key m.nodes
  simp only [TreeM.size] at hs
  omega
theorem root_facts {m : TreeM} (h : treeOK m = true) (hs : m.size ≤ 1048576) : ∃ (c : Nat) (nd : NodeM), m.root = (c : Int) ∧ m.nodes[c]? = some nd ∧ kidsM m m.root = nd.kids ∧ (∀ k ∈ nd.kids, DownT m 199 k) ∧ (nd.kids.map (sumB costM m 199)).sum ≤ 18000000 := by
  have hR := treeOK_right h
  obtain ⟨h0, nd, h1, h2⟩ := hR.root
  obtain ⟨_, nd', e1, hd⟩ := hR.down
  rw [h1] at e1; cases e1
  have hsum := treeOK_sum costM h
  have hc := cost_sum hR.len hs
  have e200 : sumB costM m 200 m.root = nodeW costM m m.root.toNat + ((match m.nodes[m.root.toNat]? with | none => [] | some nd => nd.kids).map (sumB costM m 199)).sum := rfl
  rw [e200, h1] at hsum
  simp only at hsum
  exact ⟨m.root.toNat, nd, by omega, h1, by simp [kidsM, h1], hd, by omega⟩
theorem RTree.i64 {τ : Store} {m : TreeM} {a : AV} (hT : RTree τ m [a, int m.root]) : ∀ nd ∈ m.nodes, I64 nd.n := by
  intro nd hnd
  obtain ⟨i, hi⟩ := List.getElem?_of_mem hnd
  obtain ⟨an, ak, hrn, _⟩ := hT.node hi
  obtain ⟨_, _, _, _, _, h⟩ := hrn
  exact h.2.1
theorem specTreeText_loop {τ : Store} {m : TreeM} {a : AV} {q : Nat} (hT : RTree τ m [a, int m.root]) (ih : TextS X τ m a 199) {c : Nat} {nd : NodeM} (hc : m.root = (c : Int)) (hnd : m.nodes[c]? = some nd) (hd : ∀ k ∈ nd.kids, DownT m 199 k) (hsum : (nd.kids.map (sumB costM m 199)).sum ≤ 18000000) (hkl : nd.kids.length ≤ 1048576) (hq : τ.length ≤ q) {Q : AV × Store → Prop} {kk : Out → S → Option (AV × Store)} {σ : Store} :
    ∀ d i (σ1 : Store) (o : AV), i + d = nd.kids.length → Pre τ σ1 → OwR q σ1 1 (cX ((nd.kids.take i).map (txM m 199))) o → Fr (fun x => x = q) σ σ1 →
    (∀ o' σ2, OwR q σ2 1 (cX (nd.kids.map (txM m 199))) o' → Fr (fun x => x = q) σ σ2 → Wp (kk (.exit 0) ([(1, .lp 1 0), (4, .v o'), (5, .v (int nd.kids.length)), (19, .v (.bool false))], ⟨[(1, [a, int m.root])], σ2⟩)) Q) →
    Wp (loopK (EE X) [1, 4, 5] l_spec_TreeText_0 ([(1, .lp 1 0), (4, .v o), (5, .v (int i))], ⟨[(1, [a, int m.root])], σ1⟩) kk) Q := by
  obtain ⟨an, ak, hrn, han, hak, hn⟩ := hT.node hnd
  intro d
  induction d with
  | zero =>
    intro i σ1 o hi hp hw hf k
    have e : i = nd.kids.length := by omega
    subst e
    obtain ⟨n1, n2, n3, n4⟩ := hn σ1 hp
    rw [← hc] at n1
    have hlen := (hak.pre (RP.mono _ _) hp).len
    rw [List.take_length] at hw
    have := k o σ1 hw hf
    rw [loopK_step l_spec_TreeText_0.eq_1]
    simp (config := {contextual := true, implicitDefEqProofs := false, maxSteps := 1000000}) only [
    ↓PR0, ↓PR1, ↓PR2, PO0, PO1, PO2, PO3, idxV_str, result, resOf, allSome, number, upd, List.map, Option.bind_some, Nat.reduceAdd, Nat.reduceSub, Nat.reduceLeDiff, Nat.reduceLT, Nat.reduceEqDiff, Nat.zero_add, Nat.add_zero, Nat.le_refl, 
    reduceIte, ne_eq, not_false_eq_true, and_self, true_and, and_true, reduceCtorEq, cond_true, cond_false, n1, n2, n3, n4, hlen, Int.lt_irrefl, decide_false]
    exact this
  | succ d ihd =>
    intro i σ1 o hi hp hw hf k
    have hlt : i < nd.kids.length := by omega
    have hlt' : (i : Int) < (nd.kids.length : Int) := by omega
    have hwi : IntKind.i64.wrap ((i : Int) + 1) = ((i + 1 : Nat) : Int) := wrap64 (by omega) (by omega)
    obtain ⟨n1, n2, n3, n4⟩ := hn σ1 hp
    rw [← hc] at n1
    have hak1 := hak.pre (RP.mono _ _) hp
    have hlen := hak1.len
    obtain ⟨c1, ⟨hp', _⟩, ha1, ha2, _⟩ := hak1.get (List.getElem?_eq_getElem hlt)
    subst hp'
    have hmem := List.getElem_mem hlt
    have hle : sumB costM m 199 nd.kids[i] ≤ (nd.kids.map (sumB costM m 199)).sum := sum_mem [] hmem
    obtain ⟨⟨v, σ2⟩, e2, rfl, p2⟩ := ih nd.kids[i] σ1 (hd _ hmem) hp (by omega)
    have hw2 := hw.pre p2
    obtain ⟨o3, σ3, x1, x2, x3⟩ := hw2.app 16 [[.str (txM m 199 nd.kids[i])]] (by rw [cX_len]; simp only [List.length_map, List.length_take, List.length_cons, List.length_nil]; omega)
    have hel : ∀ M, elsOf M 1 (.ls [[.str (txM m 199 nd.kids[i])]]) = some [[.str (txM m 199 nd.kids[i])]] := fun _ => rfl
    have x2' : OwR q σ3 1 (cX ((nd.kids.take (i + 1)).map (txM m 199))) o3 := by
      rw [List.take_succ_eq_append_getElem hlt, List.map_append, cX_app]; exact x2
    have := ihd (i + 1) σ3 o3 (by omega) ((hp.pre p2).trans x3 (fun x h1 h2 => by omega)) x2' ((hf.pre p2).step x3) k
    rw [loopK_step l_spec_TreeText_0.eq_1]
    simp (config := {contextual := true, implicitDefEqProofs := false, maxSteps := 1000000}) only [
    ↓PR0, ↓PR1, ↓PR2, PO0, PO1, PO2, PO3, idxV_str, result, resOf, allSome, number, upd, List.map, Option.bind_some, Nat.reduceAdd, Nat.reduceSub, Nat.reduceLeDiff, Nat.reduceLT, Nat.reduceEqDiff, Nat.zero_add, Nat.add_zero, Nat.le_refl, 
    reduceIte, ne_eq, not_false_eq_true, and_self, true_and, and_true, reduceCtorEq, cond_true, cond_false, n1, n2, n3, n4, hlen, hlt', decide_true, ha1, ha2, e2, List.replicate_succ, List.replicate_zero, List.set_cons_zero, hel, x1, hwi]
    exact this
theorem specTreeText_eq (σ : Store) (m : TreeM) (cs : List AV) (h : RTree σ m cs) (hs : m.size ≤ 1048576) : Wp (EE X f_spec_TreeText [.agg cs] σ) (fun r => r.1 = .tup [.str (treeTx m).1, int (treeTx m).2] ∧ Pre σ r.2) := by
  obtain ⟨σ1, e1, p1⟩ := specTreeOK_eq (X := X) σ m cs h hs
  obtain ⟨a, rfl, ha, hr, hl⟩ := h
  have hT : RTree σ m [a, int m.root] := ⟨a, rfl, ha, hr, hl⟩
  rw [EE, Ex_run C_spec_TreeText rfl, c_spec_TreeText]
  cases hok : treeOK m with
  | false =>
    rw [hok] at e1
    simp (config := {contextual := true, implicitDefEqProofs := false, maxSteps := 1000000}) only [
    ↓PR0, ↓PR1, ↓PR2, PO0, PO1, PO2, PO3, idxV_str, result, resOf, allSome, number, upd, List.map, Option.bind_some, Nat.reduceAdd, Nat.reduceSub, Nat.reduceLeDiff, Nat.reduceLT, Nat.reduceEqDiff, Nat.zero_add, Nat.add_zero, Nat.le_refl, 
    reduceIte, ne_eq, not_false_eq_true, and_self, true_and, and_true, reduceCtorEq, cond_true, cond_false, e1, Bool.not_false]
    exact Wp.some ⟨by simp [treeTx, hok], p1⟩
  | true =>
    rw [hok] at e1
    obtain ⟨c, nd, hc, hnd, hk, hd, hsum⟩ := root_facts hok hs
    have hR := treeOK_right hok
    have hsz := NodeM.size_le hnd hs
    simp only [NodeM.size] at hsz
    have hkl : nd.kids.length ≤ 1048576 := by omega
    have ih := textS_all (X := X) hT hR hs hT.i64 199
    have hw : OwR σ1.length (σ1 ++ [⟨[], 1, 0, .own⟩]) 1 (cX []) (.sl σ1.length 0 0 0) := OwR.new σ1 (cX []) 1
    refine Wp.seq fun K hK => ?_
    simp (config := {contextual := true, implicitDefEqProofs := false, maxSteps := 1000000}) only [
    ↓PR0, ↓PR1, ↓PR2, PO0, PO1, PO2, PO3, idxV_str, result, resOf, allSome, number, upd, List.map, Option.bind_some, Nat.reduceAdd, Nat.reduceSub, Nat.reduceLeDiff, Nat.reduceLT, Nat.reduceEqDiff, Nat.zero_add, Nat.add_zero, Nat.le_refl, 
    reduceIte, ne_eq, not_false_eq_true, and_self, true_and, and_true, reduceCtorEq, cond_true, cond_false]
    subst hK
    rw [seqK_norm]
    refine Wp.seq fun K hK => ?_
    simp (config := {contextual := true, implicitDefEqProofs := false, maxSteps := 1000000}) only [
    ↓PR0, ↓PR1, ↓PR2, PO0, PO1, PO2, PO3, idxV_str, result, resOf, allSome, number, upd, List.map, Option.bind_some, Nat.reduceAdd, Nat.reduceSub, Nat.reduceLeDiff, Nat.reduceLT, Nat.reduceEqDiff, Nat.zero_add, Nat.add_zero, Nat.le_refl, 
    reduceIte, ne_eq, not_false_eq_true, and_self, true_and, and_true, reduceCtorEq, cond_true, cond_false, e1, Bool.not_true]
    subst hK
    rw [seqK_norm]
    refine Wp.seq fun K hK => ?_
    simp (config := {contextual := true, implicitDefEqProofs := false, maxSteps := 1000000}) only [
    ↓PR0, ↓PR1, ↓PR2, PO0, PO1, PO2, PO3, idxV_str, result, resOf, allSome, number, upd, List.map, Option.bind_some, Nat.reduceAdd, Nat.reduceSub, Nat.reduceLeDiff, Nat.reduceLT, Nat.reduceEqDiff, Nat.zero_add, Nat.add_zero, Nat.le_refl, 
    reduceIte, ne_eq, not_false_eq_true, and_self, true_and, and_true, reduceCtorEq, cond_true, cond_false, List.replicate_zero]
    subst hK
    rw [seqK_norm]
    refine Wp.seq fun K hK => ?_
    simp (config := {contextual := true, implicitDefEqProofs := false, maxSteps := 1000000}) only [
    ↓PR0, ↓PR1, ↓PR2, PO0, PO1, PO2, PO3, idxV_str, result, resOf, allSome, number, upd, List.map, Option.bind_some, Nat.reduceAdd, Nat.reduceSub, Nat.reduceLeDiff, Nat.reduceLT, Nat.reduceEqDiff, Nat.zero_add, Nat.add_zero, Nat.le_refl, 
    reduceIte, ne_eq, not_false_eq_true, and_self, true_and, and_true, reduceCtorEq, cond_true, cond_false]
    refine specTreeText_loop hT ih hc hnd hd hsum hkl p1.1 nd.kids.length 0 _ _ (by omega) (p1.pre (Pre.app _ _)) (by simpa using hw) (Fr.app (fun x => x = σ1.length) σ1 _) fun o' σ2 w2 f2 => ?_
    have hlens := lens_txM hR hT.i64 199 nd.kids
    have hj := join_len [32] (nd.kids.map (txM m 199))
    rw [List.length_map] at hj
    simp only [List.length_cons, List.length_nil] at hj
    have ej := l00JoinG (X := X) σ2 _ o' [32] (cX_rsT w2 (by omega)) (by rw [List.length_map]; omega) (by omega)
    rw [blkK_hit]
    subst hK
    simp (config := {contextual := true, implicitDefEqProofs := false, maxSteps := 1000000}) only [
    ↓PR0, ↓PR1, ↓PR2, PO0, PO1, PO2, PO3, idxV_str, result, resOf, allSome, number, upd, List.map, Option.bind_some, Nat.reduceAdd, Nat.reduceSub, Nat.reduceLeDiff, Nat.reduceLT, Nat.reduceEqDiff, Nat.zero_add, Nat.add_zero, Nat.le_refl, 
    reduceIte, ne_eq, not_false_eq_true, and_self, true_and, and_true, reduceCtorEq, cond_true, cond_false, ej]
    exact Wp.some ⟨by simp [treeTx, hok, hk], p1.pre (f2.weak (fun x h1 h2 => by have h3 : x = σ1.length := h2; omega))⟩
theorem implTreeText_eq (hX : RepX X ∧ ItoaX X ∧ JoinX X) (σ : Store) (m : TreeM) (cs : List AV) (h : RTree σ m cs) (hs : m.size ≤ 1048576) : Wp (EE X f_impl_TreeText [.agg cs] σ) (fun r => r.1 = .tup [.str (treeTx m).1, int (treeTx m).2] ∧ Pre σ r.2) := by
  obtain ⟨a, rfl, ha, hr, hl⟩ := h
  have hT : RTree σ m [a, int m.root] := ⟨a, rfl, ha, hr, hl⟩
  have p1 := Pre.app σ [(⟨[[a, int m.root]], 2, 0, .own⟩ : Row)]
  have hT1 := RTree.mono.pre hT p1
  have b1 : ObjAt (σ ++ [(⟨[[a, int m.root]], 2, 0, .own⟩ : Row)]) σ.length [a, int m.root] := ObjAt.new σ [a, int m.root]
  obtain ⟨σ2, e2, p2⟩ := implTreeOK_eq (X := X) hX.1 _ m _ hT1 hs
  have pl1 := fun bx o => b1.place bx o
  have b2 := b1.pre p2
  have pl2 := fun bx o => b2.place bx o
  rw [EE, Ex_run C_impl_TreeText rfl]
  cases hok : treeOK m with
  | false =>
    rw [hok] at e2
    simp (config := {contextual := true, implicitDefEqProofs := false, maxSteps := 1000000}) only [
    ↓PR0, ↓PR1, ↓PR2, PO0, PO1, PO2, PO3, idxV_str, result, resOf, allSome, number, upd, List.map, Option.bind_some, Nat.reduceAdd, Nat.reduceSub, Nat.reduceLeDiff, Nat.reduceLT, Nat.reduceEqDiff, Nat.zero_add, Nat.add_zero, Nat.le_refl, 
    reduceIte, ne_eq, not_false_eq_true, and_self, true_and, and_true, reduceCtorEq, cond_true, cond_false, c_impl_TreeText, pl1, e2, Bool.not_false]
    exact Wp.some ⟨by simp [treeTx, hok], p1.pre p2⟩
  | true =>
    rw [hok] at e2
    obtain ⟨c, nd, hc, hnd, hk, hd, hsum⟩ := root_facts hok hs
    have hR := treeOK_right hok
    have hsz := NodeM.size_le hnd hs
    simp only [NodeM.size] at hsz
    have hkl : nd.kids.length ≤ 1048576 := by omega
    have ih := textI_all (X := X) hX.2 hT hR hs hT.i64 199
    obtain ⟨an, ak, hrn, han, hak, hn⟩ := hT.node hnd
    obtain ⟨n1, n2, n3, n4⟩ := hn σ2 (p1.pre p2)
    rw [← hc] at n1
    obtain ⟨⟨v, σ3⟩, e3, rfl, p3⟩ := textsI (X := X) hX.2.2 hR hT.i64 ih (kids := nd.kids) (ak := ak) [32] (by decide) hd hsum hak hkl (p1.pre p2) b2
    simp (config := {contextual := true, implicitDefEqProofs := false, maxSteps := 1000000}) only [
    ↓PR0, ↓PR1, ↓PR2, PO0, PO1, PO2, PO3, idxV_str, result, resOf, allSome, number, upd, List.map, Option.bind_some, Nat.reduceAdd, Nat.reduceSub, Nat.reduceLeDiff, Nat.reduceLT, Nat.reduceEqDiff, Nat.zero_add, Nat.add_zero, Nat.le_refl, 
    reduceIte, ne_eq, not_false_eq_true, and_self, true_and, and_true, reduceCtorEq, cond_true, cond_false, c_impl_TreeText, pl1, e2, Bool.not_true, pl2, n1, n2, n3, n4, e3]
    exact Wp.some ⟨by simp [treeTx, hok, hk], (p1.pre p2).pre p3⟩
set_option maxHeartbeats 4000000 in
theorem law_TreeText (hX : RepX X ∧ ItoaX X ∧ JoinX X) {σ : Store} {m : TreeM} {cs : List AV} (h : RTree σ m cs) : ∃ σ', EE X f_laws_FnExactTreeText [.agg cs] σ = some (.bool true, σ') := by
  obtain ⟨w, z1, z2, z3⟩ := szTree_eq (X := X) σ m cs 1048576 h (by decide) (by decide)
  obtain ⟨a, hcs, ha0⟩ := h
  have h : RTree σ m cs := ⟨a, hcs, ha0⟩
  have c0 := ha0.1.cellsOf
  subst hcs
  by_cases hw : w < 0
  · refine ⟨σ, ?_⟩
    rw [EE, Ex_run C_laws_FnExactTreeText rfl]
    simp (config := {contextual := true, implicitDefEqProofs := false, maxSteps := 1000000}) only [
    ↓PR0, ↓PR1, ↓PR2, PO0, PO1, PO2, PO3, idxV_str, result, resOf, allSome, number, upd, List.map, Option.bind_some, Nat.reduceAdd, Nat.reduceSub, Nat.reduceLeDiff, Nat.reduceLT, Nat.reduceEqDiff, Nat.zero_add, Nat.add_zero, Nat.le_refl, 
    reduceIte, ne_eq, not_false_eq_true, and_self, true_and, and_true, reduceCtorEq, cond_true, cond_false, c_laws_FnExactTreeText, c0, z1, hw, decide_true]
  · have hs : m.size ≤ 1048576 := by rcases z3 with h | h <;> omega
    obtain ⟨c1, σ1, t1, tl1, tp1, to1⟩ := toTree_pre (X := X) σ m _ h hs
    obtain ⟨⟨v2, σ2⟩, s1, rfl, s2⟩ := specTreeText_eq (X := X) σ1 m c1 to1.r hs
    have h2 := RTree.mono.pre (RTree.mono.pre h tp1) s2
    obtain ⟨c2, σ3, t2, tl2, tp2, to2⟩ := toTree_pre (X := X) σ2 m _ h2 hs
    obtain ⟨⟨v4, σ4⟩, i1, rfl, i2⟩ := implTreeText_eq (X := X) hX σ3 m c2 to2.r hs
    have h4 := RTree.mono.pre h2 (tp2.pre i2)
    obtain ⟨c3, σ5, t3, tl3, tp3, to3⟩ := toTree_pre (X := X) σ4 m _ h4 hs
    have to5 : RTreeO σ2.length σ3.length σ5 m c2 := (to2.pre i2).pre tp3
    have q2 := eqTree_eq (X := X) σ5 m m c2 c3 to5.r to3.r
    rw [TreeM.refl] at q2
    refine ⟨σ5, ?_⟩
    rw [EE, Ex_run C_laws_FnExactTreeText rfl]
    simp (config := {contextual := true, implicitDefEqProofs := false, maxSteps := 1000000}) only [
    ↓PR0, ↓PR1, ↓PR2, PO0, PO1, PO2, PO3, idxV_str, result, resOf, allSome, number, upd, List.map, Option.bind_some, Nat.reduceAdd, Nat.reduceSub, Nat.reduceLeDiff, Nat.reduceLT, Nat.reduceEqDiff, Nat.zero_add, Nat.add_zero, Nat.le_refl, 
    reduceIte, ne_eq, not_false_eq_true, and_self, true_and, and_true, reduceCtorEq, cond_true, cond_false, c_laws_FnExactTreeText, c0, z1, hw, decide_false, t1, s1, t2, tl2, i1, Bool.not_true, bne_self_eq_false, ld_all tl2, t3, q2]
end Go.X

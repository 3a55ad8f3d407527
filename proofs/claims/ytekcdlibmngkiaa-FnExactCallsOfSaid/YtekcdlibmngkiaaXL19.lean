/- Trees: the law of CallsOf. -/
import Derived.Test.YtekcdlibmngkiaaXL18
import Derived.Test.YtekcdlibmngkiaaXM5
set_option linter.unusedVariables false
set_option linter.unusedSimpArgs false
set_option maxRecDepth 20000
namespace Go.X
open Go
variable {X : Call}

set_option maxHeartbeats 4000000 in
theorem law_CallsOf (hX : RepX X) (σ : Store) (m : TreeM) (cs : List AV) (k : Int) (h : RTree σ m cs) (hk : I64 k) : ∃ σ', EE X f_laws_FnExactCallsOf [.agg cs, int k] σ = some (.bool true, σ') := by
  obtain ⟨w, z1, z2, z3⟩ := szTree_eq (X := X) σ m cs 1048576 h (by decide) (by decide)
  obtain ⟨a, hcs, ha0⟩ := h
  have h : RTree σ m cs := ⟨a, hcs, ha0⟩
  have c0 := ha0.1.cellsOf
  subst hcs
  by_cases hw : w < 0
  · refine ⟨σ, ?_⟩
    rw [EE, Ex_run C_laws_FnExactCallsOf rfl]
    simp (config := {contextual := true, implicitDefEqProofs := false, maxSteps := 1000000}) only [
    ↓PR0, ↓PR1, ↓PR2, PO0, PO1, PO2, PO3, idxV_str, result, resOf, allSome, number, upd, List.map, Option.bind_some, Nat.reduceAdd, Nat.reduceSub, Nat.reduceLeDiff, Nat.reduceLT, Nat.reduceEqDiff, Nat.zero_add, Nat.add_zero, Nat.le_refl, 
    reduceIte, ne_eq, not_false_eq_true, and_self, true_and, and_true, reduceCtorEq, cond_true, cond_false, c_laws_FnExactCallsOf, c0, z1, hw, decide_true]
  · have hs : m.size ≤ 1048576 := by rcases z3 with h | h <;> omega
    obtain ⟨l, c, hl⟩ := callsR_all k hs
    have hll : l.length ≤ 1048576 := callsR_len hl
    -- the reference
    obtain ⟨c1, σ1, t1, tl1, tp1, to1⟩ := toTree_pre (X := X) σ m _ h hs
    obtain ⟨aw, σ2, s1, s2, s3⟩ := specCallsOf_eq (X := X) σ1 m c1 k hk l c hl to1.r hs
    have h2 := RTree.mono.pre (RTree.mono.pre h tp1) s2
    -- the program
    obtain ⟨c2, σ3, t2, tl2, tp2, to2⟩ := toTree_pre (X := X) σ2 m _ h2 hs
    obtain ⟨ag, σ4, i1, i2, i3⟩ := implCallsOf_eq (X := X) hX σ3 m c2 k hk l c hl to2.r hs
    have p24 : Pre σ2 σ4 := tp2.pre i2
    have h4 := RTree.mono.pre h2 p24
    have aw4 := s3.pre (RP.mono _ _) p24
    have q1 := eqStringS_eq' (X := X) σ4 l ag l aw i3.1 aw4 (by omega)
    have hll1 : (l == l) = true := by simp
    rw [hll1] at q1
    -- the argument
    obtain ⟨c3, σ5, t3, tl3, tp3, to3⟩ := toTree_pre (X := X) σ4 m _ h4 hs
    have to5 : RTreeO σ2.length σ3.length σ5 m c2 := (to2.pre i2).pre tp3
    have q2 := eqTree_eq (X := X) σ5 m m c2 c3 to5.r to3.r
    rw [TreeM.refl] at q2
    -- marks into the argument
    obtain ⟨σ6, k6, m1, m2⟩ := markTree_eq (X := X) σ5 m c2 σ2.length σ3.length to5 hs
    have f6 := Fr.same m2
    have p26 : Pre σ2 σ6 := (p24.pre tp3).trans f6 (fun r h1 h2 => by omega)
    have g6d := ((i3.depO).pre tp3).fr f6 (fun r _ h1 h2 => by omega)
    have g6 := g6d.self
    have aw6 := s3.pre (RP.mono _ _) p26
    have q3 := eqStringS_eq' (X := X) σ6 l ag l aw g6.1 aw6 (by omega)
    rw [hll1] at q3
    have hk6 : ¬ (((k6 : Nat) : Int) < 0) := by omega
    -- marks into the result
    obtain ⟨σ7, m3, m4, m5⟩ := markStringS_eq (X := X) σ6 l ag σ3.length σ4.length g6 (by omega) 1 (by omega)
    have f7 := Fr.same m5
    have p27 : Pre σ2 σ7 := p26.trans f7 (fun r h1 h2 => by have := tp2.1; omega)
    have e1 := heldStringS_eq (X := X) σ7 l.length 1 ag (by omega) m4.1
    -- once more
    have h7 := RTree.mono.pre h2 p27
    obtain ⟨c8, σ8, t8, tl8, tp8, to8⟩ := toTree_pre (X := X) σ7 m _ h7 hs
    obtain ⟨ah, σ9, j1, j2, j3⟩ := implCallsOf_eq (X := X) hX σ8 m c8 k hk l c hl to8.r hs
    have aw9 := s3.pre (RP.mono _ _) (p27.pre (tp8.pre j2))
    have q4 := eqStringS_eq' (X := X) σ9 l ah l aw j3.1 aw9 (by omega)
    rw [hll1] at q4
    have e2 := heldStringS_eq (X := X) σ9 l.length 1 ag (by omega) (m4.1.pre (RP.mono _ _) (tp8.pre j2))
    have cc2 : cellsOf (.agg c2) = some c2 := rfl
    have hpos : ¬ ((((1 + l.length : Nat) : Nat) : Int) < 0) := by omega
    simp only [Int.cast_ofNat_Int] at m3 e1 e2
    refine ⟨σ9, ?_⟩
    rw [EE, Ex_run C_laws_FnExactCallsOf rfl]
    simp (config := {contextual := true, implicitDefEqProofs := false, maxSteps := 1000000}) only [
    ↓PR0, ↓PR1, ↓PR2, PO0, PO1, PO2, PO3, idxV_str, result, resOf, allSome, number, upd, List.map, Option.bind_some, Nat.reduceAdd, Nat.reduceSub, Nat.reduceLeDiff, Nat.reduceLT, Nat.reduceEqDiff, Nat.zero_add, Nat.add_zero, Nat.le_refl, 
    reduceIte, ne_eq, not_false_eq_true, and_self, true_and, and_true, reduceCtorEq, cond_true, cond_false, c_laws_FnExactCallsOf, c0, z1, hw, decide_false, t1, s1, t2, tl2, i1, q1, Bool.not_true, bne_self_eq_false, ld_all tl2, t3, q2, m1, 
    hk6, q3, m3, e1, hpos, t8, j1, q4, e2]
theorem lawR_CallsOf (hX : RepX X) {σ : Store} {m : TreeM} {cs : List AV} {k : Int} {a : AV} (h : RTree σ m cs) (hk : RInt σ k [a]) : ∃ σ', EE X f_laws_FnExactCallsOf [.agg cs, a] σ = some (.bool true, σ') := by
  obtain ⟨e, hk⟩ := hk
  cases e
  exact law_CallsOf hX σ m cs k h hk
end Go.X

/- The law of FnTokens. -/
import Derived.Test.YtiiiciekknpoeaaGreatDoorXD20
import Derived.Test.YtiiiciekknpoeaaGreatDoorXG2
set_option linter.unusedVariables false
set_option linter.unusedSimpArgs false
set_option maxRecDepth 20000
namespace Go.X
open Go Go.Lib
variable {X : Call}

theorem sameTokens_loop {R : Type} (σ : Store) (l : List TokM) (a b : AV) (ha : RS RTok 3 σ l a) (hb : RS RTok 3 σ l b) (hl : l.length ≤ 1048576) : ∀ d i, i + d = l.length → ∀ kk : Out → S → Option R,
    loopK (EE X) [0, 1, 5] l_laws_sameTokens_0 ([(0, .v a), (1, .v b), (5, .v (int i))], ⟨[], σ⟩) kk = kk (.exit 0) ([(0, .v a), (1, .v b), (5, .v (int l.length)), (14, .v (.bool false))], ⟨[], σ⟩) := by
  intro d
  induction d with
  | zero =>
    intro i hi kk
    have e : i = l.length := by omega
    subst e
    have hlen := ha.len
    rw [loopK_step l_laws_sameTokens_0.eq_1]
    simp (config := {contextual := true, implicitDefEqProofs := false, maxSteps := 1000000}) only [
    ↓PR0, ↓PR1, ↓PR2, PO0, PO1, PO2, PO3, idxV_str, result, resOf, allSome, number, upd, List.map, Option.bind_some, Nat.reduceAdd, Nat.reduceSub, Nat.reduceLeDiff, Nat.reduceLT, Nat.reduceEqDiff, Nat.zero_add, Nat.add_zero, Nat.le_refl, 
    reduceIte, ne_eq, not_false_eq_true, and_self, true_and, and_true, reduceCtorEq, cond_true, cond_false, hlen, Int.lt_irrefl, decide_false]
  | succ d ih =>
    intro i hi kk
    have hlt : i < l.length := by omega
    have hlt' : (i : Int) < (l.length : Int) := by omega
    have hwi : IntKind.i64.wrap ((i : Int) + 1) = ((i + 1 : Nat) : Int) := wrap64 (by omega) (by omega)
    have hlen := ha.len
    obtain ⟨c1, ⟨hp1, _⟩, a1, a2, _⟩ := ha.get (List.getElem?_eq_getElem hlt)
    subst hp1
    obtain ⟨c2, ⟨hp2, _⟩, b1, b2, _⟩ := hb.get (List.getElem?_eq_getElem hlt)
    subst hp2
    rw [← ih (i + 1) (by omega) kk, loopK_step l_laws_sameTokens_0.eq_1]
    simp (config := {contextual := true, implicitDefEqProofs := false, maxSteps := 1000000}) only [
    ↓PR0, ↓PR1, ↓PR2, PO0, PO1, PO2, PO3, idxV_str, result, resOf, allSome, number, upd, List.map, Option.bind_some, Nat.reduceAdd, Nat.reduceSub, Nat.reduceLeDiff, Nat.reduceLT, Nat.reduceEqDiff, Nat.zero_add, Nat.add_zero, Nat.le_refl, 
    reduceIte, ne_eq, not_false_eq_true, and_self, true_and, and_true, reduceCtorEq, cond_true, cond_false, hlen, hlt', decide_true, a1, a2, b1, b2, beq_self_eq_true, Bool.and_self, Bool.not_true, hwi]
theorem sameTokens_eq (σ : Store) (l : List TokM) (a b : AV) (ha : RS RTok 3 σ l a) (hb : RS RTok 3 σ l b) (hl : l.length ≤ 1048576) : EE X f_laws_sameTokens [a, b] σ = some (.bool true, σ) := by
  have h1 := ha.len
  have h2 := hb.len
  have f := sameTokens_loop (X := X) (R := AV × Store) σ l a b ha hb hl l.length 0 (by omega)
  simp only [Int.cast_ofNat_Int] at f
  rw [EE, Ex_run C_laws_sameTokens rfl]
  simp (config := {contextual := true, implicitDefEqProofs := false, maxSteps := 1000000}) only [
    ↓PR0, ↓PR1, ↓PR2, PO0, PO1, PO2, PO3, idxV_str, result, resOf, allSome, number, upd, List.map, Option.bind_some, Nat.reduceAdd, Nat.reduceSub, Nat.reduceLeDiff, Nat.reduceLT, Nat.reduceEqDiff, Nat.zero_add, Nat.add_zero, Nat.le_refl, 
    reduceIte, ne_eq, not_false_eq_true, and_self, true_and, and_true, reduceCtorEq, cond_true, cond_false, c_laws_sameTokens, h1, h2, bne_self_eq_false, f]
theorem fnTokens_loop (hX : LibX X) {R : Type} (l l2 : List TokM) (a b : AV) (hk : KT l2 = KT l) (hr : l.Pairwise (fun a b => a.place < b.place)) (ht : l.all tB = true) (hsz : ∀ s ∈ l, s.text.length ≤ 1048576) (hl : l.length ≤ 300) : ∀ d i (σ : Store), i + d = l.length → RS RTok 3 σ l a → RS RTok 3 σ l2 b → ∃ σ', ∀ kk : Out → S → Option R,
    loopK (EE X) [4, 12, 15] l_laws_FnTokens_0 ([(4, .v a), (12, .v b), (15, .v (int i))], ⟨[], σ⟩) kk = kk (.exit 0) ([(4, .v a), (12, .v b), (15, .v (int l.length)), (84, .v (.bool false))], ⟨[], σ'⟩) := by
  have hl2 : l2.length = l.length := by have := congrArg List.length hk; simpa using this
  intro d
  induction d with
  | zero =>
    intro i σ hi ha hb
    have e : i = l.length := by omega
    subst e
    have hlen := ha.len
    refine ⟨σ, fun kk => ?_⟩
    rw [loopK_step l_laws_FnTokens_0.eq_1]
    simp (config := {contextual := true, implicitDefEqProofs := false, maxSteps := 1000000}) only [
    ↓PR0, ↓PR1, ↓PR2, PO0, PO1, PO2, PO3, idxV_str, result, resOf, allSome, number, upd, List.map, Option.bind_some, Nat.reduceAdd, Nat.reduceSub, Nat.reduceLeDiff, Nat.reduceLT, Nat.reduceEqDiff, Nat.zero_add, Nat.add_zero, Nat.le_refl, 
    reduceIte, ne_eq, not_false_eq_true, and_self, true_and, and_true, reduceCtorEq, cond_true, cond_false, hlen, Int.lt_irrefl, decide_false]
  | succ d ih =>
    intro i σ hi ha hb
    have hlt : i < l.length := by omega
    have hlt2 : i < l2.length := by omega
    have hlt' : (i : Int) < (l.length : Int) := by omega
    have hwi : IntKind.i64.wrap ((i : Int) + 1) = ((i + 1 : Nat) : Int) := wrap64 (by omega) (by omega)
    have hlen := ha.len
    have hkt : (l2[i].kind, l2[i].text) = (l[i].kind, l[i].text) := by
      have h1 := congrArg (fun x => x[i]?) hk
      simp only [List.getElem?_map, List.getElem?_eq_getElem hlt, List.getElem?_eq_getElem hlt2, Option.map_some, Option.some.injEq] at h1
      exact h1
    simp only [Prod.mk.injEq] at hkt
    have htb : tokB l[i].kind l[i].text = true := List.all_eq_true.1 ht _ (List.getElem_mem hlt)
    have hz := hsz _ (List.getElem_mem hlt)
    obtain ⟨c1, ⟨hp1, _⟩, a1, a2, _⟩ := ha.get (List.getElem?_eq_getElem hlt)
    subst hp1
    obtain ⟨σ1, t1, p1⟩ := implTokenText_eq hX l[i].kind l[i].place l[i].text hz σ
    have ha1 := ha.pre RTok.mono p1
    obtain ⟨c1, ⟨hp1, _⟩, d1, d2, _⟩ := ha1.get (List.getElem?_eq_getElem hlt)
    subst hp1
    obtain ⟨σ2, t2, p2⟩ := specTokenText_eq (X := X) l[i].kind l[i].place l[i].text hz σ1
    have ha2 := ha1.pre RTok.mono p2
    have hb2 := (hb.pre RTok.mono p1).pre RTok.mono p2
    obtain ⟨c1, ⟨hp1, _⟩, e1, e2, e3, e4⟩ := ha2.get (List.getElem?_eq_getElem hlt)
    subst hp1
    obtain ⟨c2, ⟨hp2, _⟩, g1, g2, g3, g4⟩ := hb2.get (List.getElem?_eq_getElem hlt2)
    subst hp2
    simp only [htb, if_true] at t1 t2
    obtain ⟨σ', f⟩ := ih (i + 1) σ2 (by omega) ha2 hb2
    refine ⟨σ', fun kk => ?_⟩
    rw [← f kk, loopK_step l_laws_FnTokens_0.eq_1]
    by_cases h0 : i = 0
    · subst h0
      have z1 : ¬ ((0 : Int) < ((0 : Nat) : Int)) := by decide
      simp (config := {contextual := true, implicitDefEqProofs := false, maxSteps := 1000000}) only [
    ↓PR0, ↓PR1, ↓PR2, PO0, PO1, PO2, PO3, idxV_str, result, resOf, allSome, number, upd, List.map, Option.bind_some, Nat.reduceAdd, Nat.reduceSub, Nat.reduceLeDiff, Nat.reduceLT, Nat.reduceEqDiff, Nat.zero_add, Nat.add_zero, Nat.le_refl, 
    reduceIte, ne_eq, not_false_eq_true, and_self, true_and, and_true, reduceCtorEq, cond_true, cond_false, hlen, hlt', decide_true, a1, a2, t1, d1, d2, t2, e1, e2, e3, e4, g1, g2, g3, g4, hkt.1, hkt.2, bne_self_eq_false, z1, decide_false, 
    hwi]
    · obtain ⟨j, rfl⟩ : ∃ j, i = j + 1 := ⟨i - 1, by omega⟩
      have hj : j < l.length := by omega
      have z1 : (0 : Int) < ((j + 1 : Nat) : Int) := by omega
      have hwj : IntKind.i64.wrap (((j + 1 : Nat) : Int) - 1) = (j : Int) := by rw [wrap64 (by omega) (by omega)]; omega
      obtain ⟨c3, ⟨hp3, _⟩, k1, k2, k3, k4⟩ := ha2.get (List.getElem?_eq_getElem hj)
      subst hp3
      have hlt3 : ¬ (l[j + 1].place ≤ l[j].place) := by
        have := (List.pairwise_iff_getElem.1 hr) j (j + 1) hj hlt (by omega)
        omega
      simp (config := {contextual := true, implicitDefEqProofs := false, maxSteps := 1000000}) only [
    ↓PR0, ↓PR1, ↓PR2, PO0, PO1, PO2, PO3, idxV_str, result, resOf, allSome, number, upd, List.map, Option.bind_some, Nat.reduceAdd, Nat.reduceSub, Nat.reduceLeDiff, Nat.reduceLT, Nat.reduceEqDiff, Nat.zero_add, Nat.add_zero, Nat.le_refl, 
    reduceIte, ne_eq, not_false_eq_true, and_self, true_and, and_true, reduceCtorEq, cond_true, cond_false, hlen, hlt', decide_true, a1, a2, t1, d1, d2, t2, e1, e2, e3, e4, g1, g2, g3, g4, k1, k2, k3, k4, hkt.1, hkt.2, bne_self_eq_false, z1, 
    hwj, hlt3, decide_false, hwi]
set_option maxHeartbeats 1000000 in
theorem law_Tokens (hX : LibX X ∧ JoinX X) (σ : Store) (bytes : List UInt8) (a : AV) (ha : RS RByte 1 σ bytes a) : ∃ σ', EE X f_laws_FnTokens [a] σ = some (.bool true, σ') := by
  have h0 := ha.len
  by_cases hbig : 1048576 < bytes.length
  · have hbig' : (1048576 : Int) < (bytes.length : Int) := by omega
    refine ⟨σ, ?_⟩
    rw [EE, Ex_run C_laws_FnTokens rfl]
    simp (config := {contextual := true, implicitDefEqProofs := false, maxSteps := 1000000}) only [
    ↓PR0, ↓PR1, ↓PR2, PO0, PO1, PO2, PO3, idxV_str, result, resOf, allSome, number, upd, List.map, Option.bind_some, Nat.reduceAdd, Nat.reduceSub, Nat.reduceLeDiff, Nat.reduceLT, Nat.reduceEqDiff, Nat.zero_add, Nat.add_zero, Nat.le_refl, 
    reduceIte, ne_eq, not_false_eq_true, and_self, true_and, and_true, reduceCtorEq, cond_true, cond_false, c_laws_FnTokens, h0, hbig', decide_true]
  · have hbig' : ¬ (1048576 : Int) < (bytes.length : Int) := by omega
    obtain ⟨t, σ1, e1, b1, p1⟩ := anySource_eq (X := X) σ a bytes ha (by omega)
    obtain ⟨a2, σ2, e2, p2, r2⟩ := implLexSource_eq hX.1 t (by omega) σ1
    obtain ⟨a3, σ3, e3, p3, r3, n3⟩ := specLexSource_eq (X := X) t (by omega) σ2
    have r2' := r2.1.pre RTok.mono p3
    have q := sameTokens_eq (X := X) σ3 (lexS t).1 a2 a3 r2' r3.1 (by omega)
    have l2 := r2'.len
    obtain ⟨rd, rn⟩ := lexS_read t
    by_cases hc : (lexS t).2.2 = 0
    · obtain ⟨d1, d2, d3, d4⟩ := rd hc
      obtain ⟨σ4, e4, p4⟩ := implJoinTokens_eq hX σ3 (lexS t).1 a2 r2' (by omega) (fun s hs => by have := d4 s hs; omega)
      have ej : joinM (lexS t).1 = (Lib.join ((lexS t).1.map tW) [32], 0) := by
        unfold joinM
        rw [if_neg (by omega), if_neg (by omega), if_pos d2]
      rw [ej] at e4
      have z0 : ((0 : Int) != 0) = false := by decide
      by_cases h6 : (Lib.join ((lexS t).1.map tW) [32]).length ≤ 600
      · have h6' : ¬ (600 : Int) < ((Lib.join ((lexS t).1.map tW) [32]).length : Int) := by omega
        obtain ⟨a5, σ5, e5, p5, r5⟩ := implLexSource_eq hX.1 (Lib.join ((lexS t).1.map tW) [32]) (by omega) σ4
        obtain ⟨j1, j2⟩ := lexS_joined (lexS t).1 d2 d3 h6
        have r25 := (r2'.pre RTok.mono p4).pre RTok.mono p5
        obtain ⟨σ6, f6⟩ := fnTokens_loop hX.1 (R := AV × Store) (lexS t).1 _ a2 a5 j2 d1 d2 (fun s hs => by have := d4 s hs; omega) d3 _ 0 σ5 (by simp; rfl) r25 r5.1
        have l5 := r5.1.len
        have l25 := r25.len
        have ll : (lexS (Lib.join ((lexS t).1.map tW) [32])).1.length = (lexS t).1.length := by have := congrArg List.length j2; simpa using this
        rw [ll] at l5
        rw [j1] at e5
        rw [hc] at e2 e3
        simp only [Int.cast_ofNat_Int] at f6
        refine ⟨σ6, ?_⟩
        rw [EE, Ex_run C_laws_FnTokens rfl]
        simp (config := {contextual := true, implicitDefEqProofs := false, maxSteps := 1000000}) only [
    ↓PR0, ↓PR1, ↓PR2, PO0, PO1, PO2, PO3, idxV_str, result, resOf, allSome, number, upd, List.map, Option.bind_some, Nat.reduceAdd, Nat.reduceSub, Nat.reduceLeDiff, Nat.reduceLT, Nat.reduceEqDiff, Nat.zero_add, Nat.add_zero, Nat.le_refl, 
    reduceIte, ne_eq, not_false_eq_true, and_self, true_and, and_true, reduceCtorEq, cond_true, cond_false, c_laws_FnTokens, h0, hbig', decide_false, e1, e2, e3, bne_self_eq_false, q, Bool.not_true, z0, e4, h6', e5, l5, l25, f6]
      · have h6' : (600 : Int) < ((Lib.join ((lexS t).1.map tW) [32]).length : Int) := by omega
        rw [hc] at e2 e3
        refine ⟨σ4, ?_⟩
        rw [EE, Ex_run C_laws_FnTokens rfl]
        simp (config := {contextual := true, implicitDefEqProofs := false, maxSteps := 1000000}) only [
    ↓PR0, ↓PR1, ↓PR2, PO0, PO1, PO2, PO3, idxV_str, result, resOf, allSome, number, upd, List.map, Option.bind_some, Nat.reduceAdd, Nat.reduceSub, Nat.reduceLeDiff, Nat.reduceLT, Nat.reduceEqDiff, Nat.zero_add, Nat.add_zero, Nat.le_refl, 
    reduceIte, ne_eq, not_false_eq_true, and_self, true_and, and_true, reduceCtorEq, cond_true, cond_false, c_laws_FnTokens, h0, hbig', decide_false, decide_true, e1, e2, e3, bne_self_eq_false, q, Bool.not_true, z0, e4, h6']
    · have hc' : ((lexS t).2.2 != 0) = true := by simpa using hc
      have hn := rn hc
      rw [hn] at l2
      simp only [List.length_nil, Int.cast_ofNat_Int] at l2
      refine ⟨σ3, ?_⟩
      rw [EE, Ex_run C_laws_FnTokens rfl]
      simp (config := {contextual := true, implicitDefEqProofs := false, maxSteps := 1000000}) only [
    ↓PR0, ↓PR1, ↓PR2, PO0, PO1, PO2, PO3, idxV_str, result, resOf, allSome, number, upd, List.map, Option.bind_some, Nat.reduceAdd, Nat.reduceSub, Nat.reduceLeDiff, Nat.reduceLT, Nat.reduceEqDiff, Nat.zero_add, Nat.add_zero, Nat.le_refl, 
    reduceIte, ne_eq, not_false_eq_true, and_self, true_and, and_true, reduceCtorEq, cond_true, cond_false, c_laws_FnTokens, h0, hbig', decide_false, e1, e2, e3, bne_self_eq_false, q, Bool.not_true, hc', l2, beq_self_eq_true]
theorem lawR_Tokens (hX : LibX X ∧ JoinX X) {σ : Store} {l : List UInt8} {a : AV} (h : RL RByte 1 σ l [a]) : ∃ σ', EE X f_laws_FnTokens [a] σ = some (.bool true, σ') := by
  obtain ⟨a', e, h, hln⟩ := h
  cases e
  exact law_Tokens hX σ l a h
end Go.X

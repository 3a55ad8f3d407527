/- Drawn programs: whole ones. -/
import Derived.Test.YtiiiciekknpoeaaGreatDoorXG1
import Derived.Test.YtiiiciekknpoeaaGreatDoorXD3
import Derived.Test.YtiiiciekknpoeaaGreatDoorY6
set_option linter.unusedVariables false
set_option linter.unusedSimpArgs false
set_option maxRecDepth 20000
namespace Go.X
open Go Go.Lib
variable {X : Call}

theorem TX.base {o : Option (AV × Store)} {σ σ' : Store} {p N B : Nat} (h : Fr (fun q => q = p) σ σ') (k : TX o σ' p N B) : TX o σ p N B := by
  obtain ⟨r, e, t, h1, h2, h3, h4⟩ := k
  exact ⟨r, e, t, h1, h2, h3, h.step h4⟩
theorem prog_loop {a : AV} {p : Nat} {σ : Store} (hn : Nms σ p a) {Q : AV × Store → Prop} {kk : Out → S → Option (AV × Store)} : ∀ (n : Nat), n ≤ 3 → ∀ (σ1 : Store) (M : Nat) (out : List UInt8), out.length ≤ (3 - n) * 3001 + 500 → Src σ1 p M → M + n * 3000 ≤ 400000 → Fr (fun q => q = p) σ σ1 →
    (∀ out' σ2, out'.length ≤ 9503 → BdN out' 1 → Src σ2 p (M + n * 3000) → Fr (fun q => q = p) σ σ2 → Wp (kk (.exit 0) ([(0, .v (.ptr p 0 0 0)), (3, .v (.str out')), (4, .v a), (5, .v (int 0)), (15, .v (.bool false))], ⟨[], σ2⟩)) Q) →
    Wp (loopK (EE X) [0, 3, 4, 5] l_spec_l00Src_program_0 ([(0, .v (.ptr p 0 0 0)), (3, .v (.str out)), (4, .v a), (5, .v (int n))], ⟨[], σ1⟩) kk) Q := by
  intro n
  induction n with
  | zero =>
    intro _ σ1 M out ho hs hM hf k
    have := k out σ1 (by omega) (.of (by omega)) (hs.more (by omega)) hf
    rw [loopK_step l_spec_l00Src_program_0.eq_1]
    simp (config := {contextual := true, implicitDefEqProofs := false, maxSteps := 1000000}) only [
    ↓PR0, ↓PR1, ↓PR2, PO0, PO1, PO2, PO3, idxV_str, result, resOf, allSome, number, upd, List.map, Option.bind_some, Nat.reduceAdd, Nat.reduceSub, Nat.reduceLeDiff, Nat.reduceLT, Nat.reduceEqDiff, Nat.zero_add, Nat.add_zero, Nat.le_refl, 
    reduceIte, ne_eq, not_false_eq_true, and_self, true_and, and_true, reduceCtorEq, cond_true, cond_false, Int.cast_ofNat_Int, Int.lt_irrefl, decide_false]
    exact this
  | succ n ih =>
    intro hn2 σ1 M out ho hs hM hf k
    have hpos : (0 : Int) < ((n + 1 : Nat) : Int) := by omega
    have hw : IntKind.i64.wrap (((n + 1 : Nat) : Int) - 1) = (n : Int) := by rw [wrap64 (by omega) (by omega)]; omega
    rw [loopK_step l_spec_l00Src_program_0.eq_1]
    simp (config := {contextual := true, implicitDefEqProofs := false, maxSteps := 1000000}) only [
    ↓PR0, ↓PR1, ↓PR2, PO0, PO1, PO2, PO3, idxV_str, result, resOf, allSome, number, upd, List.map, Option.bind_some, Nat.reduceAdd, Nat.reduceSub, Nat.reduceLeDiff, Nat.reduceLT, Nat.reduceEqDiff, Nat.zero_add, Nat.add_zero, Nat.le_refl, 
    reduceIte, ne_eq, not_false_eq_true, and_self, true_and, and_true, reduceCtorEq, cond_true, cond_false, hpos, decide_true]
    have ho' : out.length ≤ 1000000 := by omega
    refine (stateText_eq (X := X) 2 (by decide) σ1 M (hn.fr hf) hs (by omega)).step (by decide) hf fun t σ2 b2 _ s2 f2 => ?_
    have b2' : t.length ≤ 3000 := Nat.le_trans b2 (by decide)
    have c3 : sC 2 ≤ 3000 := by decide
    have s2' : Src σ2 p (M + 3000) := s2.more (by omega)
    have := BdN.of ho'
    simp (config := {contextual := true, implicitDefEqProofs := false, maxSteps := 1000000}) only [
    ↓PR0, ↓PR1, ↓PR2, PO0, PO1, PO2, PO3, idxV_str, result, resOf, allSome, number, upd, List.map, Option.bind_some, Nat.reduceAdd, Nat.reduceSub, Nat.reduceLeDiff, Nat.reduceLT, Nat.reduceEqDiff, Nat.zero_add, Nat.add_zero, Nat.le_refl, 
    reduceIte, ne_eq, not_false_eq_true, and_self, true_and, and_true, reduceCtorEq, cond_true, cond_false, binV_catB, hw]
    refine ih (by omega) σ2 _ _ ?_ s2' (by omega) f2 fun out' σ3 h1 h2 h3 h4 => k out' σ3 h1 h2 (h3.more (by omega)) h4
    simp only [List.length_append, List.length_cons, List.length_nil]
    omega
theorem program_eq (σ : Store) (p N : Nat) (hs : Src σ p N) (hN : N ≤ 300000) : TX (EE X f_spec_l00Src_program [.ptr p 0 0 0] σ) σ p (N + 10000) 10000 := by
  rw [EE, Ex_run C_spec_l00Src_program rfl]
  simp (config := {contextual := true, implicitDefEqProofs := false, maxSteps := 1000000}) only [
    ↓PR0, ↓PR1, ↓PR2, PO0, PO1, PO2, PO3, idxV_str, result, resOf, allSome, number, upd, List.map, Option.bind_some, Nat.reduceAdd, Nat.reduceSub, Nat.reduceLeDiff, Nat.reduceLT, Nat.reduceEqDiff, Nat.zero_add, Nat.add_zero, Nat.le_refl, 
    reduceIte, ne_eq, not_false_eq_true, and_self, true_and, and_true, reduceCtorEq, cond_true, cond_false, c_spec_l00Src_program, List.replicate_succ, List.replicate_zero, List.set_cons_zero, List.set_cons_succ]
  refine pickS 5 50 hs (by omega) (Fr.refl _ _) (by decide) (by decide) rfl (by decide) (by decide) fun t σ1 b1 _ s1 f1 => ?_
  simp (config := {contextual := true, implicitDefEqProofs := false, maxSteps := 1000000}) only [
    ↓PR0, ↓PR1, ↓PR2, PO0, PO1, PO2, PO3, idxV_str, result, resOf, allSome, number, upd, List.map, Option.bind_some, Nat.reduceAdd, Nat.reduceSub, Nat.reduceLeDiff, Nat.reduceLT, Nat.reduceEqDiff, Nat.zero_add, Nat.add_zero, Nat.le_refl, 
    reduceIte, ne_eq, not_false_eq_true, and_self, true_and, and_true, reduceCtorEq, cond_true, cond_false, binV_catB, List.replicate_succ, List.replicate_zero, List.set_cons_zero, List.set_cons_succ]
  obtain ⟨nm, hnm⟩ : ∃ nm : List (List UInt8), nm = [[120], [121], [112, 97, 116, 104]] := ⟨_, rfl⟩
  have hp1 := s1.lt
  have r0 := lits σ1 nm (fun t ht => by rw [hnm] at ht; simp only [List.mem_cons, List.not_mem_nil, or_false] at ht; unfold LenOk; rcases ht with rfl | rfl | rfl <;> decide)
  have hN0 : Nms (σ1 ++ [⟨nm.map (fun t => [.str t]), 1, 0, .own⟩]) p (.sl σ1.length 0 0 nm.length) :=
    ⟨nm, r0, sl_off σ1 hp1, by rw [hnm]; decide, by rw [hnm]; decide, by rw [hnm]; decide⟩
  rw [hnm] at hN0
  simp only [List.map_cons, List.map_nil, List.length_cons, List.length_nil, Nat.zero_add] at hN0
  refine TX.base (f1.pre (Pre.app _ [⟨[[.str [120]], [.str [121]], [.str [112, 97, 116, 104]]], 1, 0, .own⟩])) ?_
  refine nextS 4 (by decide) (s1.pre (Pre.app _ _)) (by omega) (Fr.refl _ _) fun j σ2 hj s2 f2 => ?_
  simp (config := {contextual := true, implicitDefEqProofs := false, maxSteps := 1000000}) only [
    ↓PR0, ↓PR1, ↓PR2, PO0, PO1, PO2, PO3, idxV_str, result, resOf, allSome, number, upd, List.map, Option.bind_some, Nat.reduceAdd, Nat.reduceSub, Nat.reduceLeDiff, Nat.reduceLT, Nat.reduceEqDiff, Nat.zero_add, Nat.add_zero, Nat.le_refl, 
    reduceIte, ne_eq, not_false_eq_true, and_self, true_and, and_true, reduceCtorEq, cond_true, cond_false]
  refine prog_loop hN0 j (by omega) σ2 _ _ ?_ s2 (by omega) f2 fun out' σ3 h1 h2 h3 h4 => ?_
  · simp only [List.length_append, List.length_cons, List.length_nil]; omega
  simp (config := {contextual := true, implicitDefEqProofs := false, maxSteps := 1000000}) only [
    ↓PR0, ↓PR1, ↓PR2, PO0, PO1, PO2, PO3, idxV_str, result, resOf, allSome, number, upd, List.map, Option.bind_some, Nat.reduceAdd, Nat.reduceSub, Nat.reduceLeDiff, Nat.reduceLT, Nat.reduceEqDiff, Nat.zero_add, Nat.add_zero, Nat.le_refl, 
    reduceIte, ne_eq, not_false_eq_true, and_self, true_and, and_true, reduceCtorEq, cond_true, cond_false, binV_catB]
  have e84 : eC 2 = 84 := by decide
  refine (exprText_eq (X := X) 2 (by decide) σ3 _ (hN0.fr h4) h3 (by omega)).step (by decide) h4 fun t2 σ4 b4 _ s4 f4 => ?_
  have b4' : t2.length ≤ 76 := b4
  have s4' : Src σ4 p (N + 3 + 3 + j * 3000 + 84) := s4
  simp (config := {contextual := true, implicitDefEqProofs := false, maxSteps := 1000000}) only [
    ↓PR0, ↓PR1, ↓PR2, PO0, PO1, PO2, PO3, idxV_str, result, resOf, allSome, number, upd, List.map, Option.bind_some, Nat.reduceAdd, Nat.reduceSub, Nat.reduceLeDiff, Nat.reduceLT, Nat.reduceEqDiff, Nat.zero_add, Nat.add_zero, Nat.le_refl, 
    reduceIte, ne_eq, not_false_eq_true, and_self, true_and, and_true, reduceCtorEq, cond_true, cond_false, binV_catB]
  exact TX.done (by simp only [List.length_append, List.length_cons, List.length_nil]; omega) s4' (by omega) f4
theorem bc_get {l : List UInt8} {k : Nat} (hk : k < l.length) : (bc l)[k]? = some [.int .u8 (l[k].toNat : Nat)] := by
  rw [bc, List.getElem?_map, List.getElem?_eq_getElem hk]; rfl
theorem wrapU8 (n : Int) : ∃ b : UInt8, IntKind.u8.wrap n = ((b.toNat : Nat) : Int) := by
  refine ⟨UInt8.ofNat (IntKind.u8.wrap n).toNat, ?_⟩
  have h0 : 0 ≤ IntKind.u8.wrap n ∧ IntKind.u8.wrap n < 256 := by
    simp only [IntKind.wrap, IntKind.signed, IntKind.bits, Bool.false_and, Bool.false_eq_true, if_false]
    omega
  have : (UInt8.ofNat (IntKind.u8.wrap n).toNat).toNat = (IntKind.u8.wrap n).toNat := by
    simp only [UInt8.toNat_ofNat']
    omega
  rw [this]; omega
theorem bc_set (l : List UInt8) (k : Nat) (b : UInt8) : (bc l).set k [.int .u8 (b.toNat : Nat)] = bc (l.set k b) := by
  rw [bc, bc, List.map_set]
/-- Bytes that are a little changed. -/
theorem spoilt_eq {σ : Store} {p N q : Nat} {l : List UInt8} {a : AV} (hw : OwR q σ 1 (bc l) a) (hqp : p < q) (hl : l.length ≤ 1000000) (hs : Src σ p N) (hN : N ≤ 800000) :
    Wp (EE X f_spec_l00Src_spoilt [.ptr p 0 0 0, a] σ) (fun r => ∃ l', SlAt r.2 1 r.1 (bc l') ∧ l'.length ≤ l.length + 1 ∧ Src r.2 p (N + 9) ∧ Fr (fun x => x = p ∨ x = q) σ r.2) := by
  have hq : q ≠ p := by omega
  have hsl := hw.slAt
  have hlen := hsl.len
  rw [bc_len] at hlen
  rw [EE, Ex_run C_spec_l00Src_spoilt rfl]
  simp (config := {contextual := true, implicitDefEqProofs := false, maxSteps := 1000000}) only [
    ↓PR0, ↓PR1, ↓PR2, PO0, PO1, PO2, PO3, idxV_str, result, resOf, allSome, number, upd, List.map, Option.bind_some, Nat.reduceAdd, Nat.reduceSub, Nat.reduceLeDiff, Nat.reduceLT, Nat.reduceEqDiff, Nat.zero_add, Nat.add_zero, Nat.le_refl, 
    reduceIte, ne_eq, not_false_eq_true, and_self, true_and, and_true, reduceCtorEq, cond_true, cond_false, c_spec_l00Src_spoilt]
  refine nextS 4 (by decide) hs (by omega) (Fr.refl _ _) fun j σ1 hj s1 f1 => ?_
  have w1 : OwR q σ1 1 (bc l) a := hw.fr f1 hq
  simp (config := {contextual := true, implicitDefEqProofs := false, maxSteps := 1000000}) only [
    ↓PR0, ↓PR1, ↓PR2, PO0, PO1, PO2, PO3, idxV_str, result, resOf, allSome, number, upd, List.map, Option.bind_some, Nat.reduceAdd, Nat.reduceSub, Nat.reduceLeDiff, Nat.reduceLT, Nat.reduceEqDiff, Nat.zero_add, Nat.add_zero, Nat.le_refl, 
    reduceIte, ne_eq, not_false_eq_true, and_self, true_and, and_true, reduceCtorEq, cond_true, cond_false, hlen]
  have done : ∀ σ', Src σ' p (N + 9) → Fr (fun x => x = p ∨ x = q) σ σ' → OwR q σ' 1 (bc l) a → Wp (some (a, σ')) (fun r => ∃ l', SlAt r.2 1 r.1 (bc l') ∧ l'.length ≤ l.length + 1 ∧ Src r.2 p (N + 9) ∧ Fr (fun x => x = p ∨ x = q) σ r.2) :=
    fun σ' h1 h2 h3 => ⟨_, rfl, l, h3.slAt, by omega, h1, h2⟩
  refine Wp.br (fun _ => Wp.br (fun hpos => ?_) (fun _ => ?_)) (fun _ => Wp.br (fun _ => ?_) (fun _ => Wp.br (fun _ => ?_) (fun _ => ?_)))
  · simp only [decide_eq_true_eq] at hpos
    refine nextS l.length (by omega) s1 (by omega) f1 fun k σ2 hk s2 f2 => ?_
    have w2 : OwR q σ2 1 (bc l) a := hw.fr f2 hq
    have i2 := w2.slAt.iadr .i64 (i := k) (by rw [bc_len]; exact hk)
    have g2 := fun bx => w2.slAt.place bx (bc_get hk)
    simp (config := {contextual := true, implicitDefEqProofs := false, maxSteps := 1000000}) only [
    ↓PR0, ↓PR1, ↓PR2, PO0, PO1, PO2, PO3, idxV_str, result, resOf, allSome, number, upd, List.map, Option.bind_some, Nat.reduceAdd, Nat.reduceSub, Nat.reduceLeDiff, Nat.reduceLT, Nat.reduceEqDiff, Nat.zero_add, Nat.add_zero, Nat.le_refl, 
    reduceIte, ne_eq, not_false_eq_true, and_self, true_and, and_true, reduceCtorEq, cond_true, cond_false, i2, g2]
    obtain ⟨j2, σ3, e3, a3, b3, s3, g3⟩ := next_eq (X := X) σ2 p _ 255 s2 (by omega)
    have f3 := f2.step g3
    have w3 : OwR q σ3 1 (bc l) a := hw.fr f3 hq
    have i3 := w3.slAt.iadr .i64 (i := k) (by rw [bc_len]; exact hk)
    have g3' := fun bx => w3.slAt.place bx (bc_get hk)
    obtain ⟨b, hb⟩ := wrapU8 (BitVec.ofInt IntKind.u8.bits (l[k].toNat : Nat) ^^^ BitVec.ofInt IntKind.u8.bits (IntKind.u8.wrap (IntKind.i64.wrap (1 + j2)))).toNat
    obtain ⟨σ4, x1, x2, x3, _⟩ := w3.put (bc_get hk) 0 [.int .u8 (b.toNat : Nat)] (by simp)
    rw [← elP_Q] at x1
    simp (config := {contextual := true, implicitDefEqProofs := false, maxSteps := 1000000}) only [
    ↓PR0, ↓PR1, ↓PR2, PO0, PO1, PO2, PO3, idxV_str, result, resOf, allSome, number, upd, List.map, Option.bind_some, Nat.reduceAdd, Nat.reduceSub, Nat.reduceLeDiff, Nat.reduceLT, Nat.reduceEqDiff, Nat.zero_add, Nat.add_zero, Nat.le_refl, 
    reduceIte, ne_eq, not_false_eq_true, and_self, true_and, and_true, reduceCtorEq, cond_true, cond_false, e3, i2, g2, i3, g3', binV_xor, hb, x1, evG_iadr]
    refine ⟨_, rfl, l.set k b, ?_, by simp, s3.fr x3 (fun x hx e => by omega), (f3.weak (fun x _ h => .inl h)).step (x3.weak (fun x _ h => .inr h))⟩
    have := x2.slAt
    rw [show upd [AV.int IntKind.u8 (l[k].toNat : Nat)] 0 [.int .u8 (b.toNat : Nat)] = [.int .u8 (b.toNat : Nat)] from rfl, bc_set] at this
    exact this
  · exact done σ1 (s1.more (by omega)) (f1.weak (fun x _ h => .inl h)) w1
  · have hwr : IntKind.i64.wrap ((l.length : Int) + 1) = ((l.length + 1 : Nat) : Int) := wrap64 (by omega) (by omega)
    simp (config := {contextual := true, implicitDefEqProofs := false, maxSteps := 1000000}) only [
    ↓PR0, ↓PR1, ↓PR2, PO0, PO1, PO2, PO3, idxV_str, result, resOf, allSome, number, upd, List.map, Option.bind_some, Nat.reduceAdd, Nat.reduceSub, Nat.reduceLeDiff, Nat.reduceLT, Nat.reduceEqDiff, Nat.zero_add, Nat.add_zero, Nat.le_refl, 
    reduceIte, ne_eq, not_false_eq_true, and_self, true_and, and_true, reduceCtorEq, cond_true, cond_false, hwr]
    refine nextS (l.length + 1) (by omega) s1 (by omega) f1 fun k σ2 hk s2 f2 => ?_
    have w2 : OwR q σ2 1 (bc l) a := hw.fr f2 hq
    have sv := fun g lo hi => SlAt.slcV w2.slAt g lo hi
    have hc : (0 : Int) ≤ 0 ∧ (0 : Int) ≤ (k : Int) ∧ (k : Int) ≤ (l.length : Int) := by omega
    have hc2 : (k : Int) ≤ (l.length : Int) := by omega
    have hk0 : (0 : Int) ≤ (k : Int) := by omega
    simp (config := {contextual := true, implicitDefEqProofs := false, maxSteps := 1000000}) only [
    ↓PR0, ↓PR1, ↓PR2, PO0, PO1, PO2, PO3, idxV_str, result, resOf, allSome, number, upd, List.map, Option.bind_some, Nat.reduceAdd, Nat.reduceSub, Nat.reduceLeDiff, Nat.reduceLT, Nat.reduceEqDiff, Nat.zero_add, Nat.add_zero, Nat.le_refl, 
    reduceIte, ne_eq, not_false_eq_true, and_self, true_and, and_true, reduceCtorEq, cond_true, cond_false, sv, bc_len, hk0, hc2, Int.le_refl, Int.toNat_natCast, Int.toNat_zero, Nat.sub_zero]
    refine ⟨_, rfl, l.take k, ?_, by rw [List.length_take]; omega, s2.more (by omega), f2.weak (fun x _ h => .inl h)⟩
    have := w2.slAt.sub 0 k (by rw [bc_len]; omega)
    rw [List.drop_zero, bc, ← List.map_take] at this
    exact this
  · refine nextS 90 (by omega) s1 (by omega) f1 fun k σ2 hk s2 f2 => ?_
    have w2 : OwR q σ2 1 (bc l) a := hw.fr f2 hq
    obtain ⟨b, hb⟩ := wrapU8 (IntKind.i64.wrap (32 + (k : Int)))
    obtain ⟨a3, σ3, x1, x2, x3⟩ := w2.app 1 [[.int .u8 (b.toNat : Nat)]] (by rw [bc_len]; simp only [List.length_cons, List.length_nil]; omega)
    have hel : ∀ M, elsOf M 1 (.ls [[.int .u8 (b.toNat : Nat)]]) = some [[.int .u8 (b.toNat : Nat)]] := fun _ => rfl
    simp (config := {contextual := true, implicitDefEqProofs := false, maxSteps := 1000000}) only [
    ↓PR0, ↓PR1, ↓PR2, PO0, PO1, PO2, PO3, idxV_str, result, resOf, allSome, number, upd, List.map, Option.bind_some, Nat.reduceAdd, Nat.reduceSub, Nat.reduceLeDiff, Nat.reduceLT, Nat.reduceEqDiff, Nat.zero_add, Nat.add_zero, Nat.le_refl, 
    reduceIte, ne_eq, not_false_eq_true, and_self, true_and, and_true, reduceCtorEq, cond_true, cond_false, hb, List.replicate_succ, List.replicate_zero, List.set_cons_zero, hel, x1]
    refine ⟨_, rfl, l ++ [b], ?_, by simp, (s2.fr x3 (fun x hx e => by omega)).more (by omega), (f2.weak (fun x _ h => .inl h)).step (x3.weak (fun x _ h => .inr h))⟩
    have := x2.slAt
    rw [show [[AV.int IntKind.u8 (b.toNat : Nat)]] = bc [b] from rfl, ← bc_app] at this
    exact this
  · exact done σ1 (s1.more (by omega)) (f1.weak (fun x _ h => .inl h)) w1
set_option maxHeartbeats 2000000 in
theorem anyProgram_eq (σ : Store) (p N : Nat) (hs : Src σ p N) (hN : N ≤ 200000) : Wp (EE X f_spec_l00Src_anyProgram [.ptr p 0 0 0] σ) (fun r => ∃ t, r.1 = .str t ∧ t.length ≤ 10001 ∧ Src r.2 p (N + 11000) ∧ Fr (fun q => q = p) σ r.2) := by
  rw [EE, Ex_run C_spec_l00Src_anyProgram rfl, c_spec_l00Src_anyProgram]
  refine Wp.seq fun K hK => ?_
  simp (config := {contextual := true, implicitDefEqProofs := false, maxSteps := 1000000}) only [
    ↓PR0, ↓PR1, ↓PR2, PO0, PO1, PO2, PO3, idxV_str, result, resOf, allSome, number, upd, List.map, Option.bind_some, Nat.reduceAdd, Nat.reduceSub, Nat.reduceLeDiff, Nat.reduceLT, Nat.reduceEqDiff, Nat.zero_add, Nat.add_zero, Nat.le_refl, 
    reduceIte, ne_eq, not_false_eq_true, and_self, true_and, and_true, reduceCtorEq, cond_true, cond_false]
  subst hK
  rw [seqK_norm]
  refine Wp.seq fun K hK => ?_
  simp (config := {contextual := true, implicitDefEqProofs := false, maxSteps := 1000000}) only [
    ↓PR0, ↓PR1, ↓PR2, PO0, PO1, PO2, PO3, idxV_str, result, resOf, allSome, number, upd, List.map, Option.bind_some, Nat.reduceAdd, Nat.reduceSub, Nat.reduceLeDiff, Nat.reduceLT, Nat.reduceEqDiff, Nat.zero_add, Nat.add_zero, Nat.le_refl, 
    reduceIte, ne_eq, not_false_eq_true, and_self, true_and, and_true, reduceCtorEq, cond_true, cond_false]
  refine (program_eq (X := X) σ p N hs (by omega)).step (by decide) (Fr.refl _ _) fun t σ1 b1 _ s1 f1 => ?_
  simp (config := {contextual := true, implicitDefEqProofs := false, maxSteps := 1000000}) only [
    ↓PR0, ↓PR1, ↓PR2, PO0, PO1, PO2, PO3, idxV_str, result, resOf, allSome, number, upd, List.map, Option.bind_some, Nat.reduceAdd, Nat.reduceSub, Nat.reduceLeDiff, Nat.reduceLT, Nat.reduceEqDiff, Nat.zero_add, Nat.add_zero, Nat.le_refl, 
    reduceIte, ne_eq, not_false_eq_true, and_self, true_and, and_true, reduceCtorEq, cond_true, cond_false]
  subst hK
  rw [seqK_norm]
  refine Wp.seq fun K hK => ?_
  refine Wp.seq fun K2 hK2 => ?_
  simp (config := {contextual := true, implicitDefEqProofs := false, maxSteps := 1000000}) only [
    ↓PR0, ↓PR1, ↓PR2, PO0, PO1, PO2, PO3, idxV_str, result, resOf, allSome, number, upd, List.map, Option.bind_some, Nat.reduceAdd, Nat.reduceSub, Nat.reduceLeDiff, Nat.reduceLT, Nat.reduceEqDiff, Nat.zero_add, Nat.add_zero, Nat.le_refl, 
    reduceIte, ne_eq, not_false_eq_true, and_self, true_and, and_true, reduceCtorEq, cond_true, cond_false]
  refine nextS 8 (by decide) s1 (by omega) f1 fun j σ2 hj s2 f2 => ?_
  simp (config := {contextual := true, implicitDefEqProofs := false, maxSteps := 1000000}) only [
    ↓PR0, ↓PR1, ↓PR2, PO0, PO1, PO2, PO3, idxV_str, result, resOf, allSome, number, upd, List.map, Option.bind_some, Nat.reduceAdd, Nat.reduceSub, Nat.reduceLeDiff, Nat.reduceLT, Nat.reduceEqDiff, Nat.zero_add, Nat.add_zero, Nat.le_refl, 
    reduceIte, ne_eq, not_false_eq_true, and_self, true_and, and_true, reduceCtorEq, cond_true, cond_false]
  subst hK2
  rw [seqK_norm]
  refine Wp.block fun K3 hK3 => ?_
  refine Wp.seq fun K4 hK4 => ?_
  simp (config := {contextual := true, implicitDefEqProofs := false, maxSteps := 1000000}) only [
    ↓PR0, ↓PR1, ↓PR2, PO0, PO1, PO2, PO3, idxV_str, result, resOf, allSome, number, upd, List.map, Option.bind_some, Nat.reduceAdd, Nat.reduceSub, Nat.reduceLeDiff, Nat.reduceLT, Nat.reduceEqDiff, Nat.zero_add, Nat.add_zero, Nat.le_refl, 
    reduceIte, ne_eq, not_false_eq_true, and_self, true_and, and_true, reduceCtorEq, cond_true, cond_false]
  subst hK4
  rw [seqK_norm]
  refine Wp.cond (c := ((j : Int) == 0)) rfl (fun _ => ?_) (fun _ => ?_)
  · have hw : OwR σ2.length (σ2 ++ [⟨bc t, 1, 0, .own⟩]) 1 (bc t) (.sl σ2.length 0 0 (bc t).length) := OwR.new σ2 (bc t) 1
    rw [bc_len] at hw
    have hlt := s2.lt
    obtain ⟨⟨a, σ3⟩, e3, l', g1, g2, g3, g4⟩ := spoilt_eq (X := X) hw hlt (by omega) (s2.pre (Pre.app _ _)) (by omega)
    have hel := fun bx => g1.els bx
    have hbc : (t.map fun b => [AV.int .u8 ((b.toNat : Nat) : Int)]) = bc t := rfl
    have hb := bc_bytes l'
    simp (config := {contextual := true, implicitDefEqProofs := false, maxSteps := 1000000}) only [
    ↓PR0, ↓PR1, ↓PR2, PO0, PO1, PO2, PO3, idxV_str, result, resOf, allSome, number, upd, List.map, Option.bind_some, Nat.reduceAdd, Nat.reduceSub, Nat.reduceLeDiff, Nat.reduceLT, Nat.reduceEqDiff, Nat.zero_add, Nat.add_zero, Nat.le_refl, 
    reduceIte, ne_eq, not_false_eq_true, and_self, true_and, and_true, reduceCtorEq, cond_true, cond_false, hbc, e3, hel, hb]
    subst hK3
    subst hK
    simp (config := {contextual := true, implicitDefEqProofs := false, maxSteps := 1000000}) only [
    ↓PR0, ↓PR1, ↓PR2, PO0, PO1, PO2, PO3, idxV_str, result, resOf, allSome, number, upd, List.map, Option.bind_some, Nat.reduceAdd, Nat.reduceSub, Nat.reduceLeDiff, Nat.reduceLT, Nat.reduceEqDiff, Nat.zero_add, Nat.add_zero, Nat.le_refl, 
    reduceIte, ne_eq, not_false_eq_true, and_self, true_and, and_true, reduceCtorEq, cond_true, cond_false]
    refine ⟨_, rfl, l', rfl, by omega, g3.more (by omega), ?_⟩
    refine ((f2.pre (Pre.app _ _)).trans g4 (fun x h1 h2 => ?_))
    have := f2.1
    have := f1.1
    omega
  · refine Wp.seq fun K5 hK5 => ?_
    simp (config := {contextual := true, implicitDefEqProofs := false, maxSteps := 1000000}) only [
    ↓PR0, ↓PR1, ↓PR2, PO0, PO1, PO2, PO3, idxV_str, result, resOf, allSome, number, upd, List.map, Option.bind_some, Nat.reduceAdd, Nat.reduceSub, Nat.reduceLeDiff, Nat.reduceLT, Nat.reduceEqDiff, Nat.zero_add, Nat.add_zero, Nat.le_refl, 
    reduceIte, ne_eq, not_false_eq_true, and_self, true_and, and_true, reduceCtorEq, cond_true, cond_false]
    subst hK5
    rw [seqK_norm]
    refine Wp.cond (c := ((j : Int) == 1)) rfl (fun _ => ?_) (fun _ => ?_)
    · simp (config := {contextual := true, implicitDefEqProofs := false, maxSteps := 20000000}) only [
    ↓PR0, ↓PR1, ↓PR2, PO0, PO1, PO2, PO3, idxV_str, result, resOf, allSome, number, upd, List.map, Option.bind_some, Nat.reduceAdd, Nat.reduceSub, Nat.reduceLeDiff, Nat.reduceLT, Nat.reduceEqDiff, Nat.zero_add, Nat.add_zero, Nat.le_refl, 
    reduceIte, ne_eq, not_false_eq_true, and_self, true_and, and_true, reduceCtorEq, cond_true, cond_false, List.replicate_succ, List.replicate_zero, List.set_cons_zero, List.set_cons_succ]
      refine pickS 18 100 s2 (by omega) f2 (by decide) (by decide) rfl (by decide) (by decide) fun t2 σ3 b3 _ s3 f3 => ?_
      simp (config := {contextual := true, implicitDefEqProofs := false, maxSteps := 1000000}) only [
    ↓PR0, ↓PR1, ↓PR2, PO0, PO1, PO2, PO3, idxV_str, result, resOf, allSome, number, upd, List.map, Option.bind_some, Nat.reduceAdd, Nat.reduceSub, Nat.reduceLeDiff, Nat.reduceLT, Nat.reduceEqDiff, Nat.zero_add, Nat.add_zero, Nat.le_refl, 
    reduceIte, ne_eq, not_false_eq_true, and_self, true_and, and_true, reduceCtorEq, cond_true, cond_false]
      subst hK3
      subst hK
      simp (config := {contextual := true, implicitDefEqProofs := false, maxSteps := 1000000}) only [
    ↓PR0, ↓PR1, ↓PR2, PO0, PO1, PO2, PO3, idxV_str, result, resOf, allSome, number, upd, List.map, Option.bind_some, Nat.reduceAdd, Nat.reduceSub, Nat.reduceLeDiff, Nat.reduceLT, Nat.reduceEqDiff, Nat.zero_add, Nat.add_zero, Nat.le_refl, 
    reduceIte, ne_eq, not_false_eq_true, and_self, true_and, and_true, reduceCtorEq, cond_true, cond_false]
      exact ⟨_, rfl, t2, rfl, by omega, s3.more (by omega), f3⟩
    · rw [runK_skip]
      subst hK3
      subst hK
      simp (config := {contextual := true, implicitDefEqProofs := false, maxSteps := 1000000}) only [
    ↓PR0, ↓PR1, ↓PR2, PO0, PO1, PO2, PO3, idxV_str, result, resOf, allSome, number, upd, List.map, Option.bind_some, Nat.reduceAdd, Nat.reduceSub, Nat.reduceLeDiff, Nat.reduceLT, Nat.reduceEqDiff, Nat.zero_add, Nat.add_zero, Nat.le_refl, 
    reduceIte, ne_eq, not_false_eq_true, and_self, true_and, and_true, reduceCtorEq, cond_true, cond_false]
      exact ⟨_, rfl, t, rfl, by omega, s2.more (by omega), f2⟩
theorem anySource_eq (σ : Store) (a : AV) (bytes : List UInt8) (ha : RS RByte 1 σ bytes a) (hl : bytes.length ≤ 2000000) : ∃ t σ', EE X f_spec_AnySource [a] σ = some (.str t, σ') ∧ t.length ≤ 10001 ∧ Pre σ σ' := by
  obtain ⟨σ1, e1, s1, p1⟩ := source_eq (X := X) σ a bytes ha hl
  obtain ⟨⟨v, σ2⟩, e2, t, rfl, b2, s2, f2⟩ := anyProgram_eq (X := X) σ1 _ 0 s1 (by omega)
  refine ⟨t, σ2, ?_, b2, p1.trans f2 (fun r h e => by omega)⟩
  rw [EE, Ex_run C_spec_AnySource rfl]
  simp (config := {contextual := true, implicitDefEqProofs := false, maxSteps := 1000000}) only [
    ↓PR0, ↓PR1, ↓PR2, PO0, PO1, PO2, PO3, idxV_str, result, resOf, allSome, number, upd, List.map, Option.bind_some, Nat.reduceAdd, Nat.reduceSub, Nat.reduceLeDiff, Nat.reduceLT, Nat.reduceEqDiff, Nat.zero_add, Nat.add_zero, Nat.le_refl, 
    reduceIte, ne_eq, not_false_eq_true, and_self, true_and, and_true, reduceCtorEq, cond_true, cond_false, c_spec_AnySource, e1, e2]
end Go.X

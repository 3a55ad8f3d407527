/- Choices that are drawn out of bytes: what the source of choices comes to. -/
import Derived.Test.YtiiiciekknpoeaaGreatDoorXE
import Derived.Test.YtiiiciekknpoeaaGreatDoorY6
set_option linter.unusedVariables false
set_option linter.unusedSimpArgs false
set_option maxRecDepth 20000
namespace Go.X
open Go
variable {X : Call}

/-- The slice does not lie in row p. -/
def Off (a : AV) (p : Nat) : Prop := ∀ r v i n, a = .sl r v i n → r ≠ p
theorem SlAt.frA {W : Nat → Prop} {σ σ' : Store} {sz : Nat} {a : AV} {els : List (List AV)} (h : SlAt σ sz a els) (k : Fr W σ σ') (hw : ∀ r v i n, a = .sl r v i n → ¬ W r) : SlAt σ' sz a els := by
  rcases h.cases with ⟨rfl, rfl⟩ | ⟨r, v, s, n, row, rfl, hr, hs, hn, e, hl⟩
  · rfl
  · rw [e]; exact SlAt.mk (rowAt_dep hr (k.2 r (rowAt_lt hr) (hw r v s n rfl))) hs hn
theorem RS.frA {α : Type} {P : α → List AV → Prop} {W : Nat → Prop} {σ σ' : Store} {sz : Nat} {a : AV} {l : List α} (h : RS (fun _ => P) sz σ l a) (k : Fr W σ σ') (hw : ∀ r v i n, a = .sl r v i n → ¬ W r) : RS (fun _ => P) sz σ' l a := by
  obtain ⟨els, h1, h2⟩ := h
  exact ⟨els, h1.frA k hw, h2⟩

/-- The slice lies in a row before p. -/
def Bel (a : AV) (p : Nat) : Prop := ∀ r v i n, a = .sl r v i n → r < p
/-- A source of choices in row p, from which at most N bytes were taken. -/
def Src (σ : Store) (p N : Nat) : Prop := ∃ a, ∃ n : Nat, ∃ (sd : Int) (bytes : List UInt8), ObjAt σ p [a, int n, int sd] ∧ RS RByte 1 σ bytes a ∧ Bel a p ∧ n ≤ N ∧ 0 ≤ sd ∧ sd < 2147483648 ∧ bytes.length ≤ 2000000
theorem Src.more {σ : Store} {p N N' : Nat} (h : Src σ p N) (hn : N ≤ N') : Src σ p N' := by
  obtain ⟨a, n, sd, bytes, h1, h2, h3, h4, h5⟩ := h
  exact ⟨a, n, sd, bytes, h1, h2, h3, Nat.le_trans h4 hn, h5⟩
theorem Src.pre {σ σ' : Store} {p N : Nat} (h : Src σ p N) (k : Pre σ σ') : Src σ' p N := by
  obtain ⟨a, n, sd, bytes, h1, h2, h3, h4⟩ := h
  exact ⟨a, n, sd, bytes, h1.pre k, h2.pre RByte.mono k, h3, h4⟩
theorem Src.fr {W : Nat → Prop} {σ σ' : Store} {p N : Nat} (h : Src σ p N) (k : Fr W σ σ') (hp : ∀ q, q ≤ p → ¬ W q) : Src σ' p N := by
  obtain ⟨a, n, sd, bytes, h1, h2, h3, h4⟩ := h
  exact ⟨a, n, sd, bytes, h1.fr k (hp p (Nat.le_refl _)), RS.frA (P := fun (b : UInt8) cs => cs = [.int .u8 (b.toNat : Nat)]) h2 k (fun r v i n e => hp r (Nat.le_of_lt (h3 r v i n e))), h3, h4⟩
theorem Src.lt {σ : Store} {p N : Nat} (h : Src σ p N) : p < σ.length := by
  obtain ⟨a, n, sd, bytes, h1, _⟩ := h
  exact h1.lt

theorem byte_eq (σ : Store) (p N : Nat) (h : Src σ p N) (hN : N ≤ 1000000) : ∃ k σ', EE X f_spec_l00Src_byte [.ptr p 0 0 0] σ = some (int k, σ') ∧ 0 ≤ k ∧ k < 256 ∧ Src σ' p (N + 1) ∧ Fr (fun q => q = p) σ σ' := by
  obtain ⟨a, n, sd, bytes, h1, h2, h3, h4, h5, h6, h7⟩ := h
  have w1 : IntKind.i64.wrap ((n : Int) + 1) = ((n + 1 : Nat) : Int) := wrap64 (by omega) (by omega)
  obtain ⟨σ1, p1, o1, f1, _⟩ := h1.write 1 [int ((n + 1 : Nat) : Int)] (by simp)
  have u1 : upd [a, int n, int sd] 1 [int ((n + 1 : Nat) : Int)] = [a, int ((n + 1 : Nat) : Int), int sd] := rfl
  rw [u1] at o1
  have off : ∀ r v i n, a = .sl r v i n → ¬ r = p := fun r v i n e => Nat.ne_of_lt (h3 r v i n e)
  have b1 : RS RByte 1 σ1 bytes a := RS.frA (P := fun (b : UInt8) cs => cs = [.int .u8 (b.toNat : Nat)]) h2 f1 off
  by_cases hle : n + 1 ≤ bytes.length
  · have hle' : (((n + 1 : Nat) : Int) ≤ (bytes.length : Int)) := by omega
    obtain ⟨cs, hc, i1, i2, i3, i4⟩ := b1.get (List.getElem?_eq_getElem (show n < bytes.length by omega))
    have hc' : cs = [.int .u8 (bytes[n].toNat : Nat)] := hc
    subst hc'
    have hb : bytes[n].toNat < 256 := UInt8.toNat_lt _
    have w2 : IntKind.i64.wrap (sd * 31) = sd * 31 := wrap64 (by omega) (by omega)
    have w3 : IntKind.i64.wrap (((n + 1 : Nat) : Int) - 1) = (n : Int) := by rw [wrap64 (by omega) (by omega)]; omega
    have w4 : IntKind.i64.wrap ((bytes[n].toNat : Nat) : Int) = (bytes[n].toNat : Nat) := wrap64 (by omega) (by omega)
    have w5 : IntKind.i64.wrap (sd * 31 + (bytes[n].toNat : Nat)) = sd * 31 + (bytes[n].toNat : Nat) := wrap64 (by omega) (by omega)
    have w6 : IntKind.i64.wrap (sd * 31 + (bytes[n].toNat : Nat) + 7) = sd * 31 + (bytes[n].toNat : Nat) + 7 := wrap64 (by omega) (by omega)
    have hz : (2147483648 : Int) ≠ 0 := by decide
    obtain ⟨σ2, p2, o2, f2, _⟩ := o1.write 2 [int ((sd * 31 + (bytes[n].toNat : Nat) + 7).tmod 2147483648)] (by simp)
    have u2 : upd [a, int ((n + 1 : Nat) : Int), int sd] 2 [int ((sd * 31 + (bytes[n].toNat : Nat) + 7).tmod 2147483648)] = [a, int ((n + 1 : Nat) : Int), int ((sd * 31 + (bytes[n].toNat : Nat) + 7).tmod 2147483648)] := rfl
    rw [u2] at o2
    have b2 : RS RByte 1 σ2 bytes a := RS.frA (P := fun (b : UInt8) cs => cs = [.int .u8 (b.toNat : Nat)]) b1 f2 off
    obtain ⟨cs, hc, j1, j2, j3, j4⟩ := b2.get (List.getElem?_eq_getElem (show n < bytes.length by omega))
    have hc' : cs = [.int .u8 (bytes[n].toNat : Nat)] := hc
    subst hc'
    refine ⟨(bytes[n].toNat : Nat), σ2, ?_, by omega, by omega, ⟨a, n + 1, _, bytes, o2, b2, h3, by omega, Int.tmod_nonneg _ (by omega), Int.tmod_lt_of_pos _ (by decide), h7⟩, f1.step f2⟩
    rw [EE, Ex_run C_spec_l00Src_byte rfl]
    simp (config := {contextual := true, implicitDefEqProofs := false, maxSteps := 1000000}) only [
    ↓PR0, ↓PR1, ↓PR2, PO0, PO1, PO2, PO3, idxV_str, result, resOf, allSome, number, upd, List.map, Option.bind_some, Nat.reduceAdd, Nat.reduceSub, Nat.reduceLeDiff, Nat.reduceLT, Nat.reduceEqDiff, Nat.zero_add, Nat.add_zero, Nat.le_refl, 
    reduceIte, ne_eq, not_false_eq_true, and_self, true_and, and_true, reduceCtorEq, cond_true, cond_false, c_spec_l00Src_byte, h1.place, nilcV_ptr, w1, p1, o1.place, b1.len, hle', decide_true, i1, i2, w2, w3, w4, w5, w6, binV_rem _ _ _ hz, 
    p2, o2.place, j1, j2]
  · have hle' : ¬ (((n + 1 : Nat) : Int) ≤ (bytes.length : Int)) := by omega
    by_cases h3k : 3000 < n + 1
    · have h3k' : (3000 : Int) < ((n + 1 : Nat) : Int) := by omega
      refine ⟨0, σ1, ?_, by omega, by omega, ⟨a, n + 1, sd, bytes, o1, b1, h3, by omega, h5, h6, h7⟩, f1⟩
      rw [EE, Ex_run C_spec_l00Src_byte rfl]
      simp (config := {contextual := true, implicitDefEqProofs := false, maxSteps := 1000000}) only [
    ↓PR0, ↓PR1, ↓PR2, PO0, PO1, PO2, PO3, idxV_str, result, resOf, allSome, number, upd, List.map, Option.bind_some, Nat.reduceAdd, Nat.reduceSub, Nat.reduceLeDiff, Nat.reduceLT, Nat.reduceEqDiff, Nat.zero_add, Nat.add_zero, Nat.le_refl, 
    reduceIte, ne_eq, not_false_eq_true, and_self, true_and, and_true, reduceCtorEq, cond_true, cond_false, c_spec_l00Src_byte, h1.place, nilcV_ptr, w1, p1, o1.place, b1.len, hle', decide_false, h3k', decide_true]
    · have h3k' : ¬ ((3000 : Int) < ((n + 1 : Nat) : Int)) := by omega
      have w2 : IntKind.i64.wrap (sd * 1103515245) = sd * 1103515245 := wrap64 (by omega) (by omega)
      have w3 : IntKind.i64.wrap (sd * 1103515245 + 12345) = sd * 1103515245 + 12345 := wrap64 (by omega) (by omega)
      have hz : (2147483648 : Int) ≠ 0 := by decide
      have hz2 : (65536 : Int) ≠ 0 := by decide
      have hz3 : (256 : Int) ≠ 0 := by decide
      obtain ⟨sd', hsd⟩ : ∃ sd', sd' = (sd * 1103515245 + 12345).tmod 2147483648 := ⟨_, rfl⟩
      have s0 : 0 ≤ sd' := by rw [hsd]; exact Int.tmod_nonneg _ (by omega)
      have s1 : sd' < 2147483648 := by rw [hsd]; exact Int.tmod_lt_of_pos _ (by decide)
      have d0 : 0 ≤ sd'.tdiv 65536 := Int.tdiv_nonneg s0 (by decide)
      have d1 : sd'.tdiv 65536 ≤ sd' := by rw [Int.tdiv_eq_ediv_of_nonneg s0]; omega
      have w4 : IntKind.i64.wrap (sd'.tdiv 65536) = sd'.tdiv 65536 := wrap64 (by omega) (by omega)
      obtain ⟨σ2, p2, o2, f2, _⟩ := o1.write 2 [int sd'] (by simp)
      have u2 : upd [a, int ((n + 1 : Nat) : Int), int sd] 2 [int sd'] = [a, int ((n + 1 : Nat) : Int), int sd'] := rfl
      rw [u2] at o2
      have b2 : RS RByte 1 σ2 bytes a := RS.frA (P := fun (b : UInt8) cs => cs = [.int .u8 (b.toNat : Nat)]) b1 f2 off
      refine ⟨(sd'.tdiv 65536).tmod 256, σ2, ?_, Int.tmod_nonneg _ d0, Int.tmod_lt_of_pos _ (by decide), ⟨a, n + 1, sd', bytes, o2, b2, h3, by omega, s0, s1, h7⟩, f1.step f2⟩
      rw [EE, Ex_run C_spec_l00Src_byte rfl]
      simp (config := {contextual := true, implicitDefEqProofs := false, maxSteps := 1000000}) only [
    ↓PR0, ↓PR1, ↓PR2, PO0, PO1, PO2, PO3, idxV_str, result, resOf, allSome, number, upd, List.map, Option.bind_some, Nat.reduceAdd, Nat.reduceSub, Nat.reduceLeDiff, Nat.reduceLT, Nat.reduceEqDiff, Nat.zero_add, Nat.add_zero, Nat.le_refl, 
    reduceIte, ne_eq, not_false_eq_true, and_self, true_and, and_true, reduceCtorEq, cond_true, cond_false, c_spec_l00Src_byte, h1.place, nilcV_ptr, w1, p1, o1.place, b1.len, hle', decide_false, h3k', w2, w3, binV_rem _ _ _ hz, ← hsd, p2, 
    o2.place, binV_quo _ _ _ hz2, w4, binV_rem _ _ _ hz3]

theorem next_eq (σ : Store) (p N : Nat) (n : Int) (h : Src σ p N) (hN : N ≤ 999990) : ∃ k σ', EE X f_spec_l00Src_next [.ptr p 0 0 0, int n] σ = some (int k, σ') ∧ 0 ≤ k ∧ (k < n ∨ (n ≤ 1 ∧ k = 0)) ∧ Src σ' p (N + 3) ∧ Fr (fun q => q = p) σ σ' := by
  by_cases h1 : n ≤ 1
  · refine ⟨0, σ, ?_, by omega, by omega, h.more (by omega), Fr.refl _ _⟩
    rw [EE, Ex_run C_spec_l00Src_next rfl]
    simp (config := {contextual := true, implicitDefEqProofs := false, maxSteps := 1000000}) only [
    ↓PR0, ↓PR1, ↓PR2, PO0, PO1, PO2, PO3, idxV_str, result, resOf, allSome, number, upd, List.map, Option.bind_some, Nat.reduceAdd, Nat.reduceSub, Nat.reduceLeDiff, Nat.reduceLT, Nat.reduceEqDiff, Nat.zero_add, Nat.add_zero, Nat.le_refl, 
    reduceIte, ne_eq, not_false_eq_true, and_self, true_and, and_true, reduceCtorEq, cond_true, cond_false, c_spec_l00Src_next, h1, decide_true]
  · have hz : n ≠ 0 := by omega
    obtain ⟨k1, σ1, e1, a1, b1, s1, f1⟩ := byte_eq (X := X) σ p N h (by omega)
    by_cases h2 : n ≤ 256
    · refine ⟨k1.tmod n, σ1, ?_, Int.tmod_nonneg _ a1, .inl (Int.tmod_lt_of_pos _ (by omega)), s1.more (by omega), f1⟩
      rw [EE, Ex_run C_spec_l00Src_next rfl]
      simp (config := {contextual := true, implicitDefEqProofs := false, maxSteps := 1000000}) only [
    ↓PR0, ↓PR1, ↓PR2, PO0, PO1, PO2, PO3, idxV_str, result, resOf, allSome, number, upd, List.map, Option.bind_some, Nat.reduceAdd, Nat.reduceSub, Nat.reduceLeDiff, Nat.reduceLT, Nat.reduceEqDiff, Nat.zero_add, Nat.add_zero, Nat.le_refl, 
    reduceIte, ne_eq, not_false_eq_true, and_self, true_and, and_true, reduceCtorEq, cond_true, cond_false, c_spec_l00Src_next, h1, h2, decide_true, decide_false, e1, binV_rem _ _ _ hz]
    · obtain ⟨k2, σ2, e2, a2, b2, s2, f2⟩ := byte_eq (X := X) σ1 p _ s1 (by omega)
      obtain ⟨k3, σ3, e3, a3, b3, s3, f3⟩ := byte_eq (X := X) σ2 p _ s2 (by omega)
      have w1 : IntKind.i64.wrap (k1 * 65536) = k1 * 65536 := wrap64 (by omega) (by omega)
      have w2 : IntKind.i64.wrap (k2 * 256) = k2 * 256 := wrap64 (by omega) (by omega)
      have w3 : IntKind.i64.wrap (k1 * 65536 + k2 * 256) = k1 * 65536 + k2 * 256 := wrap64 (by omega) (by omega)
      have w4 : IntKind.i64.wrap (k1 * 65536 + k2 * 256 + k3) = k1 * 65536 + k2 * 256 + k3 := wrap64 (by omega) (by omega)
      refine ⟨(k1 * 65536 + k2 * 256 + k3).tmod n, σ3, ?_, Int.tmod_nonneg _ (by omega), .inl (Int.tmod_lt_of_pos _ (by omega)), s3, (f1.step f2).step f3⟩
      rw [EE, Ex_run C_spec_l00Src_next rfl]
      simp (config := {contextual := true, implicitDefEqProofs := false, maxSteps := 1000000}) only [
    ↓PR0, ↓PR1, ↓PR2, PO0, PO1, PO2, PO3, idxV_str, result, resOf, allSome, number, upd, List.map, Option.bind_some, Nat.reduceAdd, Nat.reduceSub, Nat.reduceLeDiff, Nat.reduceLT, Nat.reduceEqDiff, Nat.zero_add, Nat.add_zero, Nat.le_refl, 
    reduceIte, ne_eq, not_false_eq_true, and_self, true_and, and_true, reduceCtorEq, cond_true, cond_false, c_spec_l00Src_next, h1, h2, decide_false, e1, e2, e3, w1, w2, w3, w4, binV_rem _ _ _ hz]

theorem chance_eq (σ : Store) (p N : Nat) (n : Int) (h : Src σ p N) (hN : N ≤ 999990) (hn : 0 ≤ n ∧ n ≤ 1000000) : ∃ b σ', EE X f_spec_l00Src_chance [.ptr p 0 0 0, int n] σ = some (.bool b, σ') ∧ Src σ' p (N + 3) ∧ Fr (fun q => q = p) σ σ' := by
  obtain ⟨k1, σ1, e1, a1, b1, s1, f1⟩ := next_eq (X := X) σ p N n h hN
  have w1 : IntKind.i64.wrap (n - 1) = n - 1 := wrap64 (by omega) (by omega)
  refine ⟨k1 == n - 1, σ1, ?_, s1, f1⟩
  rw [EE, Ex_run C_spec_l00Src_chance rfl]
  simp (config := {contextual := true, implicitDefEqProofs := false, maxSteps := 1000000}) only [
    ↓PR0, ↓PR1, ↓PR2, PO0, PO1, PO2, PO3, idxV_str, result, resOf, allSome, number, upd, List.map, Option.bind_some, Nat.reduceAdd, Nat.reduceSub, Nat.reduceLeDiff, Nat.reduceLT, Nat.reduceEqDiff, Nat.zero_add, Nat.add_zero, Nat.le_refl, 
    reduceIte, ne_eq, not_false_eq_true, and_self, true_and, and_true, reduceCtorEq, cond_true, cond_false, c_spec_l00Src_chance, e1, w1]

theorem pick_eq (σ : Store) (p N : Nat) (l : List (List UInt8)) (a : AV) (ha : RS RT 1 σ l a) (hoff : Off a p) (h : Src σ p N) (hN : N ≤ 999990) (hl : l.length ≤ 1000000) : ∃ t σ', EE X f_spec_l00Src_pick [.ptr p 0 0 0, a] σ = some (.str t, σ') ∧ (t ∈ l ∨ l = []) ∧ Src σ' p (N + 3) ∧ Fr (fun q => q = p) σ σ' := by
  cases l with
  | nil =>
    refine ⟨[], σ, ?_, .inr rfl, h.more (by omega), Fr.refl _ _⟩
    have hle := ha.len
    simp only [List.length_nil, Int.cast_ofNat_Int] at hle
    rw [EE, Ex_run C_spec_l00Src_pick rfl]
    simp (config := {contextual := true, implicitDefEqProofs := false, maxSteps := 1000000}) only [
    ↓PR0, ↓PR1, ↓PR2, PO0, PO1, PO2, PO3, idxV_str, result, resOf, allSome, number, upd, List.map, Option.bind_some, Nat.reduceAdd, Nat.reduceSub, Nat.reduceLeDiff, Nat.reduceLT, Nat.reduceEqDiff, Nat.zero_add, Nat.add_zero, Nat.le_refl, 
    reduceIte, ne_eq, not_false_eq_true, and_self, true_and, and_true, reduceCtorEq, cond_true, cond_false, c_spec_l00Src_pick, hle, beq_self_eq_true]
  | cons t l =>
    obtain ⟨k1, σ1, e1, a1, b1, s1, f1⟩ := next_eq (X := X) σ p N ((l.length + 1 : Nat) : Int) h hN
    have ha1 : RS RT 1 σ1 (t :: l) a := RS.frA (P := fun (m : List UInt8) cs => cs = [.str m] ∧ LenOk m.length) ha f1 hoff
    obtain ⟨k, rfl⟩ := Int.eq_ofNat_of_zero_le a1
    have hk : k < (t :: l).length := by simp only [List.length_cons]; omega
    obtain ⟨cs, ⟨hc, _⟩, i1, i2, _⟩ := ha1.get (List.getElem?_eq_getElem hk)
    subst hc
    have hle := ha.len
    simp only [List.length_cons] at hle
    have hnz : (((l.length + 1 : Nat) : Int) == 0) = false := by rw [beq_eq_false_iff_ne]; omega
    refine ⟨(t :: l)[k], σ1, ?_, .inl (List.getElem_mem hk), s1, f1⟩
    rw [EE, Ex_run C_spec_l00Src_pick rfl]
    simp (config := {contextual := true, implicitDefEqProofs := false, maxSteps := 1000000}) only [
    ↓PR0, ↓PR1, ↓PR2, PO0, PO1, PO2, PO3, idxV_str, result, resOf, allSome, number, upd, List.map, Option.bind_some, Nat.reduceAdd, Nat.reduceSub, Nat.reduceLeDiff, Nat.reduceLT, Nat.reduceEqDiff, Nat.zero_add, Nat.add_zero, Nat.le_refl, 
    reduceIte, ne_eq, not_false_eq_true, and_self, true_and, and_true, reduceCtorEq, cond_true, cond_false, c_spec_l00Src_pick, hle, hnz, e1, i1, i2]

/-- A new source. -/
theorem source_eq (σ : Store) (a : AV) (bytes : List UInt8) (ha : RS RByte 1 σ bytes a) (hl : bytes.length ≤ 2000000) : ∃ σ', EE X f_spec_l00Source [a] σ = some (.ptr σ.length 0 0 0, σ') ∧ Src σ' σ.length 0 ∧ Pre σ σ' := by
  have hz : (1000 : Int) ≠ 0 := by decide
  refine ⟨σ ++ [⟨[[a, int 0, int ((bytes.length : Int).tmod 1000)]], 3, 0, .own⟩], ?_, ⟨a, 0, _, bytes, ObjAt.new σ [a, int 0, int ((bytes.length : Int).tmod 1000)], ha.pre RByte.mono (Pre.app _ _), ?_, Nat.le_refl _, Int.tmod_nonneg _ (by omega), ?_, hl⟩, Pre.app _ _⟩
  · rw [EE, Ex_run C_spec_l00Source rfl]
    simp (config := {contextual := true, implicitDefEqProofs := false, maxSteps := 1000000}) only [
    ↓PR0, ↓PR1, ↓PR2, PO0, PO1, PO2, PO3, idxV_str, result, resOf, allSome, number, upd, List.map, Option.bind_some, Nat.reduceAdd, Nat.reduceSub, Nat.reduceLeDiff, Nat.reduceLT, Nat.reduceEqDiff, Nat.zero_add, Nat.add_zero, Nat.le_refl, 
    reduceIte, ne_eq, not_false_eq_true, and_self, true_and, and_true, reduceCtorEq, cond_true, cond_false, c_spec_l00Source, ha.len, ha.cellsOf, binV_rem _ _ _ hz]
  · intro r v i n e
    obtain ⟨els, h1, _⟩ := ha
    rcases h1.cases with ⟨e1, _⟩ | ⟨r', v', i', n', row, e1, hr, _⟩
    · rw [e] at e1; cases e1
    · rw [e] at e1; cases e1
      have := rowAt_lt hr
      omega
  · have := Int.tmod_lt_of_pos (bytes.length : Int) (show (0 : Int) < 1000 by decide)
    omega
end Go.X

/- Trees as texts: the reference. -/
import Derived.Test.YtfifhpmcbfeadaaGreatDoorXJ1
import Derived.Test.YtfifhpmcbfeadaaGreatDoorXL10
import Derived.Test.YtfifhpmcbfeadaaGreatDoorXD15
import Derived.Test.YtfifhpmcbfeadaaGreatDoorY6
set_option linter.unusedVariables false
set_option linter.unusedSimpArgs false
set_option maxRecDepth 20000
namespace Go.X
open Go Go.Lib
variable {X : Call}

theorem l00JoinG_loop {R : Type} (σ : Store) (l : List (List UInt8)) (al : AV) (sep : List UInt8) (ha : RS RT 1 σ l al) (hl : l.length ≤ 1048576) (hsz : (Lib.join l sep).length ≤ 140737488355328) (kk : Out → S → Option R) : ∀ d i acc, i + d = l.length → acc ++ (if i = 0 then Lib.join (l.drop i) sep else joinTail sep (l.drop i)) = Lib.join l sep →
    loopK (EE X) [0, 1, 5, 6] l_spec_l00Join_0 ([(0, .v al), (1, .v (.str sep)), (5, .v (.str acc)), (6, .v (int i))], ⟨[], σ⟩) kk =
      kk (.exit 0) ([(0, .v al), (1, .v (.str sep)), (5, .v (.str (Lib.join l sep))), (6, .v (int l.length)), (10, .v (.bool false))], ⟨[], σ⟩) := by
  have hlen := ha.len
  intro d
  induction d with
  | zero =>
    intro i acc hi hacc
    have e : i = l.length := by omega
    subst e
    have e2 : (if l.length = 0 then Lib.join (l.drop l.length) sep else joinTail sep (l.drop l.length)) = [] := by
      rw [List.drop_length]
      split <;> rfl
    rw [e2, List.append_nil] at hacc
    rw [hacc, loopK_step l_spec_l00Join_0.eq_1]
    simp (config := {contextual := true, implicitDefEqProofs := false, maxSteps := 1000000}) only [
    ↓PR0, ↓PR1, ↓PR2, PO0, PO1, PO2, PO3, idxV_str, result, resOf, allSome, number, upd, List.map, Option.bind_some, Nat.reduceAdd, Nat.reduceSub, Nat.reduceLeDiff, Nat.reduceLT, Nat.reduceEqDiff, Nat.zero_add, Nat.add_zero, Nat.le_refl, 
    reduceIte, ne_eq, not_false_eq_true, and_self, true_and, and_true, reduceCtorEq, cond_true, cond_false, hlen, Int.lt_irrefl, decide_false]
  | succ d ih =>
    intro i acc hi hacc
    have hlt : i < l.length := by omega
    have hlt' : (i : Int) < (l.length : Int) := by omega
    have hwi : IntKind.i64.wrap ((i : Int) + 1) = ((i + 1 : Nat) : Int) := wrap64 (by omega) (by omega)
    obtain ⟨c1, ⟨hp', _⟩, ha1, ha2, _⟩ := ha.get (List.getElem?_eq_getElem hlt)
    subst hp'
    rw [List.drop_eq_getElem_cons hlt] at hacc
    by_cases h0 : i = 0
    · subst h0
      have h00 : ¬ ((0 : Int) < ((0 : Nat) : Int)) := by decide
      rw [if_pos rfl, join_cons, ← List.append_assoc] at hacc
      have hll := congrArg List.length hacc
      simp only [List.length_append] at hll
      have hc1 : acc.length + (l[0]).length ≤ 140737488355328 := by omega
      rw [← ih 1 (acc ++ l[0]) (by omega) (by rw [if_neg (by decide)]; exact hacc), loopK_step l_spec_l00Join_0.eq_1]
      simp (config := {contextual := true, implicitDefEqProofs := false, maxSteps := 1000000}) only [
    ↓PR0, ↓PR1, ↓PR2, PO0, PO1, PO2, PO3, idxV_str, result, resOf, allSome, number, upd, List.map, Option.bind_some, Nat.reduceAdd, Nat.reduceSub, Nat.reduceLeDiff, Nat.reduceLT, Nat.reduceEqDiff, Nat.zero_add, Nat.add_zero, Nat.le_refl, 
    reduceIte, ne_eq, not_false_eq_true, and_self, true_and, and_true, reduceCtorEq, cond_true, cond_false, hlen, hlt', decide_true, h00, decide_false, ha1, ha2, binV_cat _ _ hc1, hwi]
    · have h00 : (0 : Int) < (i : Int) := by omega
      rw [if_neg h0] at hacc
      have e3 : acc ++ joinTail sep (l[i] :: l.drop (i + 1)) = acc ++ sep ++ l[i] ++ joinTail sep (l.drop (i + 1)) := by
        simp only [joinTail, List.map_cons, List.flatten_cons, List.append_assoc]
      rw [e3] at hacc
      have hll := congrArg List.length hacc
      simp only [List.length_append] at hll
      have hc0 : acc.length + sep.length ≤ 140737488355328 := by omega
      have hc1 : (acc ++ sep).length + (l[i]).length ≤ 140737488355328 := by simp only [List.length_append]; omega
      rw [← ih (i + 1) (acc ++ sep ++ l[i]) (by omega) (by rw [if_neg (by omega)]; exact hacc), loopK_step l_spec_l00Join_0.eq_1]
      simp (config := {contextual := true, implicitDefEqProofs := false, maxSteps := 1000000}) only [
    ↓PR0, ↓PR1, ↓PR2, PO0, PO1, PO2, PO3, idxV_str, result, resOf, allSome, number, upd, List.map, Option.bind_some, Nat.reduceAdd, Nat.reduceSub, Nat.reduceLeDiff, Nat.reduceLT, Nat.reduceEqDiff, Nat.zero_add, Nat.add_zero, Nat.le_refl, 
    reduceIte, ne_eq, not_false_eq_true, and_self, true_and, and_true, reduceCtorEq, cond_true, cond_false, hlen, hlt', decide_true, h00, ha1, ha2, binV_cat _ _ hc0, binV_cat _ _ hc1, hwi]
theorem l00JoinG (σ : Store) (l : List (List UInt8)) (al : AV) (sep : List UInt8) (ha : RS RT 1 σ l al) (hl : l.length ≤ 1048576) (hsz : (Lib.join l sep).length ≤ 140737488355328) : EE X f_spec_l00Join [al, .str sep] σ = some (.str (Lib.join l sep), σ) := by
  have h := fun kk : Out → S → Option (AV × Store) => l00JoinG_loop (X := X) σ l al sep ha hl hsz kk l.length 0 [] (by omega) (by simp)
  simp only [Int.cast_ofNat_Int] at h
  rw [EE, Ex_run C_spec_l00Join rfl]
  simp (config := {contextual := true, implicitDefEqProofs := false, maxSteps := 1000000}) only [
    ↓PR0, ↓PR1, ↓PR2, PO0, PO1, PO2, PO3, idxV_str, result, resOf, allSome, number, upd, List.map, Option.bind_some, Nat.reduceAdd, Nat.reduceSub, Nat.reduceLeDiff, Nat.reduceLT, Nat.reduceEqDiff, Nat.zero_add, Nat.add_zero, Nat.le_refl, 
    reduceIte, ne_eq, not_false_eq_true, and_self, true_and, and_true, reduceCtorEq, cond_true, cond_false, c_spec_l00Join, ha.cellsOf, h]

theorem sum_mem {g : Int → Nat} : ∀ {l : List Int} (_ : List Int) {x : Int}, x ∈ l → g x ≤ (l.map g).sum
  | [], _, _, h => by cases h
  | y :: l, r, x, h => by
    simp only [List.map_cons, List.sum_cons]
    rcases List.mem_cons.1 h with rfl | h
    · omega
    · have := sum_mem (g := g) r h; omega
/-- The reference's text of a node. -/
def TextS (X : Call) (τ : Store) (m : TreeM) (a : AV) (f : Nat) : Prop := ∀ (k : Int) (σ : Store), DownT m f k → Pre τ σ → sumB costM m f k ≤ 18000000 →
  Wp (EE X f_spec_l03Text [.agg [a, int m.root], int k] σ) (fun r => r.1 = .str (txM m f k) ∧ Pre σ r.2)
theorem kidsS_loop {τ : Store} {m : TreeM} {a an ak : AV} {f q : Nat} (ih : TextS X τ m a f) {nd : NodeM} (hd : ∀ c ∈ nd.kids, DownT m f c) (hsum : (nd.kids.map (sumB costM m f)).sum ≤ 18000000) (hak : RS RI 1 τ nd.kids ak) (hkl : nd.kids.length ≤ 1048576) (hq : τ.length ≤ q) {Q : AV × Store → Prop} {kk : Out → S → Option (AV × Store)} {σ : Store} :
    ∀ d i (σ1 : Store) (o : AV), i + d = nd.kids.length → Pre τ σ1 → OwR q σ1 1 (cX ((nd.kids.take i).map (txM m f))) o → Fr (fun x => x = q) σ σ1 →
    (∀ o' σ2, OwR q σ2 1 (cX (nd.kids.map (txM m f))) o' → Fr (fun x => x = q) σ σ2 → Wp (kk (.exit 0) ([(2, .lp 2 0), (5, .lp 5 0), (6, .v o'), (7, .v (int nd.kids.length)), (19, .v (.bool false))], ⟨[(2, [a, int m.root]), (5, nc nd an ak)], σ2⟩)) Q) →
    Wp (loopK (EE X) [2, 5, 6, 7] l_spec_l03Text_0 ([(2, .lp 2 0), (5, .lp 5 0), (6, .v o), (7, .v (int i))], ⟨[(2, [a, int m.root]), (5, nc nd an ak)], σ1⟩) kk) Q := by
  intro d
  induction d with
  | zero =>
    intro i σ1 o hi hp hw hf k
    have e : i = nd.kids.length := by omega
    subst e
    have hlen := (hak.pre (RP.mono _ _) hp).len
    rw [List.take_length] at hw
    have := k o σ1 hw hf
    rw [loopK_step l_spec_l03Text_0.eq_1]
    simp (config := {contextual := true, implicitDefEqProofs := false, maxSteps := 1000000}) only [
    ↓PR0, ↓PR1, ↓PR2, PO0, PO1, PO2, PO3, idxV_str, result, resOf, allSome, number, upd, List.map, Option.bind_some, Nat.reduceAdd, Nat.reduceSub, Nat.reduceLeDiff, Nat.reduceLT, Nat.reduceEqDiff, Nat.zero_add, Nat.add_zero, Nat.le_refl, 
    reduceIte, ne_eq, not_false_eq_true, and_self, true_and, and_true, reduceCtorEq, cond_true, cond_false, hlen, Int.lt_irrefl, decide_false]
    exact this
  | succ d ihd =>
    intro i σ1 o hi hp hw hf k
    have hlt : i < nd.kids.length := by omega
    have hlt' : (i : Int) < (nd.kids.length : Int) := by omega
    have hwi : IntKind.i64.wrap ((i : Int) + 1) = ((i + 1 : Nat) : Int) := wrap64 (by omega) (by omega)
    have hak1 := hak.pre (RP.mono _ _) hp
    have hlen := hak1.len
    obtain ⟨c1, ⟨hp', _⟩, ha1, ha2, _⟩ := hak1.get (List.getElem?_eq_getElem hlt)
    subst hp'
    have hmem := List.getElem_mem hlt
    have hle : sumB costM m f nd.kids[i] ≤ (nd.kids.map (sumB costM m f)).sum := by
      exact sum_mem [] hmem
    obtain ⟨⟨v, σ2⟩, e2, rfl, p2⟩ := ih nd.kids[i] σ1 (hd _ hmem) hp (by omega)
    have hw2 := hw.pre p2
    obtain ⟨o3, σ3, x1, x2, x3⟩ := hw2.app 16 [[.str (txM m f nd.kids[i])]] (by rw [cX_len]; simp only [List.length_map, List.length_take, List.length_cons, List.length_nil]; omega)
    have hel : ∀ M, elsOf M 1 (.ls [[.str (txM m f nd.kids[i])]]) = some [[.str (txM m f nd.kids[i])]] := fun _ => rfl
    have x2' : OwR q σ3 1 (cX ((nd.kids.take (i + 1)).map (txM m f))) o3 := by
      rw [List.take_succ_eq_append_getElem hlt, List.map_append, cX_app]; exact x2
    have := ihd (i + 1) σ3 o3 (by omega) ((hp.pre p2).trans x3 (fun x h1 h2 => by omega)) x2' ((hf.pre p2).step x3) k
    rw [loopK_step l_spec_l03Text_0.eq_1]
    simp (config := {contextual := true, implicitDefEqProofs := false, maxSteps := 1000000}) only [
    ↓PR0, ↓PR1, ↓PR2, PO0, PO1, PO2, PO3, idxV_str, result, resOf, allSome, number, upd, List.map, Option.bind_some, Nat.reduceAdd, Nat.reduceSub, Nat.reduceLeDiff, Nat.reduceLT, Nat.reduceEqDiff, Nat.zero_add, Nat.add_zero, Nat.le_refl, 
    reduceIte, ne_eq, not_false_eq_true, and_self, true_and, and_true, reduceCtorEq, cond_true, cond_false, hlen, hlt', decide_true, ha1, ha2, e2, List.replicate_succ, List.replicate_zero, List.set_cons_zero, hel, x1, hwi]
    exact this
theorem cX_get {q : Nat} {σ : Store} {ks : List (List UInt8)} {o : AV} (h : OwR q σ 1 (cX ks) o) {i : Nat} (hi : i < ks.length) : iadrV σ 1 o (int i) = some (elP o i) ∧ (∀ bx, place ⟨bx, σ⟩ (.v (elP o i)) = some ([.str (kd ks i)], 0)) := by
  have e : (cX ks)[i]? = some [.str (kd ks i)] := by
    simp [cX, kd, List.getD, List.getElem?_eq_getElem hi]
  exact ⟨h.slAt.iadr .i64 (by rw [cX_len]; exact hi), fun bx => h.slAt.place bx e⟩
theorem cX_rsT {q : Nat} {σ : Store} {ks : List (List UInt8)} {o : AV} (h : OwR q σ 1 (cX ks) o) (hl : lens ks ≤ 100000000) : RS RT 1 σ ks o := h.rs (All2.map (fun t ht => ⟨rfl, by
  have : t.length ≤ lens ks := by
    clear h hl
    unfold lens
    induction ks with
    | nil => cases ht
    | cons x ks ih =>
      simp only [List.map_cons, List.sum_cons]
      rcases List.mem_cons.1 ht with rfl | ht
      · omega
      · have := ih ht; omega
  unfold LenOk; omega⟩))
theorem txM_node {m : TreeM} {f : Nat} {k : Int} {nd : NodeM} (h : m.nodes[k.toNat]? = some nd) : txM m (f + 1) k = nodeT nd (nd.kids.map (txM m f)) := by simp only [txM, h]
theorem kd_le (ks : List (List UInt8)) (i : Nat) : (kd ks i).length ≤ lens ks := by
  rcases Nat.lt_or_ge i ks.length with h | h
  · exact kd_len ks i h
  · have : kd ks i = [] := by simp [kd, List.getD, List.getElem?_eq_none h]
    rw [this]; simp
theorem boolText_eq (b : Bool) (σ : Store) : EE X f_spec_l01ValueText [.agg [int 2, int (bif b then 1 else 0), .str []]] σ = some (.str (if b = true then [116, 114, 117, 101] else [102, 97, 108, 115, 101]), σ) := by
  cases b with
  | true =>
    rw [EE, Ex_run C_spec_l01ValueText rfl]
    simp (config := {contextual := true, implicitDefEqProofs := false, maxSteps := 1000000}) only [
    ↓PR0, ↓PR1, ↓PR2, PO0, PO1, PO2, PO3, idxV_str, result, resOf, allSome, number, upd, List.map, Option.bind_some, Nat.reduceAdd, Nat.reduceSub, Nat.reduceLeDiff, Nat.reduceLT, Nat.reduceEqDiff, Nat.zero_add, Nat.add_zero, Nat.le_refl, 
    reduceIte, ne_eq, not_false_eq_true, and_self, true_and, and_true, reduceCtorEq, cond_true, cond_false, c_spec_l01ValueText, Int.reduceBEq]
  | false =>
    rw [EE, Ex_run C_spec_l01ValueText rfl]
    simp (config := {contextual := true, implicitDefEqProofs := false, maxSteps := 1000000}) only [
    ↓PR0, ↓PR1, ↓PR2, PO0, PO1, PO2, PO3, idxV_str, result, resOf, allSome, number, upd, List.map, Option.bind_some, Nat.reduceAdd, Nat.reduceSub, Nat.reduceLeDiff, Nat.reduceLT, Nat.reduceEqDiff, Nat.zero_add, Nat.add_zero, Nat.le_refl, 
    reduceIte, ne_eq, not_false_eq_true, and_self, true_and, and_true, reduceCtorEq, cond_true, cond_false, c_spec_l01ValueText, Int.reduceBEq]
theorem l01Bit_eq2 (b : Bool) (σ : Store) : EE X f_spec_l01Bit [.bool b] σ = some (int (bif b then 1 else 0), σ) := by
  cases b with
  | true =>
    rw [EE, Ex_run C_spec_l01Bit rfl]
    simp (config := {contextual := true, implicitDefEqProofs := false, maxSteps := 1000000}) only [
    ↓PR0, ↓PR1, ↓PR2, PO0, PO1, PO2, PO3, idxV_str, result, resOf, allSome, number, upd, List.map, Option.bind_some, Nat.reduceAdd, Nat.reduceSub, Nat.reduceLeDiff, Nat.reduceLT, Nat.reduceEqDiff, Nat.zero_add, Nat.add_zero, Nat.le_refl, 
    reduceIte, ne_eq, not_false_eq_true, and_self, true_and, and_true, reduceCtorEq, cond_true, cond_false, c_spec_l01Bit]
  | false =>
    rw [EE, Ex_run C_spec_l01Bit rfl]
    simp (config := {contextual := true, implicitDefEqProofs := false, maxSteps := 1000000}) only [
    ↓PR0, ↓PR1, ↓PR2, PO0, PO1, PO2, PO3, idxV_str, result, resOf, allSome, number, upd, List.map, Option.bind_some, Nat.reduceAdd, Nat.reduceSub, Nat.reduceLeDiff, Nat.reduceLT, Nat.reduceEqDiff, Nat.zero_add, Nat.add_zero, Nat.le_refl, 
    reduceIte, ne_eq, not_false_eq_true, and_self, true_and, and_true, reduceCtorEq, cond_true, cond_false, c_spec_l01Bit]
theorem l01Bool_eq2 (b : Bool) (σ : Store) : EE X f_spec_l01Bool [.bool b] σ = some (.agg [int 2, int (bif b then 1 else 0), .str []], σ) := by
  rw [EE, Ex_run C_spec_l01Bool rfl]
  simp (config := {contextual := true, implicitDefEqProofs := false, maxSteps := 1000000}) only [
    ↓PR0, ↓PR1, ↓PR2, PO0, PO1, PO2, PO3, idxV_str, result, resOf, allSome, number, upd, List.map, Option.bind_some, Nat.reduceAdd, Nat.reduceSub, Nat.reduceLeDiff, Nat.reduceLT, Nat.reduceEqDiff, Nat.zero_add, Nat.add_zero, Nat.le_refl, 
    reduceIte, ne_eq, not_false_eq_true, and_self, true_and, and_true, reduceCtorEq, cond_true, cond_false, c_spec_l01Bool, l01Bit_eq2 (X := X)]
theorem names_cost (nd : NodeM) : (Lib.join nd.names [44, 32]).length ≤ costM nd := by
  have h2 := join_len [44, 32] nd.names
  have h3 : (nd.names.map (fun t => t.length + 2)).sum = lens nd.names + nd.names.length * 2 := by
    unfold lens
    generalize nd.names = l
    induction l with
    | nil => rfl
    | cons t l ih => simp only [List.map_cons, List.sum_cons, List.length_cons, ih]; omega
  simp only [List.length_cons, List.length_nil] at h2
  unfold costM; omega
set_option maxHeartbeats 4000000 in
theorem textS_all {τ : Store} {m : TreeM} {a : AV} (hT : RTree τ m [a, int m.root]) (hR : RightT m) (hs : m.size ≤ 1048576) (hI : ∀ nd ∈ m.nodes, I64 nd.n) : ∀ f, TextS X τ m a f := by
  intro f
  induction f with
  | zero => intro k σ h; exact h.elim
  | succ f ih =>
    intro k σ hdn hp hsum
    obtain ⟨h0, nd, hnd, hkids⟩ := hdn
    obtain ⟨c, rfl⟩ := Int.eq_ofNat_of_zero_le h0
    rw [Int.toNat_natCast] at hnd
    have hnd' : m.nodes[((c : Nat) : Int).toNat]? = some nd := hnd
    obtain ⟨an, ak, hrn, han, hak, hn⟩ := hT.node hnd
    obtain ⟨n1, n2, n3, n4⟩ := hn σ hp
    have hsz := NodeM.size_le hnd hs
    simp only [NodeM.size] at hsz
    have hkl : nd.kids.length ≤ 1048576 := by omega
    have hsl := (hR.node c nd hnd).2.1
    have hin := hI nd (List.mem_of_getElem? hnd)
    simp only [sumB, nodeW, hnd'] at hsum
    have hlen := nodeT_len nd (nd.kids.map (txM m f)) (by simp) hsl hin
    have hlens : lens (nd.kids.map (txM m f)) ≤ (nd.kids.map (sumB costM m f)).sum := by
      unfold lens
      rw [List.map_map]
      generalize nd.kids = ks
      induction ks with
      | nil => simp
      | cons c ks ihk => simp only [List.map_cons, List.sum_cons, Function.comp]; have := txM_len m hR hI f c; omega
    rw [txM_node hnd', EE, Ex_run C_spec_l03Text rfl, c_spec_l03Text]
    refine Wp.seq fun K hK => ?_
    simp (config := {contextual := true, implicitDefEqProofs := false, maxSteps := 1000000}) only [
    ↓PR0, ↓PR1, ↓PR2, PO0, PO1, PO2, PO3, idxV_str, result, resOf, allSome, number, upd, List.map, Option.bind_some, Nat.reduceAdd, Nat.reduceSub, Nat.reduceLeDiff, Nat.reduceLT, Nat.reduceEqDiff, Nat.zero_add, Nat.add_zero, Nat.le_refl, 
    reduceIte, ne_eq, not_false_eq_true, and_self, true_and, and_true, reduceCtorEq, cond_true, cond_false]
    subst hK
    rw [seqK_norm]
    refine Wp.seq fun K hK => ?_
    simp (config := {contextual := true, implicitDefEqProofs := false, maxSteps := 1000000}) only [
    ↓PR0, ↓PR1, ↓PR2, PO0, PO1, PO2, PO3, idxV_str, result, resOf, allSome, number, upd, List.map, Option.bind_some, Nat.reduceAdd, Nat.reduceSub, Nat.reduceLeDiff, Nat.reduceLT, Nat.reduceEqDiff, Nat.zero_add, Nat.add_zero, Nat.le_refl, 
    reduceIte, ne_eq, not_false_eq_true, and_self, true_and, and_true, reduceCtorEq, cond_true, cond_false, n1, n2, List.replicate_zero]
    subst hK
    rw [seqK_norm]
    refine Wp.seq fun K hK => ?_
    simp (config := {contextual := true, implicitDefEqProofs := false, maxSteps := 1000000}) only [
    ↓PR0, ↓PR1, ↓PR2, PO0, PO1, PO2, PO3, idxV_str, result, resOf, allSome, number, upd, List.map, Option.bind_some, Nat.reduceAdd, Nat.reduceSub, Nat.reduceLeDiff, Nat.reduceLT, Nat.reduceEqDiff, Nat.zero_add, Nat.add_zero, Nat.le_refl, 
    reduceIte, ne_eq, not_false_eq_true, and_self, true_and, and_true, reduceCtorEq, cond_true, cond_false, List.replicate_zero]
    subst hK
    rw [seqK_norm]
    refine Wp.seq fun K hK => ?_
    simp (config := {contextual := true, implicitDefEqProofs := false, maxSteps := 1000000}) only [
    ↓PR0, ↓PR1, ↓PR2, PO0, PO1, PO2, PO3, idxV_str, result, resOf, allSome, number, upd, List.map, Option.bind_some, Nat.reduceAdd, Nat.reduceSub, Nat.reduceLeDiff, Nat.reduceLT, Nat.reduceEqDiff, Nat.zero_add, Nat.add_zero, Nat.le_refl, 
    reduceIte, ne_eq, not_false_eq_true, and_self, true_and, and_true, reduceCtorEq, cond_true, cond_false]
    have hw : OwR σ.length (σ ++ [⟨[], 1, 0, .own⟩]) 1 (cX []) (.sl σ.length 0 0 0) := OwR.new σ (cX []) 1
    refine kidsS_loop ih hkids (by omega) hak hkl hp.1 nd.kids.length 0 _ _ (by omega) (hp.pre (Pre.app _ _)) (by simpa using hw) (Fr.app _ _ _) fun o' σ2 w2 f2 => ?_
    rw [blkK_hit]
    subst hK
    rw [seqK_norm]
    have pre2 : Pre σ σ2 := f2.weak (fun x h1 h2 => by omega)
    have han2 := han.pre (RP.mono _ _) (hp.pre pre2)
    have hnl : nd.names.length ≤ 1048576 := by omega
    have hjn := names_cost nd
    obtain ⟨ks, hks⟩ : ∃ ks, ks = nd.kids.map (txM m f) := ⟨_, rfl⟩
    have hkn : ks.length = nd.kids.length := by rw [hks, List.length_map]
    rw [← hks] at w2 hlen hlens ⊢
    have bt : BdN nd.text 2 := .up 2 (by omega)
    have b0 : BdN (kd ks 0) 18 := .up 18 (by have := kd_le ks 0; omega)
    have b1 : BdN (kd ks 1) 18 := .up 18 (by have := kd_le ks 1; omega)
    have b2 : BdN (kd ks 2) 18 := .up 18 (by have := kd_le ks 2; omega)
    have bn : BdN (Lib.join nd.names [44, 32]) 18 := .up 18 (by omega)
    have jc := join_len [44, 32] ks
    have js := join_len [32] ks
    simp only [List.length_cons, List.length_nil] at jc js
    have bc : BdN (Lib.join ks [44, 32]) 22 := .up 22 (by omega)
    have bs : BdN (Lib.join ks [32]) 22 := .up 22 (by omega)
    have rks := cX_rsT w2 (by omega)
    have g0 := fun h : 0 < ks.length => cX_get w2 h
    have g1 := fun h : 1 < ks.length => cX_get w2 h
    have g2 := fun h : 2 < ks.length => cX_get w2 h
    simp only [Int.cast_ofNat_Int] at g0 g1 g2
    have hlk := w2.slAt.len
    rw [cX_len] at hlk
    obtain ⟨kk, n, t, ns, kids⟩ := nd
    simp only at *
    have one := fun h => sorts_one (nd := ⟨kk, n, t, ns, kids⟩) h
    have two := fun h => sorts_two (nd := ⟨kk, n, t, ns, kids⟩) h
    have sif := fun h => sorts_if (nd := ⟨kk, n, t, ns, kids⟩) h
    simp only at one two sif
    rcases kindCases kk with rfl | rfl | rfl | rfl | rfl | rfl | rfl | rfl | rfl | rfl | rfl | rfl | rfl | rfl | rfl | rfl | rfl | rfl | rfl | rfl | hk'
    · have hd := l00Digits_eq (X := X) n hin σ2
      simp (config := {contextual := true, implicitDefEqProofs := false, maxSteps := 1000000}) only [
    ↓PR0, ↓PR1, ↓PR2, PO0, PO1, PO2, PO3, idxV_str, result, resOf, allSome, number, upd, List.map, Option.bind_some, Nat.reduceAdd, Nat.reduceSub, Nat.reduceLeDiff, Nat.reduceLT, Nat.reduceEqDiff, Nat.zero_add, Nat.add_zero, Nat.le_refl, 
    reduceIte, ne_eq, not_false_eq_true, and_self, true_and, and_true, reduceCtorEq, cond_true, cond_false, Int.reduceBEq, hd]
      exact Wp.some ⟨by simp [nodeT], pre2⟩
    · obtain ⟨σ3, e3, p3⟩ := l02Quote_eq (X := X) t (by omega) σ2
      simp (config := {contextual := true, implicitDefEqProofs := false, maxSteps := 1000000}) only [
    ↓PR0, ↓PR1, ↓PR2, PO0, PO1, PO2, PO3, idxV_str, result, resOf, allSome, number, upd, List.map, Option.bind_some, Nat.reduceAdd, Nat.reduceSub, Nat.reduceLeDiff, Nat.reduceLT, Nat.reduceEqDiff, Nat.zero_add, Nat.add_zero, Nat.le_refl, 
    reduceIte, ne_eq, not_false_eq_true, and_self, true_and, and_true, reduceCtorEq, cond_true, cond_false, Int.reduceBEq, e3]
      exact Wp.some ⟨by simp [nodeT], pre2.pre p3⟩
    · simp (config := {contextual := true, implicitDefEqProofs := false, maxSteps := 1000000}) only [
    ↓PR0, ↓PR1, ↓PR2, PO0, PO1, PO2, PO3, idxV_str, result, resOf, allSome, number, upd, List.map, Option.bind_some, Nat.reduceAdd, Nat.reduceSub, Nat.reduceLeDiff, Nat.reduceLT, Nat.reduceEqDiff, Nat.zero_add, Nat.add_zero, Nat.le_refl, 
    reduceIte, ne_eq, not_false_eq_true, and_self, true_and, and_true, reduceCtorEq, cond_true, cond_false, Int.reduceBEq, l01Bool_eq2 (X := X), boolText_eq (X := X)]
      exact Wp.some ⟨by simp [nodeT], pre2⟩
    · simp (config := {contextual := true, implicitDefEqProofs := false, maxSteps := 1000000}) only [
    ↓PR0, ↓PR1, ↓PR2, PO0, PO1, PO2, PO3, idxV_str, result, resOf, allSome, number, upd, List.map, Option.bind_some, Nat.reduceAdd, Nat.reduceSub, Nat.reduceLeDiff, Nat.reduceLT, Nat.reduceEqDiff, Nat.zero_add, Nat.add_zero, Nat.le_refl, 
    reduceIte, ne_eq, not_false_eq_true, and_self, true_and, and_true, reduceCtorEq, cond_true, cond_false, Int.reduceBEq]
      exact Wp.some ⟨by simp [nodeT], pre2⟩
    · simp (config := {contextual := true, implicitDefEqProofs := false, maxSteps := 1000000}) only [
    ↓PR0, ↓PR1, ↓PR2, PO0, PO1, PO2, PO3, idxV_str, result, resOf, allSome, number, upd, List.map, Option.bind_some, Nat.reduceAdd, Nat.reduceSub, Nat.reduceLeDiff, Nat.reduceLT, Nat.reduceEqDiff, Nat.zero_add, Nat.add_zero, Nat.le_refl, 
    reduceIte, ne_eq, not_false_eq_true, and_self, true_and, and_true, reduceCtorEq, cond_true, cond_false, Int.reduceBEq]
      exact Wp.some ⟨by simp [nodeT], pre2⟩
    · have hl1 := one (by decide)
      have k0 := g0 (by omega)
      simp (config := {contextual := true, implicitDefEqProofs := false, maxSteps := 1000000}) only [
    ↓PR0, ↓PR1, ↓PR2, PO0, PO1, PO2, PO3, idxV_str, result, resOf, allSome, number, upd, List.map, Option.bind_some, Nat.reduceAdd, Nat.reduceSub, Nat.reduceLeDiff, Nat.reduceLT, Nat.reduceEqDiff, Nat.zero_add, Nat.add_zero, Nat.le_refl, 
    reduceIte, ne_eq, not_false_eq_true, and_self, true_and, and_true, reduceCtorEq, cond_true, cond_false, Int.reduceBEq, k0.1, k0.2, binV_catB]
      exact Wp.some ⟨by simp [nodeT], pre2⟩
    · have hl2 := two (by decide)
      have k0 := g0 (by omega)
      have k1 := g1 (by omega)
      simp (config := {contextual := true, implicitDefEqProofs := false, maxSteps := 1000000}) only [
    ↓PR0, ↓PR1, ↓PR2, PO0, PO1, PO2, PO3, idxV_str, result, resOf, allSome, number, upd, List.map, Option.bind_some, Nat.reduceAdd, Nat.reduceSub, Nat.reduceLeDiff, Nat.reduceLT, Nat.reduceEqDiff, Nat.zero_add, Nat.add_zero, Nat.le_refl, 
    reduceIte, ne_eq, not_false_eq_true, and_self, true_and, and_true, reduceCtorEq, cond_true, cond_false, Int.reduceBEq, k0.1, k0.2, k1.1, k1.2, binV_catB]
      exact Wp.some ⟨by simp [nodeT], pre2⟩
    · have hl2 := two (by decide)
      have k0 := g0 (by omega)
      have k1 := g1 (by omega)
      simp (config := {contextual := true, implicitDefEqProofs := false, maxSteps := 1000000}) only [
    ↓PR0, ↓PR1, ↓PR2, PO0, PO1, PO2, PO3, idxV_str, result, resOf, allSome, number, upd, List.map, Option.bind_some, Nat.reduceAdd, Nat.reduceSub, Nat.reduceLeDiff, Nat.reduceLT, Nat.reduceEqDiff, Nat.zero_add, Nat.add_zero, Nat.le_refl, 
    reduceIte, ne_eq, not_false_eq_true, and_self, true_and, and_true, reduceCtorEq, cond_true, cond_false, Int.reduceBEq, k0.1, k0.2, k1.1, k1.2, binV_catB]
      exact Wp.some ⟨by simp [nodeT], pre2⟩
    · have hl2 := two (by decide)
      have k0 := g0 (by omega)
      have k1 := g1 (by omega)
      simp (config := {contextual := true, implicitDefEqProofs := false, maxSteps := 1000000}) only [
    ↓PR0, ↓PR1, ↓PR2, PO0, PO1, PO2, PO3, idxV_str, result, resOf, allSome, number, upd, List.map, Option.bind_some, Nat.reduceAdd, Nat.reduceSub, Nat.reduceLeDiff, Nat.reduceLT, Nat.reduceEqDiff, Nat.zero_add, Nat.add_zero, Nat.le_refl, 
    reduceIte, ne_eq, not_false_eq_true, and_self, true_and, and_true, reduceCtorEq, cond_true, cond_false, Int.reduceBEq, k0.1, k0.2, k1.1, k1.2, binV_catB]
      exact Wp.some ⟨by simp [nodeT], pre2⟩
    · have hj := l00JoinG (X := X) σ2 ks o' [44, 32] rks (by omega) (by omega)
      simp (config := {contextual := true, implicitDefEqProofs := false, maxSteps := 1000000}) only [
    ↓PR0, ↓PR1, ↓PR2, PO0, PO1, PO2, PO3, idxV_str, result, resOf, allSome, number, upd, List.map, Option.bind_some, Nat.reduceAdd, Nat.reduceSub, Nat.reduceLeDiff, Nat.reduceLT, Nat.reduceEqDiff, Nat.zero_add, Nat.add_zero, Nat.le_refl, 
    reduceIte, ne_eq, not_false_eq_true, and_self, true_and, and_true, reduceCtorEq, cond_true, cond_false, Int.reduceBEq, hj, binV_catB]
      exact Wp.some ⟨by simp [nodeT], pre2⟩
    · have hl1 := one (by decide)
      have k0 := g0 (by omega)
      simp (config := {contextual := true, implicitDefEqProofs := false, maxSteps := 1000000}) only [
    ↓PR0, ↓PR1, ↓PR2, PO0, PO1, PO2, PO3, idxV_str, result, resOf, allSome, number, upd, List.map, Option.bind_some, Nat.reduceAdd, Nat.reduceSub, Nat.reduceLeDiff, Nat.reduceLT, Nat.reduceEqDiff, Nat.zero_add, Nat.add_zero, Nat.le_refl, 
    reduceIte, ne_eq, not_false_eq_true, and_self, true_and, and_true, reduceCtorEq, cond_true, cond_false, Int.reduceBEq, k0.1, k0.2, binV_catB]
      exact Wp.some ⟨by simp [nodeT], pre2⟩
    · have hl1 := one (by decide)
      have k0 := g0 (by omega)
      simp (config := {contextual := true, implicitDefEqProofs := false, maxSteps := 1000000}) only [
    ↓PR0, ↓PR1, ↓PR2, PO0, PO1, PO2, PO3, idxV_str, result, resOf, allSome, number, upd, List.map, Option.bind_some, Nat.reduceAdd, Nat.reduceSub, Nat.reduceLeDiff, Nat.reduceLT, Nat.reduceEqDiff, Nat.zero_add, Nat.add_zero, Nat.le_refl, 
    reduceIte, ne_eq, not_false_eq_true, and_self, true_and, and_true, reduceCtorEq, cond_true, cond_false, Int.reduceBEq, k0.1, k0.2, binV_catB]
      exact Wp.some ⟨by simp [nodeT], pre2⟩
    · have hl := sif rfl
      by_cases h3 : kids.length = 3
      · have k0 := g0 (by omega)
        have k1 := g1 (by omega)
        have k2 := g2 (by omega)
        have e3 : ((ks.length : Int) == 3) = true := by rw [hkn, h3]; rfl
        simp (config := {contextual := true, implicitDefEqProofs := false, maxSteps := 1000000}) only [
    ↓PR0, ↓PR1, ↓PR2, PO0, PO1, PO2, PO3, idxV_str, result, resOf, allSome, number, upd, List.map, Option.bind_some, Nat.reduceAdd, Nat.reduceSub, Nat.reduceLeDiff, Nat.reduceLT, Nat.reduceEqDiff, Nat.zero_add, Nat.add_zero, Nat.le_refl, 
    reduceIte, ne_eq, not_false_eq_true, and_self, true_and, and_true, reduceCtorEq, cond_true, cond_false, Int.reduceBEq, k0.1, k0.2, k1.1, k1.2, k2.1, k2.2, hlk, e3, binV_catB]
        exact Wp.some ⟨by simp [nodeT, hkn, h3], pre2⟩
      · rw [if_neg h3] at hl
        have k0 := g0 (by omega)
        have k1 := g1 (by omega)
        have e3 : ((ks.length : Int) == 3) = false := by rw [hkn, beq_eq_false_iff_ne]; omega
        simp (config := {contextual := true, implicitDefEqProofs := false, maxSteps := 1000000}) only [
    ↓PR0, ↓PR1, ↓PR2, PO0, PO1, PO2, PO3, idxV_str, result, resOf, allSome, number, upd, List.map, Option.bind_some, Nat.reduceAdd, Nat.reduceSub, Nat.reduceLeDiff, Nat.reduceLT, Nat.reduceEqDiff, Nat.zero_add, Nat.add_zero, Nat.le_refl, 
    reduceIte, ne_eq, not_false_eq_true, and_self, true_and, and_true, reduceCtorEq, cond_true, cond_false, Int.reduceBEq, k0.1, k0.2, k1.1, k1.2, hlk, e3, binV_catB]
        exact Wp.some ⟨by simp [nodeT, hkn, h3], pre2⟩
    · have hl2 := two (by decide)
      have k0 := g0 (by omega)
      have k1 := g1 (by omega)
      simp (config := {contextual := true, implicitDefEqProofs := false, maxSteps := 1000000}) only [
    ↓PR0, ↓PR1, ↓PR2, PO0, PO1, PO2, PO3, idxV_str, result, resOf, allSome, number, upd, List.map, Option.bind_some, Nat.reduceAdd, Nat.reduceSub, Nat.reduceLeDiff, Nat.reduceLT, Nat.reduceEqDiff, Nat.zero_add, Nat.add_zero, Nat.le_refl, 
    reduceIte, ne_eq, not_false_eq_true, and_self, true_and, and_true, reduceCtorEq, cond_true, cond_false, Int.reduceBEq, k0.1, k0.2, k1.1, k1.2, binV_catB]
      exact Wp.some ⟨by simp [nodeT], pre2⟩
    · have hl1 := one (by decide)
      have k0 := g0 (by omega)
      simp (config := {contextual := true, implicitDefEqProofs := false, maxSteps := 1000000}) only [
    ↓PR0, ↓PR1, ↓PR2, PO0, PO1, PO2, PO3, idxV_str, result, resOf, allSome, number, upd, List.map, Option.bind_some, Nat.reduceAdd, Nat.reduceSub, Nat.reduceLeDiff, Nat.reduceLT, Nat.reduceEqDiff, Nat.zero_add, Nat.add_zero, Nat.le_refl, 
    reduceIte, ne_eq, not_false_eq_true, and_self, true_and, and_true, reduceCtorEq, cond_true, cond_false, Int.reduceBEq, k0.1, k0.2, binV_catB]
      exact Wp.some ⟨by simp [nodeT], pre2⟩
    · have hl1 := one (by decide)
      have k0 := g0 (by omega)
      simp (config := {contextual := true, implicitDefEqProofs := false, maxSteps := 1000000}) only [
    ↓PR0, ↓PR1, ↓PR2, PO0, PO1, PO2, PO3, idxV_str, result, resOf, allSome, number, upd, List.map, Option.bind_some, Nat.reduceAdd, Nat.reduceSub, Nat.reduceLeDiff, Nat.reduceLT, Nat.reduceEqDiff, Nat.zero_add, Nat.add_zero, Nat.le_refl, 
    reduceIte, ne_eq, not_false_eq_true, and_self, true_and, and_true, reduceCtorEq, cond_true, cond_false, Int.reduceBEq, k0.1, k0.2, binV_catB]
      exact Wp.some ⟨by simp [nodeT], pre2⟩
    · have hl2 := two (by decide)
      have k0 := g0 (by omega)
      have k1 := g1 (by omega)
      simp (config := {contextual := true, implicitDefEqProofs := false, maxSteps := 1000000}) only [
    ↓PR0, ↓PR1, ↓PR2, PO0, PO1, PO2, PO3, idxV_str, result, resOf, allSome, number, upd, List.map, Option.bind_some, Nat.reduceAdd, Nat.reduceSub, Nat.reduceLeDiff, Nat.reduceLT, Nat.reduceEqDiff, Nat.zero_add, Nat.add_zero, Nat.le_refl, 
    reduceIte, ne_eq, not_false_eq_true, and_self, true_and, and_true, reduceCtorEq, cond_true, cond_false, Int.reduceBEq, k0.1, k0.2, k1.1, k1.2, binV_catB]
      exact Wp.some ⟨by simp [nodeT], pre2⟩
    · have hj := l00JoinG (X := X) σ2 ks o' [32] rks (by omega) (by omega)
      by_cases h0 : ks = []
      · have e0 : ((ks.length : Int) == 0) = true := by rw [h0]; rfl
        simp (config := {contextual := true, implicitDefEqProofs := false, maxSteps := 1000000}) only [
    ↓PR0, ↓PR1, ↓PR2, PO0, PO1, PO2, PO3, idxV_str, result, resOf, allSome, number, upd, List.map, Option.bind_some, Nat.reduceAdd, Nat.reduceSub, Nat.reduceLeDiff, Nat.reduceLT, Nat.reduceEqDiff, Nat.zero_add, Nat.add_zero, Nat.le_refl, 
    reduceIte, ne_eq, not_false_eq_true, and_self, true_and, and_true, reduceCtorEq, cond_true, cond_false, Int.reduceBEq, hlk, e0]
        exact Wp.some ⟨by simp [nodeT, h0], pre2⟩
      · have e0 : ((ks.length : Int) == 0) = false := by
          rw [beq_eq_false_iff_ne]; intro h; apply h0; exact List.eq_nil_of_length_eq_zero (by omega)
        simp (config := {contextual := true, implicitDefEqProofs := false, maxSteps := 1000000}) only [
    ↓PR0, ↓PR1, ↓PR2, PO0, PO1, PO2, PO3, idxV_str, result, resOf, allSome, number, upd, List.map, Option.bind_some, Nat.reduceAdd, Nat.reduceSub, Nat.reduceLeDiff, Nat.reduceLT, Nat.reduceEqDiff, Nat.zero_add, Nat.add_zero, Nat.le_refl, 
    reduceIte, ne_eq, not_false_eq_true, and_self, true_and, and_true, reduceCtorEq, cond_true, cond_false, Int.reduceBEq, hlk, e0, hj, binV_catB]
        exact Wp.some ⟨by simp [nodeT, h0], pre2⟩
    · have hl1 := one (by decide)
      have k0 := g0 (by omega)
      simp (config := {contextual := true, implicitDefEqProofs := false, maxSteps := 1000000}) only [
    ↓PR0, ↓PR1, ↓PR2, PO0, PO1, PO2, PO3, idxV_str, result, resOf, allSome, number, upd, List.map, Option.bind_some, Nat.reduceAdd, Nat.reduceSub, Nat.reduceLeDiff, Nat.reduceLT, Nat.reduceEqDiff, Nat.zero_add, Nat.add_zero, Nat.le_refl, 
    reduceIte, ne_eq, not_false_eq_true, and_self, true_and, and_true, reduceCtorEq, cond_true, cond_false, Int.reduceBEq, k0.1, k0.2, binV_catB]
      exact Wp.some ⟨by simp [nodeT], pre2⟩
    · have hl1 := one (by decide)
      have k0 := g0 (by omega)
      have hj := l00JoinG (X := X) σ2 ns an [44, 32] han2 (by omega) (by omega)
      simp (config := {contextual := true, implicitDefEqProofs := false, maxSteps := 1000000}) only [
    ↓PR0, ↓PR1, ↓PR2, PO0, PO1, PO2, PO3, idxV_str, result, resOf, allSome, number, upd, List.map, Option.bind_some, Nat.reduceAdd, Nat.reduceSub, Nat.reduceLeDiff, Nat.reduceLT, Nat.reduceEqDiff, Nat.zero_add, Nat.add_zero, Nat.le_refl, 
    reduceIte, ne_eq, not_false_eq_true, and_self, true_and, and_true, reduceCtorEq, cond_true, cond_false, Int.reduceBEq, hj, k0.1, k0.2, binV_catB, evG_iadr]
      exact Wp.some ⟨by simp [nodeT], pre2⟩
    · exfalso
      have hbad := (hR.node c _ hnd).1
      obtain ⟨a1, a2, a3, a4, a5, a6, a7, a8, a9, a10, a11, a12, a13, a14, a15, a16, a17, a18, a19, a20⟩ := hk'.all
      simp only [beq_eq_false_iff_ne, ne_eq] at a1 a2 a3 a4 a5 a6 a7 a8 a9 a10 a11 a12 a13 a14 a15 a16 a17 a18 a19 a20
      simp [nodeOK, namedM, a1, a2, a3, a5, a6, a7, a10, a11, a12, a17, a20] at hbad
      omega
end Go.X

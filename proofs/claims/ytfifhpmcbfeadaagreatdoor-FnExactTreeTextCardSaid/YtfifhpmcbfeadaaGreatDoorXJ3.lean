/- Trees as texts: the program. -/
import Derived.Test.YtfifhpmcbfeadaaGreatDoorXJ2
set_option linter.unusedVariables false
set_option linter.unusedSimpArgs false
set_option maxRecDepth 20000
namespace Go.X
open Go Go.Lib
variable {X : Call}

/-- strconv.Itoa, by its contract. -/
def ItoaX (X : Call) : Prop := ∀ n σ, I64 n → EE X f_strconv_Itoa [int n] σ = some (.str (Lib.itoa n), σ)
theorem fmtBool_eq (b : Bool) (σ : Store) : EE X f_strconv_FormatBool [.bool b] σ = some (.str (if b = true then [116, 114, 117, 101] else [102, 97, 108, 115, 101]), σ) := by
  have hin : EE X f_internal_strconv_FormatBool [.bool b] σ = some (.str (if b = true then [116, 114, 117, 101] else [102, 97, 108, 115, 101]), σ) := by
    rw [EE, Ex_run C_internal_strconv_FormatBool rfl]
    cases b with
    | true => simp (config := {contextual := true, implicitDefEqProofs := false, maxSteps := 1000000}) only [
    ↓PR0, ↓PR1, ↓PR2, PO0, PO1, PO2, PO3, idxV_str, result, resOf, allSome, number, upd, List.map, Option.bind_some, Nat.reduceAdd, Nat.reduceSub, Nat.reduceLeDiff, Nat.reduceLT, Nat.reduceEqDiff, Nat.zero_add, Nat.add_zero, Nat.le_refl, 
    reduceIte, ne_eq, not_false_eq_true, and_self, true_and, and_true, reduceCtorEq, cond_true, cond_false, c_internal_strconv_FormatBool]
    | false => simp (config := {contextual := true, implicitDefEqProofs := false, maxSteps := 1000000}) only [
    ↓PR0, ↓PR1, ↓PR2, PO0, PO1, PO2, PO3, idxV_str, result, resOf, allSome, number, upd, List.map, Option.bind_some, Nat.reduceAdd, Nat.reduceSub, Nat.reduceLeDiff, Nat.reduceLT, Nat.reduceEqDiff, Nat.zero_add, Nat.add_zero, Nat.le_refl, 
    reduceIte, ne_eq, not_false_eq_true, and_self, true_and, and_true, reduceCtorEq, cond_true, cond_false, c_internal_strconv_FormatBool, Bool.false_eq_true]
  rw [EE, Ex_run C_strconv_FormatBool rfl]
  simp (config := {contextual := true, implicitDefEqProofs := false, maxSteps := 1000000}) only [
    ↓PR0, ↓PR1, ↓PR2, PO0, PO1, PO2, PO3, idxV_str, result, resOf, allSome, number, upd, List.map, Option.bind_some, Nat.reduceAdd, Nat.reduceSub, Nat.reduceLeDiff, Nat.reduceLT, Nat.reduceEqDiff, Nat.zero_add, Nat.add_zero, Nat.le_refl, 
    reduceIte, ne_eq, not_false_eq_true, and_self, true_and, and_true, reduceCtorEq, cond_true, cond_false, c_strconv_FormatBool, hin]
theorem isExpr_eq (k : Int) (σ : Store) : EE X f_impl_isExpression [int k] σ = some (.bool (exprK k), σ) := by
  have hw : EE X f_impl_within [int k, int 1, int 10] σ = some (.bool (exprK k), σ) := by
    rw [EE, Ex_run C_impl_within rfl]
    simp (config := {contextual := true, implicitDefEqProofs := false, maxSteps := 1000000}) only [
    ↓PR0, ↓PR1, ↓PR2, PO0, PO1, PO2, PO3, idxV_str, result, resOf, allSome, number, upd, List.map, Option.bind_some, Nat.reduceAdd, Nat.reduceSub, Nat.reduceLeDiff, Nat.reduceLT, Nat.reduceEqDiff, Nat.zero_add, Nat.add_zero, Nat.le_refl, 
    reduceIte, ne_eq, not_false_eq_true, and_self, true_and, and_true, reduceCtorEq, cond_true, cond_false, c_impl_within]
    simp only [exprK]
    cases decide (1 ≤ k) <;> cases decide (k ≤ 10) <;> rfl
  rw [EE, Ex_run C_impl_isExpression rfl]
  simp (config := {contextual := true, implicitDefEqProofs := false, maxSteps := 1000000}) only [
    ↓PR0, ↓PR1, ↓PR2, PO0, PO1, PO2, PO3, idxV_str, result, resOf, allSome, number, upd, List.map, Option.bind_some, Nat.reduceAdd, Nat.reduceSub, Nat.reduceLeDiff, Nat.reduceLT, Nat.reduceEqDiff, Nat.zero_add, Nat.add_zero, Nat.le_refl, 
    reduceIte, ne_eq, not_false_eq_true, and_self, true_and, and_true, reduceCtorEq, cond_true, cond_false, c_impl_isExpression, hw]
/-- The program's text of a node. -/
def TextI (X : Call) (τ : Store) (m : TreeM) (a : AV) (f : Nat) : Prop := ∀ (k : Int) (r : Nat) (σ : Store), DownT m f k → Pre τ σ → ObjAt σ r [a, int m.root] → sumB costM m f k ≤ 18000000 →
  Wp (EE X f_impl_Tree_text [.ptr r 0 0 0, int k] σ) (fun r => r.1 = .str (txM m f k) ∧ Pre σ r.2)
theorem textsI_loop {τ : Store} {m : TreeM} {a ak : AV} {f q r : Nat} {sep : List UInt8} (ih : TextI X τ m a f) {kids : List Int} (hd : ∀ c ∈ kids, DownT m f c) (hsum : (kids.map (sumB costM m f)).sum ≤ 18000000) (hak : RS RI 1 τ kids ak) (hkl : kids.length ≤ 1048576) (hq : τ.length ≤ q) (hr : r < q) {Q : AV × Store → Prop} {kk : Out → S → Option (AV × Store)} {σ : Store} (hob : ObjAt σ r [a, int m.root]) :
    ∀ d i (σ1 : Store) (o : AV), i + d = kids.length → Pre τ σ1 → OwR q σ1 1 (cX ((kids.take i).map (txM m f))) o → Fr (fun x => x = q) σ σ1 →
    (∀ o' σ2, OwR q σ2 1 (cX (kids.map (txM m f))) o' → Fr (fun x => x = q) σ σ2 → Wp (kk (.exit 0) ([(0, .v (.ptr r 0 0 0)), (2, .v (.str sep)), (7, .v o'), (11, .v ak), (12, .v (int kids.length)), (13, .v (int kids.length)), (14, .v (.bool false))], ⟨[], σ2⟩)) Q) →
    Wp (loopK (EE X) [0, 2, 7, 11, 12, 13] l_impl_Tree_texts_0 ([(0, .v (.ptr r 0 0 0)), (2, .v (.str sep)), (7, .v o), (11, .v ak), (12, .v (int kids.length)), (13, .v (int i))], ⟨[], σ1⟩) kk) Q := by
  intro d
  induction d with
  | zero =>
    intro i σ1 o hi hp hw hf k
    have e : i = kids.length := by omega
    subst e
    rw [List.take_length] at hw
    have := k o σ1 hw hf
    rw [loopK_step l_impl_Tree_texts_0.eq_1]
    simp (config := {contextual := true, implicitDefEqProofs := false, maxSteps := 1000000}) only [
    ↓PR0, ↓PR1, ↓PR2, PO0, PO1, PO2, PO3, idxV_str, result, resOf, allSome, number, upd, List.map, Option.bind_some, Nat.reduceAdd, Nat.reduceSub, Nat.reduceLeDiff, Nat.reduceLT, Nat.reduceEqDiff, Nat.zero_add, Nat.add_zero, Nat.le_refl, 
    reduceIte, ne_eq, not_false_eq_true, and_self, true_and, and_true, reduceCtorEq, cond_true, cond_false, Int.lt_irrefl, decide_false]
    exact this
  | succ d ihd =>
    intro i σ1 o hi hp hw hf k
    have hlt : i < kids.length := by omega
    have hlt' : (i : Int) < (kids.length : Int) := by omega
    have hwi : IntKind.i64.wrap ((i : Int) + 1) = ((i + 1 : Nat) : Int) := wrap64 (by omega) (by omega)
    have hak1 := hak.pre (RP.mono _ _) hp
    obtain ⟨c1, ⟨hp', _⟩, ha1, ha2, _⟩ := hak1.get (List.getElem?_eq_getElem hlt)
    subst hp'
    have hmem := List.getElem_mem hlt
    have hle : sumB costM m f kids[i] ≤ (kids.map (sumB costM m f)).sum := sum_mem [] hmem
    obtain ⟨⟨v, σ2⟩, e2, rfl, p2⟩ := ih kids[i] r σ1 (hd _ hmem) hp (hob.fr hf (by omega)) (by omega)
    have hw2 := hw.pre p2
    obtain ⟨o3, σ3, x1, x2, x3⟩ := hw2.app 16 [[.str (txM m f kids[i])]] (by rw [cX_len]; simp only [List.length_map, List.length_take, List.length_cons, List.length_nil]; omega)
    have hel : ∀ M, elsOf M 1 (.ls [[.str (txM m f kids[i])]]) = some [[.str (txM m f kids[i])]] := fun _ => rfl
    have x2' : OwR q σ3 1 (cX ((kids.take (i + 1)).map (txM m f))) o3 := by
      rw [List.take_succ_eq_append_getElem hlt, List.map_append, cX_app]; exact x2
    have := ihd (i + 1) σ3 o3 (by omega) ((hp.pre p2).trans x3 (fun x h1 h2 => by omega)) x2' ((hf.pre p2).step x3) k
    rw [loopK_step l_impl_Tree_texts_0.eq_1]
    simp (config := {contextual := true, implicitDefEqProofs := false, maxSteps := 1000000}) only [
    ↓PR0, ↓PR1, ↓PR2, PO0, PO1, PO2, PO3, idxV_str, result, resOf, allSome, number, upd, List.map, Option.bind_some, Nat.reduceAdd, Nat.reduceSub, Nat.reduceLeDiff, Nat.reduceLT, Nat.reduceEqDiff, Nat.zero_add, Nat.add_zero, Nat.le_refl, 
    reduceIte, ne_eq, not_false_eq_true, and_self, true_and, and_true, reduceCtorEq, cond_true, cond_false, hlt', decide_true, ha1, ha2, e2, List.replicate_succ, List.replicate_zero, List.set_cons_zero, hel, x1, hwi]
    exact this
theorem lens_txM {m : TreeM} (hR : RightT m) (hI : ∀ nd ∈ m.nodes, I64 nd.n) (f : Nat) : ∀ kids : List Int, lens (kids.map (txM m f)) ≤ (kids.map (sumB costM m f)).sum
  | [] => by simp [lens]
  | c :: kids => by
    have h1 := txM_len m hR hI f c
    have h2 := lens_txM hR hI f kids
    simp only [lens, List.map_cons, List.sum_cons] at h2 ⊢
    omega
theorem textsI {τ : Store} {m : TreeM} {a ak : AV} {f r : Nat} (hX : JoinX X) (hR : RightT m) (hI : ∀ nd ∈ m.nodes, I64 nd.n) (ih : TextI X τ m a f) {kids : List Int} (sep : List UInt8) (hsep : sep.length ≤ 2000000) (hd : ∀ c ∈ kids, DownT m f c) (hsum : (kids.map (sumB costM m f)).sum ≤ 18000000) (hak : RS RI 1 τ kids ak) (hkl : kids.length ≤ 1048576) {σ : Store} (hp : Pre τ σ) (hob : ObjAt σ r [a, int m.root]) :
    Wp (EE X f_impl_Tree_texts [.ptr r 0 0 0, ak, .str sep] σ) (fun x => x.1 = .str (Lib.join (kids.map (txM m f)) sep) ∧ Pre σ x.2) := by
  have hlen := (hak.pre (RP.mono _ _) hp).len
  have hw : OwR σ.length (σ ++ [⟨[], 1, 0, .own⟩]) 1 (cX []) (.sl σ.length 0 0 0) := OwR.new σ (cX []) 1
  have hlt := hob.lt
  rw [EE, Ex_run C_impl_Tree_texts rfl, c_impl_Tree_texts]
  refine Wp.seq fun K hK => ?_
  simp (config := {contextual := true, implicitDefEqProofs := false, maxSteps := 1000000}) only [
    ↓PR0, ↓PR1, ↓PR2, PO0, PO1, PO2, PO3, idxV_str, result, resOf, allSome, number, upd, List.map, Option.bind_some, Nat.reduceAdd, Nat.reduceSub, Nat.reduceLeDiff, Nat.reduceLT, Nat.reduceEqDiff, Nat.zero_add, Nat.add_zero, Nat.le_refl, 
    reduceIte, ne_eq, not_false_eq_true, and_self, true_and, and_true, reduceCtorEq, cond_true, cond_false]
  subst hK
  rw [seqK_norm]
  refine Wp.seq fun K hK => ?_
  simp (config := {contextual := true, implicitDefEqProofs := false, maxSteps := 1000000}) only [
    ↓PR0, ↓PR1, ↓PR2, PO0, PO1, PO2, PO3, idxV_str, result, resOf, allSome, number, upd, List.map, Option.bind_some, Nat.reduceAdd, Nat.reduceSub, Nat.reduceLeDiff, Nat.reduceLT, Nat.reduceEqDiff, Nat.zero_add, Nat.add_zero, Nat.le_refl, 
    reduceIte, ne_eq, not_false_eq_true, and_self, true_and, and_true, reduceCtorEq, cond_true, cond_false, List.replicate_zero]
  subst hK
  rw [seqK_norm]
  refine Wp.seq fun K hK => ?_
  simp (config := {contextual := true, implicitDefEqProofs := false, maxSteps := 1000000}) only [
    ↓PR0, ↓PR1, ↓PR2, PO0, PO1, PO2, PO3, idxV_str, result, resOf, allSome, number, upd, List.map, Option.bind_some, Nat.reduceAdd, Nat.reduceSub, Nat.reduceLeDiff, Nat.reduceLT, Nat.reduceEqDiff, Nat.zero_add, Nat.add_zero, Nat.le_refl, 
    reduceIte, ne_eq, not_false_eq_true, and_self, true_and, and_true, reduceCtorEq, cond_true, cond_false, hlen, (hak.pre (RP.mono _ _) (hp.pre (Pre.app _ _))).len]
  refine textsI_loop ih hd hsum hak hkl hp.1 hlt hob kids.length 0 _ _ (by omega) (hp.pre (Pre.app _ _)) (by simpa using hw) (Fr.app _ _ _) fun o' σ2 w2 f2 => ?_
  have pre2 : Pre σ σ2 := f2.weak (fun x h1 h2 => by omega)
  have hl := lens_txM hR hI f kids
  have hj := join_len sep (kids.map (txM m f))
  rw [List.length_map] at hj
  have hmul : kids.length * sep.length ≤ 1048576 * 2000000 := Nat.mul_le_mul hkl hsep
  have e := hX σ2 (kids.map (txM m f)) o' sep (cX_rsT w2 (by omega)) (by rw [List.length_map]; omega) (by omega)
  rw [blkK_hit]
  subst hK
  simp (config := {contextual := true, implicitDefEqProofs := false, maxSteps := 1000000}) only [
    ↓PR0, ↓PR1, ↓PR2, PO0, PO1, PO2, PO3, idxV_str, result, resOf, allSome, number, upd, List.map, Option.bind_some, Nat.reduceAdd, Nat.reduceSub, Nat.reduceLeDiff, Nat.reduceLT, Nat.reduceEqDiff, Nat.zero_add, Nat.add_zero, Nat.le_refl, 
    reduceIte, ne_eq, not_false_eq_true, and_self, true_and, and_true, reduceCtorEq, cond_true, cond_false, e]
  exact Wp.some ⟨rfl, pre2⟩
/-- A kid's text, by the closure. -/
theorem kidI {τ : Store} {m : TreeM} {a an ak : AV} {f r b1 b2 : Nat} (ih : TextI X τ m a f) {nd : NodeM} (hd : ∀ c ∈ nd.kids, DownT m f c) (hsum : (nd.kids.map (sumB costM m f)).sum ≤ 18000000) (hak : RS RI 1 τ nd.kids ak) {σ : Store} (hp : Pre τ σ) (hob : ObjAt σ r [a, int m.root]) (h1 : ObjAt σ b1 [.ptr r 0 0 0]) (h2 : ObjAt σ b2 (nc nd an ak)) {i : Nat} (hi : i < nd.kids.length) :
    Wp (EE X f_impl_Tree_text_1 [int i, .ptr b1 0 0 0, .ptr b2 0 0 0] σ) (fun x => x.1 = .str (kd (nd.kids.map (txM m f)) i) ∧ Pre σ x.2) := by
  have p1 := fun bx o => h1.place bx o
  have p2 := fun bx o => h2.place bx o
  obtain ⟨c1, ⟨hp', _⟩, ha1, ha2, _⟩ := (hak.pre (RP.mono _ _) hp).get (List.getElem?_eq_getElem hi)
  subst hp'
  have hmem := List.getElem_mem hi
  have hle : sumB costM m f nd.kids[i] ≤ (nd.kids.map (sumB costM m f)).sum := sum_mem [] hmem
  obtain ⟨⟨v, σ2⟩, e2, rfl, q2⟩ := ih nd.kids[i] r σ (hd _ hmem) hp hob (by omega)
  have ek : kd (nd.kids.map (txM m f)) i = txM m f nd.kids[i] := by
    simp [kd, List.getD, List.getElem?_eq_getElem hi]
  rw [ek, EE, Ex_run C_impl_Tree_text_1 rfl]
  simp (config := {contextual := true, implicitDefEqProofs := false, maxSteps := 1000000}) only [
    ↓PR0, ↓PR1, ↓PR2, PO0, PO1, PO2, PO3, idxV_str, result, resOf, allSome, number, upd, List.map, Option.bind_some, Nat.reduceAdd, Nat.reduceSub, Nat.reduceLeDiff, Nat.reduceLT, Nat.reduceEqDiff, Nat.zero_add, Nat.add_zero, Nat.le_refl, 
    reduceIte, ne_eq, not_false_eq_true, and_self, true_and, and_true, reduceCtorEq, cond_true, cond_false, c_impl_Tree_text_1, p1, p2, ha1, ha2, e2]
  exact Wp.some ⟨rfl, q2⟩
theorem join2 {ks : List (List UInt8)} (h : ks.length = 2) (sep : List UInt8) : Lib.join ks sep = kd ks 0 ++ (sep ++ kd ks 1) := by
  match ks, h with
  | [a, b], _ => rw [join_cons]; simp [joinTail, kd]
set_option maxHeartbeats 4000000 in
theorem exprI {τ : Store} {m : TreeM} {a an ak : AV} {f r : Nat} (hX : ItoaX X ∧ JoinX X) (hR : RightT m) (hI : ∀ nd ∈ m.nodes, I64 nd.n) (ih : TextI X τ m a f) {nd : NodeM} (hs : nd.text.length ≤ 1048576) (hkl : nd.kids.length ≤ 1048576) (hin : I64 nd.n) (hsl : (sortsM nd).length = nd.kids.length) (hd : ∀ c ∈ nd.kids, DownT m f c) (hsum : costM nd + (nd.kids.map (sumB costM m f)).sum ≤ 18000000) (hak : RS RI 1 τ nd.kids ak) (han : RS RT 1 τ nd.names an) {σ : Store} (hp : Pre τ σ) (hob : ObjAt σ r [a, int m.root]) (hx : exprK nd.kind = true) :
    Wp (EE X f_impl_Tree_expressionText [.ptr r 0 0 0, .agg (nc nd an ak)] σ) (fun x => x.1 = .str (nodeT nd (nd.kids.map (txM m f))) ∧ Pre σ x.2) := by
  have hcost : (nd.kids.map (sumB costM m f)).sum ≤ 18000000 := by omega
  have hlens := lens_txM hR hI f nd.kids
  have tx := fun sep hsep => textsI (X := X) hX.2 hR hI ih (kids := nd.kids) (ak := ak) sep hsep hd hcost hak hkl hp hob
  obtain ⟨ks, hks⟩ : ∃ ks, ks = nd.kids.map (txM m f) := ⟨_, rfl⟩
  have hkn : ks.length = nd.kids.length := by rw [hks, List.length_map]
  have hak2 := hak.pre (RP.mono _ _) hp
  have hce := han.cellsOf
  have hck := hak.cellsOf
  have hkid0 : 0 < nd.kids.length → ∃ c0 σ2, (∀ M : Boxes, True) ∧ iadrV σ 1 ak (int 0) = some (elP ak 0) ∧ (∀ bx, place ⟨bx, σ⟩ (.v (elP ak 0)) = some ([int c0], 0)) ∧ EE X f_impl_Tree_text [.ptr r 0 0 0, int c0] σ = some (.str (kd ks 0), σ2) ∧ Pre σ σ2 := by
    intro h
    obtain ⟨c1, ⟨hp', _⟩, ha1, ha2, _⟩ := hak2.get (List.getElem?_eq_getElem h)
    subst hp'
    have hmem := List.getElem_mem h
    have hle : sumB costM m f nd.kids[0] ≤ (nd.kids.map (sumB costM m f)).sum := sum_mem [] hmem
    obtain ⟨⟨v, σ2⟩, e2, rfl, q2⟩ := ih nd.kids[0] r σ (hd _ hmem) hp hob (by omega)
    have ek : kd ks 0 = txM m f nd.kids[0] := by rw [hks]; simp [kd, List.getD, List.getElem?_eq_getElem h]
    simp only [Int.cast_ofNat_Int] at ha1
    exact ⟨_, σ2, fun _ => trivial, ha1, ha2, by rw [ek]; exact e2, q2⟩
  rw [← hks] at tx hlens ⊢
  have bt : BdN nd.text 2 := .up 2 (by omega)
  have b0 : BdN (kd ks 0) 18 := .up 18 (by have := kd_le ks 0; omega)
  have bj : ∀ sep : List UInt8, sep.length ≤ 4 → BdN (Lib.join ks sep) 40 := fun sep h => .up 40 (by
    have := join_len sep ks
    have : ks.length * sep.length ≤ 1048576 * 4 := Nat.mul_le_mul (by omega) h
    omega)
  obtain ⟨kk, n, t, ns, kids⟩ := nd
  simp only at *
  have one := fun h => sorts_one (nd := ⟨kk, n, t, ns, kids⟩) h
  have two := fun h => sorts_two (nd := ⟨kk, n, t, ns, kids⟩) h
  simp only at one two
  have hk10 : kk = 1 ∨ kk = 2 ∨ kk = 3 ∨ kk = 4 ∨ kk = 5 ∨ kk = 6 ∨ kk = 7 ∨ kk = 8 ∨ kk = 9 ∨ kk = 10 := by
    simp only [exprK, Bool.and_eq_true, decide_eq_true_eq] at hx; omega
  rw [EE, Ex_run C_impl_Tree_expressionText rfl]
  rcases hk10 with rfl | rfl | rfl | rfl | rfl | rfl | rfl | rfl | rfl | rfl
  · have hd := hX.1 n σ hin
    simp (config := {contextual := true, implicitDefEqProofs := false, maxSteps := 1000000}) only [
    ↓PR0, ↓PR1, ↓PR2, PO0, PO1, PO2, PO3, idxV_str, result, resOf, allSome, number, upd, List.map, Option.bind_some, Nat.reduceAdd, Nat.reduceSub, Nat.reduceLeDiff, Nat.reduceLT, Nat.reduceEqDiff, Nat.zero_add, Nat.add_zero, Nat.le_refl, 
    reduceIte, ne_eq, not_false_eq_true, and_self, true_and, and_true, reduceCtorEq, cond_true, cond_false, c_impl_Tree_expressionText, hce, hck, Int.reduceBEq, hd]
    exact Wp.some ⟨by simp [nodeT], Fr.refl _ _⟩
  · obtain ⟨σ3, e3, p3⟩ := quoteText_eq (X := X) t (by omega) σ
    simp (config := {contextual := true, implicitDefEqProofs := false, maxSteps := 1000000}) only [
    ↓PR0, ↓PR1, ↓PR2, PO0, PO1, PO2, PO3, idxV_str, result, resOf, allSome, number, upd, List.map, Option.bind_some, Nat.reduceAdd, Nat.reduceSub, Nat.reduceLeDiff, Nat.reduceLT, Nat.reduceEqDiff, Nat.zero_add, Nat.add_zero, Nat.le_refl, 
    reduceIte, ne_eq, not_false_eq_true, and_self, true_and, and_true, reduceCtorEq, cond_true, cond_false, c_impl_Tree_expressionText, hce, hck, Int.reduceBEq, e3]
    exact Wp.some ⟨by simp [nodeT], p3⟩
  · have hb := fun b => fmtBool_eq (X := X) b σ
    simp (config := {contextual := true, implicitDefEqProofs := false, maxSteps := 1000000}) only [
    ↓PR0, ↓PR1, ↓PR2, PO0, PO1, PO2, PO3, idxV_str, result, resOf, allSome, number, upd, List.map, Option.bind_some, Nat.reduceAdd, Nat.reduceSub, Nat.reduceLeDiff, Nat.reduceLT, Nat.reduceEqDiff, Nat.zero_add, Nat.add_zero, Nat.le_refl, 
    reduceIte, ne_eq, not_false_eq_true, and_self, true_and, and_true, reduceCtorEq, cond_true, cond_false, c_impl_Tree_expressionText, hce, hck, Int.reduceBEq, hb]
    exact Wp.some ⟨by simp [nodeT], Fr.refl _ _⟩
  · simp (config := {contextual := true, implicitDefEqProofs := false, maxSteps := 1000000}) only [
    ↓PR0, ↓PR1, ↓PR2, PO0, PO1, PO2, PO3, idxV_str, result, resOf, allSome, number, upd, List.map, Option.bind_some, Nat.reduceAdd, Nat.reduceSub, Nat.reduceLeDiff, Nat.reduceLT, Nat.reduceEqDiff, Nat.zero_add, Nat.add_zero, Nat.le_refl, 
    reduceIte, ne_eq, not_false_eq_true, and_self, true_and, and_true, reduceCtorEq, cond_true, cond_false, c_impl_Tree_expressionText, hce, hck, Int.reduceBEq]
    exact Wp.some ⟨by simp [nodeT], Fr.refl _ _⟩
  · simp (config := {contextual := true, implicitDefEqProofs := false, maxSteps := 1000000}) only [
    ↓PR0, ↓PR1, ↓PR2, PO0, PO1, PO2, PO3, idxV_str, result, resOf, allSome, number, upd, List.map, Option.bind_some, Nat.reduceAdd, Nat.reduceSub, Nat.reduceLeDiff, Nat.reduceLT, Nat.reduceEqDiff, Nat.zero_add, Nat.add_zero, Nat.le_refl, 
    reduceIte, ne_eq, not_false_eq_true, and_self, true_and, and_true, reduceCtorEq, cond_true, cond_false, c_impl_Tree_expressionText, hce, hck, Int.reduceBEq]
    exact Wp.some ⟨by simp [nodeT], Fr.refl _ _⟩
  · have hl1 := one (by decide)
    obtain ⟨c0, σ2, _, i1, i2, e2, p2⟩ := hkid0 (by omega)
    simp (config := {contextual := true, implicitDefEqProofs := false, maxSteps := 1000000}) only [
    ↓PR0, ↓PR1, ↓PR2, PO0, PO1, PO2, PO3, idxV_str, result, resOf, allSome, number, upd, List.map, Option.bind_some, Nat.reduceAdd, Nat.reduceSub, Nat.reduceLeDiff, Nat.reduceLT, Nat.reduceEqDiff, Nat.zero_add, Nat.add_zero, Nat.le_refl, 
    reduceIte, ne_eq, not_false_eq_true, and_self, true_and, and_true, reduceCtorEq, cond_true, cond_false, c_impl_Tree_expressionText, hce, hck, Int.reduceBEq, i1, i2, e2, binV_catB]
    exact Wp.some ⟨by simp [nodeT], p2⟩
  · have hl2 := two (by decide)
    have hj2 := join2 (ks := ks) (by omega) (32 :: (t ++ [32]))
    have bjt : BdN (Lib.join ks (32 :: (t ++ [32]))) 40 := .up 40 (by rw [hj2]; have := kd_le ks 0; have := kd_le ks 1; simp only [List.length_append, List.length_cons, List.length_nil]; omega)
    obtain ⟨⟨v, σ2⟩, e2, rfl, p2⟩ := tx (32 :: (t ++ [32])) (by simp only [List.length_append, List.length_cons, List.length_nil]; omega)
    simp (config := {contextual := true, implicitDefEqProofs := false, maxSteps := 1000000}) only [
    ↓PR0, ↓PR1, ↓PR2, PO0, PO1, PO2, PO3, idxV_str, result, resOf, allSome, number, upd, List.map, Option.bind_some, Nat.reduceAdd, Nat.reduceSub, Nat.reduceLeDiff, Nat.reduceLT, Nat.reduceEqDiff, Nat.zero_add, Nat.add_zero, Nat.le_refl, 
    reduceIte, ne_eq, not_false_eq_true, and_self, true_and, and_true, reduceCtorEq, cond_true, cond_false, c_impl_Tree_expressionText, hce, hck, Int.reduceBEq, e2, binV_catB]
    exact Wp.some ⟨by simp [nodeT, hj2], p2⟩
  · have hl2 := two (by decide)
    have hj2 := join2 (ks := ks) (by omega) [32, 38, 38, 32]
    have bjt := bj [32, 38, 38, 32] (by decide)
    obtain ⟨⟨v, σ2⟩, e2, rfl, p2⟩ := tx [32, 38, 38, 32] (by decide)
    simp (config := {contextual := true, implicitDefEqProofs := false, maxSteps := 1000000}) only [
    ↓PR0, ↓PR1, ↓PR2, PO0, PO1, PO2, PO3, idxV_str, result, resOf, allSome, number, upd, List.map, Option.bind_some, Nat.reduceAdd, Nat.reduceSub, Nat.reduceLeDiff, Nat.reduceLT, Nat.reduceEqDiff, Nat.zero_add, Nat.add_zero, Nat.le_refl, 
    reduceIte, ne_eq, not_false_eq_true, and_self, true_and, and_true, reduceCtorEq, cond_true, cond_false, c_impl_Tree_expressionText, hce, hck, Int.reduceBEq, e2, binV_catB]
    exact Wp.some ⟨by simp [nodeT, hj2], p2⟩
  · have hl2 := two (by decide)
    have hj2 := join2 (ks := ks) (by omega) [32, 124, 124, 32]
    have bjt := bj [32, 124, 124, 32] (by decide)
    obtain ⟨⟨v, σ2⟩, e2, rfl, p2⟩ := tx [32, 124, 124, 32] (by decide)
    simp (config := {contextual := true, implicitDefEqProofs := false, maxSteps := 1000000}) only [
    ↓PR0, ↓PR1, ↓PR2, PO0, PO1, PO2, PO3, idxV_str, result, resOf, allSome, number, upd, List.map, Option.bind_some, Nat.reduceAdd, Nat.reduceSub, Nat.reduceLeDiff, Nat.reduceLT, Nat.reduceEqDiff, Nat.zero_add, Nat.add_zero, Nat.le_refl, 
    reduceIte, ne_eq, not_false_eq_true, and_self, true_and, and_true, reduceCtorEq, cond_true, cond_false, c_impl_Tree_expressionText, hce, hck, Int.reduceBEq, e2, binV_catB]
    exact Wp.some ⟨by simp [nodeT, hj2], p2⟩
  · have bjt := bj [44, 32] (by decide)
    obtain ⟨⟨v, σ2⟩, e2, rfl, p2⟩ := tx [44, 32] (by decide)
    simp (config := {contextual := true, implicitDefEqProofs := false, maxSteps := 1000000}) only [
    ↓PR0, ↓PR1, ↓PR2, PO0, PO1, PO2, PO3, idxV_str, result, resOf, allSome, number, upd, List.map, Option.bind_some, Nat.reduceAdd, Nat.reduceSub, Nat.reduceLeDiff, Nat.reduceLT, Nat.reduceEqDiff, Nat.zero_add, Nat.add_zero, Nat.le_refl, 
    reduceIte, ne_eq, not_false_eq_true, and_self, true_and, and_true, reduceCtorEq, cond_true, cond_false, c_impl_Tree_expressionText, hce, hck, Int.reduceBEq, e2, binV_catB]
    exact Wp.some ⟨by simp [nodeT], p2⟩
end Go.X

/- Trees as texts, in plain words: what a node is written as, and how long that is. No program is here. -/
import Derived.Test.YtfifhpmcbfeadaaGreatDoorXA1
import Derived.Test.YtfifhpmcbfeadaaGreatDoorXD3
import Derived.Lib.Join
set_option linter.unusedVariables false
set_option linter.unusedSimpArgs false
set_option maxRecDepth 20000
namespace Go.X
open Go Go.Lib

/-! ### Sums over a walk -/

def nodeW (w : NodeM → Nat) (m : TreeM) (x : Nat) : Nat := match m.nodes[x]? with | none => 0 | some nd => w nd
/-- The sum over a node and all that is below. -/
def sumB (w : NodeM → Nat) (m : TreeM) : Nat → Int → Nat
  | 0, _ => 0
  | f + 1, k => nodeW w m k.toNat + ((match m.nodes[k.toNat]? with | none => [] | some nd => nd.kids).map (sumB w m f)).sum
def wsum (w : NodeM → Nat) (m : TreeM) (vis : List Nat) : Nat := (vis.map (nodeW w m)).sum
theorem walkL_sum (w : NodeM → Nat) (m : TreeM) (f : Nat) (wk : Int → Int → List Nat → Option (List Nat)) (hw : ∀ s k vis vis', wk s k vis = some vis' → wsum w m vis' = wsum w m vis + sumB w m f k ∧ (vis.Nodup → vis'.Nodup)) (root k : Int) : ∀ ss cs vis vis', walkL wk root k ss cs vis = some vis' → cs.length ≤ ss.length → wsum w m vis' = wsum w m vis + (cs.map (sumB w m f)).sum ∧ (vis.Nodup → vis'.Nodup)
  | _, [], vis, vis', h, _ => by simp [walkL] at h; subst h; simp
  | [], c :: cs, vis, vis', h, hl => by simp at hl
  | s :: ss, c :: cs, vis, vis', h, hl => by
    simp only [walkL] at h
    cases h1 : wk (adjM root k s) c vis with
    | none => simp [h1] at h
    | some v1 =>
      rw [h1, Option.bind_some] at h
      obtain ⟨a1, a2⟩ := hw _ _ _ _ h1
      obtain ⟨b1, b2⟩ := walkL_sum w m f wk hw root k ss cs v1 vis' h (by simpa using hl)
      refine ⟨?_, fun hn => b2 (a2 hn)⟩
      rw [b1, a1, List.map_cons, List.sum_cons]
      omega
theorem walkM_sum (w : NodeM → Nat) (m : TreeM) : ∀ f s k vis vis', walkM m f s k vis = some vis' → wsum w m vis' = wsum w m vis + sumB w m f k ∧ (vis.Nodup → vis'.Nodup)
  | 0, _, _, _, _, h => by simp [walkM] at h
  | f + 1, s, k, vis, vis', h => by
    simp only [walkM] at h
    split at h
    · rename_i hk
      cases hn : m.nodes[k.toNat]? with
      | none => simp [hn] at h
      | some nd =>
        rw [hn] at h
        simp only at h
        split at h
        · rename_i hc
          simp only [Bool.and_eq_true, Bool.not_eq_true', decide_eq_true_eq] at hc
          obtain ⟨h1, h2, h3, h4⟩ := hc
          obtain ⟨a1, a2⟩ := walkL_sum w m f _ (walkM_sum w m f) m.root k _ _ _ _ h (by omega)
          refine ⟨?_, fun hd => a2 (List.nodup_cons.2 ⟨by simpa using h2, hd⟩)⟩
          rw [a1]
          simp only [sumB, hn, wsum, List.map_cons, List.sum_cons]
          omega
        · cases h
    · cases h
theorem nodup_sum (g : Nat → Nat) : ∀ (n : Nat) (l : List Nat), l.Nodup → (∀ x ∈ l, x < n) → (l.map g).sum ≤ ((List.range n).map g).sum
  | 0, l, _, h => by
    cases l with
    | nil => simp
    | cons a l => exact absurd (h a (by simp)) (by omega)
  | n + 1, l, hd, h => by
    rw [List.range_succ, List.map_append, List.sum_append]
    by_cases hm : n ∈ l
    · have h1 := nodup_sum g n (l.erase n) (hd.erase n) (fun x hx => by
        have := h x (List.mem_of_mem_erase hx)
        have : x ≠ n := fun e => by rw [e] at hx; exact (hd.not_mem_erase) hx
        omega)
      have h2 := (List.perm_cons_erase hm).map g
      have h3 := h2.sum_nat
      rw [h3]
      simp only [List.map_cons, List.sum_cons, List.map_nil, List.sum_nil]
      omega
    · have h1 := nodup_sum g n l hd (fun x hx => by
        have := h x hx
        have : x ≠ n := fun e => hm (e ▸ hx)
        omega)
      omega
theorem range_sum (w : NodeM → Nat) (m : TreeM) : ((List.range m.nodes.length).map (nodeW w m)).sum = (m.nodes.map w).sum := by
  congr 1
  apply List.ext_getElem?
  intro i
  simp only [List.getElem?_map]
  by_cases hi : i < m.nodes.length
  · rw [List.getElem?_range hi, List.getElem?_eq_getElem hi]
    simp [nodeW, List.getElem?_eq_getElem hi]
  · rw [List.getElem?_eq_none (by simpa using hi), List.getElem?_eq_none (by omega)]; rfl
/-- The sum over a right tree from its outmost block on. -/
theorem treeOK_sum (w : NodeM → Nat) {m : TreeM} (h : treeOK m = true) : sumB w m 200 m.root = (m.nodes.map w).sum := by
  simp only [treeOK, Bool.and_eq_true, decide_eq_true_eq] at h
  obtain ⟨hl, h⟩ := h
  cases hw : walkM m 200 2 m.root [] with
  | none => rw [hw] at h; cases h
  | some vis =>
    rw [hw] at h
    simp only [List.all_eq_true, List.mem_range, List.contains_iff_mem] at h
    obtain ⟨a1, a2⟩ := walkM_sum w m 200 _ _ _ _ hw
    have hd := a2 List.nodup_nil
    have hs := walkM_seg m _ _ _ _ _ hw
    have hlt : ∀ x ∈ vis, x < m.nodes.length := fun x hx => by
      obtain ⟨nd, e, _⟩ := hs.node x hx (by simp)
      exact (List.getElem?_eq_some_iff.1 e).1
    have b1 := nodup_sum (nodeW w m) m.nodes.length vis hd hlt
    have e0 : wsum w m [] = 0 := rfl
    rw [e0, Nat.zero_add] at a1
    rw [← a1, ← range_sum]
    apply Nat.le_antisymm b1
    -- the other way: all that is there is in vis
    have hsub : ∀ x ∈ List.range m.nodes.length, x ∈ vis := fun x hx => h x (List.mem_range.1 hx)
    have hperm : (List.range m.nodes.length).Perm vis := (List.perm_ext_iff_of_nodup List.nodup_range hd).2 fun x => ⟨hsub x, fun hx => List.mem_range.2 (hlt x hx)⟩
    have := (hperm.map (nodeW w m)).sum_nat
    exact Nat.le_of_eq this

/-! ### Texts -/

abbrev kd (ks : List (List UInt8)) (i : Nat) : List UInt8 := ks.getD i []
/-- How a node is written, by how its kids are. -/
def nodeT (nd : NodeM) (ks : List (List UInt8)) : List UInt8 :=
  if nd.kind = 1 then itoa nd.n
  else if nd.kind = 2 then quoteM nd.text
  else if nd.kind = 3 then (if nd.n = 1 then [116, 114, 117, 101] else [102, 97, 108, 115, 101])
  else if nd.kind = 4 then [110, 117, 108, 108]
  else if nd.kind = 5 then nd.text
  else if nd.kind = 6 then 40 :: (nd.text ++ (kd ks 0 ++ [41]))
  else if nd.kind = 7 then 40 :: (kd ks 0 ++ (32 :: (nd.text ++ (32 :: (kd ks 1 ++ [41])))))
  else if nd.kind = 8 then 40 :: (kd ks 0 ++ ([32, 38, 38, 32] ++ (kd ks 1 ++ [41])))
  else if nd.kind = 9 then 40 :: (kd ks 0 ++ ([32, 124, 124, 32] ++ (kd ks 1 ++ [41])))
  else if nd.kind = 10 then nd.text ++ (40 :: (Lib.join ks [44, 32] ++ [41]))
  else if nd.kind = 11 then [108, 101, 116, 32] ++ (nd.text ++ ([32, 61, 32] ++ (kd ks 0 ++ [59])))
  else if nd.kind = 12 then nd.text ++ ([32, 61, 32] ++ (kd ks 0 ++ [59]))
  else if nd.kind = 13 then [105, 102, 32, 40] ++ (kd ks 0 ++ ([41, 32] ++ (kd ks 1 ++ (if ks.length = 3 then [32, 101, 108, 115, 101, 32] ++ kd ks 2 else []))))
  else if nd.kind = 14 then [119, 104, 105, 108, 101, 32, 40] ++ (kd ks 0 ++ ([41, 32] ++ kd ks 1))
  else if nd.kind = 15 then [114, 101, 116, 117, 114, 110, 32] ++ (kd ks 0 ++ [59])
  else if nd.kind = 16 then [116, 104, 114, 111, 119, 32] ++ (kd ks 0 ++ [59])
  else if nd.kind = 17 then [116, 114, 121, 32] ++ (kd ks 0 ++ ([32, 99, 97, 116, 99, 104, 32, 40] ++ (nd.text ++ ([41, 32] ++ kd ks 1))))
  else if nd.kind = 19 then kd ks 0 ++ [59]
  else if nd.kind = 20 then [102, 117, 110, 99, 116, 105, 111, 110, 32] ++ (nd.text ++ (40 :: (Lib.join nd.names [44, 32] ++ ([41, 32] ++ kd ks 0))))
  else if ks = [] then [123, 32, 125] else [123, 32] ++ (Lib.join ks [32] ++ [32, 125])
/-- How a node and all below is written. -/
def txM (m : TreeM) : Nat → Int → List UInt8
  | 0, _ => []
  | f + 1, k => match m.nodes[k.toNat]? with | none => [] | some nd => nodeT nd (nd.kids.map (txM m f))
/-- What a node adds to the text, at most. -/
def costM (nd : NodeM) : Nat := 60 + 2 * nd.text.length + (nd.names.map (fun t => t.length + 2)).sum + 8 * nd.kids.length
def lens (l : List (List UInt8)) : Nat := (l.map List.length).sum
theorem joinTail_len (sep : List UInt8) : ∀ l : List (List UInt8), (joinTail sep l).length = lens l + l.length * sep.length
  | [] => by simp [joinTail, lens]
  | t :: l => by
    have ih := joinTail_len sep l
    simp only [joinTail, lens, List.map_cons, List.flatten_cons, List.length_append, List.length_cons, List.sum_cons] at ih ⊢
    rw [ih, Nat.succ_mul]; omega
theorem join_len (sep : List UInt8) (l : List (List UInt8)) : (Lib.join l sep).length ≤ lens l + l.length * sep.length := by
  cases l with
  | nil => simp [join_nil]
  | cons t l =>
    rw [join_cons, List.length_append, joinTail_len]
    simp only [lens, List.map_cons, List.sum_cons, List.length_cons]
    rw [Nat.succ_mul]; omega
theorem kd_len (ks : List (List UInt8)) (i : Nat) (h : i < ks.length) : (kd ks i).length ≤ lens ks := by
  have : kd ks i = ks[i] := by simp [kd, List.getD, List.getElem?_eq_getElem h]
  rw [this]
  clear this
  unfold lens
  induction ks generalizing i with
  | nil => cases h
  | cons t ks ih =>
    cases i with
    | zero => simp
    | succ i => simp only [List.getElem_cons_succ, List.map_cons, List.sum_cons]; have := ih i (by simpa using h); omega
theorem lens2 {ks : List (List UInt8)} (h : ks.length = 2) : lens ks = (kd ks 0).length + (kd ks 1).length := by
  match ks, h with
  | [a, b], _ => simp [lens, kd]
theorem lens3 {ks : List (List UInt8)} (h : ks.length = 3) : lens ks = (kd ks 0).length + (kd ks 1).length + (kd ks 2).length := by
  match ks, h with
  | [a, b, c], _ => simp [lens, kd]; omega
theorem lens1 {ks : List (List UInt8)} (h : ks.length = 1) : lens ks = (kd ks 0).length := by
  match ks, h with
  | [a], _ => simp [lens, kd]
theorem itoa_len20 {n : Int} (h : I64 n) : (itoa n).length ≤ 20 := by
  unfold I64 at h
  by_cases h0 : n < 0
  · obtain ⟨u, rfl⟩ : ∃ u : Nat, n = -(u : Int) := ⟨n.natAbs, by omega⟩
    rw [itoa_neg u (by omega)]
    have := nDigits_le 19 u (by omega) (by have : (10 : Nat) ^ 19 = 10000000000000000000 := rfl; omega)
    rw [List.length_cons, decDigits_length]; omega
  · obtain ⟨u, rfl⟩ := Int.eq_ofNat_of_zero_le (Int.not_lt.1 h0)
    rw [itoa_nonneg, decDigits_length]
    have := nDigits_le 19 u (by omega) (by have : (10 : Nat) ^ 19 = 10000000000000000000 := rfl; omega)
    omega
theorem sorts_one {nd : NodeM} (h : nd.kind = 6 ∨ nd.kind = 11 ∨ nd.kind = 12 ∨ nd.kind = 15 ∨ nd.kind = 16 ∨ nd.kind = 19 ∨ nd.kind = 20) : (sortsM nd).length = 1 := by
  rcases h with h | h | h | h | h | h | h <;> simp [sortsM, oneK, twoK, h]
theorem sorts_two {nd : NodeM} (h : nd.kind = 7 ∨ nd.kind = 8 ∨ nd.kind = 9 ∨ nd.kind = 14 ∨ nd.kind = 17) : (sortsM nd).length = 2 := by
  rcases h with h | h | h | h | h <;> simp [sortsM, oneK, twoK, h]
theorem sorts_if {nd : NodeM} (h : nd.kind = 13) : (sortsM nd).length = if nd.kids.length = 3 then 3 else 2 := by
  simp only [sortsM, oneK, twoK, h]
  by_cases h3 : nd.kids.length = 3 <;> simp [h3]
/-- A right node's text. -/
theorem nodeT_len (nd : NodeM) (ks : List (List UInt8)) (hk : ks.length = nd.kids.length) (hs : (sortsM nd).length = nd.kids.length) (hn : I64 nd.n) : (nodeT nd ks).length ≤ costM nd + lens ks := by
  have one : (nd.kind = 6 ∨ nd.kind = 11 ∨ nd.kind = 12 ∨ nd.kind = 15 ∨ nd.kind = 16 ∨ nd.kind = 19 ∨ nd.kind = 20) → lens ks = (kd ks 0).length := fun h => lens1 (by have := sorts_one h; omega)
  have two : (nd.kind = 7 ∨ nd.kind = 8 ∨ nd.kind = 9 ∨ nd.kind = 14 ∨ nd.kind = 17) → lens ks = (kd ks 0).length + (kd ks 1).length := fun h => lens2 (by have := sorts_two h; omega)
  have i20 := itoa_len20 hn
  have hj := fun sep => join_len sep ks
  unfold nodeT costM
  by_cases h : nd.kind = 1
  · rw [if_pos h]; omega
  rw [if_neg h]
  by_cases h : nd.kind = 2
  · have := esc_len nd.text
    rw [if_pos h]; simp only [quoteM, List.length_append, List.length_cons, List.length_nil]; omega
  rw [if_neg h]
  by_cases h : nd.kind = 3
  · rw [if_pos h]; split <;> simp only [List.length_append, List.length_cons, List.length_nil] <;> omega
  rw [if_neg h]
  by_cases h : nd.kind = 4
  · rw [if_pos h]; simp only [List.length_append, List.length_cons, List.length_nil]; omega
  rw [if_neg h]
  by_cases h : nd.kind = 5
  · rw [if_pos h]; omega
  rw [if_neg h]
  by_cases h : nd.kind = 6
  · rw [if_pos h]; have := one (by omega); simp only [List.length_append, List.length_cons, List.length_nil]; omega
  rw [if_neg h]
  by_cases h : nd.kind = 7
  · rw [if_pos h]; have := two (by omega); simp only [List.length_append, List.length_cons, List.length_nil]; omega
  rw [if_neg h]
  by_cases h : nd.kind = 8
  · rw [if_pos h]; have := two (by omega); simp only [List.length_append, List.length_cons, List.length_nil]; omega
  rw [if_neg h]
  by_cases h : nd.kind = 9
  · rw [if_pos h]; have := two (by omega); simp only [List.length_append, List.length_cons, List.length_nil]; omega
  rw [if_neg h]
  by_cases h : nd.kind = 10
  · rw [if_pos h]; have := hj [44, 32]; simp only [List.length_append, List.length_cons, List.length_nil] at this ⊢; omega
  rw [if_neg h]
  by_cases h : nd.kind = 11
  · rw [if_pos h]; have := one (by omega); simp only [List.length_append, List.length_cons, List.length_nil]; omega
  rw [if_neg h]
  by_cases h : nd.kind = 12
  · rw [if_pos h]; have := one (by omega); simp only [List.length_append, List.length_cons, List.length_nil]; omega
  rw [if_neg h]
  by_cases h : nd.kind = 13
  · rw [if_pos h]
    have h2 := sorts_if h
    by_cases h3 : nd.kids.length = 3
    · have h4 := lens3 (ks := ks) (by omega)
      rw [if_pos (show ks.length = 3 by omega)]; simp only [List.length_append, List.length_cons, List.length_nil]; omega
    · rw [if_neg h3] at h2
      have h4 := lens2 (ks := ks) (by omega)
      rw [if_neg (show ¬ ks.length = 3 by omega)]; simp only [List.length_append, List.length_cons, List.length_nil]; omega
  rw [if_neg h]
  by_cases h : nd.kind = 14
  · rw [if_pos h]; have := two (by omega); simp only [List.length_append, List.length_cons, List.length_nil]; omega
  rw [if_neg h]
  by_cases h : nd.kind = 15
  · rw [if_pos h]; have := one (by omega); simp only [List.length_append, List.length_cons, List.length_nil]; omega
  rw [if_neg h]
  by_cases h : nd.kind = 16
  · rw [if_pos h]; have := one (by omega); simp only [List.length_append, List.length_cons, List.length_nil]; omega
  rw [if_neg h]
  by_cases h : nd.kind = 17
  · rw [if_pos h]; have := two (by omega); simp only [List.length_append, List.length_cons, List.length_nil]; omega
  rw [if_neg h]
  by_cases h : nd.kind = 19
  · rw [if_pos h]; have := one (by omega); simp only [List.length_append, List.length_cons, List.length_nil]; omega
  rw [if_neg h]
  by_cases h : nd.kind = 20
  · rw [if_pos h]
    have h1 := one (by omega)
    have h2 := join_len [44, 32] nd.names
    have h3 : (nd.names.map (fun t => t.length + 2)).sum = lens nd.names + nd.names.length * 2 := by
      unfold lens
      generalize nd.names = l
      induction l with
      | nil => rfl
      | cons t l ih => simp only [List.map_cons, List.sum_cons, List.length_cons, ih]; omega
    simp only [List.length_append, List.length_cons, List.length_nil] at h2 ⊢; omega
  rw [if_neg h]
  split
  · simp only [List.length_append, List.length_cons, List.length_nil]; omega
  · have := hj [32]; simp only [List.length_append, List.length_cons, List.length_nil] at this ⊢; omega
theorem txM_len (m : TreeM) (hR : RightT m) (hn : ∀ nd ∈ m.nodes, I64 nd.n) : ∀ f k, (txM m f k).length ≤ sumB costM m f k := by
  intro f
  induction f with
  | zero => intro k; simp [txM, sumB]
  | succ f ih =>
    intro k
    simp only [txM, sumB, nodeW]
    cases h : m.nodes[k.toNat]? with
    | none => simp
    | some nd =>
      simp only
      have h1 := nodeT_len nd (nd.kids.map (txM m f)) (by simp) (hR.node _ _ h).2.1 (hn nd (List.mem_of_getElem? h))
      have h2 : lens (nd.kids.map (txM m f)) ≤ (nd.kids.map (sumB costM m f)).sum := by
        unfold lens
        rw [List.map_map]
        generalize nd.kids = ks
        induction ks with
        | nil => simp
        | cons c ks ihk => simp only [List.map_cons, List.sum_cons, Function.comp]; have := ih c; omega
      omega
end Go.X

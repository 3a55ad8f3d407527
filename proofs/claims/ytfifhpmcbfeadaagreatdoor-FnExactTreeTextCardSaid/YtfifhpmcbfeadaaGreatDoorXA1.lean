/- Right trees: what a walk over a tree is, and what follows for a right one. No program is here. -/
import Derived.Test.YtfifhpmcbfeadaaGreatDoorXL4
set_option linter.unusedVariables false
set_option linter.unusedSimpArgs false
namespace Go.X
open Go

def exprK (k : Int) : Bool := decide (1 ≤ k) && decide (k ≤ 10)
def stateK (k : Int) : Bool := decide (11 ≤ k) && decide (k ≤ 19)
/-- 1 an expression, 2 a block, 3 a statement, 4 a statement or a function. -/
def rightM (s : Int) (k : Int) : Bool := (s == 1 && exprK k) || ((s == 2 && k == 18) || ((s == 3 && stateK k) || (s == 4 && (stateK k || k == 20))))
/-- Kinds with one expression below. -/
def oneK (k : Int) : Bool := k == 6 || (k == 11 || (k == 12 || (k == 15 || (k == 16 || k == 19))))
def twoK (k : Int) : Bool := k == 7 || (k == 8 || k == 9)
def sortsM (m : NodeM) : List Int :=
  if oneK m.kind = true then [1] else if twoK m.kind = true then [1, 1]
  else if m.kind = 13 then (if m.kids.length = 3 then [1, 2, 2] else [1, 2])
  else if m.kind = 14 then [1, 2] else if m.kind = 17 then [2, 2] else if m.kind = 20 then [2]
  else if m.kind = 10 then List.replicate m.kids.length 1 else if m.kind = 18 then List.replicate m.kids.length 3 else []
/-- The sort of a kid, by its parent: functions stand in the outmost block alone. -/
def adjM (root k s : Int) : Int := if k = root ∧ s = 3 then 4 else s
def walkL (w : Int → Int → List Nat → Option (List Nat)) (root k : Int) : List Int → List Int → List Nat → Option (List Nat)
  | s :: ss, c :: cs, vis => (w (adjM root k s) c vis).bind (walkL w root k ss cs)
  | _, _, vis => some vis
/-- A walk over a tree: the nodes that have been met behind it; none if something is wrong. -/
def walkM (m : TreeM) : Nat → Int → Int → List Nat → Option (List Nat)
  | 0, _, _, _ => none
  | f + 1, s, k, vis =>
    if 0 ≤ k ∧ k < m.nodes.length then
      match m.nodes[k.toNat]? with
      | none => none
      | some n => if (rightM s n.kind && (!(vis.contains k.toNat) && (nodeOK n && decide ((sortsM n).length = n.kids.length)))) = true then walkL (walkM m f) m.root k (sortsM n) n.kids (k.toNat :: vis) else none
    else none
def treeOK (m : TreeM) : Bool :=
  decide (m.nodes.length ≤ 200) && (match walkM m 200 2 m.root [] with | none => false | some vis => (List.range m.nodes.length).all (fun i => vis.contains i))

/-! ### What a walk tells -/

/-- d steps down lead from a node to another. -/
inductive Reach (m : TreeM) : Nat → Nat → Nat → Prop
  | refl (a : Nat) : Reach m a a 0
  | step {a y x d : Nat} {ny : NodeM} : Reach m a y d → m.nodes[y]? = some ny → (x : Int) ∈ ny.kids → Reach m a x (d + 1)
theorem Reach.down {m : TreeM} {a b x d : Nat} {na : NodeM} (ha : m.nodes[a]? = some na) (hb : (b : Int) ∈ na.kids) (h : Reach m b x d) : Reach m a x (d + 1) := by
  induction h with
  | refl => exact .step (.refl a) ha hb
  | step _ h1 h2 ih => exact .step ih h1 h2
/-- Between two states of a walk: what was met, from these heads on, so deep at most. -/
structure Seg (m : TreeM) (f : Nat) (vis vis' : List Nat) (hs : List (Int × Int)) : Prop where
  sub : ∀ x, x ∈ vis → x ∈ vis'
  heads : ∀ p ∈ hs, 0 ≤ p.2 ∧ p.2.toNat ∈ vis' ∧ p.2.toNat ∉ vis ∧ ∃ nd, m.nodes[p.2.toNat]? = some nd ∧ rightM p.1 nd.kind = true
  node : ∀ x, x ∈ vis' → x ∉ vis → ∃ nd, m.nodes[x]? = some nd ∧ nodeOK nd = true ∧ (sortsM nd).length = nd.kids.length ∧
    (∀ c ∈ nd.kids, 0 ≤ c ∧ c.toNat ∈ vis' ∧ c.toNat ∉ vis ∧ (∀ p ∈ hs, p.2.toNat ≠ c.toNat)) ∧
    (∀ (i : Nat) s c, (sortsM nd)[i]? = some s → nd.kids[i]? = some c → ∃ nc, m.nodes[c.toNat]? = some nc ∧ rightM (adjM m.root x s) nc.kind = true)
  uniq : ∀ x y, x ∈ vis' → x ∉ vis → y ∈ vis' → y ∉ vis → ∀ nx ny, m.nodes[x]? = some nx → m.nodes[y]? = some ny → ∀ c, c ∈ nx.kids → c ∈ ny.kids → x = y
  up : ∀ x, x ∈ vis' → x ∉ vis → ∃ p ∈ hs, ∃ d, d < f ∧ Reach m p.2.toNat x d

theorem Seg.nil (m : TreeM) (f : Nat) (vis : List Nat) : Seg m f vis vis [] :=
  ⟨fun _ h => h, fun _ h => (by cases h), fun x h h' => (h' h).elim, fun x y h h' => (h' h).elim, fun x h h' => (h' h).elim⟩
theorem Seg.append {m : TreeM} {f : Nat} {a b c : List Nat} {p q : List (Int × Int)} (h : Seg m f a b p) (k : Seg m f b c q) : Seg m f a c (p ++ q) where
  sub := fun x hx => k.sub x (h.sub x hx)
  heads := fun x hx => by
    rcases List.mem_append.1 hx with hx | hx
    · obtain ⟨h1, h2, h3, h4⟩ := h.heads x hx; exact ⟨h1, k.sub _ h2, h3, h4⟩
    · obtain ⟨h1, h2, h3, h4⟩ := k.heads x hx; exact ⟨h1, h2, fun h5 => h3 (h.sub _ h5), h4⟩
  node := fun x hx hn => by
    by_cases hb : x ∈ b
    · obtain ⟨nd, h1, h2, h3, h4, h5⟩ := h.node x hb hn
      refine ⟨nd, h1, h2, h3, fun c hc => ?_, h5⟩
      obtain ⟨g1, g2, g3, g4⟩ := h4 c hc
      refine ⟨g1, k.sub _ g2, g3, fun r hr => ?_⟩
      rcases List.mem_append.1 hr with hr | hr
      · exact g4 r hr
      · intro e; obtain ⟨_, _, f3, _⟩ := k.heads r hr; rw [e] at f3; exact f3 g2
    · obtain ⟨nd, h1, h2, h3, h4, h5⟩ := k.node x hx hb
      refine ⟨nd, h1, h2, h3, fun c hc => ?_, h5⟩
      obtain ⟨g1, g2, g3, g4⟩ := h4 c hc
      refine ⟨g1, g2, fun g5 => g3 (h.sub _ g5), fun r hr => ?_⟩
      rcases List.mem_append.1 hr with hr | hr
      · intro e; obtain ⟨_, f2, _, _⟩ := h.heads r hr; rw [e] at f2; exact g3 f2
      · exact g4 r hr
  uniq := fun x y hx hxn hy hyn nx ny ex ey cc cx cy => by
    by_cases hb : x ∈ b <;> by_cases hb' : y ∈ b
    · exact h.uniq x y hb hxn hb' hyn nx ny ex ey cc cx cy
    · obtain ⟨n1, e1, _, _, g1, _⟩ := h.node x hb hxn
      obtain ⟨n2, e2, _, _, g2, _⟩ := k.node y hy hb'
      rw [ex] at e1; cases e1
      rw [ey] at e2; cases e2
      exact ((g2 cc cy).2.2.1 (g1 cc cx).2.1).elim
    · obtain ⟨n1, e1, _, _, g1, _⟩ := k.node x hx hb
      obtain ⟨n2, e2, _, _, g2, _⟩ := h.node y hb' hyn
      rw [ex] at e1; cases e1
      rw [ey] at e2; cases e2
      exact ((g1 cc cx).2.2.1 (g2 cc cy).2.1).elim
    · exact k.uniq x y hx hb hy hb' nx ny ex ey cc cx cy
  up := fun x hx hn => by
    by_cases hb : x ∈ b
    · obtain ⟨r, hr, e⟩ := h.up x hb hn
      exact ⟨r, List.mem_append_left _ hr, e⟩
    · obtain ⟨r, hr, e⟩ := k.up x hx hb
      exact ⟨r, List.mem_append_right _ hr, e⟩
/-- A node above what was met from its kids on. -/
theorem Seg.top {m : TreeM} {f : Nat} {vis vis' : List Nat} {k s : Int} {nd : NodeM} (hk : 0 ≤ k) (hn : m.nodes[k.toNat]? = some nd) (hok : nodeOK nd = true) (hs : rightM s nd.kind = true) (hl : (sortsM nd).length = nd.kids.length) (hv : k.toNat ∉ vis)
    (h : Seg m f (k.toNat :: vis) vis' (((sortsM nd).map (adjM m.root k)).zip nd.kids)) : Seg m (f + 1) vis vis' [(s, k)] := by
  have hkid : ∀ c ∈ nd.kids, ∃ p ∈ ((sortsM nd).map (adjM m.root k)).zip nd.kids, p.2 = c := by
    intro c hc
    obtain ⟨i, hi⟩ := List.getElem?_of_mem hc
    have hlt : i < (sortsM nd).length := by have := (List.getElem?_eq_some_iff.1 hi).1; omega
    refine ⟨(adjM m.root k (sortsM nd)[i], c), ?_, rfl⟩
    refine List.mem_iff_getElem?.2 ⟨i, ?_⟩
    rw [List.getElem?_zip_eq_some]
    exact ⟨by rw [List.getElem?_map, List.getElem?_eq_getElem hlt]; rfl, hi⟩
  have hkc : ∀ c ∈ nd.kids, 0 ≤ c ∧ c.toNat ∈ vis' ∧ c.toNat ∉ vis ∧ c.toNat ≠ k.toNat := by
    intro c hc
    obtain ⟨p, hp, rfl⟩ := hkid c hc
    obtain ⟨h1, h2, h3, _⟩ := h.heads p hp
    exact ⟨h1, h2, fun h4 => h3 (List.mem_cons_of_mem _ h4), fun h4 => h3 (by rw [h4]; exact List.mem_cons_self)⟩
  have kin : k.toNat ∈ vis' := h.sub _ List.mem_cons_self
  refine ⟨fun x hx => h.sub x (List.mem_cons_of_mem _ hx), fun p hp => ?_, fun x hx hxn => ?_, fun x y hx hxn hy hyn nx ny ex ey c cx cy => ?_, fun x hx hxn => ?_⟩
  · rw [List.mem_singleton] at hp; subst hp; exact ⟨hk, kin, hv, nd, hn, hs⟩
  · by_cases e : x = k.toNat
    · subst e
      refine ⟨nd, hn, hok, hl, fun c hc => ?_, fun i s c hi hc => ?_⟩
      · obtain ⟨h1, h2, h3, h4⟩ := hkc c hc
        exact ⟨h1, h2, h3, fun p hp => by rw [List.mem_singleton] at hp; subst hp; exact fun e => h4 e.symm⟩
      · have : (adjM m.root k s, c) ∈ ((sortsM nd).map (adjM m.root k)).zip nd.kids := List.mem_iff_getElem?.2 ⟨i, by
          rw [List.getElem?_zip_eq_some]; exact ⟨by rw [List.getElem?_map, hi]; rfl, hc⟩⟩
        obtain ⟨_, _, _, nc', h5, h6⟩ := h.heads _ this
        exact ⟨nc', h5, by rw [Int.toNat_of_nonneg hk]; exact h6⟩
    · obtain ⟨nx, h1, h2, h3, h4, h5⟩ := h.node x hx (fun h6 => by rcases List.mem_cons.1 h6 with h6 | h6; exact e h6; exact hxn h6)
      refine ⟨nx, h1, h2, h3, fun c hc => ?_, h5⟩
      obtain ⟨g1, g2, g3, g4⟩ := h4 c hc
      refine ⟨g1, g2, fun g5 => g3 (List.mem_cons_of_mem _ g5), fun p hp => ?_⟩
      rw [List.mem_singleton] at hp; subst hp
      exact fun e => g3 (by rw [← e]; exact List.mem_cons_self)
  · have side : ∀ z nz, z ∈ vis' → z ∉ vis → z ≠ k.toNat → m.nodes[z]? = some nz → c ∈ nd.kids → c ∈ nz.kids → False := by
      intro z nz hz hzn hzk ez cn cz
      obtain ⟨n1, e1, _, _, g, _⟩ := h.node z hz (fun h6 => by rcases List.mem_cons.1 h6 with h6 | h6; exact hzk h6; exact hzn h6)
      rw [ez] at e1; cases e1
      obtain ⟨p, hp, rfl⟩ := hkid c cn
      exact (g _ cz).2.2.2 p hp rfl
    by_cases e : x = k.toNat <;> by_cases e' : y = k.toNat
    · rw [e, e']
    · subst e; rw [hn] at ex; cases ex; exact (side y ny hy hyn e' ey cx cy).elim
    · subst e'; rw [hn] at ey; cases ey; exact (side x nx hx hxn e ex cy cx).elim
    · exact h.uniq x y hx (fun h6 => by rcases List.mem_cons.1 h6 with h6 | h6; exact e h6; exact hxn h6) hy (fun h6 => by rcases List.mem_cons.1 h6 with h6 | h6; exact e' h6; exact hyn h6) nx ny ex ey c cx cy
  · by_cases e : x = k.toNat
    · subst e; exact ⟨(s, k), List.mem_singleton.2 rfl, 0, by omega, .refl _⟩
    · obtain ⟨p, hp, d, hd, hr⟩ := h.up x hx (fun h6 => by rcases List.mem_cons.1 h6 with h6 | h6; exact e h6; exact hxn h6)
      refine ⟨(s, k), List.mem_singleton.2 rfl, d + 1, by omega, Reach.down hn ?_ hr⟩
      have := (List.of_mem_zip hp).2
      obtain ⟨h1, _⟩ := h.heads p hp
      rw [Int.toNat_of_nonneg h1]; exact this

theorem walkL_seg (m : TreeM) (f : Nat) (w : Int → Int → List Nat → Option (List Nat)) (hw : ∀ s k vis vis', w s k vis = some vis' → Seg m f vis vis' [(s, k)]) (root k : Int) : ∀ ss cs vis vis', walkL w root k ss cs vis = some vis' → Seg m f vis vis' ((ss.map (adjM root k)).zip cs)
  | [], cs, vis, vis', h => by simp [walkL] at h; subst h; exact Seg.nil m f vis
  | s :: ss, [], vis, vis', h => by simp [walkL] at h; subst h; exact Seg.nil m f vis
  | s :: ss, c :: cs, vis, vis', h => by
    simp only [walkL] at h
    cases h1 : w (adjM root k s) c vis with
    | none => simp [h1] at h
    | some v1 =>
      rw [h1, Option.bind_some] at h
      exact (hw _ _ _ _ h1).append (walkL_seg m f w hw root k ss cs v1 vis' h)
theorem walkM_seg (m : TreeM) : ∀ f s k vis vis', walkM m f s k vis = some vis' → Seg m f vis vis' [(s, k)]
  | 0, _, _, _, _, h => by simp [walkM] at h
  | f + 1, s, k, vis, vis', h => by
    simp only [walkM] at h
    split at h
    · rename_i hk
      cases hn : m.nodes[k.toNat]? with
      | none => simp [hn] at h
      | some nd =>
        rw [hn] at h
        simp only at h
        split at h
        · rename_i hc
          simp only [Bool.and_eq_true, Bool.not_eq_true', decide_eq_true_eq] at hc
          obtain ⟨h1, h2, h3, h4⟩ := hc
          exact Seg.top hk.1 hn h3 h1 h4 (by simpa using h2) (walkL_seg m f _ (walkM_seg m f) m.root k _ _ _ _ h)
        · cases h
    · cases h

/-- DownT a node, with so many levels at most. -/
def DownT (m : TreeM) : Nat → Int → Prop
  | 0, _ => False
  | f + 1, k => 0 ≤ k ∧ ∃ nd, m.nodes[k.toNat]? = some nd ∧ ∀ c ∈ nd.kids, DownT m f c
theorem walkL_down (m : TreeM) (P : Int → Prop) (w : Int → Int → List Nat → Option (List Nat)) (hw : ∀ s k vis vis', w s k vis = some vis' → P k) (root k : Int) : ∀ ss cs vis vis', walkL w root k ss cs vis = some vis' → cs.length ≤ ss.length → ∀ c ∈ cs, P c
  | _, [], vis, vis', h, _ => fun c hc => by cases hc
  | [], c :: cs, vis, vis', h, hl => by simp at hl
  | s :: ss, c :: cs, vis, vis', h, hl => by
    simp only [walkL] at h
    cases h1 : w (adjM root k s) c vis with
    | none => simp [h1] at h
    | some v1 =>
      rw [h1, Option.bind_some] at h
      intro x hx
      rcases List.mem_cons.1 hx with rfl | hx
      · exact hw _ _ _ _ h1
      · exact walkL_down m P w hw root k ss cs v1 vis' h (by simpa using hl) x hx
theorem walkM_down (m : TreeM) : ∀ f s k vis vis', walkM m f s k vis = some vis' → DownT m f k
  | 0, _, _, _, _, h => by simp [walkM] at h
  | f + 1, s, k, vis, vis', h => by
    simp only [walkM] at h
    split at h
    · rename_i hk
      cases hn : m.nodes[k.toNat]? with
      | none => simp [hn] at h
      | some nd =>
        rw [hn] at h
        simp only at h
        split at h
        · rename_i hc
          simp only [Bool.and_eq_true, Bool.not_eq_true', decide_eq_true_eq] at hc
          obtain ⟨h1, h2, h3, h4⟩ := hc
          exact ⟨hk.1, nd, hn, walkL_down m _ _ (walkM_down m f) m.root k _ _ _ _ h (by omega)⟩
        · cases h
    · cases h

/-! ### Right trees -/

structure RightT (m : TreeM) : Prop where
  len : m.nodes.length ≤ 200
  root : 0 ≤ m.root ∧ ∃ nd, m.nodes[m.root.toNat]? = some nd ∧ nd.kind = 18
  node : ∀ (x : Nat) nd, m.nodes[x]? = some nd → nodeOK nd = true ∧ (sortsM nd).length = nd.kids.length ∧
    (∀ c ∈ nd.kids, 0 ≤ c ∧ c.toNat < m.nodes.length ∧ c ≠ m.root) ∧
    (∀ (i : Nat) s c, (sortsM nd)[i]? = some s → nd.kids[i]? = some c → ∃ nc, m.nodes[c.toNat]? = some nc ∧ rightM (adjM m.root x s) nc.kind = true)
  uniq : ∀ (x y : Nat) (nx ny : NodeM), m.nodes[x]? = some nx → m.nodes[y]? = some ny → ∀ c, c ∈ nx.kids → c ∈ ny.kids → x = y
  up : ∀ x : Nat, x < m.nodes.length → ∃ d, d < 200 ∧ Reach m m.root.toNat x d
  down : DownT m 200 m.root
theorem treeOK_right {m : TreeM} (h : treeOK m = true) : RightT m := by
  simp only [treeOK, Bool.and_eq_true, decide_eq_true_eq] at h
  obtain ⟨hl, h⟩ := h
  cases hw : walkM m 200 2 m.root [] with
  | none => rw [hw] at h; cases h
  | some vis =>
    rw [hw] at h
    simp only [List.all_eq_true, List.mem_range, List.contains_iff_mem] at h
    have hs := walkM_seg m _ _ _ _ _ hw
    have hb := walkM_down m _ _ _ _ _ hw
    obtain ⟨h0, _, _, nd, h1, h2⟩ := hs.heads (2, m.root) (List.mem_singleton.2 rfl)
    have hk : nd.kind = 18 := by
      have : (nd.kind == 18) = true := by simpa [rightM] using h2
      simpa using this
    have lt : ∀ (x : Nat) n, m.nodes[x]? = some n → x < m.nodes.length := fun x n e => (List.getElem?_eq_some_iff.1 e).1
    refine ⟨hl, ⟨h0, nd, h1, hk⟩, fun x nx ex => ?_, fun x y nx ny ex ey c cx cy => ?_, fun x hx => ?_, hb⟩
    · obtain ⟨n', e', g1, g2, g3, g4⟩ := hs.node x (h x (lt x nx ex)) (by simp)
      rw [ex] at e'; cases e'
      refine ⟨g1, g2, fun c hc => ?_, g4⟩
      obtain ⟨f1, f2, _, f4⟩ := g3 c hc
      obtain ⟨n2, e2, _⟩ := hs.node c.toNat f2 (by simp)
      exact ⟨f1, lt _ _ e2, fun e => f4 (2, m.root) (List.mem_singleton.2 rfl) (by simp [e])⟩
    · exact hs.uniq x y (h x (lt x nx ex)) (by simp) (h y (lt y ny ey)) (by simp) nx ny ex ey c cx cy
    · obtain ⟨p, hp, d, hd, hr⟩ := hs.up x (h x hx) (by simp)
      rw [List.mem_singleton] at hp; subst hp
      exact ⟨d, hd, hr⟩
end Go.X

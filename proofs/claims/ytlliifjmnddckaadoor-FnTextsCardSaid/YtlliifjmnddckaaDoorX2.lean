/- GoX, part 2: what it means that the model's memory holds an abstract store, and how that is carried from one world to the next. No statement of the seat is here. -/
import Derived.Test.YtlliifjmnddckaaDoorX1b
import Derived.Deep.AppendSrc
import Derived.WalkKit
set_option linter.unusedVariables false
namespace Go.X
open Go

/-- Where rows lie (block, offset), the abstract store, the world. -/
structure Ctx where
  β : Nat → Nat × Nat
  σ : Store
  w : World

def wsize (w : World) (b : Nat) : Nat := ((w.shape? b).map (·.2)).getD 0

def Ctx.at (c : Ctx) (r v : Nat) (K : Row → Prop) : Prop := ∃ row, c.σ[r]? = some row ∧ v ≤ row.ver ∧ (v = row.ver → K row)

mutual
/-- The model's value is what the abstract value says. -/
def VR (c : Ctx) : AV → Value → Prop
  | .un, _ => True
  | .undef, x => x = Go.undef
  | .int k n, x => x = .int k n
  | .bool b, x => x = .bool b
  | .str l, x => ∃ s : ByteArray, x = .string s ∧ s.data.toList = l
  | .agg cs, x => ∃ xs : Array Value, x = .agg xs ∧ VRs c cs xs.toList ∧ ∀ y ∈ xs.toList, y.oneCell' = true
  | .tup cs, x => ∃ xs : Array Value, x = .tuple xs ∧ VRs c cs xs.toList
  | .ptr r v i o, x => ∃ a, x = .pointer (some a) ∧ c.at r v fun row => a = ⟨(c.β r).1, (c.β r).2 + i * row.sz + o, none⟩
  | .nilptr, x => x = .pointer none
  | .sl r v i n, x => ∃ a cap, x = .slice (some a) n cap ∧ n ≤ cap ∧ c.at r v fun row =>
      cap ≠ 0 → a = ⟨(c.β r).1, (c.β r).2 + i * row.sz, none⟩ ∧ (row.kd = .own → (c.β r).2 + (i + cap) * row.sz ≤ wsize c.w (c.β r).1)
  | .nilsl, x => x = .slice none 0 0
  | .fn f cs, x => ∃ xs : Array Value, x = .func (.func f) #[] xs ∧ VRs c cs xs.toList
  | .nilfn, x => x = .nilFunc
  | .ifc t a, x => ∃ y, x = .iface t y ∧ VR c a y
  | .nilifc, x => x = .nilIface
  | .mp r v, x => ∃ b, x = .map (some b) ∧ c.at r v fun _ => b = (c.β r).1
  | .nilmp, x => x = .map none
def VRs (c : Ctx) : List AV → List Value → Prop
  | [], [] => True
  | a :: as, x :: xs => VR c a x ∧ VRs c as xs
  | _, _ => False
end

theorem VRs_length {c : Ctx} : ∀ {as : List AV} {xs : List Value}, VRs c as xs → as.length = xs.length
  | [], [], _ => rfl
  | a :: as, x :: xs, h => by rw [VRs] at h; simp [VRs_length h.2]
  | [], _ :: _, h => by simp [VRs] at h
  | _ :: _, [], h => by simp [VRs] at h

theorem VRs_get {c : Ctx} : ∀ {as : List AV} {xs : List Value}, VRs c as xs → ∀ {i : Nat} {a : AV}, as[i]? = some a → ∃ x, xs[i]? = some x ∧ VR c a x
  | a :: as, x :: xs, h, 0, b, hb => by
    rw [VRs] at h
    simp at hb
    subst hb
    exact ⟨x, rfl, h.1⟩
  | a :: as, x :: xs, h, i + 1, b, hb => by
    rw [VRs] at h
    simp at hb
    obtain ⟨y, h1, h2⟩ := VRs_get h.2 hb
    exact ⟨y, by simpa using h1, h2⟩
  | [], [], _, i, b, hb => by simp at hb
  | [], _ :: _, h, _, _, _ => by simp [VRs] at h
  | _ :: _, [], h, _, _, _ => by simp [VRs] at h

theorem VRs_of {c : Ctx} : ∀ {as : List AV} {xs : List Value}, as.length = xs.length → (∀ (i : Nat) (a : AV) (x : Value), as[i]? = some a → xs[i]? = some x → VR c a x) → VRs c as xs
  | [], [], _, _ => by simp [VRs]
  | a :: as, x :: xs, hl, h => by
    rw [VRs]
    exact ⟨h 0 a x rfl rfl, VRs_of (by simpa using hl) fun i a x ha hx => h (i + 1) a x (by simpa using ha) (by simpa using hx)⟩
  | [], _ :: _, hl, _ => by simp at hl
  | _ :: _, [], hl, _ => by simp at hl

/-- From one context to the next: rows stay, versions rise, what keeps its version keeps its place. -/
def CtxLe (c c' : Ctx) : Prop := ∀ r row, c.σ[r]? = some row → ∃ row', c'.σ[r]? = some row' ∧ row'.sz = row.sz ∧ row'.kd = row.kd ∧ row.ver ≤ row'.ver ∧
  (row'.ver = row.ver → c'.β r = c.β r ∧ (row.kd = .own → wsize c'.w (c.β r).1 = wsize c.w (c.β r).1))

theorem CtxLe.refl (c : Ctx) : CtxLe c c := fun r row h => ⟨row, h, rfl, rfl, Nat.le_refl _, fun _ => ⟨rfl, fun _ => rfl⟩⟩

theorem CtxLe.trans {a b c : Ctx} (h : CtxLe a b) (k : CtxLe b c) : CtxLe a c := by
  intro r row hr
  obtain ⟨row1, h1, hs, hk, hv, hb⟩ := h r row hr
  obtain ⟨row2, h2, ks, kk, kv, kb⟩ := k r row1 h1
  refine ⟨row2, h2, ks.trans hs, kk.trans hk, by omega, fun e => ?_⟩
  obtain ⟨e1, e2⟩ := hb (by omega)
  obtain ⟨e3, e4⟩ := kb (by omega)
  refine ⟨e3.trans e1, fun ho => ?_⟩
  have e5 := e4 (by rw [hk]; exact ho)
  rw [e1] at e5
  exact e5.trans (e2 ho)

theorem Ctx.at_mono {c c' : Ctx} (h : CtxLe c c') {r v : Nat} {K K' : Row → Prop} (hc : c.at r v K)
    (hK : ∀ row row', c.σ[r]? = some row → row'.sz = row.sz → row'.kd = row.kd → c'.β r = c.β r → (row.kd = .own → wsize c'.w (c.β r).1 = wsize c.w (c.β r).1) → K row → K' row') : c'.at r v K' := by
  obtain ⟨row, h1, h2, h3⟩ := hc
  obtain ⟨row', k1, ks, kk, kv, kb⟩ := h r row h1
  refine ⟨row', k1, by omega, fun e => ?_⟩
  obtain ⟨e1, e2⟩ := kb (by omega)
  exact hK row row' h1 ks kk e1 e2 (h3 (by omega))

mutual
theorem VR_mono {c c' : Ctx} (h : CtxLe c c') : ∀ (a : AV) (x : Value), VR c a x → VR c' a x
  | .un, _, _ => by simp [VR]
  | .undef, _, hx => by simpa [VR] using hx
  | .int _ _, _, hx => by simpa [VR] using hx
  | .bool _, _, hx => by simpa [VR] using hx
  | .str _, _, hx => by simpa [VR] using hx
  | .agg cs, x, hx => by
    rw [VR] at hx ⊢
    obtain ⟨xs, e, h1, h2⟩ := hx
    exact ⟨xs, e, VRs_mono h cs _ h1, h2⟩
  | .tup cs, x, hx => by
    rw [VR] at hx ⊢
    obtain ⟨xs, e, h1⟩ := hx
    exact ⟨xs, e, VRs_mono h cs _ h1⟩
  | .ptr r v i o, x, hx => by
    rw [VR] at hx ⊢
    obtain ⟨a, e, h1⟩ := hx
    exact ⟨a, e, Ctx.at_mono h h1 fun row row' _ hs _ hb _ hk => by rw [hs, hb]; exact hk⟩
  | .nilptr, _, hx => by simpa [VR] using hx
  | .sl r v i n, x, hx => by
    rw [VR] at hx ⊢
    obtain ⟨a, cap, e, hn, h1⟩ := hx
    refine ⟨a, cap, e, hn, Ctx.at_mono h h1 fun row row' _ hs hk hb hw hK hc => ?_⟩
    obtain ⟨e1, e2⟩ := hK hc
    refine ⟨by rw [hs, hb]; exact e1, fun ho => ?_⟩
    have ho' : row.kd = .own := by rw [← hk]; exact ho
    rw [hb, hs, hw ho']
    exact e2 ho'
  | .nilsl, _, hx => by simpa [VR] using hx
  | .fn f cs, x, hx => by
    rw [VR] at hx ⊢
    obtain ⟨xs, e, h1⟩ := hx
    exact ⟨xs, e, VRs_mono h cs _ h1⟩
  | .nilfn, _, hx => by simpa [VR] using hx
  | .ifc t a, x, hx => by
    rw [VR] at hx ⊢
    obtain ⟨y, e, h1⟩ := hx
    exact ⟨y, e, VR_mono h a _ h1⟩
  | .nilifc, _, hx => by simpa [VR] using hx
  | .mp r v, x, hx => by
    rw [VR] at hx ⊢
    obtain ⟨b, e, h1⟩ := hx
    exact ⟨b, e, Ctx.at_mono h h1 fun row row' _ _ _ hb _ hk => by rw [hb]; exact hk⟩
  | .nilmp, _, hx => by simpa [VR] using hx
theorem VRs_mono {c c' : Ctx} (h : CtxLe c c') : ∀ (as : List AV) (xs : List Value), VRs c as xs → VRs c' as xs
  | [], [], _ => by simp [VRs]
  | a :: as, x :: xs, hx => by
    rw [VRs] at hx ⊢
    exact ⟨VR_mono h a x hx.1, VRs_mono h as xs hx.2⟩
  | [], _ :: _, hx => by simp [VRs] at hx
  | _ :: _, [], hx => by simp [VRs] at hx
end

mutual
/-- What names no row from n on speaks of the first n rows alone. -/
theorem VR_take {c : Ctx} (n : Nat) : ∀ (a : AV) (x : Value), below n a = true → VR c a x → VR ⟨c.β, c.σ.take n, c.w⟩ a x
  | .un, _, _, _ => by simp [VR]
  | .undef, _, _, hx => by simpa [VR] using hx
  | .int _ _, _, _, hx => by simpa [VR] using hx
  | .bool _, _, _, hx => by simpa [VR] using hx
  | .str _, _, _, hx => by simpa [VR] using hx
  | .agg cs, x, hb, hx => by
    rw [VR] at hx ⊢
    obtain ⟨xs, e, h1, h2⟩ := hx
    exact ⟨xs, e, VRs_take n cs _ (by simpa [below] using hb) h1, h2⟩
  | .tup cs, x, hb, hx => by
    rw [VR] at hx ⊢
    obtain ⟨xs, e, h1⟩ := hx
    exact ⟨xs, e, VRs_take n cs _ (by simpa [below] using hb) h1⟩
  | .ptr r v i o, x, hb, hx => by
    rw [VR] at hx ⊢
    obtain ⟨a, e, row, h1, h2, h3⟩ := hx
    exact ⟨a, e, row, by simpa [List.getElem?_take, below] using ⟨by simpa [below] using hb, h1⟩, h2, h3⟩
  | .nilptr, _, _, hx => by simpa [VR] using hx
  | .sl r v i m, x, hb, hx => by
    rw [VR] at hx ⊢
    obtain ⟨a, cap, e, hn, row, h1, h2, h3⟩ := hx
    exact ⟨a, cap, e, hn, row, by simpa [List.getElem?_take, below] using ⟨by simpa [below] using hb, h1⟩, h2, h3⟩
  | .nilsl, _, _, hx => by simpa [VR] using hx
  | .fn f cs, x, hb, hx => by
    rw [VR] at hx ⊢
    obtain ⟨xs, e, h1⟩ := hx
    exact ⟨xs, e, VRs_take n cs _ (by simpa [below] using hb) h1⟩
  | .nilfn, _, _, hx => by simpa [VR] using hx
  | .ifc t a, x, hb, hx => by
    rw [VR] at hx ⊢
    obtain ⟨y, e, h1⟩ := hx
    exact ⟨y, e, VR_take n a _ (by simpa [below] using hb) h1⟩
  | .nilifc, _, _, hx => by simpa [VR] using hx
  | .mp r v, x, hb, hx => by
    rw [VR] at hx ⊢
    obtain ⟨b, e, row, h1, h2, h3⟩ := hx
    exact ⟨b, e, row, by simpa [List.getElem?_take, below] using ⟨by simpa [below] using hb, h1⟩, h2, h3⟩
  | .nilmp, _, _, hx => by simpa [VR] using hx
theorem VRs_take {c : Ctx} (n : Nat) : ∀ (as : List AV) (xs : List Value), belows n as = true → VRs c as xs → VRs ⟨c.β, c.σ.take n, c.w⟩ as xs
  | [], [], _, _ => by simp [VRs]
  | a :: as, x :: xs, hb, hx => by
    rw [VRs] at hx ⊢
    rw [belows, Bool.and_eq_true] at hb
    exact ⟨VR_take n a x hb.1 hx.1, VRs_take n as xs hb.2 hx.2⟩
  | [], _ :: _, _, hx => by simp [VRs] at hx
  | _ :: _, [], _, hx => by simp [VRs] at hx
end

mutual
/-- What the model's memory holds names rows that are there. -/
theorem VR_below {c : Ctx} : ∀ (a : AV) (x : Value), VR c a x → below c.σ.length a = true
  | .un, _, _ => rfl
  | .undef, _, _ => rfl
  | .int _ _, _, _ => rfl
  | .bool _, _, _ => rfl
  | .str _, _, _ => rfl
  | .agg cs, x, hx => by
    rw [VR] at hx
    obtain ⟨xs, e, h1, h2⟩ := hx
    simpa [below] using VRs_below cs _ h1
  | .tup cs, x, hx => by
    rw [VR] at hx
    obtain ⟨xs, e, h1⟩ := hx
    simpa [below] using VRs_below cs _ h1
  | .ptr r v i o, x, hx => by
    rw [VR] at hx
    obtain ⟨a, e, row, h1, _⟩ := hx
    simpa [below] using (List.getElem?_eq_some_iff.1 h1).1
  | .nilptr, _, _ => rfl
  | .sl r v i m, x, hx => by
    rw [VR] at hx
    obtain ⟨a, cap, e, hn, row, h1, _⟩ := hx
    simpa [below] using (List.getElem?_eq_some_iff.1 h1).1
  | .nilsl, _, _ => rfl
  | .fn f cs, x, hx => by
    rw [VR] at hx
    obtain ⟨xs, e, h1⟩ := hx
    simpa [below] using VRs_below cs _ h1
  | .nilfn, _, _ => rfl
  | .ifc t a, x, hx => by
    rw [VR] at hx
    obtain ⟨y, e, h1⟩ := hx
    simpa [below] using VR_below a _ h1
  | .nilifc, _, _ => rfl
  | .mp r v, x, hx => by
    rw [VR] at hx
    obtain ⟨b, e, row, h1, _⟩ := hx
    simpa [below] using (List.getElem?_eq_some_iff.1 h1).1
  | .nilmp, _, _ => rfl
theorem VRs_below {c : Ctx} : ∀ (as : List AV) (xs : List Value), VRs c as xs → belows c.σ.length as = true
  | [], _, _ => rfl
  | a :: as, x :: xs, hx => by
    rw [VRs] at hx
    rw [belows, Bool.and_eq_true]
    exact ⟨VR_below a x hx.1, VRs_below as xs hx.2⟩
  | _ :: _, [], hx => by simp [VRs] at hx
end

/-! ### The store in memory -/

structure RowOk (base : Nat) (c : Ctx) (r : Nat) (row : Row) : Prop where
  pos : 0 < row.sz
  len : ∀ (i : Nat) (cs : List AV), row.els[i]? = some cs → cs.length = row.sz
  cells : ∀ (i : Nat) (cs : List AV) (j : Nat) (a : AV), row.els[i]? = some cs → cs[j]? = some a →
    ∃ x, c.w.cell? ⟨(c.β r).1, (c.β r).2 + i * row.sz + j, none⟩ = some x ∧ VR c a x ∧ x.oneCell' = true
  nomap : row.kd ≠ .map
  ro : row.kd = .ro → (c.β r).1 < base ∨ row.els = []
  own : row.kd = .own → base ≤ (c.β r).1 ∧ (c.β r).1 < c.w.heap.size ∧ (c.β r).2 + row.els.length * row.sz ≤ wsize c.w (c.β r).1 ∧
    ∀ o, o < wsize c.w (c.β r).1 → c.w.frozen? ⟨(c.β r).1, o, none⟩ = false

/-- A row whose block matters. -/
def Row.live (row : Row) : Prop := row.els ≠ [] ∨ row.kd = .own

def Own (c : Ctx) (b : Nat) : Prop := ∃ r row, c.σ[r]? = some row ∧ row.kd ≠ .ro ∧ (c.β r).1 = b

structure Sim (base : Nat) (c : Ctx) : Prop where
  size : base ≤ c.w.heap.size
  rows : ∀ r row, c.σ[r]? = some row → RowOk base c r row
  inj : ∀ r r' row row', c.σ[r]? = some row → c.σ[r']? = some row' → row.kd ≠ .ro → row'.kd ≠ .ro → (c.β r).1 = (c.β r').1 → r = r'

/-- From one state to a later one. X: blocks besides the store's own that may change. -/
structure Evo (X : Nat → Prop) (c c' : Ctx) : Prop where
  os : c'.w.os = c.w.os
  tape : c'.w.tape = c.w.tape
  output : c'.w.output = c.w.output
  size : c.w.heap.size ≤ c'.w.heap.size
  keep : ∀ b, b < c.w.heap.size → ¬ X b → ¬ Own c b → c'.w.heap[b]? = c.w.heap[b]?
  le : CtxLe c c'
  fresh : ∀ b, Own c' b → Own c b ∨ c.w.heap.size ≤ b

theorem Evo.refl (X : Nat → Prop) (c : Ctx) : Evo X c c := ⟨rfl, rfl, rfl, Nat.le_refl _, fun _ _ _ _ => rfl, CtxLe.refl c, fun _ h => .inl h⟩

theorem Evo.trans {X : Nat → Prop} {a b c : Ctx} (h : Evo X a b) (k : Evo X b c) : Evo X a c := by
  refine ⟨k.os.trans h.os, k.tape.trans h.tape, k.output.trans h.output, Nat.le_trans h.size k.size, ?_, h.le.trans k.le, ?_⟩
  · intro i hi hx ho
    rw [k.keep i (Nat.lt_of_lt_of_le hi h.size) hx (fun hb => ?_), h.keep i hi hx ho]
    rcases h.fresh i hb with h1 | h1
    · exact ho h1
    · omega
  · intro i hi
    rcases k.fresh i hi with h1 | h1
    · exact h.fresh i h1
    · exact .inr (Nat.le_trans h.size h1)

/-- A step within a stretch that began at c0: what may change of late blocks does not matter. -/
theorem Evo.step {X : Nat → Prop} {c0 c c' : Ctx} (h : Evo (fun _ => False) c0 c) (k : Evo X c c') (hX : ∀ b, X b → c0.w.heap.size ≤ b) : Evo (fun _ => False) c0 c' := by
  refine ⟨k.os.trans h.os, k.tape.trans h.tape, k.output.trans h.output, Nat.le_trans h.size k.size, ?_, h.le.trans k.le, ?_⟩
  · intro i hi hx ho
    rw [k.keep i (Nat.lt_of_lt_of_le hi h.size) (fun hX' => by have := hX i hX'; omega) (fun hb => ?_), h.keep i hi hx ho]
    rcases h.fresh i hb with h1 | h1
    · exact ho h1
    · omega
  · intro i hi
    rcases k.fresh i hi with h1 | h1
    · exact h.fresh i h1
    · exact .inr (Nat.le_trans h.size h1)

theorem wsize_of {w w' : World} {b : Nat} (h : w'.heap[b]? = w.heap[b]?) : wsize w' b = wsize w b := by simp [wsize, World.shape?, h]

/-- A row whose block did not change stands as it stood. -/
theorem RowOk.carry {base : Nat} {c c' : Ctx} (hle : CtxLe c c') {r : Nat} {row : Row} (h : RowOk base c r row) (hβ : c'.β r = c.β r) (hsz : c.w.heap.size ≤ c'.w.heap.size)
    (hb0 : row.live → c'.w.heap[(c.β r).1]? = c.w.heap[(c.β r).1]?) : RowOk base c' r row := by
  refine ⟨h.pos, h.len, ?_, h.nomap, fun hr => by rw [hβ]; exact h.ro hr, fun ho => ?_⟩
  · intro i cs j a h1 h2
    have hb := hb0 (.inl (fun e => by rw [e] at h1; simp at h1))
    obtain ⟨x, h3, h4, h5⟩ := h.cells i cs j a h1 h2
    refine ⟨x, ?_, VR_mono hle _ _ h4, h5⟩
    rw [hβ, World.cell?_of_block (w := c.w) (by exact hb)]
    exact h3
  · have hb := hb0 (.inr ho)
    obtain ⟨h1, h2, h3, h4⟩ := h.own ho
    rw [hβ, wsize_of hb]
    refine ⟨h1, by omega, h3, fun o hlt => ?_⟩
    rw [World.frozen?_of_block (w := c.w) (by exact hb)]
    exact h4 o hlt

theorem Sim.lt {base : Nat} {c : Ctx} (h : Sim base c) {r : Nat} {row : Row} (hr : c.σ[r]? = some row) (hl : row.live) : (c.β r).1 < c.w.heap.size := by
  have hk := h.rows r row hr
  cases e : row.kd with
  | ro =>
    have := h.size
    rcases hk.ro e with h1 | h1
    · omega
    · rcases hl with h2 | h2
      · exact absurd h1 h2
      · rw [e] at h2; cases h2
  | own => exact (hk.own e).2.1
  | map => exact absurd e hk.nomap

theorem Sim.notro {base : Nat} {c : Ctx} (h : Sim base c) {r : Nat} {row : Row} (hr : c.σ[r]? = some row) (hk : row.kd ≠ .ro) : row.live := by
  cases e : row.kd with
  | ro => exact absurd e hk
  | own => exact .inr e
  | map => exact absurd e (h.rows r row hr).nomap

/-- The world alone has changed, at blocks that no row lies in. -/
theorem Sim.world {base : Nat} {c : Ctx} (h : Sim base c) {X : Nat → Prop} {w' : World} (hos : w'.os = c.w.os) (htape : w'.tape = c.w.tape) (hout : w'.output = c.w.output) (hsz : c.w.heap.size ≤ w'.heap.size)
    (hX : ∀ b, X b → base ≤ b ∧ ¬ Own c b) (hkeep : ∀ b, b < c.w.heap.size → ¬ X b → w'.heap[b]? = c.w.heap[b]?) : Sim base ⟨c.β, c.σ, w'⟩ ∧ Evo X c ⟨c.β, c.σ, w'⟩ := by
  have hblk : ∀ r row, c.σ[r]? = some row → row.live → w'.heap[(c.β r).1]? = c.w.heap[(c.β r).1]? := by
    intro r row hr hl
    refine hkeep _ (h.lt hr hl) (fun hx => ?_)
    obtain ⟨h1, h2⟩ := hX _ hx
    cases e : row.kd with
    | ro =>
      rcases (h.rows r row hr).ro e with h3 | h3
      · omega
      · rcases hl with h4 | h4
        · exact h4 h3
        · rw [e] at h4; cases h4
    | own => exact h2 ⟨r, row, hr, by simp [e], rfl⟩
    | map => exact (h.rows r row hr).nomap e
  have hle : CtxLe c ⟨c.β, c.σ, w'⟩ := fun r row hr => ⟨row, hr, rfl, rfl, Nat.le_refl _, fun _ => ⟨rfl, fun ho => wsize_of (hblk r row hr (.inr ho))⟩⟩
  refine ⟨⟨Nat.le_trans h.size hsz, fun r row hr => (h.rows r row hr).carry hle rfl hsz (hblk r row hr), h.inj⟩, ⟨hos, htape, hout, hsz, fun b hb hx _ => hkeep b hb hx, hle, fun b hb => .inl hb⟩⟩

/-- A row has come. -/
theorem Sim.new {base : Nat} {c c' : Ctx} (h : Sim base c) (row : Row) (hσ : c'.σ = c.σ ++ [row]) (hβ : ∀ r, r < c.σ.length → c'.β r = c.β r)
    (hos : c'.w.os = c.w.os) (htape : c'.w.tape = c.w.tape) (hout : c'.w.output = c.w.output) (hsz : c.w.heap.size ≤ c'.w.heap.size)
    (hkeep : ∀ b, b < c.w.heap.size → c'.w.heap[b]? = c.w.heap[b]?) (hnew : c.w.heap.size ≤ (c'.β c.σ.length).1)
    (hrow : CtxLe c c' → RowOk base c' c.σ.length row) (X : Nat → Prop) : Sim base c' ∧ Evo X c c' := by
  have hold : ∀ r row, c.σ[r]? = some row → r < c.σ.length := fun r row hr => (List.getElem?_eq_some_iff.1 hr).1
  have hle : CtxLe c c' := fun r row hr => ⟨row, by rw [hσ, List.getElem?_append_left (hold r row hr)]; exact hr, rfl, rfl, Nat.le_refl _, fun _ => ⟨hβ r (hold r row hr), fun ho => wsize_of (hkeep _ (h.lt hr (.inr ho)))⟩⟩
  have hcase : ∀ r row', c'.σ[r]? = some row' → (r < c.σ.length ∧ c.σ[r]? = some row') ∨ (r = c.σ.length ∧ row' = row) := by
    intro r row' hr
    rw [hσ] at hr
    rcases Nat.lt_or_ge r c.σ.length with hlt | hge
    · rw [List.getElem?_append_left hlt] at hr
      exact .inl ⟨hlt, hr⟩
    · rw [List.getElem?_append_right hge] at hr
      have : r - c.σ.length < 1 := by simpa using (List.getElem?_eq_some_iff.1 hr).1
      have e : r = c.σ.length := by omega
      subst e
      simp at hr
      exact .inr ⟨rfl, hr.symm⟩
  refine ⟨⟨Nat.le_trans h.size hsz, ?_, ?_⟩, ⟨hos, htape, hout, hsz, fun b hb _ _ => hkeep b hb, hle, ?_⟩⟩
  · intro r row' hr
    rcases hcase r row' hr with ⟨hlt, hr'⟩ | ⟨rfl, rfl⟩
    · exact (h.rows r row' hr').carry hle (hβ r hlt) hsz (fun hl => hkeep _ (h.lt hr' hl))
    · exact hrow hle
  · intro r r' row1 row2 h1 h2 k1 k2 e
    rcases hcase r row1 h1 with ⟨hlt, hr⟩ | ⟨rfl, rfl⟩ <;> rcases hcase r' row2 h2 with ⟨hlt', hr'⟩ | ⟨rfl, rfl⟩
    · rw [hβ r hlt, hβ r' hlt'] at e
      exact h.inj r r' row1 row2 hr hr' k1 k2 e
    · rw [hβ r hlt] at e
      have := h.lt hr (h.notro hr k1)
      omega
    · rw [hβ r' hlt'] at e
      have := h.lt hr' (h.notro hr' k2)
      omega
    · rfl
  · rintro b ⟨r, row', h1, h2, rfl⟩
    rcases hcase r row' h1 with ⟨hlt, hr⟩ | ⟨rfl, rfl⟩
    · exact .inl ⟨r, row', hr, h2, by rw [hβ r hlt]⟩
    · exact .inr hnew

/-- A row of the store's own has changed. -/
theorem Sim.upd {base : Nat} {c c' : Ctx} (h : Sim base c) (r : Nat) (row row' : Row) (hr : c.σ[r]? = some row) (hσ : c'.σ = c.σ.set r row') (hown : row.kd = .own) (hown' : row'.kd = .own) (hsz' : row'.sz = row.sz) (hver : row.ver ≤ row'.ver)
    (hβ : ∀ q, q ≠ r → c'.β q = c.β q) (hsame : row'.ver = row.ver → c'.β r = c.β r ∧ wsize c'.w (c.β r).1 = wsize c.w (c.β r).1)
    (hos : c'.w.os = c.w.os) (htape : c'.w.tape = c.w.tape) (hout : c'.w.output = c.w.output) (hsz : c.w.heap.size ≤ c'.w.heap.size)
    (hkeep : ∀ b, b < c.w.heap.size → b ≠ (c.β r).1 → c'.w.heap[b]? = c.w.heap[b]?) (hnew : (c'.β r).1 = (c.β r).1 ∨ c.w.heap.size ≤ (c'.β r).1)
    (hrow : CtxLe c c' → RowOk base c' r row') (X : Nat → Prop) : Sim base c' ∧ Evo X c c' := by
  have hlt : r < c.σ.length := (List.getElem?_eq_some_iff.1 hr).1
  have hgr : c'.σ[r]? = some row' := by rw [hσ, List.getElem?_set_self hlt]
  have hgo : ∀ q, q ≠ r → c'.σ[q]? = c.σ[q]? := fun q hq => by rw [hσ, List.getElem?_set_ne (Ne.symm hq)]
  have hne : ∀ q rq, q ≠ r → c.σ[q]? = some rq → rq.live → (c.β q).1 ≠ (c.β r).1 := by
    intro q rq hq hqr hl e
    cases ek : rq.kd with
    | ro =>
      have h2 := ((h.rows r row hr).own hown).1
      rcases (h.rows q rq hqr).ro ek with h1 | h1
      · omega
      · rcases hl with h4 | h4
        · exact h4 h1
        · rw [ek] at h4; cases h4
    | own => exact hq (h.inj q r rq row hqr hr (by simp [ek]) (by simp [hown]) e)
    | map => exact (h.rows q rq hqr).nomap ek
  have hle : CtxLe c c' := by
    intro q rq hq
    by_cases e : q = r
    · subst e
      rw [hr] at hq; cases hq
      exact ⟨row', hgr, hsz', hown'.trans hown.symm, hver, fun ev => ⟨(hsame ev).1, fun _ => (hsame ev).2⟩⟩
    · exact ⟨rq, by rw [hgo q e]; exact hq, rfl, rfl, Nat.le_refl _, fun _ => ⟨hβ q e, fun ho => wsize_of (hkeep _ (h.lt hq (.inr ho)) (hne q rq e hq (.inr ho)))⟩⟩
  refine ⟨⟨Nat.le_trans h.size hsz, ?_, ?_⟩, ⟨hos, htape, hout, hsz, ?_, hle, ?_⟩⟩
  · intro q rq hq
    by_cases e : q = r
    · subst e
      rw [hgr] at hq; cases hq
      exact hrow hle
    · rw [hgo q e] at hq
      exact (h.rows q rq hq).carry hle (hβ q e) hsz (fun hl => hkeep _ (h.lt hq hl) (hne q rq e hq hl))
  · intro q q' rq rq' h1 h2 k1 k2 eb
    by_cases e : q = r <;> by_cases e' : q' = r
    · rw [e, e']
    · subst e
      rw [hgo q' e'] at h2
      rw [hβ q' e'] at eb
      rcases hnew with hn | hn
      · exact absurd (by rw [← eb, hn]) (hne q' rq' e' h2 (h.notro h2 k2))
      · have := h.lt h2 (h.notro h2 k2); omega
    · subst e'
      rw [hgo q e] at h1
      rw [hβ q e] at eb
      rcases hnew with hn | hn
      · exact absurd (by rw [eb, hn]) (hne q rq e h1 (h.notro h1 k1))
      · have := h.lt h1 (h.notro h1 k1); omega
    · rw [hgo q e] at h1
      rw [hgo q' e'] at h2
      rw [hβ q e, hβ q' e'] at eb
      exact h.inj q q' rq rq' h1 h2 k1 k2 eb
  · intro b hb _ ho
    exact hkeep b hb (fun e => ho ⟨r, row, hr, by simp [hown], e.symm⟩)
  · rintro b ⟨q, rq, h1, h2, rfl⟩
    by_cases e : q = r
    · subst e
      rcases hnew with hn | hn
      · exact .inl ⟨q, row, hr, by simp [hown], hn.symm⟩
      · exact .inr hn
    · rw [hgo q e] at h1
      exact .inl ⟨q, rq, h1, h2, by rw [hβ q e]⟩

end Go.X

/- What the library's functions without resolved code do here: strings.Join by the shelf's contract, where strconv's Atoi does not lie in the program. -/
import Derived.Test.YtfifhpmcbfeadaaGreatDoorXC2
import Derived.Test.YtfifhpmcbfeadaaGreatDoorXSh
import Derived.Test.YtfifhpmcbfeadaaGreatDoorXSj
import Derived.Test.YtfifhpmcbfeadaaGreatDoorXD15
import Derived.Lib.AppendIntMem
import Derived.Lib.LaidTab
import Derived.KernelRfl
set_option linter.unusedVariables false
set_option linter.unusedSimpArgs false
namespace Go.X
open Go Go.Proofs

/-- What a table holds it holds wherever what was there has not turned. -/
theorem tab_old {P : Program} {W0 w : World} {name : String} {k : IntKind} {zs : List Int} (h : Lib.TabIs P W0 name k zs) (ho : Old W0.heap.size W0 w) : Lib.TabIs P w name k zs := by
  unfold Lib.TabIs World.var? at *
  cases hg : P.globalNamed name with
  | none => simp [hg] at h
  | some g =>
    simp only [hg, Option.bind_some] at h ⊢
    have hlt : g < W0.heap.size := by
      rcases Nat.lt_or_ge g W0.heap.size with h' | h'
      · exact h'
      · rw [Array.getElem?_eq_none h'] at h; simp at h
    rw [ho g hlt]
    exact h
theorem bel_world {base : Nat} {c : Ctx} (hs : Sim base c) {w' : World} (hb : RowKit.Below c.w.heap.size c.w w') : Sim base ⟨c.β, c.σ, w'⟩ ∧ Evo (fun _ => False) c ⟨c.β, c.σ, w'⟩ := by
  obtain ⟨b1, b2, b3, b4, b5⟩ := hb
  exact hs.world (X := fun _ => False) (w' := w') b1 b2 b3 b4 (fun b hb => hb.elim) (fun b hb _ => b5 b hb)
theorem allSome_get2 {α β : Type} {f : α → Option β} : ∀ {l : List α} {bs : List β}, allSome f l = some bs → bs.length = l.length ∧ ∀ (j : Nat) (a : α), l[j]? = some a → ∃ b, bs[j]? = some b ∧ f a = some b
  | [], bs, h => by
    simp only [allSome, Option.some.injEq] at h
    subst h
    exact ⟨rfl, fun j a h => by simp at h⟩
  | x :: l, bs, h => by
    simp only [allSome, Option.bind_eq_some_iff, Option.some.injEq] at h
    obtain ⟨b, hb, bs', hbs, rfl⟩ := h
    obtain ⟨ih1, ih2⟩ := allSome_get2 hbs
    refine ⟨by simp [ih1], fun j a ha => ?_⟩
    cases j with
    | zero => simp only [List.getElem?_cons_zero, Option.some.injEq] at ha; subst ha; exact ⟨b, rfl, hb⟩
    | succ j => exact ih2 j a (by simpa using ha)
def strOfCell : List AV → Option (List UInt8)
  | [.str s] => some s
  | _ => none
theorem strOfCell_some {cs : List AV} {s : List UInt8} (h : strOfCell cs = some s) : cs = [.str s] := by
  unfold strOfCell at h
  split at h
  · cases h; rfl
  · cases h
/-- strings.Join. -/
def joinX : Call := fun f args σ =>
  if f = f_strings_Join then
    match args with
    | [a, .str sep] => (elsOf ⟨[], σ⟩ 1 (.v a)).bind fun els => (allSome strOfCell els).bind fun xs => if xs.length ≤ 140737488355328 ∧ (Lib.join xs sep).length ≤ 140737488355328 then some (.str (Lib.join xs sep), σ) else none
    | _ => none
  else none
theorem rowAt_inv2 {σ : Store} {r v : Nat} {row : Row} (h : rowAt σ r v = some row) : σ[r]? = some row ∧ row.ver = v := ⟨(rowAt_inv h).1, (rowAt_inv h).2.1⟩
theorem joinX_sound (base : Nat) (W0 : World) : SoundCall Tryz.prog base W0 joinX := by
  intro f args st r st' h
  unfold joinX at h
  split at h
  · rename_i hf
    subst hf
    split at h
    · rename_i a sep
      simp only [Option.bind_eq_some_iff] at h
      obtain ⟨els, h1, xs, h2, h3⟩ := h
      split at h3
      · rename_i hlim
        obtain ⟨l1, l2⟩ := hlim
        simp only [Option.some.injEq, Prod.mk.injEq] at h3
        obtain ⟨rfl, rfl⟩ := h3
        refine ⟨⟨Tryz.f28, Tryz.func28, by kernel_rfl, by kernel_rfl⟩, fun c ys hs ho hσ hv => ?_⟩
        match ys, hv with
        | [x, y], hv =>
          simp only [VRs] at hv
          obtain ⟨hx, ⟨b, rfl, hb⟩, _⟩ := hv
          have fin : ∀ (e : Ending) (w' : World), e = .returned (.string ⟨(Lib.join xs sep).toArray⟩) → RowKit.Below c.w.heap.size c.w w' → ∃ c' y, e = .returned y ∧ c'.w = w' ∧ c'.σ = st ∧ Sim base c' ∧ Evo (fun _ => False) c c' ∧ VR c' (.str (Lib.join xs sep)) y := by
            intro e w' he hbel
            have hw := bel_world hs hbel
            refine ⟨⟨c.β, c.σ, w'⟩, _, he, rfl, hσ, hw.1, hw.2, ?_⟩
            rw [VR]
            exact ⟨_, rfl, rfl⟩
          have nil : ∀ ad cap, xs = [] → Calls Tryz.prog f_strings_Join #[.slice ad 0 cap, .string b] c.w fun e w' => ∃ c' y, e = .returned y ∧ c'.w = w' ∧ c'.σ = st ∧ Sim base c' ∧ Evo (fun _ => False) c c' ∧ VR c' (.str (Lib.join xs sep)) y := by
            intro ad cap h0
            refine (Tryz.strings_Join_none ad cap b c.w).mono fun e w' ⟨he, hw⟩ => fin e w' ?_ (by rw [hw]; exact RowKit.Below.refl _ _)
            rw [he, h0]
            rfl
          obtain ⟨q1, q2⟩ := allSome_get2 h2
          cases a with
          | nilsl =>
            simp only [elsOf, Option.some.injEq] at h1
            subst h1
            rw [VR] at hx
            subst hx
            exact nil none 0 (List.eq_nil_of_length_eq_zero q1)
          | sl r v i n =>
            simp only [elsOf, Option.bind_eq_some_iff] at h1
            obtain ⟨row, hr, hc⟩ := h1
            split at hc
            · rename_i hcond
              obtain ⟨hsz, hin⟩ := hcond
              simp only [Option.some.injEq] at hc
              have hel : els.length = n := by rw [← hc, List.length_take, List.length_drop]; omega
              rw [VR] at hx
              obtain ⟨ad, cap, rfl, hcap, row', hr', hv', hK⟩ := hx
              by_cases hn0 : n = 0
              · subst hn0
                exact nil (some ad) cap (List.eq_nil_of_length_eq_zero (by omega))
              · obtain ⟨hst, hver⟩ := rowAt_inv2 hr
                rw [hσ, hst, Option.some.injEq] at hr'
                subst hr'
                obtain ⟨had, _⟩ := hK hver.symm (by omega)
                subst had
                have hst' : c.σ[r]? = some row := by rw [hσ]; exact hst
                have hne : row.els ≠ [] := by intro h0; rw [h0] at hin; simp at hin; omega
                have hbk := hs.lt hst' (.inl hne)
                have hlen2 : (xs.map fun s => (⟨s.toArray⟩ : ByteArray)).length = n := by rw [List.length_map, q1, hel]
                have hmap : (xs.map fun s => (⟨s.toArray⟩ : ByteArray)).map (·.data.toList) = xs := by rw [List.map_map]; exact List.map_id' xs
                have hcells : ∀ (j : Nat) x, (xs.map fun s => (⟨s.toArray⟩ : ByteArray))[j]? = some x → c.w.cell? ⟨(c.β r).1, (c.β r).2 + i + j, none⟩ = some (.string x) := by
                  intro j x hj
                  rw [List.getElem?_map, Option.map_eq_some_iff] at hj
                  obtain ⟨s, hs1, rfl⟩ := hj
                  have hjn : j < n := by
                    rcases Nat.lt_or_ge j xs.length with h' | h'
                    · omega
                    · rw [List.getElem?_eq_none h'] at hs1; cases hs1
                  have hje : els[j]? = row.els[i + j]? := by rw [← hc, List.getElem?_take_of_lt hjn, List.getElem?_drop]
                  have hsome : ∃ cs, row.els[i + j]? = some cs := ⟨_, List.getElem?_eq_getElem (by omega)⟩
                  obtain ⟨cs, hcs⟩ := hsome
                  obtain ⟨s', hs2, hs3⟩ := q2 j cs (by rw [hje, hcs])
                  rw [hs1] at hs2
                  cases hs2
                  have := strOfCell_some hs3
                  subst this
                  obtain ⟨x, hx1, hx2, _⟩ := (hs.rows r row hst').cells (i + j) _ 0 (.str s) hcs rfl
                  rw [VR] at hx2
                  obtain ⟨bb, rfl, hbb⟩ := hx2
                  rw [hsz, Nat.mul_one, Nat.add_zero, ← Nat.add_assoc] at hx1
                  rw [hx1]
                  have : bb = ⟨s.toArray⟩ := by
                    cases bb with
                    | mk d => cases d with | mk l => simp only at hbb; rw [← hbb]
                  rw [this]
                have hcall := Tryz.strings_Join (c.β r).1 ((c.β r).2 + i) cap (xs.map fun s => (⟨s.toArray⟩ : ByteArray)) b c.w hcells hbk (by rw [hlen2]; omega) (by rw [hlen2]; exact hcap) (by rw [hmap, hb]; exact l2)
                rw [hlen2, hmap, hb] at hcall
                rw [hsz, Nat.mul_one]
                exact hcall.mono fun e w' ⟨he, hw⟩ => fin e w' he hw
            · cases hc
          | _ => simp [elsOf] at h1
      · cases h3
    · cases h
  · cases h
end Go.X

/- What the library's functions without resolved code do here: strconv.Itoa, strconv.Atoi, by the shelf's contracts. -/
import Derived.Test.YtiiiciekknpoeaaGreatDoorXSh
import Derived.Test.YtiiiciekknpoeaaGreatDoorXC2
import Derived.Test.YtiiiciekknpoeaaGreatDoorXD3
import Derived.Lib.AppendIntMem
import Derived.Lib.LaidTab
set_option linter.unusedVariables false
set_option linter.unusedSimpArgs false
namespace Go.X
open Go Go.Proofs

/-- The library's type of the errors of strconv. -/
def numErrT : TypeId := 86
/-- strconv.Itoa, strconv.Atoi. -/
def libX : Call := fun f args σ =>
  if f = f_strconv_Itoa then
    match args with
    | [.int .i64 n] => if -9223372036854775808 ≤ n ∧ n ≤ 9223372036854775807 then some (.str (Lib.itoa n), σ) else none
    | _ => none
  else if f = f_strconv_Atoi then
    match args with
    | [.str s] => if s.length ≤ 281474976710656 then
        match Lib.atoiAll s with
        | .ok v => some (.tup [int v, .nilifc], σ)
        | .range => some (.tup [int (Lib.atoiSat s), .ifc numErrT .un], σ)
        | _ => some (.tup [int 0, .ifc numErrT .un], σ)
      else none
    | _ => none
  else if f = f_strings_IndexByte then
    match args with
    | [.str s, .int .u8 n] => some (int (Lib.indexByte s n.toNat.toUInt8), σ)
    | _ => none
  else none
/-- What a table holds it holds wherever what was there has not turned. -/
theorem tab_old {P : Program} {W0 w : World} {name : String} {k : IntKind} {zs : List Int} (h : Lib.TabIs P W0 name k zs) (ho : Old W0.heap.size W0 w) : Lib.TabIs P w name k zs := by
  unfold Lib.TabIs World.var? at *
  cases hg : P.globalNamed name with
  | none => simp [hg] at h
  | some g =>
    simp only [hg, Option.bind_some] at h ⊢
    have hlt : g < W0.heap.size := by
      rcases Nat.lt_or_ge g W0.heap.size with h' | h'
      · exact h'
      · rw [Array.getElem?_eq_none h'] at h; simp at h
    rw [ho g hlt]
    exact h
theorem var_old {P : Program} {W0 w : World} {name : String} {x : Array Value} (h : W0.var? P name = some x) (ho : Old W0.heap.size W0 w) : w.var? P name = some x := by
  unfold World.var? at *
  cases hg : P.globalNamed name with
  | none => simp [hg] at h
  | some g =>
    simp only [hg, Option.bind_some] at h ⊢
    have hlt : g < W0.heap.size := by
      rcases Nat.lt_or_ge g W0.heap.size with h' | h'
      · exact h'
      · rw [Array.getElem?_eq_none h'] at h; simp at h
    rw [ho g hlt]
    exact h
theorem bel_world {base : Nat} {c : Ctx} (hs : Sim base c) {w' : World} (hb : RowKit.Below c.w.heap.size c.w w') : Sim base ⟨c.β, c.σ, w'⟩ ∧ Evo (fun _ => False) c ⟨c.β, c.σ, w'⟩ := by
  obtain ⟨b1, b2, b3, b4, b5⟩ := hb
  exact hs.world (X := fun _ => False) (w' := w') b1 b2 b3 b4 (fun b hb => hb.elim) (fun b hb _ => b5 b hb)
/-- The third way in which Atoi ends. -/
theorem third_end {x : Lib.NumEnd Int} (h1 : ∀ v, x = .ok v → False) (h2 : x = .range → False) : x = Lib.atoiAll [] := by
  cases x <;> first | rfl | exact (h1 _ rfl).elim | exact (h2 rfl).elim
theorem libX_sound (W0 : World) (ht : Lib.TabIs Tryz.prog W0 "internal/strconv.uint64pow10" .u64 Lib.pow10Tab) (h1 : ∃ tp p, W0.var? Tryz.prog "strconv.ErrSyntax" = some #[.iface tp p]) (h2 : ∃ tp p, W0.var? Tryz.prog "strconv.ErrRange" = some #[.iface tp p]) : SoundCall Tryz.prog W0.heap.size W0 libX := by
  intro f args st r st' h
  unfold libX at h
  split at h
  · rename_i hf
    subst hf
    split at h
    · rename_i n
      split at h
      · rename_i hc
        obtain ⟨n0, n1⟩ := hc
        simp only [Option.some.injEq, Prod.mk.injEq] at h
        obtain ⟨rfl, rfl⟩ := h
        refine ⟨⟨Tryz.f71, Tryz.func71, by kernel_rfl, by kernel_rfl⟩, fun c xs hs ho hσ hv => ?_⟩
        match xs, hv with
        | [x], hv =>
          simp only [VRs] at hv
          obtain ⟨hx, _⟩ := hv
          rw [VR] at hx
          subst hx
          refine (Tryz.strconv_Itoa n n0 n1 c.w (tab_old ht ho)).mono fun e w' ⟨he, k, os, hw⟩ => ?_
          have hbel : RowKit.Below c.w.heap.size c.w w' := by rw [hw]; exact Lib.below_grow _ _ (Nat.le_refl _) k os
          have hw := bel_world hs hbel
          refine ⟨⟨c.β, c.σ, w'⟩, _, he, rfl, hσ, hw.1, hw.2, ?_⟩
          rw [VR]
          exact ⟨_, rfl, rfl⟩
      · cases h
    · cases h
  · split at h
    · rename_i hf
      subst hf
      split at h
      · rename_i s
        split at h
        · rename_i hlen
          have hcall : Callable Tryz.prog f_strconv_Atoi := ⟨Tryz.f69, Tryz.func69, by kernel_rfl, by kernel_rfl⟩
          split at h
          · rename_i v hv0
            simp only [Option.some.injEq, Prod.mk.injEq] at h
            obtain ⟨rfl, rfl⟩ := h
            refine ⟨hcall, fun c xs hs ho hσ hv => ?_⟩
            match xs, hv with
            | [x], hv =>
              simp only [VRs] at hv
              obtain ⟨⟨b, rfl, hb⟩, _⟩ := hv
              have hsz : b.size = s.length := by rw [← hb]; rfl
              refine (Tryz.strconv_Atoi_ok b (by omega) v (by rw [hb]; exact hv0) c.w).mono fun e w' ⟨he, hw⟩ => ?_
              have hbel : RowKit.Below c.w.heap.size c.w w' := by
                rcases hw with rfl | ⟨t, rfl⟩
                · exact RowKit.Below.refl _ _
                · exact Lib.bytesWorld_below _ _ _
              have hw := bel_world hs hbel
              refine ⟨⟨c.β, c.σ, w'⟩, _, he, rfl, hσ, hw.1, hw.2, ?_⟩
              rw [VR]
              exact ⟨_, rfl, by simp [VRs, VR]⟩
          · rename_i hv0
            simp only [Option.some.injEq, Prod.mk.injEq] at h
            obtain ⟨rfl, rfl⟩ := h
            refine ⟨hcall, fun c xs hs ho hσ hv => ?_⟩
            match xs, hv with
            | [x], hv =>
              simp only [VRs] at hv
              obtain ⟨⟨b, rfl, hb⟩, _⟩ := hv
              have hsz : b.size = s.length := by rw [← hb]; rfl
              obtain ⟨tp, p, h2⟩ := h2
              refine (Tryz.strconv_Atoi_range_var b (by omega) (by rw [hb]; exact hv0) tp p c.w (var_old h2 ho)).mono fun e w' ⟨N, he, _, _, hbel⟩ => ?_
              have hw := bel_world hs hbel
              refine ⟨⟨c.β, c.σ, w'⟩, _, he, rfl, hσ, hw.1, hw.2, ?_⟩
              rw [VR]
              exact ⟨_, rfl, by simp [VRs, VR, numErrT, hb]⟩
          · rename_i h5 h6
            simp only [Option.some.injEq, Prod.mk.injEq] at h
            obtain ⟨rfl, rfl⟩ := h
            refine ⟨hcall, fun c xs hs ho hσ hv => ?_⟩
            match xs, hv with
            | [x], hv =>
              simp only [VRs] at hv
              obtain ⟨⟨b, rfl, hb⟩, _⟩ := hv
              have hsz : b.size = s.length := by rw [← hb]; rfl
              obtain ⟨tp, p, h1⟩ := h1
              refine (Tryz.strconv_Atoi_syntax_var b (by omega) (by rw [hb]; exact third_end h5 h6) tp p c.w (var_old h1 ho)).mono fun e w' ⟨N, he, _, _, hbel⟩ => ?_
              have hw := bel_world hs hbel
              refine ⟨⟨c.β, c.σ, w'⟩, _, he, rfl, hσ, hw.1, hw.2, ?_⟩
              rw [VR]
              exact ⟨_, rfl, by simp [VRs, VR, numErrT]⟩
        · cases h
      · cases h
    · split at h
      · rename_i hf
        subst hf
        split at h
        · rename_i s n
          simp only [Option.some.injEq, Prod.mk.injEq] at h
          obtain ⟨rfl, rfl⟩ := h
          refine ⟨⟨Tryz.f57, Tryz.func57, by kernel_rfl, by kernel_rfl⟩, fun c xs hs ho hσ hv => ?_⟩
          match xs, hv with
          | [x, y], hv =>
            simp only [VRs] at hv
            obtain ⟨⟨b, rfl, hb⟩, hy, _⟩ := hv
            rw [VR] at hy
            subst hy
            refine (Tryz.strings_IndexByte b n c.w).mono fun e w' ⟨he, hw⟩ => ?_
            subst hw
            have hw := bel_world hs (RowKit.Below.refl _ _)
            refine ⟨⟨c.β, c.σ, c.w⟩, _, he, rfl, hσ, hw.1, hw.2, ?_⟩
            rw [VR, hb]
        · cases h
      · cases h
theorem libX_is : LibX libX := by
  have hI : CC f_strconv_Itoa = none := rfl
  have hA : CC f_strconv_Atoi = none := rfl
  have hB : CC f_strings_IndexByte = none := rfl
  have hb1 : ¬ f_strings_IndexByte = f_strconv_Itoa := by decide
  have hb2 : ¬ f_strings_IndexByte = f_strconv_Atoi := by decide
  have hne : ¬ f_strconv_Atoi = f_strconv_Itoa := by decide
  constructor
  · intro n σ hn
    rw [EE, Ex_ext hI]
    unfold libX
    rw [if_pos rfl]
    simp only
    rw [if_pos (show -9223372036854775808 ≤ n ∧ n ≤ 9223372036854775807 from hn)]
  · intro l b σ
    rw [EE, Ex_ext hB]
    unfold libX
    rw [if_neg hb1, if_neg hb2, if_pos rfl]
    simp
  · intro t v σ hl hv
    rw [EE, Ex_ext hA]
    unfold libX
    rw [if_neg hne, if_pos rfl]
    simp only
    rw [if_pos hl, hv]
  · intro t σ hl hv
    rw [EE, Ex_ext hA]
    unfold libX
    rw [if_neg hne, if_pos rfl]
    simp only
    rw [if_pos hl]
    split
    · rename_i v h
      exact (hv v h).elim
    · exact ⟨_, _, rfl⟩
    · exact ⟨_, _, rfl⟩
end Go.X

/- fresh: what FreshCounts is handed, opened. -/
import Derived.Test.YtpnhjckjmpkbfaaFrm
import Derived.ProofKit
import Derived.OpenShut
set_option linter.unusedVariables false
set_option linter.unusedSimpArgs false
namespace Go.Proofs.Ytpnhjckjmpkbfaa
open Go.RowKit Go.Proofs.YtpnhjckjmpkbfaaW.PrintLast Go.ChangeShapes Go.WideShapes

theorem list_of {α : Type} {p : Nat → α → Prop} : ∀ (n : Nat), (∀ i, i < n → ∃ x, p i x) → ∃ l : List α, l.length = n ∧ ∀ i x, l[i]? = some x → p i x
  | 0, _ => ⟨[], rfl, by simp⟩
  | n + 1, h => by
    obtain ⟨l, hl, hp⟩ := list_of n (fun i hi => h i (by omega))
    obtain ⟨x, hx⟩ := h n (by omega)
    refine ⟨l ++ [x], by simp [hl], fun i y hy => ?_⟩
    by_cases hi : i < n
    · rw [List.getElem?_append_left (by omega)] at hy; exact hp i y hy
    · rw [List.getElem?_append_right (by omega), hl] at hy
      have : i = n := by
        by_cases e : i - n = 0
        · omega
        · rw [List.getElem?_eq_none (by simp; omega)] at hy; cases hy
      subst this
      simp at hy; subst hy; exact hx
theorem open_told {H : Type} {enc : TypeId × Value → H} {W : World} {base : Nat} {spare : Nat → Bool} {held : Bool} {fuel : Nat} {cs : List Value} {y : DataW H × List MemPlace}
    (h : DataW.trod enc Try.prog W base spare held fuel 27 cs = some y) : ∃ x : Int × Int × Int, cs = [.int .u8 x.1, .int .u8 x.2.1, .int .u8 x.2.2] ∧ oku8 x.1 ∧ oku8 x.2.1 ∧ oku8 x.2.2 := by
  obtain ⟨xs, n, rfl, -, hl, hlen, hf⟩ := DataW.trod_struct Try.underlying27 h
  have hl3 : cs.length = 3 := by rw [hl]; kernel_rfl
  have c1 : Try.prog.cellsOf 5 = 1 := by kernel_rfl
  match cs, hl3 with
  | [a, b, c], _ =>
  have h0 := hf 0 _ rfl
  have h1 := hf 1 _ rfl
  have h2 := hf 2 _ rfl
  rw [List.getElem?_eq_getElem (by rw [hlen]; decide)] at h0 h1 h2
  obtain ⟨x, hx, -, wx⟩ := DataW.trod_int Try.underlying5 h0
  obtain ⟨y, hy, -, wy⟩ := DataW.trod_int Try.underlying5 h1
  obtain ⟨z, hz, -, wz⟩ := DataW.trod_int Try.underlying5 h2
  replace hx : List.take (Try.prog.cellsOf 5) (List.drop 0 [a, b, c]) = [Value.int .u8 x] := hx
  replace hy : List.take (Try.prog.cellsOf 5) (List.drop 1 [a, b, c]) = [Value.int .u8 y] := hy
  replace hz : List.take (Try.prog.cellsOf 5) (List.drop 2 [a, b, c]) = [Value.int .u8 z] := hz
  rw [c1] at hx hy hz
  simp at hx hy hz
  subst hx; subst hy; subst hz
  exact ⟨(x, y, z), rfl, bounds_u8 wx, bounds_u8 wy, bounds_u8 wz⟩
theorem open_tolds {H : Type} {enc : TypeId × Value → H} {W : World} {base : Nat} {spare : Nat → Bool} {held : Bool} {v : Value} {d : DataW H} {p : List MemPlace} {r : Reach}
    (hv : Value.okWide Try.prog W r base 22 v) (h : DataW.Trod enc Try.prog W 0 spare held 22 v d p) : ∃ A l cap, v = .slice A l.length cap ∧ Tolds W A l ∧ l.length ≤ 9223372036854775807 := by
  obtain ⟨a0, len0, cap0, rfl⟩ := okWide_slice Try.underlying22 hv
  obtain ⟨fuel, hf⟩ := h
  have c3 : Try.prog.cellsOf 27 = 3 := by kernel_rfl
  rcases DataW.trod_slice Try.underlying22 hf with ⟨hcs, -⟩ | ⟨a, len, cap, elems, rest, n, -, hcs, -, -, hlc, hcm, hel, hcell, -⟩
  · have e : Value.slice a0 len0 cap0 = .slice none 0 0 := by simpa [Value.cells] using hcs
    injection e with e1 e2 e3
    subst e1; subst e2; subst e3
    exact ⟨none, [], 0, rfl, fun h => absurd h (by simp), by simp⟩
  · have hve : Value.slice a0 len0 cap0 = .slice (some a) len cap := by simpa [Value.cells] using hcs
    injection hve with e1 e2 e3
    subst e1; subst e2; subst e3
    obtain ⟨b, o, sp⟩ := a
    obtain rfl : sp = none := by
      simp only [Value.okWide, Try.underlying22, Cell.okWide, Cell.ok] at hv
      exact hv.2.2.2.1
    rw [c3] at hcell
    have hone : ∀ i, i < len0 → ∃ x : Int × Int × Int, W.cell? ⟨b, o + i * 3, none⟩ = some (.int .u8 x.1) ∧ W.cell? ⟨b, o + i * 3 + 1, none⟩ = some (.int .u8 x.2.1) ∧ W.cell? ⟨b, o + i * 3 + 2, none⟩ = some (.int .u8 x.2.2) ∧ oku8 x.1 ∧ oku8 x.2.1 ∧ oku8 x.2.2 := by
      intro i hi
      have h1 := hcell i hi
      rw [List.getElem?_eq_getElem (by omega), Option.bind_eq_some_iff] at h1
      obtain ⟨cs, hc1, hc2⟩ := h1
      obtain ⟨x, rfl, hx⟩ := open_told hc2
      obtain ⟨-, -, hget⟩ := World.cells?_some hc1
      refine ⟨x, ?_, ?_, ?_, hx⟩
      · have := hget 0 (by simp)
        rw [Addr.add_mid, Addr.add_mid] at this; simpa using this
      · have := hget 1 (by simp)
        rw [Addr.add_mid, Addr.add_mid] at this; simpa using this
      · have := hget 2 (by simp)
        rw [Addr.add_mid, Addr.add_mid] at this; simpa using this
    obtain ⟨l, hl, hp⟩ := list_of len0 hone
    subst hl
    have hmx : l.length ≤ 9223372036854775807 := by unfold maxLen at hcm; omega
    refine ⟨_, l, cap0, rfl, fun _ => ⟨b, o, rfl, ?_, hp⟩, hmx⟩
    by_cases hlt : b < W.heap.size
    · exact hlt
    · exfalso
      simp only [Value.okWide, Try.underlying22, Cell.okWide, Cell.ok] at hv
      obtain ⟨row, cells, hs, -⟩ := hv.2.2.2.2
      simp only [World.shape?, Array.getElem?_eq_none (by omega : W.heap.size ≤ b)] at hs
      cases hs
end Go.Proofs.Ytpnhjckjmpkbfaa

/- A row of whole numbers that is handed in, read as data. -/
import Derived.Test.YtlngflonolhdhaaDks
set_option linter.unusedVariables false
set_option linter.unusedSimpArgs false
namespace Go.Proofs.Ytlngflonolhdhaa
open Go.RowKit Go.ChangeShapes Go.WideShapes

theorem open_picks {H : Type} {enc : TypeId × Value → H} {W : World} {base : Nat} {spare : Nat → Bool} {held : Bool} {v : Value} {d : DataW H} {p : List MemPlace} {r : Reach}
    (hv : Value.okWide Try.prog W r base 35 v) (hlen : ∀ A n c, v = .slice A n c → n ≤ 4611686018427387904) (h : DataW.Trod enc Try.prog W 0 spare held 35 v d p) : ∃ P0 ps pc gp, v = .slice P0 (List.length ps) pc ∧ Ints W P0 ps gp ∧ (0 < ps.length → gp < W.heap.size) := by
  obtain ⟨a0, len0, cap0, rfl⟩ := okWide_slice Try.underlying35 hv
  obtain ⟨fuel, hf⟩ := h
  have c1 : Try.prog.cellsOf 3 = 1 := by kernel_rfl
  rcases DataW.trod_slice Try.underlying35 hf with ⟨hcs, -⟩ | ⟨a, len, cap, elems, rest, n, -, hcs, -, -, hlc, hcm, hel, hcell, -⟩
  · have hve : Value.slice a0 len0 cap0 = .slice none 0 0 := by simpa [Value.cells] using hcs
    injection hve with e1 e2 e3
    subst e1; subst e2; subst e3
    exact ⟨none, [], 0, 0, rfl, by simp [Ints], by simp⟩
  · have hve : Value.slice a0 len0 cap0 = .slice (some a) len cap := by simpa [Value.cells] using hcs
    injection hve with e1 e2 e3
    subst e1; subst e2; subst e3
    obtain ⟨b, o, sp⟩ := a
    obtain rfl : sp = none := by
      simp only [Value.okWide, Try.underlying35, Cell.okWide, Cell.ok] at hv
      exact hv.2.2.2.1
    rw [c1] at hcell
    have hone : ∀ i, i < len0 → ∃ x : Int, W.cell? ⟨b, o + i, none⟩ = some (.int .i64 x) := by
      intro i hi
      have h1 := hcell i hi
      rw [List.getElem?_eq_getElem (by omega), Option.bind_eq_some_iff] at h1
      obtain ⟨cs, hc1, hc2⟩ := h1
      obtain ⟨x, rfl, -, -⟩ := DataW.trod_int Try.underlying3 hc2
      obtain ⟨-, -, hget⟩ := World.cells?_some hc1
      refine ⟨x, ?_⟩
      have := hget 0 (by omega)
      rw [Nat.mul_one, Addr.add_mid, Addr.add_mid] at this
      simpa using this
    obtain ⟨ps, hl, hp⟩ := list_of len0 hone
    subst hl
    refine ⟨_, ps, cap0, b, rfl, ⟨?_, fun _ => ⟨o, rfl, fun j hj => ?_⟩⟩, fun h0 => ?_⟩
    · exact hlen _ _ _ rfl
    · have := hp j ps[j] (List.getElem?_eq_getElem hj)
      rw [this, List.getD_eq_getElem?_getD, List.getElem?_eq_getElem hj]; rfl
    · obtain ⟨x, hx⟩ := hone 0 h0
      exact World.block_lt_of_cell? W _ hx
end Go.Proofs.Ytlngflonolhdhaa

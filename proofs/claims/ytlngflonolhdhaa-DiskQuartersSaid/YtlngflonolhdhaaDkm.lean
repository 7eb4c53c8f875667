/- A block by value, read as data: 64 numbers of one byte each. -/
import Derived.Test.YtlngflonolhdhaaDkl
import Derived.ProofKit
import Derived.OpenShut
set_option linter.unusedVariables false
set_option linter.unusedSimpArgs false
namespace Go.Proofs.Ytlngflonolhdhaa
open Go.RowKit

theorem cells_bytes : ∀ (cs : List Value), (∀ i, i < cs.length → ∃ a : Int, (cs.drop i).take 1 = [.int .u8 a] ∧ 0 ≤ a ∧ a < 256) → ∃ b : List Int, cs = bc b ∧ ∀ x ∈ b, 0 ≤ x ∧ x < 256
  | [], _ => ⟨[], rfl, by simp⟩
  | c :: cs, h => by
    obtain ⟨b, rfl, hb⟩ := cells_bytes cs fun i hi => by
      have := h (i + 1) (by simp; omega)
      simpa using this
    obtain ⟨a, ha, h0, h1⟩ := h 0 (by simp)
    simp at ha
    subst ha
    exact ⟨a :: b, rfl, by
      intro x hx
      rcases List.mem_cons.1 hx with rfl | hx
      · exact ⟨h0, h1⟩
      · exact hb x hx⟩
theorem open_bytes {H : Type} {enc : TypeId × Value → H} {P : Program} {w : World} {base : Nat} {spare : Nat → Bool} {held : Bool} {fuel : Nat} {t e : TypeId} {cs : List Value} {x : DataW H × List MemPlace} {n : Nat}
    (ht : P.underlying t = some (.array n e)) (he : P.underlying e = some (.int .u8)) (hc : P.cellsOf e = 1) (hn : P.cellsOf t = n) (h : DataW.trod enc P w base spare held fuel t cs = some x) :
    ∃ b : List Int, cs = bc b ∧ b.length = n ∧ ∀ x ∈ b, 0 ≤ x ∧ x < 256 := by
  obtain ⟨xs, m, rfl, -, hl, hx, hi⟩ := DataW.trod_array ht h
  obtain ⟨b, rfl, hb⟩ := cells_bytes cs fun i hi' => by
    have h1 := hi i (by omega)
    rw [List.getElem?_eq_getElem (by omega), hc, Nat.mul_one] at h1
    obtain ⟨a, ea, -, wa⟩ := DataW.trod_int he h1
    have := bounds_u8 wa
    exact ⟨a, ea, by omega, by omega⟩
  exact ⟨b, rfl, by simpa [bc, hn] using hl, hb⟩
theorem open_block {H : Type} {enc : TypeId × Value → H} {W : World} {base : Nat} {spare : Nat → Bool} {held : Bool} {r : Reach} {v : Value} {d : DataW H} {p : List MemPlace}
    (hv : Value.okWide Try.prog W r base 23 v) (h : DataW.Trod enc Try.prog W 0 spare held 23 v d p) : ∃ b : List Int, v = .agg (bc b).toArray ∧ okB b := by
  simp only [Value.okWide, Try.underlying23] at hv
  obtain ⟨cs, rfl, h2, _⟩ := hv
  obtain ⟨fuel, hf⟩ := h
  obtain ⟨b, hb, hl, hx⟩ := open_bytes Try.underlying23 Try.underlying5 (by kernel_rfl) (by kernel_rfl) hf
  exact ⟨b, by simp [Value.cells] at hb; rw [← hb], hl, hx⟩
end Go.Proofs.Ytlngflonolhdhaa

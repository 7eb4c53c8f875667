/- name: Runes, Is, walked. -/
import Derived.Test.YtmnfihdbibjijaaDoorNa2
set_option linter.unusedVariables false
set_option linter.unusedSimpArgs false
namespace Go.Proofs.YtmnfihdbibjijaaDoor
open Go.RowKit Go.Lib

theorem Runes_any (w : World) (s : ByteArray) (hs : s.size ≤ 4611686018427387904) (hT : Utf8Tabs 0 1 w) :
    Calls Tryd.prog 7 #[.string s] w fun e w' => e = pairR (runesP everyP s) ∧ Below w.heap.size w w' := by
  have HT := Lib.hid hT; clear hT
  go_enter Tryd.func7, Tryd.ntmps7
  go_wp2_with fail
  refine (runesEvery w s hs HT.out).mono ?_
  unfold pairR
  rintro e w' ⟨rfl, hb⟩
  go_wp2_with fail
  go_ret2
  exact ⟨rfl, hb⟩
def isP (s : ByteArray) : Bool := !s.toList.isEmpty && decide ((s.size : Int) ≤ 32) && !(s.toList == [46]) && !(s.toList == [46, 46]) && (runesP namedP s).2
theorem Is_any (w : World) (s : ByteArray) (hs : s.size ≤ 4611686018427387904) (hT : Utf8Tabs 0 1 w) :
    Calls Tryd.prog 9 #[.string s] w fun e w' => e = .returned (.bool (isP s)) ∧ Below w.heap.size w w' := by
  have HT := Lib.hid hT; clear hT
  have short : ∀ (h : isP s = false), Calls Tryd.prog 9 #[.string s] w (fun e w' => e = .returned (.bool false) ∧ Below w.heap.size w w') → Calls Tryd.prog 9 #[.string s] w fun e w' => e = .returned (.bool (isP s)) ∧ Below w.heap.size w w' := fun h => by rw [h]; exact id
  cases h1 : s.toList.isEmpty with
  | true =>
    have hf : isP s = false := by unfold isP; rw [h1]; rfl
    refine short hf ?_
    clear short hf
    go_enter Tryd.func9, Tryd.ntmps9
    go_wp2_with fail
    go_ret
    exact ⟨rfl, Below.refl _ _⟩
  | false =>
  by_cases h2 : (s.size : Int) ≤ 32
  · have h2' : decide ((s.size : Int) > 32) = false := by rw [decide_eq_false_iff_not]; omega
    cases h3 : (s.toList == [46]) with
    | true =>
      have hf : isP s = false := by unfold isP; rw [h1, h3, decide_eq_true h2]; rfl
      refine short hf ?_
      clear short hf
      go_enter Tryd.func9, Tryd.ntmps9
      go_wp2_with fail
      go_ret
      exact ⟨rfl, Below.refl _ _⟩
    | false =>
    cases h4 : (s.toList == [46, 46]) with
    | true =>
      have hf : isP s = false := by unfold isP; rw [h1, h3, h4, decide_eq_true h2]; rfl
      refine short hf ?_
      clear short hf
      go_enter Tryd.func9, Tryd.ntmps9
      go_wp2_with fail
      go_ret
      exact ⟨rfl, Below.refl _ _⟩
    | false =>
      have HI : Hid (isP s = (runesP namedP s).2) := Lib.hid (by unfold isP; rw [h1, h3, h4, decide_eq_true h2]; simp)
      clear short
      go_enter Tryd.func9, Tryd.ntmps9
      go_wp2_with fail
      refine (runesNamed w s hs HT.out).mono ?_
      unfold pairR
      rintro e w' ⟨rfl, hb⟩
      go_wp2_with fail
      go_ret
      exact ⟨by rw [HI.out]; rfl, hb⟩
  · have h2' : (s.size : Int) > 32 := by omega
    have hf : isP s = false := by unfold isP; rw [h1, decide_eq_false h2]; rfl
    refine short hf ?_
    clear short hf h2
    go_enter Tryd.func9, Tryd.ntmps9
    go_wp2_with fail
    go_ret
    exact ⟨rfl, Below.refl _ _⟩
end Go.Proofs.YtmnfihdbibjijaaDoor

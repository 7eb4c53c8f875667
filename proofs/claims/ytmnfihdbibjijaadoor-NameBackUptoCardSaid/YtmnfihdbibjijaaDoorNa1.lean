/- name: runes, walked. -/
import Derived.Test.YtmnfihdbibjijaaDoorNa0
import Derived.Test.YtmnfihdbibjijaaDoorShelf
import Derived.Test.YtmnfihdbibjijaaDoorProg
import Derived.WalkKit
import Derived.WalkLawsBesides
import Derived.Below
import Derived.Lib.Hide
import Derived.Lib.OthersKept
import Derived.WalkSpells
set_option linter.unusedVariables false
set_option linter.unusedSimpArgs false
namespace Go.Proofs.YtmnfihdbibjijaaDoor
open Go.RowKit Go.Lib

theorem get_extract (s : ByteArray) (pos k : Nat) : ((s.extract pos s.size).get! k) = s.get! (pos + k) := by
  have e : (s.extract pos s.size).data = s.data.extract pos s.data.size := ByteArray.data_extract
  show (s.extract pos s.size).data[k]! = s.data[pos + k]!
  rw [e]
  simp only [getElem!_def, Array.getElem?_extract]
  by_cases h : pos + k < s.data.size
  · rw [if_pos (by omega)]
  · rw [if_neg (by omega), Array.getElem?_eq_none (by omega)]
theorem decodeGo_at (s : ByteArray) (pos : Nat) (h : pos < s.size) : decodeGo (s.extract pos s.size) = Utf8.decode s pos := by
  have hz : (s.extract pos s.size).size = s.size - pos := by simp
  unfold decodeGo
  rw [if_neg (by omega), decode_at, decode_at, hz, get_extract, get_extract, get_extract, get_extract]
  simp
theorem every_any (w : World) (r : Int) : Calls Tryd.prog 20 #[.int .i32 r] w fun e w' => e = .returned (.bool true) ∧ w = w' := by
  go_enter Tryd.func20, Tryd.ntmps20
  go_wp2_with fail
  go_ret
  exact ⟨rfl, rfl⟩
theorem named_any (w : World) (r : Nat) : Calls Tryd.prog 22 #[.int .i32 r] w fun e w' => e = .returned (.bool (namedP r)) ∧ w = w' := by
  unfold namedP
  have e1 : decide (r = 127) = ((r : Int) == 127) := by rw [Bool.eq_iff_iff]; simp; omega
  have e2 : decide (r = 47) = ((r : Int) == 47) := by rw [Bool.eq_iff_iff]; simp; omega
  have e3 : decide (32 ≤ r) = decide ((r : Int) ≥ 32) := by rw [Bool.eq_iff_iff]; simp; omega
  rw [e1, e2, e3]
  by_cases h1 : (r : Int) ≥ 32
  · by_cases h2 : (r : Int) = 127
    · go_enter Tryd.func22, Tryd.ntmps22
      go_wp2_with fail
      go_ret
      exact ⟨by simp [h1, h2], rfl⟩
    · have h2' : ((r : Int) == 127) = false := by simpa using h2
      have h2'' : ((r : Int) != 127) = true := by simpa using h2
      go_enter Tryd.func22, Tryd.ntmps22
      go_wp2_with fail
      go_ret
      exact ⟨by simp [h1, h2', bne], rfl⟩
  · have h1' : decide ((r : Int) ≥ 32) = false := by simpa using h1
    go_enter Tryd.func22, Tryd.ntmps22
    go_wp2_with fail
    go_ret
    exact ⟨by simp [h1'], rfl⟩
end Go.Proofs.YtmnfihdbibjijaaDoor

/- name: runes of a text, plain. -/
import Derived.Lib.TrimU
set_option linter.unusedVariables false
set_option linter.unusedSimpArgs false
namespace Go.Proofs.YtmnfihdbibjijaaDoor
open Go.Lib

/-- The rune at a place is none. -/
def bad (s : ByteArray) (i : Nat) : Prop := (Utf8.decode s i).1 = 65533 ∧ (Utf8.decode s i).2 = 1
instance (s : ByteArray) (i : Nat) : Decidable (bad s i) := by unfold bad; exact inferInstance
def runesF (fine : Nat → Bool) (s : ByteArray) : Nat → Nat → Nat → Nat × Bool
  | 0, _, n => (n, true)
  | f + 1, pos, n => if pos < s.size then (if bad s pos then (0, false) else if fine (Utf8.decode s pos).1 = true then runesF fine s f (pos + (Utf8.decode s pos).2) (n + 1) else (0, false)) else (n, true)
def runesP (fine : Nat → Bool) (s : ByteArray) : Nat × Bool := runesF fine s (s.size + 1) 0 0
def namedP (r : Nat) : Bool := decide (32 ≤ r) && !decide (r = 127) && !decide (r = 47)
def everyP (r : Nat) : Bool := true
theorem runesF_fuel (fine : Nat → Bool) (s : ByteArray) : ∀ (f g pos n : Nat), s.size < pos + f → s.size < pos + g → runesF fine s f pos n = runesF fine s g pos n
  | 0, g, pos, n, hf, hg => by
    cases g with
    | zero => rfl
    | succ g => rw [runesF, runesF, if_neg (by omega)]
  | f + 1, 0, pos, n, hf, hg => by rw [runesF, runesF, if_neg (by omega)]
  | f + 1, g + 1, pos, n, hf, hg => by
    have hw := width_pos s pos
    rw [runesF, runesF, runesF_fuel fine s f g _ _ (by omega) (by omega)]
/-- One step. -/
def runesAt (fine : Nat → Bool) (s : ByteArray) (pos n : Nat) : Nat × Bool := runesF fine s (s.size + 1) pos n
theorem runesAt_step (fine : Nat → Bool) (s : ByteArray) (pos n : Nat) : runesAt fine s pos n = if pos < s.size then (if bad s pos then (0, false) else if fine (Utf8.decode s pos).1 = true then runesAt fine s (pos + (Utf8.decode s pos).2) (n + 1) else (0, false)) else (n, true) := by
  have hw := width_pos s pos
  unfold runesAt
  rw [runesF]
  rw [runesF_fuel fine s s.size (s.size + 1) (pos + (Utf8.decode s pos).2) (n + 1) (by omega) (by omega)]
theorem runesAt_le (fine : Nat → Bool) (s : ByteArray) : ∀ (m pos n : Nat), s.size - pos ≤ m → (runesAt fine s pos n).1 ≤ n + m
  | 0, pos, n, h => by rw [runesAt_step, if_neg (by omega)]; simp
  | m + 1, pos, n, h => by
    have hw := width_pos s pos
    rw [runesAt_step]
    split
    · split
      · simp
      · split
        · have := runesAt_le fine s m (pos + (Utf8.decode s pos).2) (n + 1) (by omega)
          omega
        · simp
    · simp
end Go.Proofs.YtmnfihdbibjijaaDoor

/- fresh: how two handles stand, walked. -/
import Derived.Test.YtpnhjckjmpkbfaaProg
import Derived.Test.YtpnhjckjmpkbfaaWLast
import Derived.Test.YtpnhjckjmpkbfaaDk0
import Derived.WalkKit
import Derived.WalkLawsBesides
import Derived.Below
import Derived.Lib.Hide
import Derived.Deep.MidRow
import Derived.Deep.AppendLies
import Derived.Laws.MakeOwn
import Derived.Laws.OwnMore
set_option linter.unusedVariables false
set_option linter.unusedSimpArgs false
namespace Go.Proofs.Ytpnhjckjmpkbfaa
open Go.RowKit Go.Proofs.YtpnhjckjmpkbfaaW.PrintLast

def cmpI (a b : Int) : Int := if a < b then -1 else if b < a then 1 else 0
theorem cmpI_lt {a b : Int} (h : a < b) : cmpI a b = -1 := by simp [cmpI, h]
theorem cmpI_gt {a b : Int} (h : b < a) : cmpI a b = 1 := by have : ¬ a < b := by omega
                                                             simp [cmpI, h, this]
theorem cmpI_eq (a : Int) : cmpI a a = 0 := by simp [cmpI]
/-- How two handles stand. -/
def ord (h k : Int × Int) : Int := if cmpI h.1 k.1 ≠ 0 then cmpI h.1 k.1 else cmpI h.2 k.2

theorem nan32 (w : World) (a : Int) : Calls Try.prog 29 #[.int .u32 a] w fun r w' => r = .returned (.bool false) ∧ w = w' := by
  go_enter Try.func29, Try.ntmps29
  have h : (a != a) = false := by simp
  go_wp2_with fail
  go_ret
  exact ⟨rfl, rfl⟩
theorem compare32 (w : World) (a b : Int) : Calls Try.prog 26 #[.int .u32 a, .int .u32 b] w fun r w' => r = .returned (.int .i64 (cmpI a b)) ∧ w = w' := by
  rcases (show a < b ∨ a = b ∨ b < a by omega) with h | rfl | h
  · rw [cmpI_lt h]
    go_enter Try.func26, Try.ntmps26
    go_wp2_with (first
      | (refine (nan32 _ _).mono ?_; rintro e w' ⟨rfl, rfl⟩)
      | fail)
    go_ret
    exact ⟨rfl, rfl⟩
  · rw [cmpI_eq]
    go_enter Try.func26, Try.ntmps26
    go_wp2_with (first
      | (refine (nan32 _ _).mono ?_; rintro e w' ⟨rfl, rfl⟩)
      | fail)
    go_ret
    exact ⟨rfl, rfl⟩
  · rw [cmpI_gt h]
    have h2 : ¬ a < b := by omega
    go_enter Try.func26, Try.ntmps26
    go_wp2_with (first
      | (refine (nan32 _ _).mono ?_; rintro e w' ⟨rfl, rfl⟩)
      | fail)
    go_ret
    exact ⟨rfl, rfl⟩
theorem nan64 (w : World) (a : Int) : Calls Try.prog 27 #[.int .u64 a] w fun r w' => r = .returned (.bool false) ∧ w = w' := by
  go_enter Try.func27, Try.ntmps27
  have h : (a != a) = false := by simp
  go_wp2_with fail
  go_ret
  exact ⟨rfl, rfl⟩
theorem compare64 (w : World) (a b : Int) : Calls Try.prog 20 #[.int .u64 a, .int .u64 b] w fun r w' => r = .returned (.int .i64 (cmpI a b)) ∧ w = w' := by
  rcases (show a < b ∨ a = b ∨ b < a by omega) with h | rfl | h
  · rw [cmpI_lt h]
    go_enter Try.func20, Try.ntmps20
    go_wp2_with (first
      | (refine (nan64 _ _).mono ?_; rintro e w' ⟨rfl, rfl⟩)
      | fail)
    go_ret
    exact ⟨rfl, rfl⟩
  · rw [cmpI_eq]
    go_enter Try.func20, Try.ntmps20
    go_wp2_with (first
      | (refine (nan64 _ _).mono ?_; rintro e w' ⟨rfl, rfl⟩)
      | fail)
    go_ret
    exact ⟨rfl, rfl⟩
  · rw [cmpI_gt h]
    have h2 : ¬ a < b := by omega
    go_enter Try.func20, Try.ntmps20
    go_wp2_with (first
      | (refine (nan64 _ _).mono ?_; rintro e w' ⟨rfl, rfl⟩)
      | fail)
    go_ret
    exact ⟨rfl, rfl⟩

theorem or_any (w : World) (b : Nat) (x y : Int) (h0 : w.cell? ⟨b, 0, none⟩ = some (.int .i64 x)) (h1 : w.cell? ⟨b, 1, none⟩ = some (.int .i64 y)) :
    Calls Try.prog 25 #[.slice (some ⟨b, 0, none⟩) 2 2] w fun r w' => r = .returned (.int .i64 (if x ≠ 0 then x else y)) ∧ w = w' := by
  by_cases hx : x = 0
  · subst hx
    by_cases hy : y = 0
    · subst hy
      go_enter Try.func25, Try.ntmps25
      go_wp2_with fail
      refine wp_loop_rounds 3 ?_
      rw [rounds_succ]
      go_wp2_with fail
      rw [rounds_succ]
      go_wp2_with fail
      rw [rounds_succ]
      go_wp2_with fail
      go_ret
      exact ⟨rfl, rfl⟩
    · have hy' : (y != 0) = true := by simp [hy]
      go_enter Try.func25, Try.ntmps25
      go_wp2_with fail
      refine wp_loop_rounds 2 ?_
      rw [rounds_succ]
      go_wp2_with fail
      rw [rounds_succ]
      go_wp2_with fail
      go_ret
      exact ⟨rfl, rfl⟩
  · have hx' : (x != 0) = true := by simp [hx]
    rw [if_pos hx]
    go_enter Try.func25, Try.ntmps25
    go_wp2_with fail
    refine wp_loop_rounds 1 ?_
    rw [rounds_succ]
    go_wp2_with fail
    go_ret
    exact ⟨rfl, rfl⟩
end Go.Proofs.Ytpnhjckjmpkbfaa

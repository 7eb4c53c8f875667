/- The disk's small functions, walked: Blocks, powered, block, Dark, Steps, Loose, Arm, do. -/
import Derived.Test.YtlngflonolhdhaaDk3
import Derived.BigQuiet
import Derived.Deep.QuietTactic
import Derived.Outline
set_option linter.unusedVariables false
set_option linter.unusedSimpArgs false
namespace Go.Proofs.Ytlngflonolhdhaa
open Go.RowKit

section
variable {B : Nat} {w : World} {g : Nat} {D : St} {lb lc : Nat} {qv : Value} {m : Nat}
theorem DAt.c0 (h : DAt B w g D lb lc qv m) : w.cell? ⟨g, 0, none⟩ = some (.slice (some ⟨lb, 0, none⟩) D.laid.length lc) := by rw [cell_of_row w g 0 _ _ _ h.hg]; rfl
theorem DAt.c1 (h : DAt B w g D lb lc qv m) : w.cell? ⟨g, 1, none⟩ = some qv := by rw [cell_of_row w g 1 _ _ _ h.hg]; rfl
theorem DAt.c2 (h : DAt B w g D lb lc qv m) : w.cell? ⟨g, 2, none⟩ = some (.map (some m)) := by rw [cell_of_row w g 2 _ _ _ h.hg]; rfl
theorem DAt.c3 (h : DAt B w g D lb lc qv m) : w.cell? ⟨g, 3, none⟩ = some (.int .i64 D.left) := by rw [cell_of_row w g 3 _ _ _ h.hg]; rfl
theorem DAt.c4 (h : DAt B w g D lb lc qv m) : w.cell? ⟨g, 4, none⟩ = some (.bool D.gone) := by rw [cell_of_row w g 4 _ _ _ h.hg]; rfl
theorem DAt.c5 (h : DAt B w g D lb lc qv m) : w.cell? ⟨g, 5, none⟩ = some (.int .i64 D.work) := by rw [cell_of_row w g 5 _ _ _ h.hg]; rfl
theorem DAt.fz (h : DAt B w g D lb lc qv m) (j : Nat) : w.frozen? ⟨g, j, none⟩ = false := frozen_of_row w g j _ _ h.hg
end

theorem blocks_cell (w : World) (g : Nat) (A : Option Addr) (n c : Nat) (hc : w.cell? ⟨g, 0, none⟩ = some (.slice A n c)) :
    Calls Try.prog 25 #[.pointer (some ⟨g, 0, none⟩)] w fun e w' => e = .returned (.int .i64 n) ∧ w = w' := by
  go_enter Try.func25, Try.ntmps25
  go_wp2
  go_ret
  exact ⟨rfl, rfl⟩
theorem blocks_nil (w : World) :
    Calls Try.prog 25 #[.pointer none] w fun e w' => e = .returned (.int .i64 0) ∧ w = w' := by
  go_enter Try.func25, Try.ntmps25
  go_wp2
  go_ret
  exact ⟨rfl, rfl⟩
theorem blocks_any {B : Nat} {w : World} {g : Nat} {D : St} {lb lc : Nat} {qv : Value} {m : Nat} (h : DAt B w g D lb lc qv m) :
    Calls Try.prog 25 #[.pointer (some ⟨g, 0, none⟩)] w fun e w' => e = .returned (.int .i64 D.laid.length) ∧ w = w' := blocks_cell w g _ _ _ h.c0

theorem powered_any {B : Nat} {w : World} {g : Nat} {D : St} {lb lc : Nat} {qv : Value} {m : Nat} (h : DAt B w g D lb lc qv m) :
    Calls Try.prog 19 #[.pointer (some ⟨g, 0, none⟩)] w fun e w' => e = .returned (.int .i64 (powered D)) ∧ w = w' := by
  have c0 := h.c0
  have c4 := h.c4
  have h1 : ((D.laid.length : Int) == 0) = false := by have := h.wf.one; simp; intro e; rw [e] at this; simp at this
  unfold powered
  cases hgone : D.gone
  all_goals
    rw [hgone] at c4
    clear hgone
    go_enter Try.func19, Try.ntmps19
    go_wp2_with (go_at_call 25; refine (blocks_any h).mono ?_; rintro e w' ⟨rfl, rfl⟩)
    go_ret
    exact ⟨rfl, rfl⟩

/-- block's answer. -/
def blk (D : St) (n e : Int) : Int := if e = 0 then (if inR D n then 0 else 2) else e
theorem block_any {B : Nat} {w : World} {g : Nat} {D : St} {lb lc : Nat} {qv : Value} {m : Nat} (h : DAt B w g D lb lc qv m) (n e : Int) :
    Calls Try.prog 22 #[.pointer (some ⟨g, 0, none⟩), .int .i64 n, .int .i64 e] w fun r w' => r = .returned (.int .i64 (blk D n e)) ∧ w = w' := by
  by_cases he : e = 0
  · subst he
    by_cases h0 : n < 0
    · have hr : blk D n 0 = 2 := by unfold blk inR; simp; omega
      rw [hr]; clear hr
      go_enter Try.func22, Try.ntmps22
      go_wp2
      go_ret
      exact ⟨rfl, rfl⟩
    · by_cases h1 : n < D.laid.length
      · have hr : blk D n 0 = 0 := by unfold blk inR; simp; omega
        rw [hr]; clear hr
        go_enter Try.func22, Try.ntmps22
        go_wp2_with (go_at_call 25; refine (blocks_any h).mono ?_; rintro e w' ⟨rfl, rfl⟩)
        go_ret
        exact ⟨rfl, rfl⟩
      · have hr : blk D n 0 = 2 := by unfold blk inR; simp; omega
        rw [hr]; clear hr
        go_enter Try.func22, Try.ntmps22
        go_wp2_with (go_at_call 25; refine (blocks_any h).mono ?_; rintro e w' ⟨rfl, rfl⟩)
        go_ret
        exact ⟨rfl, rfl⟩
  · have hr : blk D n e = e := by unfold blk; simp [he]
    rw [hr]; clear hr
    have he' : (e == 0) = false := by simpa using he
    go_enter Try.func22, Try.ntmps22
    go_wp2
    go_ret
    exact ⟨rfl, rfl⟩
theorem dark_any {B : Nat} {w : World} {g : Nat} {D : St} {lb lc : Nat} {qv : Value} {m : Nat} (h : DAt B w g D lb lc qv m) :
    Calls Try.prog 10 #[.pointer (some ⟨g, 0, none⟩)] w fun e w' => e = .returned (.bool D.gone) ∧ w = w' := by
  have c4 := h.c4
  go_enter Try.func10, Try.ntmps10
  go_wp2
  go_ret
  exact ⟨rfl, rfl⟩
theorem steps_any {B : Nat} {w : World} {g : Nat} {D : St} {lb lc : Nat} {qv : Value} {m : Nat} (h : DAt B w g D lb lc qv m) :
    Calls Try.prog 11 #[.pointer (some ⟨g, 0, none⟩)] w fun e w' => e = .returned (.int .i64 D.work) ∧ w = w' := by
  have c5 := h.c5
  go_enter Try.func11, Try.ntmps11
  go_wp2
  go_ret
  exact ⟨rfl, rfl⟩
theorem loose_any {B : Nat} {w : World} {g : Nat} {D : St} {lb lc : Nat} {qv : Value} {m : Nat} (h : DAt B w g D lb lc qv m) :
    Calls Try.prog 13 #[.pointer (some ⟨g, 0, none⟩)] w fun e w' => e = .returned (.int .i64 D.queue.length) ∧ w = w' := by
  have c1 := h.c1
  rcases h.qv_form with ⟨e, e0⟩ | ⟨q, c, cur, e, _⟩
  · rw [e] at c1
    rw [e0]
    go_enter Try.func13, Try.ntmps13
    go_wp2
    go_ret
    exact ⟨rfl, rfl⟩
  · rw [e] at c1
    clear e
    go_enter Try.func13, Try.ntmps13
    go_wp2
    go_ret
    exact ⟨rfl, rfl⟩

/-- g's numbers behind stores into its cells. -/
theorem DAt.set3 {B : Nat} {w : World} {g : Nat} {D : St} {lb lc : Nat} {qv : Value} {m : Nat} (h : DAt B w g D lb lc qv m) (l : Int) :
    (w.setCell ⟨g, 3, none⟩ (.int .i64 l)).heap[g]? = some (.cells (dc D.laid.length lb lc qv m l D.gone D.work) 50 (0, 0)) := by
  rw [heap_setCell_same w g 3 _ _ _ h.hg]; rfl

theorem arm_any {B : Nat} {w : World} {g : Nat} {D : St} (hD : DiskAt B w g D) (n : Int) (hn : n ≤ 9223372036854775807) :
    Calls Try.prog 7 #[.pointer (some ⟨g, 0, none⟩), .int .i64 n] w fun e w' => e = .returned (.int .i64 (arm D n).2) ∧ w.grownBy w' (some g) ∧ DiskAt B w' g (arm D n).1 := by
  obtain ⟨lb, lc, qv, m, hd⟩ := hD
  have c3 := hd.c3
  have z := hd.fz
  by_cases hgone : D.gone = true
  · have hp : powered D = 9 := by simp [powered, hgone]
    have hr : arm D n = (D, 9) := by simp [arm, hgone]
    rw [hr]; clear hr
    have H := Lib.hid hp; clear hp hgone
    go_enter Try.func7, Try.ntmps7
    go_wp2_with (go_at_call 19; refine (powered_any hd).mono ?_; rintro e w' ⟨rfl, rfl⟩; rw [H.out])
    go_ret
    exact ⟨rfl, grownBy_refl _ _, _, _, _, _, hd⟩
  · have hp : powered D = 0 := by simp [powered, hgone]
    by_cases hn0 : n < 0
    · have hr : arm D n = (D, 2) := by simp [arm, hgone, hn0]
      rw [hr]; clear hr
      have H := Lib.hid hp; clear hp hgone
      go_enter Try.func7, Try.ntmps7
      go_wp2_with (go_at_call 19; refine (powered_any hd).mono ?_; rintro e w' ⟨rfl, rfl⟩; rw [H.out])
      go_ret
      exact ⟨rfl, grownBy_refl _ _, _, _, _, _, hd⟩
    · have hr : arm D n = ({ D with left := if n = 0 then -1 else n }, 0) := by simp [arm, hgone, hn0]
      rw [hr]; clear hr
      have H := Lib.hid hp; clear hp hgone
      by_cases hz : n = 0
      · subst hz
        clear hn hn0
        go_enter Try.func7, Try.ntmps7
        go_wp2_with (go_at_call 19; refine (powered_any hd).mono ?_; rintro e w' ⟨rfl, rfl⟩; rw [H.out])
        go_ret
        have hg2 : ((w.setCell ⟨g, 3, none⟩ (.int .i64 0)).setCell ⟨g, 3, none⟩ (.int .i64 (-1))).heap[g]? = some (.cells (dc D.laid.length lb lc qv m (-1) D.gone D.work) 50 (0, 0)) := by
          rw [heap_setCell_same _ g 3 _ _ _ (hd.set3 0)]; rfl
        have hgr := grownBy_trans (grownBy_setCell w g 3 (.int .i64 0)) (grownBy_setCell _ g 3 (.int .i64 (-1)))
        exact ⟨rfl, hgr, _, _, _, _, hd.numbers hgr hg2 (by omega) hd.wf.work⟩
      · have hz' : (n == 0) = false := by simpa using hz
        simp only [hz, if_false]
        clear hz
        go_enter Try.func7, Try.ntmps7
        go_wp2_with (go_at_call 19; refine (powered_any hd).mono ?_; rintro e w' ⟨rfl, rfl⟩; rw [H.out])
        go_ret
        exact ⟨rfl, grownBy_setCell _ _ _ _, _, _, _, _, hd.numbers (grownBy_setCell _ _ _ _) (hd.set3 n) (by omega) hd.wf.work⟩
end Go.Proofs.Ytlngflonolhdhaa

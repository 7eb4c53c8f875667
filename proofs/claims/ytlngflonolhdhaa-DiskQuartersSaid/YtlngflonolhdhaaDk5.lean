/- The disk's do, walked. -/
import Derived.Test.YtlngflonolhdhaaDk4
set_option linter.unusedVariables false
set_option linter.unusedSimpArgs false
namespace Go.Proofs.Ytlngflonolhdhaa
open Go.RowKit

theorem do_stop (w : World) (g : Nat) (e : Int) (fv : Value) (he : (e != 0) = true) :
    Calls Try.prog 20 #[.pointer (some ⟨g, 0, none⟩), .int .i64 e, fv] w fun r w' => r = .returned (.int .i64 e) ∧ w = w' := by
  go_enter Try.func20, Try.ntmps20
  go_wp2
  go_ret
  exact ⟨rfl, rfl⟩

section
variable {B : Nat} {w : World} {g : Nat} {D : St} {lb lc : Nat} {qv : Value} {m : Nat}
/-- The cells of g behind do's stores. -/
theorem DAt.set345 (h : DAt B w g D lb lc qv m) (l : Int) (gone : Bool) (k : Int) :
    (((w.setCell ⟨g, 3, none⟩ (.int .i64 l)).setCell ⟨g, 4, none⟩ (.bool gone)).setCell ⟨g, 5, none⟩ (.int .i64 k)).heap[g]? = some (.cells (dc D.laid.length lb lc qv m l gone k) 50 (0, 0)) := by
  have h1 := h.set3 l
  have h2 := heap_setCell_same _ g 4 _ _ (.bool gone) h1
  rw [heap_setCell_same _ g 5 _ _ (.int .i64 k) h2]; rfl
theorem DAt.set34 (h : DAt B w g D lb lc qv m) (l : Int) (gone : Bool) :
    ((w.setCell ⟨g, 3, none⟩ (.int .i64 l)).setCell ⟨g, 4, none⟩ (.bool gone)).heap[g]? = some (.cells (dc D.laid.length lb lc qv m l gone D.work) 50 (0, 0)) := by
  have h1 := h.set3 l
  rw [heap_setCell_same _ g 4 _ _ (.bool gone) h1]; rfl
theorem DAt.set45 (h : DAt B w g D lb lc qv m) (gone : Bool) (k : Int) :
    ((w.setCell ⟨g, 4, none⟩ (.bool gone)).setCell ⟨g, 5, none⟩ (.int .i64 k)).heap[g]? = some (.cells (dc D.laid.length lb lc qv m D.left gone k) 50 (0, 0)) := by
  have h1 := heap_setCell_same _ g 4 _ _ (.bool gone) h.hg
  rw [heap_setCell_same _ g 5 _ _ (.int .i64 k) h1]; rfl
end

theorem do_dark {B : Nat} {w : World} {g : Nat} {D : St} {lb lc : Nat} {qv : Value} {m : Nat} (hd : DAt B w g D lb lc qv m) (ht : (tick D).2 = false) (fv : Value) :
    Calls Try.prog 20 #[.pointer (some ⟨g, 0, none⟩), .int .i64 0, fv] w fun r w' => r = .returned (.int .i64 9) ∧ w.grownBy w' (some g) ∧ DAt B w' g (tick D).1 lb lc qv m := by
  have k3 := hd.c3
  have k4 := hd.c4
  have z := hd.fz
  have hl : D.left = 1 := by
    have h0 := hd.wf.left
    by_cases h1 : 0 ≤ D.left
    · by_cases h2 : D.left - 1 = 0
      · omega
      · simp [tick, h1, h2] at ht
    · have h2 : ¬ D.left = 0 := by omega
      simp [tick, h1, h2] at ht
  have ht1 : tick D = ({ D with left := 0, gone := true }, false) := by unfold tick; simp [hl]
  rw [ht1]
  have K := Lib.hid ht1; clear ht1 ht
  rw [hl] at k3
  have HL := Lib.hid hl; clear hl
  go_enter Try.func20, Try.ntmps20
  go_wp2
  go_ret
  refine ⟨rfl, grownBy_trans (grownBy_setCell w g 3 (.int .i64 0)) (grownBy_setCell _ g 4 (.bool true)), ?_⟩
  exact hd.numbers (l := 0) (gone := true) (k := D.work) (grownBy_trans (grownBy_setCell w g 3 (.int .i64 0)) (grownBy_setCell _ g 4 (.bool true))) (hd.set34 0 true) (by omega) hd.wf.work

theorem do_go {B : Nat} {w : World} {g : Nat} {D : St} {lb lc : Nat} {qv : Value} {m : Nat} (hd : DAt B w g D lb lc qv m) (ht : (tick D).2 = true) (hw : D.work ≤ 1000000000) (k : Nat) (cap : Array Value)
    (hk : ∀ (args : Array Value) (W : World), (callFunc k args).run Try.prog W = .ok (.enter k args) W) (R : World → Prop)
    (hR : ∀ w1, w.grownBy w1 (some g) → DAt B w1 g (tick D).1 lb lc qv m → Calls Try.prog k cap w1 fun r w' => r = .returned (.tuple #[]) ∧ R w') :
    Calls Try.prog 20 #[.pointer (some ⟨g, 0, none⟩), .int .i64 0, .func (.func k) #[] cap] w fun r w' => r = .returned (.int .i64 0) ∧ R w' := by
  have k3 := hd.c3
  have k4 := hd.c4
  have k5 := hd.c5
  have z := hd.fz
  have hw0 := hd.wf.work
  have hl0 := hd.wf.left
  by_cases hl : 0 ≤ D.left
  · have hl1 : ¬ D.left - 1 = 0 := by
      intro e
      unfold tick at ht
      simp [hl, e] at ht
    have ht1 : tick D = ({ D with left := D.left - 1, gone := false, work := D.work + 1 }, true) := by unfold tick; simp [hl, hl1]
    rw [ht1] at hR
    have K := Lib.hid ht1; clear ht1 ht
    have hl2 : (D.left - 1 == 0) = false := by simpa using hl1
    clear hl1
    have HR := Lib.hid hR; clear hR
    have HD := Lib.hid hd; clear hd
    go_enter Try.func20, Try.ntmps20
    go_wp2_with fail
    have hgr : w.grownBy (((w.setCell ⟨g, 3, none⟩ (.int .i64 (D.left - 1))).setCell ⟨g, 4, none⟩ (.bool false)).setCell ⟨g, 5, none⟩ (.int .i64 (D.work + 1))) (some g) :=
      grownBy_trans (grownBy_trans (grownBy_setCell w g 3 _) (grownBy_setCell _ g 4 _)) (grownBy_setCell _ g 5 _)
    refine (HR.out _ hgr (HD.out.numbers (l := D.left - 1) (gone := false) (k := D.work + 1) hgr (HD.out.set345 _ _ _) (by omega) (by omega))).mono ?_
    rintro r w' ⟨rfl, hr⟩
    go_wp2
    go_ret
    exact ⟨rfl, hr⟩
  · have hl1 : ¬ D.left = 0 := by omega
    have ht1 : tick D = ({ D with left := D.left, gone := false, work := D.work + 1 }, true) := by unfold tick; simp [hl, hl1]
    rw [ht1] at hR
    have K := Lib.hid ht1; clear ht1 ht
    have hl2 : (D.left == 0) = false := by simpa using hl1
    clear hl1
    have HR := Lib.hid hR; clear hR
    have HD := Lib.hid hd; clear hd
    go_enter Try.func20, Try.ntmps20
    go_wp2_with fail
    have hgr : w.grownBy ((w.setCell ⟨g, 4, none⟩ (.bool false)).setCell ⟨g, 5, none⟩ (.int .i64 (D.work + 1))) (some g) :=
      grownBy_trans (grownBy_setCell w g 4 _) (grownBy_setCell _ g 5 _)
    refine (HR.out _ hgr (HD.out.numbers (l := D.left) (gone := false) (k := D.work + 1) hgr (HD.out.set45 _ _) (by omega) (by omega))).mono ?_
    rintro r w' ⟨rfl, hr⟩
    go_wp2
    go_ret
    exact ⟨rfl, hr⟩
end Go.Proofs.Ytlngflonolhdhaa

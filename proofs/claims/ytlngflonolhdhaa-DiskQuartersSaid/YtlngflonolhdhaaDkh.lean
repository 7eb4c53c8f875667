/- The disk's Crash, whole. -/
import Derived.Test.YtlngflonolhdhaaDkg
set_option linter.unusedVariables false
set_option linter.unusedSimpArgs false
namespace Go.Proofs.Ytlngflonolhdhaa
open Go.RowKit Go.Proofs.YtlngflonolhdhaaW.PrintLast

set_option maxRecDepth 100000 in
set_option maxHeartbeats 1000000 in
theorem crash_nil {B : Nat} {w : World} {g : Nat} {D : St} {lb lc : Nat} {m : Nat} (hd : DAt B w g D lb lc (.slice none 0 0) m) (hq : D.queue = []) (v : Value) (ps : List Int) :
    Calls Try.prog 15 #[.pointer (some ⟨g, 0, none⟩), v] w fun r w' => r = .returned (.int .i64 0) ∧ Bel B w w' ∧ DiskAt B w' g (crash D ps) := by
  have c0 := hd.c0
  have c1 := hd.c1
  have h1 : ((D.laid.length : Int) == 0) = false := by have := hd.wf.one; simp; intro e; rw [e] at this; simp at this
  have HQ := Lib.hid hq; clear hq
  have HWD := Lib.hid hd; clear hd
  go_enter Try.func15, Try.ntmps15
  go_wp2_with (first
    | (go_at_call 25; refine (blocks_any HWD.out).mono ?_; rintro e w' ⟨rfl, rfl⟩)
    | fail)
  refine wp_loop_rounds 1 ?_
  rw [rounds_succ]
  go_wp2_with fail
  refine (empty_any _ _ _ _ _ _ _ _ HWD.out.hg).mono ?_
  rintro r w3 ⟨rfl, M, hM, hmap, hg3, hgr3⟩
  have k3 : w3.cell? ⟨g, 3, none⟩ = some (.int .i64 D.left) := by rw [cell_of_row w3 g 3 _ _ _ hg3]; rfl
  have k4 : w3.cell? ⟨g, 4, none⟩ = some (.bool D.gone) := by rw [cell_of_row w3 g 4 _ _ _ hg3]; rfl
  have z3 : ∀ j, w3.frozen? ⟨g, j, none⟩ = false := fun j => frozen_of_row w3 g j _ _ hg3
  have HG3 := Lib.hid hg3; clear hg3
  have HM := Lib.hid hmap; clear hmap
  go_wp2_with fail
  go_ret
  have h4 := heap_setCell_same _ g 3 _ _ (.int .i64 (-1)) HG3.out
  have h5 := heap_setCell_same _ g 4 _ _ (.bool false) h4
  have hs2 : w3.grownBy ((w3.setCell ⟨g, 3, none⟩ (.int .i64 (-1))).setCell ⟨g, 4, none⟩ (.bool false)) (some g) := grownBy_trans (grownBy_setCell _ _ _ _) (grownBy_setCell _ _ _ _)
  generalize (w3.setCell ⟨g, 3, none⟩ (.int .i64 (-1))).setCell ⟨g, 4, none⟩ (.bool false) = w4 at h5 hs2 ⊢
  have hgg := grownBy_trans hgr3 hs2
  have hne : lb ≠ g := by obtain ⟨_, h, _⟩ := HWD.out.lb_form; exact ne_of_cells h HWD.out.hg (by decide)
  have hwf := HWD.out.wf
  have hMs : M < w3.heap.size := HM.out.lt
  have hMg : M ≠ g := by have := HWD.out.lt; omega
  have hcr : crash D ps = { laid := D.laid, queue := [], left := -1, gone := false, work := D.work } := by unfold crash; rw [HQ.out, crashed_nil]
  rw [hcr]
  refine ⟨rfl, (Bel.refl B w).grown hgg HWD.out.size (fun k hk => by simp at hk; have := HWD.out.hB; omega) (fun k hk => by injection hk with hk; subst hk; exact nint_cells HWD.out.hg (by decide)), lb, lc, .slice none 0 0, M, HWD.out.hB, ?_, ?_, ⟨rfl, .inl ⟨rfl, rfl⟩⟩, ?_, ?_, ?_⟩
  · rw [h5]; rfl
  · exact HWD.out.laid.kept hgg (.inr (by simpa [Value.ownBlock] using hne))
  · exact (HM.out.grown hs2 (by simpa using hMg)).congr (fun _ => rfl)
  · have := HWD.out.size; omega
  · exact ⟨hwf.one, hwf.most, hwf.laid, by simp, by simp, hwf.work⟩

theorem crash_bel {B : Nat} {w : World} {g : Nat} {D : St} (hD : DiskAt B w g D) (A : Option Addr) (ps : List Int) (k : Nat) (pc : Nat) (hp : Ints w A ps k) (hk : ∀ cur, B ≤ k → w.heap[k]? ≠ some (.cells cur 23 (0, 0))) :
    Calls Try.prog 15 #[.pointer (some ⟨g, 0, none⟩), .slice A ps.length pc] w fun r w' => r = .returned (.int .i64 0) ∧ Bel B w w' ∧ DiskAt B w' g (crash D ps) := by
  obtain ⟨lb, lc, qv, m, hd⟩ := hD
  have hkl : k ≠ lb := by
    obtain ⟨cur, h1, h2, _⟩ := hd.lb_form
    rintro rfl; exact hk _ h2 h1
  rcases hd.qv_form with ⟨rfl, hq⟩ | ⟨q, c, cur, rfl, _⟩
  · exact crash_nil hd hq _ ps
  · exact crash_loop hd A ps k pc hp hkl
theorem crash_any {B : Nat} {w : World} {g : Nat} {D : St} (hD : DiskAt B w g D) (A : Option Addr) (ps : List Int) (k : Nat) (pc : Nat) (hp : Ints w A ps k) (hk : ∀ cur, B ≤ k → w.heap[k]? ≠ some (.cells cur 23 (0, 0))) :
    Calls Try.prog 15 #[.pointer (some ⟨g, 0, none⟩), .slice A ps.length pc] w fun r w' => r = .returned (.int .i64 0) ∧ Below B w w' ∧ DiskAt B w' g (crash D ps) :=
  (crash_bel hD A ps k pc hp hk).mono fun r w' ⟨h1, h2, h3⟩ => ⟨h1, h2.below, h3⟩
end Go.Proofs.Ytlngflonolhdhaa

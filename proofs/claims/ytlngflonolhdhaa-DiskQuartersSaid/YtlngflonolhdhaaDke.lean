/- The disk's Flush, walked. -/
import Derived.Test.YtlngflonolhdhaaDkd
set_option linter.unusedVariables false
set_option linter.unusedSimpArgs false
namespace Go.Proofs.Ytlngflonolhdhaa
open Go.RowKit Go.Proofs.YtlngflonolhdhaaW.PrintLast

set_option maxRecDepth 100000 in
set_option maxHeartbeats 1600000 in
theorem flush_core {B : Nat} {w : World} {g : Nat} {D : St} {lb lc : Nat} {qv : Value} {m : Nat} (hd : DAt B w g D lb lc qv m) (r0 : Int) (R : World → Prop)
    (hdo : ∀ (w1 : World) (k0 : Nat), DAt B w1 g D lb lc qv m → Below w.heap.size w w1 → w1.heap[k0]? = some (.cells #[.pointer (some ⟨g, 0, none⟩)] 24 (0, 0)) →
      Calls Try.prog 20 #[.pointer (some ⟨g, 0, none⟩), .int .i64 (powered D), .func (.func 21) #[] #[.pointer (some ⟨k0, 0, none⟩)]] w1 fun r w' => r = .returned (.int .i64 r0) ∧ R w') :
    Calls Try.prog 8 #[.pointer (some ⟨g, 0, none⟩)] w fun r w' => r = .returned (.int .i64 r0) ∧ R w' := by
  have hmf := makeFunc_run
  have HDO := Lib.hid hdo; clear hdo
  have HD := Lib.hid hd; clear hd
  go_enter Try.func8, Try.ntmps8
  go_wp2_with fail
  have hh0 := heap_alloc_new w (.cells #[.pointer (some ⟨g, 0, none⟩)] 24)
  have hbl : Below w.heap.size w (w.alloc (.cells #[.pointer (some ⟨g, 0, none⟩)] 24)) := (Below.refl _ _).alloc (Nat.le_refl _) _
  generalize w.alloc (.cells #[.pointer (some ⟨g, 0, none⟩)] 24) = W at hh0 hbl ⊢
  have e0 : W.drew.cell? ⟨w.heap.size, 0, none⟩ = some (.pointer (some ⟨g, 0, none⟩)) := by show W.cell? _ = _; rw [cell_of_row _ _ 0 _ _ _ hh0]; rfl
  have hdW : DAt B W.drew g D lb lc qv m := (HD.out.below hbl).drew
  have hblW : Below w.heap.size w W.drew := hbl.drew
  replace hh0 : W.drew.heap[w.heap.size]? = some (.cells #[.pointer (some ⟨g, 0, none⟩)] 24 (0, 0)) := hh0
  refine start_ (n := 6) (S := (fun w' => w'.cell? ⟨w.heap.size, 0, none⟩ = some (.pointer (some ⟨g, 0, none⟩)))) (ds := [4]) #[false, false, false, false, false, false] (by kernel_rfl) rfl rfl e0 (fun hHeld => ?_)
  refine take_ (i := 0) (N := (some 3)) (v := ?_) (a' := ?_) #[true, false, false, false, false, false] rfl rfl (by kernel_rfl) (fun _ _ _ h => h) (Or.inl ⟨by rfl, ?_⟩) hHeld ?_ ?_
  rotate_left
  · (rintro w' hSw; (try dsimp only at hSw); go_split_ands; go_simp; with_reducible rfl)
  rotate_left
  · (simp only [Act.put, List.setIfInBounds_toArray, List.set_cons_zero, List.set_cons_succ]; rfl)
  refine take_ (i := 1) (N := (some 4)) (v := ?_) (a' := ?_) #[true, true, false, false, false, false] rfl rfl (by kernel_rfl) (fun _ _ _ h => h) (Or.inl ⟨by rfl, ?_⟩) hHeld ?_ ?_
  rotate_left
  · (rintro w' hSw; (try dsimp only at hSw); go_split_ands; go_simp; with_reducible rfl)
  rotate_left
  · (simp only [Act.put, List.setIfInBounds_toArray, List.set_cons_zero, List.set_cons_succ]; rfl)
  refine pure_ (i := 3) (N := (some 6)) (v := ?_) (a' := ?_) #[true, true, false, true, false, false] rfl rfl (by kernel_rfl) (fun _ _ _ h => h) (Or.inl ⟨by rfl, ?_⟩) ?_ ?_
  rotate_left
  · (intro w'; go_simp; with_reducible rfl)
  rotate_left
  · (simp only [Act.put, List.setIfInBounds_toArray, List.set_cons_zero, List.set_cons_succ]; rfl)
  refine one_ (i := 2) (N := (some 5)) #[true, true, true, true, false, false] rfl rfl (by kernel_rfl) (by decide) (fun K hK => ?_)
  refine goes_ Try.func19 (by kernel_rfl) rfl #[.pointer (some ⟨g, 0, none⟩)] (by rfl) rfl rfl (by simp only [List.map_toArray, List.map_cons, List.map_nil]; rfl) ?_
  refine (powered_any hdW).mono ?_
  rintro e w' ⟨rfl, rfl⟩
  refine ⟨_, rfl, hK.out _ _ hHeld (fun hHeld => ?_)⟩
  clear hK K
  refine norm_ (a' := ?_) ?_ ?_
  rotate_left
  · (show Act.put _ (some 5) _ = _; simp only [Act.put, List.setIfInBounds_toArray, List.set_cons_zero, List.set_cons_succ]; rfl)
  refine last_ (i := 4) (N := (some 7)) #[true, true, true, true, true, false] rfl rfl (by kernel_rfl) (by decide) (fun K hK => ?_)
  refine goes_ Try.func20 (by kernel_rfl) rfl #[.pointer (some ⟨g, 0, none⟩), .int .i64 (powered D), .func (.func 21) #[] #[.pointer (some ⟨w.heap.size, 0, none⟩)]] (by rfl) rfl rfl (by simp only [List.map_toArray, List.map_cons, List.map_nil]; rfl) ?_
  refine (HDO.out _ _ hdW hblW hh0).mono ?_
  rintro e w' ⟨rfl, hR⟩
  refine ⟨_, rfl, hK.out _ _ ?_⟩
  clear hK K
  refine norm_ (a' := ?_) ?_ ?_
  rotate_left
  · (show Act.put _ (some 7) _ = _; simp only [Act.put, List.setIfInBounds_toArray, List.set_cons_zero, List.set_cons_succ]; rfl)
  refine pure_ (i := 5) (N := (some 2)) (v := ?_) (a' := ?_) #[true, true, true, true, true, true] rfl rfl (by kernel_rfl) (fun _ _ _ h => h) (Or.inl ⟨by rfl, ?_⟩) ?_ ?_
  rotate_left
  · (intro w'; go_simp; with_reducible rfl)
  rotate_left
  · (simp only [Act.put, List.setIfInBounds_toArray, List.set_cons_zero, List.set_cons_succ]; rfl)
  refine done_ (by kernel_rfl) ?_
  go_wp2_with fail
  go_ret
  exact ⟨rfl, hR⟩

theorem flush_bel {B : Nat} {w : World} {g : Nat} {D : St} (hD : DiskAt B w g D) (hw : D.work ≤ 1000000000) :
    Calls Try.prog 8 #[.pointer (some ⟨g, 0, none⟩)] w fun r w' => r = .returned (.int .i64 (flush D).2) ∧ Bel B w w' ∧ DiskAt B w' g (flush D).1 := by
  obtain ⟨lb, lc, qv, m, hd⟩ := hD
  have hs := hd.size
  by_cases hg : D.gone = true
  · have hr : flush D = (D, 9) := by simp [flush, hg]
    have he : powered D = 9 := by simp [powered, hg]
    rw [hr]
    refine flush_core hd 9 (fun w' => Bel B w w' ∧ DiskAt B w' g D) (fun w1 k0 h1 hbl _ => ?_)
    rw [he]
    exact (do_stop w1 g 9 _ rfl).mono fun e w' ⟨h, h'⟩ => ⟨h, h' ▸ Bel.of_below hbl hs, h' ▸ ⟨_, _, _, _, h1⟩⟩
  · have he : powered D = 0 := by simp [powered, hg]
    cases ht : (tick D).2
    · have hr : flush D = ((tick D).1, 9) := by simp [flush, hg, ht]
      rw [hr]
      refine flush_core hd 9 (fun w' => Bel B w w' ∧ DiskAt B w' g (tick D).1) (fun w1 k0 h1 hbl _ => ?_)
      rw [he]
      exact (do_dark h1 ht _).mono fun e w' ⟨h, hgr, h'⟩ => ⟨h, (Bel.of_below hbl hs).grown hgr h1.size (fun k hk => by simp at hk; have := h1.hB; omega) (fun k hk => by injection hk with hk; subst hk; exact nint_cells h1.hg (by decide)), _, _, _, _, h'⟩
    · have hr : flush D = (lay (tick D).1, 0) := by simp [flush, hg, ht]
      rw [hr]
      refine flush_core hd 0 (fun w' => Bel B w w' ∧ DiskAt B w' g (lay (tick D).1)) (fun w1 k0 h1 hbl e0 => ?_)
      rw [he]
      refine do_go h1 ht hw _ _ (fun args W => enters_ Try.func21 (by kernel_rfl) rfl args W) _ (fun w2 hgr h2 => ?_)
      have e0' := (hgr.block k0 (lt_of_heap e0) (by simp; exact ne_of_cells e0 h1.hg (by decide))).trans e0
      refine (flush1_any h2 k0 e0').mono ?_
      rintro e w' ⟨rfl, hb', hd'⟩
      have h12 : Bel B w1 w2 := (Bel.refl B w1).grown hgr h1.size (fun k hk => by simp at hk; have := h1.hB; omega) (fun k hk => by injection hk with hk; subst hk; exact nint_cells h1.hg (by decide))
      exact ⟨rfl, ((Bel.of_below hbl hs).trans h12).trans hb', hd'⟩
theorem flush_any {B : Nat} {w : World} {g : Nat} {D : St} (hD : DiskAt B w g D) (hw : D.work ≤ 1000000000) :
    Calls Try.prog 8 #[.pointer (some ⟨g, 0, none⟩)] w fun r w' => r = .returned (.int .i64 (flush D).2) ∧ Below B w w' ∧ DiskAt B w' g (flush D).1 :=
  (flush_bel hD hw).mono fun r w' ⟨h1, h2, h3⟩ => ⟨h1, h2.below, h3⟩
end Go.Proofs.Ytlngflonolhdhaa

/- The disk's Write, walked. -/
import Derived.Test.YtlngflonolhdhaaDka
set_option linter.unusedVariables false
set_option linter.unusedSimpArgs false
namespace Go.Proofs.Ytlngflonolhdhaa
open Go.RowKit Go.Proofs.YtlngflonolhdhaaW.PrintLast

theorem makeFunc_run (fn : Fn) (first cap : Array Value) (w : World) : (Instr.makeFunc fn first cap).run Try.prog w = .ok (.func fn first cap) w := rfl

set_option maxRecDepth 100000 in
set_option maxHeartbeats 1600000 in
theorem write_core {B : Nat} {w : World} {g : Nat} {D : St} {lb lc : Nat} {qv : Value} {m : Nat} (hd : DAt B w g D lb lc qv m) (n : Int) (b : List Int) (r0 : Int) (R : World → Prop)
    (hdo : ∀ (w1 : World) (k0 k1 k2 : Nat), DAt B w1 g D lb lc qv m → Below w.heap.size w w1 → w1.heap[k0]? = some (.cells #[.pointer (some ⟨g, 0, none⟩)] 24 (0, 0)) → w1.heap[k1]? = some (.cells #[.int .i64 n] 3 (0, 0)) → w1.heap[k2]? = some (.cells (bc b).toArray 23 (0, 0)) →
      Calls Try.prog 20 #[.pointer (some ⟨g, 0, none⟩), .int .i64 (blk D n (powered D)), .func (.func 23) #[] #[.pointer (some ⟨k0, 0, none⟩), .pointer (some ⟨k1, 0, none⟩), .pointer (some ⟨k2, 0, none⟩)]] w1 fun r w' => r = .returned (.int .i64 r0) ∧ R w') :
    Calls Try.prog 9 #[.pointer (some ⟨g, 0, none⟩), .int .i64 n, .agg (bc b).toArray] w fun r w' => r = .returned (.int .i64 r0) ∧ R w' := by
  have hmf := makeFunc_run
  have HDO := Lib.hid hdo; clear hdo
  have HD := Lib.hid hd; clear hd
  go_enter Try.func9, Try.ntmps9
  go_wp2_with fail
  have hh0 : (((w.alloc (.cells #[.pointer (some ⟨g, 0, none⟩)] 24)).alloc (.cells #[.int .i64 n] 3)).alloc (.cells (bc b).toArray 23)).heap[w.heap.size]? = some (.cells #[.pointer (some ⟨g, 0, none⟩)] 24 (0, 0)) := by
    show (((w.heap.push _).push _).push _)[w.heap.size]? = _
    simp only [Array.getElem?_push, Array.size_push]; rw [if_neg (by omega), if_neg (by omega), if_pos trivial]
  have hh1 : (((w.alloc (.cells #[.pointer (some ⟨g, 0, none⟩)] 24)).alloc (.cells #[.int .i64 n] 3)).alloc (.cells (bc b).toArray 23)).heap[w.heap.size + 1]? = some (.cells #[.int .i64 n] 3 (0, 0)) := by
    show (((w.heap.push _).push _).push _)[w.heap.size + 1]? = _
    simp only [Array.getElem?_push, Array.size_push]; rw [if_neg (by omega), if_pos trivial]
  have hh2 : (((w.alloc (.cells #[.pointer (some ⟨g, 0, none⟩)] 24)).alloc (.cells #[.int .i64 n] 3)).alloc (.cells (bc b).toArray 23)).heap[w.heap.size + 2]? = some (.cells (bc b).toArray 23 (0, 0)) := by
    show (((w.heap.push _).push _).push _)[w.heap.size + 2]? = _
    simp only [Array.getElem?_push, Array.size_push]; rw [if_pos trivial]
  have hbl : Below w.heap.size w (((w.alloc (.cells #[.pointer (some ⟨g, 0, none⟩)] 24)).alloc (.cells #[.int .i64 n] 3)).alloc (.cells (bc b).toArray 23)) :=
    (((Below.refl _ _).alloc (Nat.le_refl _) _).alloc (by simp) _).alloc (by simp; omega) _
  generalize (((w.alloc (.cells #[.pointer (some ⟨g, 0, none⟩)] 24)).alloc (.cells #[.int .i64 n] 3)).alloc (.cells (bc b).toArray 23)) = W at hh0 hh1 hh2 hbl ⊢
  have e0 : W.drew.cell? ⟨w.heap.size, 0, none⟩ = some (.pointer (some ⟨g, 0, none⟩)) := by show W.cell? _ = _; rw [cell_of_row _ _ 0 _ _ _ hh0]; rfl
  have e1 : W.drew.cell? ⟨w.heap.size + 1, 0, none⟩ = some (.int .i64 n) := by show W.cell? _ = _; rw [cell_of_row _ _ 0 _ _ _ hh1]; rfl
  have hdW : DAt B W.drew g D lb lc qv m := (HD.out.below hbl).drew
  have hblW : Below w.heap.size w W.drew := hbl.drew
  replace hh0 : W.drew.heap[w.heap.size]? = some (.cells #[.pointer (some ⟨g, 0, none⟩)] 24 (0, 0)) := hh0
  replace hh1 : W.drew.heap[w.heap.size + 1]? = some (.cells #[.int .i64 n] 3 (0, 0)) := hh1
  replace hh2 : W.drew.heap[w.heap.size + 2]? = some (.cells (bc b).toArray 23 (0, 0)) := hh2
  refine start_ (n := 9) (S := (fun w' => w'.cell? ⟨w.heap.size, 0, none⟩ = some (.pointer (some ⟨g, 0, none⟩)) ∧ w'.cell? ⟨w.heap.size + 1, 0, none⟩ = some (.int .i64 n))) (ds := [7]) #[false, false, false, false, false, false, false, false, false] (by kernel_rfl) rfl rfl ⟨e0, e1⟩ (fun hHeld => ?_)
  refine take_ (i := 0) (N := (some 7)) (v := ?_) (a' := ?_) #[true, false, false, false, false, false, false, false, false] rfl rfl (by kernel_rfl) (fun _ _ _ h => h) (Or.inl ⟨by rfl, ?_⟩) hHeld ?_ ?_
  rotate_left
  · (rintro w' hSw; (try dsimp only at hSw); go_split_ands; go_simp; with_reducible rfl)
  rotate_left
  · (simp only [Act.put, List.setIfInBounds_toArray, List.set_cons_zero, List.set_cons_succ]; rfl)
  refine take_ (i := 1) (N := (some 8)) (v := ?_) (a' := ?_) #[true, true, false, false, false, false, false, false, false] rfl rfl (by kernel_rfl) (fun _ _ _ h => h) (Or.inl ⟨by rfl, ?_⟩) hHeld ?_ ?_
  rotate_left
  · (rintro w' hSw; (try dsimp only at hSw); go_split_ands; go_simp; with_reducible rfl)
  rotate_left
  · (simp only [Act.put, List.setIfInBounds_toArray, List.set_cons_zero, List.set_cons_succ]; rfl)
  refine take_ (i := 2) (N := (some 9)) (v := ?_) (a' := ?_) #[true, true, true, false, false, false, false, false, false] rfl rfl (by kernel_rfl) (fun _ _ _ h => h) (Or.inl ⟨by rfl, ?_⟩) hHeld ?_ ?_
  rotate_left
  · (rintro w' hSw; (try dsimp only at hSw); go_split_ands; go_simp; with_reducible rfl)
  rotate_left
  · (simp only [Act.put, List.setIfInBounds_toArray, List.set_cons_zero, List.set_cons_succ]; rfl)
  refine take_ (i := 3) (N := (some 10)) (v := ?_) (a' := ?_) #[true, true, true, true, false, false, false, false, false] rfl rfl (by kernel_rfl) (fun _ _ _ h => h) (Or.inl ⟨by rfl, ?_⟩) hHeld ?_ ?_
  rotate_left
  · (rintro w' hSw; (try dsimp only at hSw); go_split_ands; go_simp; with_reducible rfl)
  rotate_left
  · (simp only [Act.put, List.setIfInBounds_toArray, List.set_cons_zero, List.set_cons_succ]; rfl)
  refine pure_ (i := 6) (N := (some 13)) (v := ?_) (a' := ?_) #[true, true, true, true, false, false, true, false, false] rfl rfl (by kernel_rfl) (fun _ _ _ h => h) (Or.inl ⟨by rfl, ?_⟩) ?_ ?_
  rotate_left
  · (intro w'; go_simp; with_reducible rfl)
  rotate_left
  · (simp only [Act.put, List.setIfInBounds_toArray, List.set_cons_zero, List.set_cons_succ]; rfl)
  refine one_ (i := 4) (N := (some 11)) #[true, true, true, true, true, false, true, false, false] rfl rfl (by kernel_rfl) (by decide) (fun K hK => ?_)
  refine goes_ Try.func19 (by kernel_rfl) rfl #[.pointer (some ⟨g, 0, none⟩)] (by rfl) rfl rfl (by simp only [List.map_toArray, List.map_cons, List.map_nil]; rfl) ?_
  refine (powered_any hdW).mono ?_
  rintro e w' ⟨rfl, rfl⟩
  refine ⟨_, rfl, hK.out _ _ hHeld (fun hHeld => ?_)⟩
  clear hK K
  refine norm_ (a' := ?_) ?_ ?_
  rotate_left
  · (show Act.put _ (some 11) _ = _; simp only [Act.put, List.setIfInBounds_toArray, List.set_cons_zero, List.set_cons_succ]; rfl)
  refine one_ (i := 5) (N := (some 12)) #[true, true, true, true, true, true, true, false, false] rfl rfl (by kernel_rfl) (by decide) (fun K hK => ?_)
  refine goes_ Try.func22 (by kernel_rfl) rfl #[.pointer (some ⟨g, 0, none⟩), .int .i64 n, .int .i64 (powered D)] (by rfl) rfl rfl (by simp only [List.map_toArray, List.map_cons, List.map_nil]; rfl) ?_
  refine (block_any hdW _ _).mono ?_
  rintro e w' ⟨rfl, rfl⟩
  refine ⟨_, rfl, hK.out _ _ hHeld (fun hHeld => ?_)⟩
  clear hK K
  refine norm_ (a' := ?_) ?_ ?_
  rotate_left
  · (show Act.put _ (some 12) _ = _; simp only [Act.put, List.setIfInBounds_toArray, List.set_cons_zero, List.set_cons_succ]; rfl)
  refine last_ (i := 7) (N := (some 14)) #[true, true, true, true, true, true, true, true, false] rfl rfl (by kernel_rfl) (by decide) (fun K hK => ?_)
  refine goes_ Try.func20 (by kernel_rfl) rfl #[.pointer (some ⟨g, 0, none⟩), .int .i64 (blk D n (powered D)), .func (.func 23) #[] #[.pointer (some ⟨w.heap.size, 0, none⟩), .pointer (some ⟨w.heap.size + 1, 0, none⟩), .pointer (some ⟨w.heap.size + 2, 0, none⟩)]] (by rfl) rfl rfl (by simp only [List.map_toArray, List.map_cons, List.map_nil]; rfl) ?_
  refine (HDO.out _ _ _ _ hdW hblW hh0 hh1 hh2).mono ?_
  rintro e w' ⟨rfl, hR⟩
  refine ⟨_, rfl, hK.out _ _ ?_⟩
  clear hK K
  refine norm_ (a' := ?_) ?_ ?_
  rotate_left
  · (show Act.put _ (some 14) _ = _; simp only [Act.put, List.setIfInBounds_toArray, List.set_cons_zero, List.set_cons_succ]; rfl)
  refine pure_ (i := 8) (N := (some 6)) (v := ?_) (a' := ?_) #[true, true, true, true, true, true, true, true, true] rfl rfl (by kernel_rfl) (fun _ _ _ h => h) (Or.inl ⟨by rfl, ?_⟩) ?_ ?_
  rotate_left
  · (intro w'; go_simp; with_reducible rfl)
  rotate_left
  · (simp only [Act.put, List.setIfInBounds_toArray, List.set_cons_zero, List.set_cons_succ]; rfl)
  refine done_ (by kernel_rfl) ?_
  go_wp2_with fail
  go_ret
  exact ⟨rfl, hR⟩

theorem write_bel {B : Nat} {w : World} {g : Nat} {D : St} (hD : DiskAt B w g D) (n : Int) (b : List Int) (hb : okB b) (hq : D.queue.length ≤ 1000000000) (hw : D.work ≤ 1000000000) :
    Calls Try.prog 9 #[.pointer (some ⟨g, 0, none⟩), .int .i64 n, .agg (bc b).toArray] w fun r w' => r = .returned (.int .i64 (write D n b).2) ∧ Bel B w w' ∧ DiskAt B w' g (write D n b).1 := by
  obtain ⟨lb, lc, qv, m, hd⟩ := hD
  have hs := hd.size
  by_cases hg : D.gone = true
  · have hr : write D n b = (D, 9) := by simp [write, hg]
    have he : blk D n (powered D) = 9 := by simp [blk, powered, hg]
    rw [hr]
    refine write_core hd n b 9 (fun w' => Bel B w w' ∧ DiskAt B w' g D) (fun w1 k0 k1 k2 h1 hbl _ _ _ => ?_)
    rw [he]
    exact (do_stop w1 g 9 _ rfl).mono fun e w' ⟨h, h'⟩ => ⟨h, h' ▸ Bel.of_below hbl hs, h' ▸ ⟨_, _, _, _, h1⟩⟩
  · by_cases hn : inR D n = true
    · have he : blk D n (powered D) = 0 := by simp [blk, powered, hg, hn]
      cases ht : (tick D).2
      · have hr : write D n b = ((tick D).1, 9) := by simp [write, hg, hn, ht]
        rw [hr]
        refine write_core hd n b 9 (fun w' => Bel B w w' ∧ DiskAt B w' g (tick D).1) (fun w1 k0 k1 k2 h1 hbl _ _ _ => ?_)
        rw [he]
        exact (do_dark h1 ht _).mono fun e w' ⟨h, hgr, h'⟩ => ⟨h, (Bel.of_below hbl hs).grown hgr h1.size (fun k hk => by simp at hk; have := h1.hB; omega) (fun k hk => by injection hk with hk; subst hk; exact nint_cells h1.hg (by decide)), _, _, _, _, h'⟩
      · have hr : write D n b = (addQ (tick D).1 n b, 0) := by simp [write, hg, hn, ht]
        rw [hr]
        refine write_core hd n b 0 (fun w' => Bel B w w' ∧ DiskAt B w' g (addQ (tick D).1 n b)) (fun w1 k0 k1 k2 h1 hbl e0 e1 e2 => ?_)
        rw [he]
        refine do_go h1 ht hw _ _ (fun args W => enters_ Try.func23 (by kernel_rfl) rfl args W) _ (fun w2 hgr h2 => ?_)
        have e0' := (hgr.block k0 (lt_of_heap e0) (by simp; exact ne_of_cells e0 h1.hg (by decide))).trans e0
        have e1' := (hgr.block k1 (lt_of_heap e1) (by simp; exact ne_of_cells e1 h1.hg (by decide))).trans e1
        have e2' := (hgr.block k2 (lt_of_heap e2) (by simp; exact ne_of_cells e2 h1.hg (by decide))).trans e2
        have hq' : (tick D).1.queue.length ≤ 1000000000 := by rw [tick_queue]; exact hq
        have hn' : inR (tick D).1 n = true := by rw [tick_inR]; exact hn
        refine (write1_any h2 n b hb hq' hn' k0 k1 k2 e0' e1' e2').mono ?_
        rintro e w' ⟨rfl, hb', hd'⟩
        have h12 : Bel B w1 w2 := (Bel.refl B w1).grown hgr h1.size (fun k hk => by simp at hk; have := h1.hB; omega) (fun k hk => by injection hk with hk; subst hk; exact nint_cells h1.hg (by decide))
        exact ⟨rfl, ((Bel.of_below hbl hs).trans h12).trans hb', hd'⟩
    · have hr : write D n b = (D, 2) := by simp [write, hg, hn]
      have he : blk D n (powered D) = 2 := by simp [blk, powered, hg, hn]
      rw [hr]
      refine write_core hd n b 2 (fun w' => Bel B w w' ∧ DiskAt B w' g D) (fun w1 k0 k1 k2 h1 hbl _ _ _ => ?_)
      rw [he]
      exact (do_stop w1 g 2 _ rfl).mono fun e w' ⟨h, h'⟩ => ⟨h, h' ▸ Bel.of_below hbl hs, h' ▸ ⟨_, _, _, _, h1⟩⟩
theorem write_any {B : Nat} {w : World} {g : Nat} {D : St} (hD : DiskAt B w g D) (n : Int) (b : List Int) (hb : okB b) (hq : D.queue.length ≤ 1000000000) (hw : D.work ≤ 1000000000) :
    Calls Try.prog 9 #[.pointer (some ⟨g, 0, none⟩), .int .i64 n, .agg (bc b).toArray] w fun r w' => r = .returned (.int .i64 (write D n b).2) ∧ Below B w w' ∧ DiskAt B w' g (write D n b).1 :=
  (write_bel hD n b hb hq hw).mono fun r w' ⟨h1, h2, h3⟩ => ⟨h1, h2.below, h3⟩
end Go.Proofs.Ytlngflonolhdhaa

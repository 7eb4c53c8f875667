/- The disk's Write, walked: what the closure does. -/
import Derived.Test.YtlngflonolhdhaaDk9
import Derived.Deep.RegionHeld3
import Derived.Test.YtlngflonolhdhaaWLast
import Derived.Deep.AppendLies
import Derived.Deep.DrawnRows
set_option linter.unusedVariables false
set_option linter.unusedSimpArgs false
namespace Go.Proofs.Ytlngflonolhdhaa
open Go.RowKit Go.Proofs.YtlngflonolhdhaaW.PrintLast
attribute [local go_sem ↓] Go.wp_at_zero Go.wp_at_succ

theorem info_waits : (Try.prog.info? 54).map (fun i => (i.zero, i.size, i.bytes)) = some (some (.agg (wc (0, zb)).toArray), 65, 72) := by kernel_rfl

set_option maxRecDepth 100000 in
set_option maxHeartbeats 1600000 in
theorem write1_any {B : Nat} {w : World} {g : Nat} {D : St} {lb lc : Nat} {qv : Value} {m : Nat} (hd : DAt B w g D lb lc qv m) (n : Int) (b : List Int) (hb : okB b) (hq : D.queue.length ≤ 1000000000) (hn : inR D n = true) (k0 k1 k2 : Nat)
    (h0 : w.heap[k0]? = some (.cells #[.pointer (some ⟨g, 0, none⟩)] 24 (0, 0))) (h1 : w.heap[k1]? = some (.cells #[.int .i64 n] 3 (0, 0))) (h2 : w.heap[k2]? = some (.cells (bc b).toArray 23 (0, 0))) :
    Calls Try.prog 23 #[.pointer (some ⟨k0, 0, none⟩), .pointer (some ⟨k1, 0, none⟩), .pointer (some ⟨k2, 0, none⟩)] w fun r w' => r = .returned (.tuple #[]) ∧ Bel B w w' ∧ DiskAt B w' g (addQ D n b) := by
  obtain ⟨i0, hi0, hz0, hz1, hz2⟩ := info_parts info_waits
  have hdW : DAt B w.drew g D lb lc qv m := hd.keep (fun _ _ _ => rfl) (Nat.le_refl _)
  have hbl : Bel B w w.drew := (Bel.refl B w).drew
  replace h0 : w.drew.heap[k0]? = some (.cells #[.pointer (some ⟨g, 0, none⟩)] 24 (0, 0)) := h0
  replace h1 : w.drew.heap[k1]? = some (.cells #[.int .i64 n] 3 (0, 0)) := h1
  replace h2 : w.drew.heap[k2]? = some (.cells (bc b).toArray 23 (0, 0)) := h2
  have hu := Try.underlying23
  have hi := size_block b hb.1
  have hbw := fun W => build_waits W n b hb.1
  have HD := Lib.hid hdW; clear hdW
  have H0 := Lib.hid h0; clear h0
  have H1 := Lib.hid h1; clear h1
  have H2 := Lib.hid h2; clear h2
  clear hd
  go_enter Try.func23, Try.ntmps23
  go_wp2_with fail
  have e0 : w.drew.cell? ⟨k0, 0, none⟩ = some (.pointer (some ⟨g, 0, none⟩)) := by rw [cell_of_row _ k0 0 _ _ _ H0.out]; rfl
  have e1 : w.drew.cell? ⟨k1, 0, none⟩ = some (.int .i64 n) := by rw [cell_of_row _ k1 0 _ _ _ H1.out]; rfl
  have e2 : w.drew.rangeAt k2 0 (bc b) := by
    intro j v hv
    rw [cell_of_row _ _ _ _ _ _ H2.out]; simpa using hv
  refine start_ (n := 13) (S := (fun w' => w'.cell? ⟨k0, 0, none⟩ = some (.pointer (some ⟨g, 0, none⟩)) ∧ w'.cell? ⟨g, 1, none⟩ = some qv ∧ w'.cell? ⟨k1, 0, none⟩ = some (.int .i64 n) ∧ w'.rangeAt k2 0 (bc b))) (ds := [12]) #[false, false, false, false, false, false, false, false, false, false, false, false, false] (by kernel_rfl) rfl rfl ⟨e0, HD.out.c1, e1, e2⟩ (fun hHeld => ?_)
  refine take_ (i := 0) (N := (some 3)) (v := ?_) (a' := ?_) #[true, false, false, false, false, false, false, false, false, false, false, false, false] rfl rfl (by kernel_rfl) (fun _ _ _ h => h) (Or.inl ⟨by rfl, ?_⟩) hHeld ?_ ?_
  rotate_left
  · (rintro w' hSw; (try dsimp only at hSw); go_split_ands; go_simp; with_reducible rfl)
  rotate_left
  · (simp only [Act.put, List.setIfInBounds_toArray, List.set_cons_zero, List.set_cons_succ]; rfl)
  refine take_ (i := 1) (N := (some 4)) (v := ?_) (a' := ?_) #[true, true, false, false, false, false, false, false, false, false, false, false, false] rfl rfl (by kernel_rfl) (fun _ _ _ h => h) (Or.inl ⟨by rfl, ?_⟩) hHeld ?_ ?_
  rotate_left
  · (rintro w' hSw; (try dsimp only at hSw); go_split_ands; go_simp; with_reducible rfl)
  rotate_left
  · (simp only [Act.put, List.setIfInBounds_toArray, List.set_cons_zero, List.set_cons_succ]; rfl)
  refine pure_ (i := 2) (N := (some 5)) (v := ?_) (a' := ?_) #[true, true, true, false, false, false, false, false, false, false, false, false, false] rfl rfl (by kernel_rfl) (fun _ _ _ h => h) (Or.inl ⟨by rfl, ?_⟩) ?_ ?_
  rotate_left
  · (intro w'; go_simp; with_reducible rfl)
  rotate_left
  · (simp only [Act.put, List.setIfInBounds_toArray, List.set_cons_zero, List.set_cons_succ]; rfl)
  refine pure_ (i := 3) (N := (some 6)) (v := ?_) (a' := ?_) #[true, true, true, true, false, false, false, false, false, false, false, false, false] rfl rfl (by kernel_rfl) (fun _ _ _ h => h) (Or.inl ⟨by rfl, ?_⟩) ?_ ?_
  rotate_left
  · (intro w'; go_simp; with_reducible rfl)
  rotate_left
  · (simp only [Act.put, List.setIfInBounds_toArray, List.set_cons_zero, List.set_cons_succ]; rfl)
  refine take_ (i := 4) (N := (some 7)) (v := ?_) (a' := ?_) #[true, true, true, true, true, false, false, false, false, false, false, false, false] rfl rfl (by kernel_rfl) (fun _ _ _ h => h) (Or.inl ⟨by rfl, ?_⟩) hHeld ?_ ?_
  rotate_left
  · (rintro w' hSw; (try dsimp only at hSw); go_split_ands; go_simp; with_reducible rfl)
  rotate_left
  · (simp only [Act.put, List.setIfInBounds_toArray, List.set_cons_zero, List.set_cons_succ]; rfl)
  refine take_ (i := 5) (N := (some 8)) (v := ?_) (a' := ?_) #[true, true, true, true, true, true, false, false, false, false, false, false, false] rfl rfl (by kernel_rfl) (fun _ _ _ h => h) (Or.inl ⟨by rfl, ?_⟩) hHeld ?_ ?_
  rotate_left
  · (rintro w' hSw; (try dsimp only at hSw); go_split_ands; go_simp; with_reducible rfl)
  rotate_left
  · (simp only [Act.put, List.setIfInBounds_toArray, List.set_cons_zero, List.set_cons_succ]; rfl)
  refine take_ (i := 6) (N := (some 9)) (v := _) (a' := ?_) #[true, true, true, true, true, true, true, false, false, false, false, false, false] rfl rfl (by kernel_rfl) (fun _ _ _ h => h) (yieldsIf_load_mid (by rfl) 23 (.tmp 2) rfl k2 0 rfl (bc b) _ (fun w' h => h.2.2.2) hu rfl hi) hHeld ?_ ?_
  rotate_left
  · (simp only [Act.put, List.setIfInBounds_toArray, List.set_cons_zero, List.set_cons_succ]; rfl)
  refine pure_ (i := 7) (N := (some 10)) (v := _) (a' := ?_) #[true, true, true, true, true, true, true, true, false, false, false, false, false] rfl rfl (by kernel_rfl) (fun _ _ _ h => h) (yields_build (by rfl) 54 _ (by rfl) #[(0, .int .i64 n), (1, .agg (bc b).toArray)] (by simp only [List.map_toArray, List.map_cons, List.map_nil]; rfl) _ hbw) ?_ ?_
  rotate_left
  · (simp only [Act.put, List.setIfInBounds_toArray, List.set_cons_zero, List.set_cons_succ]; rfl)
  refine one_ (i := 8) (N := (some 11)) #[true, true, true, true, true, true, true, true, true, false, false, false, false] rfl rfl (by kernel_rfl) (by decide) (fun K hK => ?_)
  generalize w.drew = W at HD hbl H0 H1 H2 e0 e1 e2 hHeld ⊢
  refine value_ (by rfl) rfl (exec_buildSlice _ _ _ (by rfl) #[(0, .agg (wc (n, b)).toArray)] (by simp only [List.map_toArray, List.map_cons, List.map_nil]; rfl) (buildSlice_waits W (n, b) hb.1)) ?_
  have hl0 := lt_of_heap H0.out
  have hl1 := lt_of_heap H1.out
  have hl2 := lt_of_heap H2.out
  have hlg := HD.out.lt
  have hga := World.grownBy_alloc W (.cells (wc (n, b)).toArray 54) none
  refine hK.out _ _ ⟨hga.cell e0 (by simp), hga.cell HD.out.c1 (by simp), hga.cell e1 (by simp), World.rangeAt_alloc e2 _⟩ (fun hHeld => ?_)
  clear hK K
  refine norm_ (a' := ?_) ?_ ?_
  rotate_left
  · (show Act.put _ (some 11) _ = _; simp only [Act.put, List.setIfInBounds_toArray, List.set_cons_zero, List.set_cons_succ]; rfl)
  refine one_ (i := 9) (N := (some 12)) #[true, true, true, true, true, true, true, true, true, true, false, false, false] rfl rfl (by kernel_rfl) (by decide) (fun K hK => ?_)
  have hq0 := HD.out.ne_q H0.out (by decide)
  have hq1 := HD.out.ne_q H1.out (by decide)
  have hq2 := HD.out.ne_q H2.out (by decide)
  have hqg := HD.out.ne_q HD.out.hg (by decide)
  have hqn : D.queue.length + 1 ≤ maxLen := by unfold maxLen; omega
  refine step_append_lies _ (by rfl) (.tmp 7) (.tmp 11) _ (by rfl) B 54 i0 _ 65 72 Try.underlying47 hi0 hz0 hz1 hz2 rfl (by omega) qv D.queue.length (flat wc D.queue) (by rfl) (HD.out.queue.alloc _) ⟨W.heap.size, 0, none⟩ 1 1 (wc (n, b)) (by rfl) (by rw [wc_length, hb.1]) (World.news_of_block (cs := (wc (n, b)).toArray) (t := 54) (fr := (0, 0)) (heap_alloc_new W _)) (wc_one (n, b)) (by omega) hqn (by omega) (by have := HD.out.size; simp; omega) (W.heap.size + 1) (by simp) ?_
  intro gg cap w1 hown1 hgrow hat hlt
  refine hK.out _ _ ⟨hgrow.cell hHeld.1 hq0, hgrow.cell hHeld.2.1 hqg, hgrow.cell hHeld.2.2.1 hq1, fun j v hv => hgrow.cell (hHeld.2.2.2 j v hv) hq2⟩ (fun hHeld => ?_)
  clear hK K
  refine norm_ (a' := ?_) ?_ ?_
  rotate_left
  · (show Act.put _ (some 12) _ = _; simp only [Act.put, List.setIfInBounds_toArray, List.set_cons_zero, List.set_cons_succ]; rfl)
  refine pure_ (i := 10) (N := (some 13)) (v := ?_) (a' := ?_) #[true, true, true, true, true, true, true, true, true, true, true, false, false] rfl rfl (by kernel_rfl) (fun _ _ _ h => h) (Or.inl ⟨by rfl, ?_⟩) ?_ ?_
  rotate_left
  · (intro w'; go_simp; with_reducible rfl)
  rotate_left
  · (simp only [Act.put, List.setIfInBounds_toArray, List.set_cons_zero, List.set_cons_succ]; rfl)
  refine pure_ (i := 11) (N := (some 14)) (v := ?_) (a' := ?_) #[true, true, true, true, true, true, true, true, true, true, true, true, false] rfl rfl (by kernel_rfl) (fun _ _ _ h => h) (Or.inl ⟨by rfl, ?_⟩) ?_ ?_
  rotate_left
  · (intro w'; go_simp; with_reducible rfl)
  rotate_left
  · (simp only [Act.put, List.setIfInBounds_toArray, List.set_cons_zero, List.set_cons_succ]; rfl)
  refine last_ (i := 12) (N := none) #[true, true, true, true, true, true, true, true, true, true, true, true, true] rfl rfl (by kernel_rfl) (by decide) (fun K hK => ?_)
  have hgr1 : W.grownBy w1 qv.ownBlock := grownBy_trans (grownBy_of_none hga) hgrow
  have hg1 : w1.heap[g]? = some (.cells (dc D.laid.length lb lc qv m D.left D.gone D.work) 50 (0, 0)) := (hgr1.block g hlg hqg).trans HD.out.hg
  refine skip_ (by rfl) rfl (exec_store1 47 (.tmp 14) (.tmp 12) (by rfl) ⟨g, 1, none⟩ qv (.slice (some ⟨gg, 0, none⟩) (D.queue.length + 1) cap) (by rfl) (by rfl) (fun _ => by kernel_rfl) rfl rfl rfl hHeld.2.1 (frozen_of_row _ _ _ _ _ hg1)) ?_
  refine hK.out _ _ ?_
  clear hK K
  refine done_ (by kernel_rfl) ?_
  go_wp2_with fail
  have hgs : w1.grownBy (w1.setCell ⟨g, 1, none⟩ (.slice (some ⟨gg, 0, none⟩) (D.queue.length + 1) cap)) (some g) := grownBy_setCell _ _ _ _
  have hg2 : (w1.setCell ⟨g, 1, none⟩ (.slice (some ⟨gg, 0, none⟩) (D.queue.length + 1) cap)).heap[g]? = some (.cells (dc D.laid.length lb lc (.slice (some ⟨gg, 0, none⟩) (D.queue.length + 1) cap) m D.left D.gone D.work) 50 (0, 0)) := by
    rw [heap_setCell_same _ g 1 _ _ _ hg1]; rfl
  generalize w1.setCell ⟨g, 1, none⟩ (.slice (some ⟨gg, 0, none⟩) (D.queue.length + 1) cap) = w2 at hgs hg2 ⊢
  have hne01 : k0 ≠ g := ne_of_cells H0.out HD.out.hg (by decide)
  have hne11 : k1 ≠ g := ne_of_cells H1.out HD.out.hg (by decide)
  have hne21 : k2 ≠ g := ne_of_cells H2.out HD.out.hg (by decide)
  obtain ⟨es, mc, hmb, _⟩ := HD.out.map
  have hmg : m ≠ g := (ne_of_map HD.out.hg hmb).symm
  have hqm := HD.out.ne_q_map hmb
  obtain ⟨cl, hcl, _⟩ := HD.out.lb_form
  have hlg2 : lb ≠ g := ne_of_cells hcl HD.out.hg (by decide)
  have hql := HD.out.ne_q hcl (by decide)
  have hmap1 : MapI w1 m (fun n => (young D.queue n).map fun b => .agg (bc b).toArray) := HD.out.map.grown hgr1 hqm
  have hmap2 := hmap1.grown hgs (by simpa using hmg)
  have hgg : gg ≠ g := by
    rcases hat with h | h
    · intro e; subst e; exact hqg h.symm
    · omega
  have hlaid2 := (HD.out.laid.kept hgr1 (.inr (by simpa [Value.ownBlock] using hql))).kept hgs (.inr (by simpa [Value.ownBlock] using hlg2))
  have hown2 := hown1.kept hgs (.inr (by simpa [Value.ownBlock] using hgg))
  have hgw2 : W.heap.size ≤ w2.heap.size := Nat.le_trans hgr1.size hgs.size
  have hB1 : Bel B w w1 := (hbl.alloc HD.out.size _).grown hgrow (by have := HD.out.size; simp; omega) HD.out.q_base (HD.out.below ((Below.refl _ _).alloc (Nat.le_refl _) _)).q_nint
  have hB2 : Bel B w w2 := hB1.grown hgs (by have := HD.out.size; have := hgr1.size; omega) (fun k hk => by simp at hk; have := HD.out.hB; omega) (fun k hk => by injection hk with hk; subst hk; exact nint_cells hg1 (by decide))
  have f0 : w2.drew.cell? ⟨k0, 0, none⟩ = some (.pointer (some ⟨g, 0, none⟩)) := hgs.cell hHeld.1 (by simpa using hne01)
  have f1 : w2.drew.cell? ⟨k1, 0, none⟩ = some (.int .i64 n) := hgs.cell hHeld.2.2.1 (by simpa using hne11)
  have f2 : w2.drew.rangeAt k2 0 (bc b) := fun j v hv => hgs.cell (hHeld.2.2.2 j v hv) (by simpa using hne21)
  have fm : w2.drew.cell? ⟨g, 2, none⟩ = some (.map (some m)) := by show w2.cell? ⟨g, 2, none⟩ = _; rw [cell_of_row _ g 2 _ _ _ hg2]; rfl
  clear hHeld
  refine start_ (n := 7) (S := (fun w' => w'.cell? ⟨k0, 0, none⟩ = some (.pointer (some ⟨g, 0, none⟩)) ∧ w'.cell? ⟨g, 2, none⟩ = some (.map (some m)) ∧ w'.cell? ⟨k1, 0, none⟩ = some (.int .i64 n) ∧ w'.rangeAt k2 0 (bc b))) (ds := [6]) #[false, false, false, false, false, false, false] (by kernel_rfl) rfl rfl ⟨f0, fm, f1, f2⟩ (fun hHeld => ?_)
  refine take_ (i := 0) (N := (some 15)) (v := ?_) (a' := ?_) #[true, false, false, false, false, false, false] rfl rfl (by kernel_rfl) (fun _ _ _ h => h) (Or.inl ⟨by rfl, ?_⟩) hHeld ?_ ?_
  rotate_left
  · (rintro w' hSw; (try dsimp only at hSw); go_split_ands; go_simp; with_reducible rfl)
  rotate_left
  · (simp only [Act.put, List.setIfInBounds_toArray, List.set_cons_zero, List.set_cons_succ]; rfl)
  refine pure_ (i := 1) (N := (some 16)) (v := ?_) (a' := ?_) #[true, true, false, false, false, false, false] rfl rfl (by kernel_rfl) (fun _ _ _ h => h) (Or.inl ⟨by rfl, ?_⟩) ?_ ?_
  rotate_left
  · (intro w'; go_simp; with_reducible rfl)
  rotate_left
  · (simp only [Act.put, List.setIfInBounds_toArray, List.set_cons_zero, List.set_cons_succ]; rfl)
  refine pure_ (i := 2) (N := (some 17)) (v := ?_) (a' := ?_) #[true, true, true, false, false, false, false] rfl rfl (by kernel_rfl) (fun _ _ _ h => h) (Or.inl ⟨by rfl, ?_⟩) ?_ ?_
  rotate_left
  · (intro w'; go_simp; with_reducible rfl)
  rotate_left
  · (simp only [Act.put, List.setIfInBounds_toArray, List.set_cons_zero, List.set_cons_succ]; rfl)
  refine take_ (i := 3) (N := (some 18)) (v := ?_) (a' := ?_) #[true, true, true, true, false, false, false] rfl rfl (by kernel_rfl) (fun _ _ _ h => h) (Or.inl ⟨by rfl, ?_⟩) hHeld ?_ ?_
  rotate_left
  · (rintro w' hSw; (try dsimp only at hSw); go_split_ands; go_simp; with_reducible rfl)
  rotate_left
  · (simp only [Act.put, List.setIfInBounds_toArray, List.set_cons_zero, List.set_cons_succ]; rfl)
  refine take_ (i := 4) (N := (some 19)) (v := ?_) (a' := ?_) #[true, true, true, true, true, false, false] rfl rfl (by kernel_rfl) (fun _ _ _ h => h) (Or.inl ⟨by rfl, ?_⟩) hHeld ?_ ?_
  rotate_left
  · (rintro w' hSw; (try dsimp only at hSw); go_split_ands; go_simp; with_reducible rfl)
  rotate_left
  · (simp only [Act.put, List.setIfInBounds_toArray, List.set_cons_zero, List.set_cons_succ]; rfl)
  refine take_ (i := 5) (N := (some 20)) (v := _) (a' := ?_) #[true, true, true, true, true, true, false] rfl rfl (by kernel_rfl) (fun _ _ _ h => h) (yieldsIf_load_mid (by rfl) 23 (.tmp 2) rfl k2 0 rfl (bc b) _ (fun w' h => h.2.2.2) hu rfl hi) hHeld ?_ ?_
  rotate_left
  · (simp only [Act.put, List.setIfInBounds_toArray, List.set_cons_zero, List.set_cons_succ]; rfl)
  refine last_ (i := 6) (N := none) #[true, true, true, true, true, true, true] rfl rfl (by kernel_rfl) (by decide) (fun K hK => ?_)
  have hmapd : MapI w2.drew m (fun n => (young D.queue n).map fun b => .agg (bc b).toArray) := hmap2
  obtain ⟨w3, hrun, hmap3, hg3⟩ := hmapd.update (P := Try.prog) Try.underlying48 Try.underlying3 n (.agg (bc b).toArray)
  refine skip_ (by rfl) rfl (exec_mapUpdate 48 (.tmp 18) (.tmp 19) (.tmp 20) (by rfl) (.map (some m)) (.int .i64 n) (.agg (bc b).toArray) (by rfl) (by rfl) (by rfl) hrun) ?_
  refine hK.out _ _ ?_
  clear hK K
  refine done_ (by kernel_rfl) ?_
  go_wp2_with fail
  go_end0
  have hd2 : Bel B w w2.drew := hB2.drew
  have hg2' : w2.drew.heap[g]? = some (.cells (dc D.laid.length lb lc (.slice (some ⟨gg, 0, none⟩) (D.queue.length + 1) cap) m D.left D.gone D.work) 50 (0, 0)) := hg2
  have hlaid2' : w2.drew.ownsRow B 23 64 (.slice (some ⟨lb, 0, none⟩) D.laid.length lc) D.laid.length (flat bc D.laid) := hlaid2
  have hown2' : w2.drew.ownsRow B 54 65 (.slice (some ⟨gg, 0, none⟩) (D.queue.length + 1) cap) (D.queue.length + 1) (flat wc D.queue ++ wc (n, b)) := hown2
  obtain ⟨es2, mc2, hmb2, _⟩ := hmapd
  have hgs2 : W.heap.size ≤ w2.drew.heap.size := hgw2
  refine ⟨rfl, hd2.grown hg3 (by have := HD.out.size; omega) (fun k hk => by simp at hk; have := HD.out.hm; omega) (fun k hk => by injection hk with hk; subst hk; exact nint_map hmb2), lb, lc, .slice (some ⟨gg, 0, none⟩) (D.queue.length + 1) cap, m, ?_⟩
  refine ⟨HD.out.hB, ?_, ?_, ?_, ?_, HD.out.hm, ?_⟩
  · exact (hg3.block g (by omega) (by simpa using hmg.symm)).trans hg2'
  · exact hlaid2'.kept hg3 (.inr (by simp [Value.ownBlock]; intro e; subst e; rw [hcl] at hmb; simp at hmb))
  · have e1 : (addQ D n b).queue.length = D.queue.length + 1 := by simp [addQ]
    have e2 : flat wc (addQ D n b).queue = flat wc D.queue ++ wc (n, b) := by simp [addQ, flat]
    rw [e1, e2]
    refine hown2'.kept hg3 (.inr ?_)
    simp [Value.ownBlock]
    rcases hown2'.2 with ⟨e, _⟩ | ⟨q', c', cur', e, _, h, _⟩
    · simp at e
    · simp at e
      obtain ⟨rfl, _⟩ := e
      exact ne_of_map h hmb2
  · refine hmap3.congr (fun k => ?_)
    simp only [addQ, young_snoc]
    split <;> rfl
  · have hw := HD.out.wf
    refine ⟨hw.one, hw.most, hw.laid, ?_, hw.left, hw.work⟩
    intro x hx
    simp only [addQ, List.mem_append, List.mem_singleton] at hx
    rcases hx with hx | rfl
    · exact hw.queue x hx
    · simp [inR] at hn
      exact ⟨hb, hn.1, hn.2⟩
end Go.Proofs.Ytlngflonolhdhaa

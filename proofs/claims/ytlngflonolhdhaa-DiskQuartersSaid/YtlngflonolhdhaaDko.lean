/- A disk's copy, walked. -/
import Derived.Test.YtlngflonolhdhaaDkn
set_option linter.unusedVariables false
set_option linter.unusedSimpArgs false
namespace Go.Proofs.Ytlngflonolhdhaa
open Go.RowKit Go.Proofs.YtlngflonolhdhaaW.PrintLast

theorem flat_one {α : Type} {enc : α → List Value} (h : ∀ p, ∀ v ∈ enc p, v.oneCell' = true) (ps : List α) : ∀ v ∈ flat enc ps, v.oneCell' = true := by
  intro v hv
  unfold flat at hv
  obtain ⟨p, _, hp⟩ := List.mem_flatMap.1 hv
  exact h p v hp
theorem _root_.Go.World.ownsRow.below {w w' : World} {base : Nat} {e : TypeId} {size : Nat} {v : Value} {n : Nat} {xs : List Value} (h : w.ownsRow base e size v n xs) (hb : Below w.heap.size w w') : w'.ownsRow base e size v n xs := by
  refine ⟨h.1, ?_⟩
  rcases h.2 with hn | ⟨g, cap, cur, rfl, h1, h2, h3⟩
  · exact .inl hn
  · exact .inr ⟨g, cap, cur, rfl, h1, (hb.block g (lt_of_heap h2)).trans h2, h3⟩
theorem own_cells {w : World} {base : Nat} {e : TypeId} {size : Nat} {v : Value} {n : Nat} {xs : List Value} (h : w.ownsRow base e size v n xs) : v.cells = #[v] ∧ v.oneCell' = true := by
  rcases h.2 with ⟨rfl, _⟩ | ⟨g, cap, cur, rfl, _⟩ <;> exact ⟨rfl, rfl⟩
theorem _root_.Go.World.ownsRow.base {w : World} {base b' : Nat} {e : TypeId} {size : Nat} {v : Value} {n : Nat} {xs : List Value} (h : w.ownsRow base e size v n xs) (hb : b' ≤ base) : w.ownsRow b' e size v n xs := by
  refine ⟨h.1, ?_⟩
  rcases h.2 with hn | ⟨g, cap, cur, rfl, h1, h2⟩
  · exact .inl hn
  · exact .inr ⟨g, cap, cur, rfl, by omega, h2⟩
def zd : Array Value := #[.slice none 0 0, .slice none 0 0, .map none, .int .i64 0, .bool false, .int .i64 0]
theorem alloc_disk (W : World) : (Instr.alloc 50 true (.tuple #[])).run Try.prog W = .ok (.pointer (some ⟨W.heap.size, 0, none⟩)) (W.alloc (.cells zd 50)) := by
  kernel_rfl
theorem size_disk (n : Nat) (lb lc : Nat) (qv : Value) (m : Nat) (left : Int) (gone : Bool) (work : Int) : (Try.prog.info? 50).map (·.size) = some (dc n lb lc qv m left gone work).size := by
  show _ = some 6; kernel_rfl

theorem disk_box (w : World) (cs : Array Value) (h : cs.size = 6) :
    (w.alloc (.cells zd 50)).there w.heap.size 0 6 ∧ ((w.alloc (.cells zd 50)).setCells w.heap.size 0 cs.toList).heap[w.heap.size]? = some (.cells cs 50 (0, 0)) ∧
    Below w.heap.size w ((w.alloc (.cells zd 50)).setCells w.heap.size 0 cs.toList) ∧ w.heap.size < ((w.alloc (.cells zd 50)).setCells w.heap.size 0 cs.toList).heap.size := by
  have hz : zd.size = 6 := rfl
  have hh := heap_alloc_new w (.cells zd 50)
  have h2 := setCells_heap _ w.heap.size cs.toList 0 _ _ hh (by rw [hz, Array.length_toList, h]; omega)
  have h3 : (zd.toList.take 0 ++ cs.toList ++ zd.toList.drop (0 + cs.toList.length)).toArray = cs := by
    have : zd.toList.drop (0 + cs.toList.length) = [] := List.drop_of_length_le (by simp [h, hz])
    rw [this]; simp
  rw [h3] at h2
  have hs : (w.alloc (.cells zd 50)).heap.size = w.heap.size + 1 := by simp
  refine ⟨?_, h2, ?_, lt_of_heap h2⟩
  · intro j hj
    rw [cell_of_row _ _ _ _ _ _ hh, frozen_of_row _ _ _ _ _ hh]
    simp; omega
  · exact ((Below.refl _ _).alloc (Nat.le_refl _) _).grown (grownBy_setCells _ _ _ _) (by rw [hs]; omega) (fun k hk => by simp at hk; omega)

set_option maxRecDepth 100000 in
set_option maxHeartbeats 4000000 in
theorem copy_any {B : Nat} {w : World} {g : Nat} {D : St} (hD : DiskAt B w g D) (hq : D.queue.length ≤ 1000000000) :
    Calls Try.prog 17 #[.pointer (some ⟨g, 0, none⟩)] w fun r w' => ∃ g', r = .returned (.pointer (some ⟨g', 0, none⟩)) ∧ Below w.heap.size w w' ∧ DiskAt w.heap.size w' g' D := by
  obtain ⟨lb, lc, qv, m, hd⟩ := hD
  have hlen := hd.wf.one
  have hlen2 := hd.wf.most
  have h0 : ((D.laid.length : Int) == 0) = false := by simp; intro e; rw [e] at hlen; simp at hlen
  have hone : ∀ v ∈ (dc D.laid.length lb lc qv m D.left D.gone D.work).toList, v.oneCell' = true := by
    intro v hv
    have hqv : qv.oneCell' = true := by rcases hd.qv_form with ⟨rfl, _⟩ | ⟨_, _, _, rfl, _⟩ <;> rfl
    simp only [dc, List.mem_cons, List.not_mem_nil, or_false] at hv
    rcases hv with rfl | rfl | rfl | rfl | rfl | rfl <;> first | rfl | exact hqv
  have hrng : w.rangeAt g 0 (dc D.laid.length lb lc qv m D.left D.gone D.work).toList := by
    intro j v hv
    rw [cell_of_row _ _ _ _ _ _ hd.hg, Nat.zero_add]; simpa using hv
  have hi := size_disk D.laid.length lb lc qv m D.left D.gone D.work
  have hdc : (dc D.laid.length lb lc qv m D.left D.gone D.work).size = 6 := rfl
  have hbox := disk_box w (dc D.laid.length lb lc qv m D.left D.gone D.work) rfl
  have HD := Lib.hid hd; clear hd
  have HB := Lib.hid hbox; clear hbox
  have HG := Lib.hid hrng; clear hrng
  have H1 := Lib.hid hone; clear hone
  generalize hdcv : dc D.laid.length lb lc qv m D.left D.gone D.work = cs at HB HG H1 hi hdc
  have hcv := Lib.hid hdcv; clear hdcv
  go_enter Try.func17, Try.ntmps17
  go_wp2_with (first
    | (go_at_call 25; refine (blocks_any HD.out).mono ?_; rintro e w' ⟨rfl, rfl⟩)
    | (refine wpList_load_mid rfl 50 (.tmp 8) rfl g 0 rfl cs.toList _ HG.out Try.underlying50 rfl hi ?_)
    | (refine wpList_alloc_told rfl 50 rfl _ alloc_disk ?_)
    | (refine wpList_store_mid rfl 50 (.tmp 3) (.tmp 9) rfl w.heap.size 0 cs (by rfl) (by rfl) (by rw [hdc]; exact HB.out.1) hi (all_oneCell_toArray H1.out) ?_)
    | fail)
  obtain ⟨-, hWk, hbl, hlt⟩ := HB.out
  clear HB HG H1 hi hdc
  generalize (w.alloc (.cells zd 50)).setCells w.heap.size 0 cs.toList = W at hbl hWk hlt ⊢
  rw [← hcv.out] at hWk
  clear hcv
  have HDw := Lib.hid ((HD.out.below hbl).drew)
  have c0 := HDw.out.c0
  have c1 := HDw.out.c1
  have c2 := HDw.out.c2
  have hdr : W.drew.heap = W.heap := rfl
  rw [← hdr] at hWk hlt
  replace hbl := hbl.drew
  clear hdr
  refine start_ (n := 21) (S := (fun w' => w'.cell? ⟨g, 0, none⟩ = some (.slice (some ⟨lb, 0, none⟩) D.laid.length lc) ∧ w'.cell? ⟨g, 1, none⟩ = some qv ∧ w'.cell? ⟨g, 2, none⟩ = some (.map (some m)))) (ds := [16, 18, 20]) #[false, false, false, false, false, false, false, false, false, false, false, false, false, false, false, false, false, false, false, false, false] (by kernel_rfl) rfl rfl ⟨c0, c1, c2⟩ (fun hHeld => ?_)
  refine pure_ (i := 0) (N := (some 10)) (v := ?_) (a' := ?_) #[true, false, false, false, false, false, false, false, false, false, false, false, false, false, false, false, false, false, false, false, false] rfl rfl (by kernel_rfl) (fun _ _ _ h => h) (Or.inl ⟨by rfl, ?_⟩) ?_ ?_
  rotate_left
  · (intro w'; go_simp; with_reducible rfl)
  rotate_left
  · (simp only [Act.put, List.setIfInBounds_toArray, List.set_cons_zero, List.set_cons_succ]; rfl)
  refine pure_ (i := 1) (N := (some 11)) (v := ?_) (a' := ?_) #[true, true, false, false, false, false, false, false, false, false, false, false, false, false, false, false, false, false, false, false, false] rfl rfl (by kernel_rfl) (fun _ _ _ h => h) (Or.inl ⟨by rfl, ?_⟩) ?_ ?_
  rotate_left
  · (intro w'; go_simp; with_reducible rfl)
  rotate_left
  · (simp only [Act.put, List.setIfInBounds_toArray, List.set_cons_zero, List.set_cons_succ]; rfl)
  refine pure_ (i := 2) (N := (some 12)) (v := ?_) (a' := ?_) #[true, true, true, false, false, false, false, false, false, false, false, false, false, false, false, false, false, false, false, false, false] rfl rfl (by kernel_rfl) (fun _ _ _ h => h) (Or.inl ⟨by rfl, ?_⟩) ?_ ?_
  rotate_left
  · (intro w'; go_simp; with_reducible rfl)
  rotate_left
  · (simp only [Act.put, List.setIfInBounds_toArray, List.set_cons_zero, List.set_cons_succ]; rfl)
  refine take_ (i := 3) (N := (some 13)) (v := ?_) (a' := ?_) #[true, true, true, true, false, false, false, false, false, false, false, false, false, false, false, false, false, false, false, false, false] rfl rfl (by kernel_rfl) (fun _ _ _ h => h) (Or.inl ⟨by rfl, ?_⟩) hHeld ?_ ?_
  rotate_left
  · (rintro w' hSw; (try dsimp only at hSw); go_split_ands; go_simp; with_reducible rfl)
  rotate_left
  · (simp only [Act.put, List.setIfInBounds_toArray, List.set_cons_zero, List.set_cons_succ]; rfl)
  refine pure_ (i := 5) (N := (some 15)) (v := ?_) (a' := ?_) #[true, true, true, true, false, true, false, false, false, false, false, false, false, false, false, false, false, false, false, false, false] rfl rfl (by kernel_rfl) (fun _ _ _ h => h) (Or.inl ⟨by rfl, ?_⟩) ?_ ?_
  rotate_left
  · (intro w'; go_simp; with_reducible rfl)
  rotate_left
  · (simp only [Act.put, List.setIfInBounds_toArray, List.set_cons_zero, List.set_cons_succ]; rfl)
  refine pure_ (i := 6) (N := (some 16)) (v := ?_) (a' := ?_) #[true, true, true, true, false, true, true, false, false, false, false, false, false, false, false, false, false, false, false, false, false] rfl rfl (by kernel_rfl) (fun _ _ _ h => h) (Or.inl ⟨by rfl, ?_⟩) ?_ ?_
  rotate_left
  · (intro w'; go_simp; with_reducible rfl)
  rotate_left
  · (simp only [Act.put, List.setIfInBounds_toArray, List.set_cons_zero, List.set_cons_succ]; rfl)
  refine pure_ (i := 7) (N := (some 17)) (v := ?_) (a' := ?_) #[true, true, true, true, false, true, true, true, false, false, false, false, false, false, false, false, false, false, false, false, false] rfl rfl (by kernel_rfl) (fun _ _ _ h => h) (Or.inl ⟨by rfl, ?_⟩) ?_ ?_
  rotate_left
  · (intro w'; go_simp; with_reducible rfl)
  rotate_left
  · (simp only [Act.put, List.setIfInBounds_toArray, List.set_cons_zero, List.set_cons_succ]; rfl)
  refine take_ (i := 8) (N := (some 18)) (v := ?_) (a' := ?_) #[true, true, true, true, false, true, true, true, true, false, false, false, false, false, false, false, false, false, false, false, false] rfl rfl (by kernel_rfl) (fun _ _ _ h => h) (Or.inl ⟨by rfl, ?_⟩) hHeld ?_ ?_
  rotate_left
  · (rintro w' hSw; (try dsimp only at hSw); go_split_ands; go_simp; with_reducible rfl)
  rotate_left
  · (simp only [Act.put, List.setIfInBounds_toArray, List.set_cons_zero, List.set_cons_succ]; rfl)
  refine pure_ (i := 10) (N := (some 20)) (v := ?_) (a' := ?_) #[true, true, true, true, false, true, true, true, true, false, true, false, false, false, false, false, false, false, false, false, false] rfl rfl (by kernel_rfl) (fun _ _ _ h => h) (Or.inl ⟨by rfl, ?_⟩) ?_ ?_
  rotate_left
  · (intro w'; go_simp; with_reducible rfl)
  rotate_left
  · (simp only [Act.put, List.setIfInBounds_toArray, List.set_cons_zero, List.set_cons_succ]; rfl)
  refine pure_ (i := 11) (N := (some 21)) (v := ?_) (a' := ?_) #[true, true, true, true, false, true, true, true, true, false, true, true, false, false, false, false, false, false, false, false, false] rfl rfl (by kernel_rfl) (fun _ _ _ h => h) (Or.inl ⟨by rfl, ?_⟩) ?_ ?_
  rotate_left
  · (intro w'; go_simp; with_reducible rfl)
  rotate_left
  · (simp only [Act.put, List.setIfInBounds_toArray, List.set_cons_zero, List.set_cons_succ]; rfl)
  refine pure_ (i := 12) (N := (some 22)) (v := ?_) (a' := ?_) #[true, true, true, true, false, true, true, true, true, false, true, true, true, false, false, false, false, false, false, false, false] rfl rfl (by kernel_rfl) (fun _ _ _ h => h) (Or.inl ⟨by rfl, ?_⟩) ?_ ?_
  rotate_left
  · (intro w'; go_simp; with_reducible rfl)
  rotate_left
  · (simp only [Act.put, List.setIfInBounds_toArray, List.set_cons_zero, List.set_cons_succ]; rfl)
  refine take_ (i := 13) (N := (some 23)) (v := ?_) (a' := ?_) #[true, true, true, true, false, true, true, true, true, false, true, true, true, true, false, false, false, false, false, false, false] rfl rfl (by kernel_rfl) (fun _ _ _ h => h) (Or.inl ⟨by rfl, ?_⟩) hHeld ?_ ?_
  rotate_left
  · (rintro w' hSw; (try dsimp only at hSw); go_split_ands; go_simp; with_reducible rfl)
  rotate_left
  · (simp only [Act.put, List.setIfInBounds_toArray, List.set_cons_zero, List.set_cons_succ]; rfl)
  refine one_ (i := 4) (N := (some 14)) #[true, true, true, true, true, true, true, true, true, false, true, true, true, true, false, false, false, false, false, false, false] rfl rfl (by kernel_rfl) (by decide) (fun K hK => ?_)
  generalize W.drew = W at HDw hbl hWk hlt hHeld c0 c1 c2 ⊢
  refine goes_ Try.func26 (by kernel_rfl) rfl #[.slice (some ⟨lb, 0, none⟩) D.laid.length lc] (by rfl) rfl rfl (by simp only [List.map_toArray, List.map_cons, List.map_nil]; rfl) ?_
  refine (clone_blocks HDw.out.laid (flat_one bc_one _) (by omega)).mono ?_
  rintro e w1 ⟨v1, rfl, hb1, ho1, hn1⟩
  have hlg := HDw.out.lt
  refine ⟨_, rfl, hK.out _ _ ⟨(hb1.cell hlg).trans c0, (hb1.cell hlg).trans c1, (hb1.cell hlg).trans c2⟩ (fun hHeld => ?_)⟩
  clear hK K
  have HD1 := Lib.hid (HDw.out.below hb1)
  have hbl1 := hbl.trans (hb1.mono (Nat.le_of_lt hlt))
  have hWk1 := (hb1.block _ hlt).trans hWk
  have hlt1 : w.heap.size < w1.heap.size := by have := hb1.size; omega
  have HO1 := Lib.hid ho1
  clear HDw hbl hWk c0 c1 c2 ho1
  refine norm_ (a' := ?_) ?_ ?_
  rotate_left
  · (show Act.put _ (some 14) _ = _; simp only [Act.put, List.setIfInBounds_toArray, List.set_cons_zero, List.set_cons_succ]; rfl)
  refine one_ (i := 9) (N := (some 19)) #[true, true, true, true, true, true, true, true, true, true, true, true, true, true, false, false, false, false, false, false, false] rfl rfl (by kernel_rfl) (by decide) (fun K hK => ?_)
  refine goes_ Try.func27 (by kernel_rfl) rfl #[qv] (by rfl) rfl rfl (by simp only [List.map_toArray, List.map_cons, List.map_nil]; rfl) ?_
  refine (clone_waits HD1.out.queue (flat_one wc_one _) hq).mono ?_
  rintro e w2 ⟨v2, rfl, hb2, ho2, hn2⟩
  have hlg := HD1.out.lt
  refine ⟨_, rfl, hK.out _ _ ⟨(hb2.cell hlg).trans hHeld.1, (hb2.cell hlg).trans hHeld.2.1, (hb2.cell hlg).trans hHeld.2.2⟩ (fun hHeld => ?_)⟩
  clear hK K
  have HD2 := Lib.hid (HD1.out.below hb2)
  have hbl2 := hbl1.trans (hb2.mono (Nat.le_of_lt hlt1))
  have hWk2 := (hb2.block _ hlt1).trans hWk1
  have hlt2 : w.heap.size < w2.heap.size := by have := hb2.size; omega
  have HO2 := Lib.hid ho2
  replace HO1 := Lib.hid (HO1.out.below hb2)
  clear HD1 hbl1 hWk1 ho2
  refine norm_ (a' := ?_) ?_ ?_
  rotate_left
  · (show Act.put _ (some 19) _ = _; simp only [Act.put, List.setIfInBounds_toArray, List.set_cons_zero, List.set_cons_succ]; rfl)
  refine one_ (i := 14) (N := (some 24)) #[true, true, true, true, true, true, true, true, true, true, true, true, true, true, true, false, false, false, false, false, false] rfl rfl (by kernel_rfl) (by decide) (fun K hK => ?_)
  refine goes_ Try.func28 (by kernel_rfl) rfl #[.map (some m)] (by rfl) rfl rfl (by simp only [List.map_toArray, List.map_cons, List.map_nil]; rfl) ?_
  refine (clone_map HD2.out.map).mono ?_
  rintro e w3 ⟨m3, rfl, hb3, hm3, hl3⟩
  have hlg := HD2.out.lt
  refine ⟨_, rfl, hK.out _ _ ⟨(hb3.cell hlg).trans hHeld.1, (hb3.cell hlg).trans hHeld.2.1, (hb3.cell hlg).trans hHeld.2.2⟩ (fun hHeld => ?_)⟩
  clear hK K
  have HD3 := Lib.hid (HD2.out.below hb3)
  have hbl3 := hbl2.trans (hb3.mono (Nat.le_of_lt hlt2))
  have hWk3 := (hb3.block _ hlt2).trans hWk2
  have hlt3 : w.heap.size < w3.heap.size := by have := hb3.size; omega
  have HM3 := Lib.hid hm3
  replace HO1 := Lib.hid (HO1.out.below hb3)
  replace HO2 := Lib.hid (HO2.out.below hb3)
  clear HD2 hbl2 hWk2 hm3
  refine norm_ (a' := ?_) ?_ ?_
  rotate_left
  · (show Act.put _ (some 24) _ = _; simp only [Act.put, List.setIfInBounds_toArray, List.set_cons_zero, List.set_cons_succ]; rfl)
  refine pure_ (i := 15) (N := (some 25)) (v := ?_) (a' := ?_) #[true, true, true, true, true, true, true, true, true, true, true, true, true, true, true, true, false, false, false, false, false] rfl rfl (by kernel_rfl) (fun _ _ _ h => h) (Or.inl ⟨by rfl, ?_⟩) ?_ ?_
  rotate_left
  · (intro w'; go_simp; with_reducible rfl)
  rotate_left
  · (simp only [Act.put, List.setIfInBounds_toArray, List.set_cons_zero, List.set_cons_succ]; rfl)
  refine last_ (i := 16) (N := none) #[true, true, true, true, true, true, true, true, true, true, true, true, true, true, true, true, true, false, false, false, false] rfl rfl (by kernel_rfl) (by decide) (fun K hK => ?_)
  refine skip_ (by rfl) rfl (exec_store1 46 (.tmp 25) (.tmp 14) (by rfl) ⟨w.heap.size, 0, none⟩ (.slice (some ⟨lb, 0, none⟩) D.laid.length lc) v1 (by rfl) (by rfl) (fun _ => by kernel_rfl) (own_cells HO1.out).1 (own_cells HO1.out).2 rfl (by rw [cell_of_row _ _ 0 _ _ _ hWk3]; rfl) (frozen_of_row _ _ _ _ _ hWk3)) ?_
  refine hK.out _ _ ?_
  clear hK K
  have h4 := heap_setCell_same _ _ 0 _ _ v1 hWk3
  have hg4 : w3.grownBy (w3.setCell ⟨w.heap.size, 0, none⟩ v1) (some w.heap.size) := grownBy_setCell _ _ _ _
  generalize w3.setCell ⟨w.heap.size, 0, none⟩ v1 = w4 at h4 hg4 ⊢
  refine pure_ (i := 17) (N := (some 26)) (v := ?_) (a' := ?_) #[true, true, true, true, true, true, true, true, true, true, true, true, true, true, true, true, true, true, false, false, false] rfl rfl (by kernel_rfl) (fun _ _ _ h => h) (Or.inl ⟨by rfl, ?_⟩) ?_ ?_
  rotate_left
  · (intro w'; go_simp; with_reducible rfl)
  rotate_left
  · (simp only [Act.put, List.setIfInBounds_toArray, List.set_cons_zero, List.set_cons_succ]; rfl)
  refine last_ (i := 18) (N := none) #[true, true, true, true, true, true, true, true, true, true, true, true, true, true, true, true, true, true, true, false, false] rfl rfl (by kernel_rfl) (by decide) (fun K hK => ?_)
  refine skip_ (by rfl) rfl (exec_store1 47 (.tmp 26) (.tmp 19) (by rfl) ⟨w.heap.size, 1, none⟩ qv v2 (by rfl) (by rfl) (fun _ => by kernel_rfl) (own_cells HO2.out).1 (own_cells HO2.out).2 rfl (by rw [cell_of_row _ _ 1 _ _ _ h4]; rfl) (frozen_of_row _ _ _ _ _ h4)) ?_
  refine hK.out _ _ ?_
  clear hK K
  have h5 := heap_setCell_same _ _ 1 _ _ v2 h4
  have hg5 := grownBy_trans hg4 (grownBy_setCell w4 w.heap.size 1 v2)
  generalize w4.setCell ⟨w.heap.size, 1, none⟩ v2 = w5 at h5 hg5 ⊢
  refine pure_ (i := 19) (N := (some 27)) (v := ?_) (a' := ?_) #[true, true, true, true, true, true, true, true, true, true, true, true, true, true, true, true, true, true, true, true, false] rfl rfl (by kernel_rfl) (fun _ _ _ h => h) (Or.inl ⟨by rfl, ?_⟩) ?_ ?_
  rotate_left
  · (intro w'; go_simp; with_reducible rfl)
  rotate_left
  · (simp only [Act.put, List.setIfInBounds_toArray, List.set_cons_zero, List.set_cons_succ]; rfl)
  refine last_ (i := 20) (N := none) #[true, true, true, true, true, true, true, true, true, true, true, true, true, true, true, true, true, true, true, true, true] rfl rfl (by kernel_rfl) (by decide) (fun K hK => ?_)
  refine skip_ (by rfl) rfl (exec_store1 48 (.tmp 27) (.tmp 24) (by rfl) ⟨w.heap.size, 2, none⟩ (.map (some m)) (.map (some m3)) (by rfl) (by rfl) (fun _ => by kernel_rfl) rfl rfl rfl (by rw [cell_of_row _ _ 2 _ _ _ h5]; rfl) (frozen_of_row _ _ _ _ _ h5)) ?_
  refine hK.out _ _ ?_
  clear hK K
  have h6 := heap_setCell_same _ _ 2 _ _ (.map (some m3)) h5
  have hg6 := grownBy_trans hg5 (grownBy_setCell w5 w.heap.size 2 (.map (some m3)))
  generalize w5.setCell ⟨w.heap.size, 2, none⟩ (.map (some m3)) = w6 at h6 hg6 ⊢
  refine done_ (by kernel_rfl) ?_
  go_wp2_with fail
  go_ret
  have hb12 := hb1.size
  have hb23 := hb2.size
  obtain ⟨g1, cap, rfl, hg1, hg1lt⟩ := HO1.out.form (by omega)
  refine ⟨w.heap.size, rfl, hbl3.grown hg6 (by omega) (fun k hk => Nat.le_of_eq (Option.some.inj hk)), g1, cap, v2, m3, Nat.le_refl _, h6, ?_, ?_, HM3.out.grown hg6 (by simp; omega), by omega, HD3.out.wf⟩
  · exact (HO1.out.kept hg6 (.inr (by simp [Value.ownBlock]; omega))).base (by omega)
  · refine (HO2.out.kept hg6 ?_).base (by omega)
    cases hv : v2.ownBlock with
    | none => exact .inl rfl
    | some k => right; have := (HO2.out.lt k hv).1; intro e; have e2 := Option.some.inj e; omega
end Go.Proofs.Ytlngflonolhdhaa

/- fresh: order, and fine, walked. -/
import Derived.Test.YtpnhjckjmpkbfaaFr0
set_option linter.unusedVariables false
set_option linter.unusedSimpArgs false
namespace Go.Proofs.Ytpnhjckjmpkbfaa
open Go.RowKit Go.Proofs.YtpnhjckjmpkbfaaW.PrintLast

def hv (h : Int × Int) : Value := .agg #[.int .u32 h.1, .int .u32 h.2]
theorem exec_buildSlice {P : Program} {op : Oper} {a : Act} {w w1 : World} {v : Value} (t : TypeId) (len : Nat) (parts : Array (Nat × Operand)) (ho : op.op = .buildSlice t len parts) (vals : Array (Nat × Value)) (hp : parts.map (fun x => (x.1, a.eval x.2)) = vals)
    (hrun : (Instr.buildSlice t len vals).run P w = .ok v w1) : (execOp a.eval op).run P w = .ok (.value v) w1 := by
  unfold execOp
  have e : (parts.map fun x => match x with | (i, y) => (i, a.eval y)) = vals := hp
  simp only [ho, e, Sem.run_bind, hrun, Result.andThen_ok, Sem.run_pure]

theorem two_boxes (w : World) (o1 o2 : Obj) : Below w.heap.size w ((w.alloc o1).alloc o2) ∧ ((w.alloc o1).alloc o2).heap[w.heap.size]? = some o1 ∧ ((w.alloc o1).alloc o2).heap[w.heap.size + 1]? = some o2 := by
  have hs : (w.alloc o1).heap.size = w.heap.size + 1 := by simp
  refine ⟨((Below.refl _ _).alloc (Nat.le_refl _) _).alloc (by rw [hs]; omega) _, ?_, ?_⟩
  · exact (Below.heap_alloc _ _ w.heap.size (by rw [hs]; omega)).trans (heap_alloc_new w o1)
  · have := heap_alloc_new (w.alloc o1) o2
    rw [hs] at this; exact this
theorem buildSlice_two (W : World) (x y : Int) : (Instr.buildSlice 65 2 #[(0, .int .i64 x), (1, .int .i64 y)]).run Try.prog W = .ok (.slice (some ⟨W.heap.size, 0, none⟩) 2 2) (W.alloc (.cells #[.int .i64 x, .int .i64 y] 3)) := by
  kernel_rfl

set_option maxRecDepth 100000 in
set_option maxHeartbeats 1000000 in
theorem order_any (w : World) (h k : Int × Int) : Calls Try.prog 16 #[hv h, hv k] w fun r w' => r = .returned (.int .i64 (ord h k)) ∧ Below w.heap.size w w' := by
  obtain ⟨a, b⟩ := h
  obtain ⟨c, d⟩ := k
  unfold hv
  obtain ⟨hb, hh0, hh1⟩ := two_boxes w (.cells #[.int .u32 a, .int .u32 b] 30) (.cells #[.int .u32 c, .int .u32 d] 30)
  go_enter Try.func16, Try.ntmps16
  go_wp2_with fail
  generalize (w.alloc (.cells #[.int .u32 a, .int .u32 b] 30)).alloc (.cells #[.int .u32 c, .int .u32 d] 30) = W0 at hb hh0 hh1 ⊢
  have hdr : W0.drew.heap = W0.heap := rfl
  rw [← hdr] at hh0 hh1
  replace hb := hb.drew
  clear hdr
  have c0 : W0.drew.cell? ⟨w.heap.size, 0, none⟩ = some (.int .u32 a) := by rw [cell_of_row _ _ 0 _ _ _ hh0]; rfl
  have c1 : W0.drew.cell? ⟨w.heap.size, 1, none⟩ = some (.int .u32 b) := by rw [cell_of_row _ _ 1 _ _ _ hh0]; rfl
  have c2 : W0.drew.cell? ⟨w.heap.size + 1, 0, none⟩ = some (.int .u32 c) := by rw [cell_of_row _ _ 0 _ _ _ hh1]; rfl
  have c3 : W0.drew.cell? ⟨w.heap.size + 1, 1, none⟩ = some (.int .u32 d) := by rw [cell_of_row _ _ 1 _ _ _ hh1]; rfl
  have hl0 := lt_of_heap hh0
  have hl1 := lt_of_heap hh1
  refine start_ (n := 13) (S := (fun w' => w'.cell? ⟨w.heap.size, 0, none⟩ = some (.int .u32 a) ∧ w'.cell? ⟨w.heap.size, 1, none⟩ = some (.int .u32 b) ∧ w'.cell? ⟨w.heap.size + 1, 0, none⟩ = some (.int .u32 c) ∧ w'.cell? ⟨w.heap.size + 1, 1, none⟩ = some (.int .u32 d))) (ds := []) #[false, false, false, false, false, false, false, false, false, false, false, false, false] (by kernel_rfl) rfl rfl ⟨c0, c1, c2, c3⟩ (fun hHeld => ?_)
  refine pure_ (i := 0) (N := (some 5)) (v := ?_) (a' := ?_) #[true, false, false, false, false, false, false, false, false, false, false, false, false] rfl rfl (by kernel_rfl) (fun _ _ _ h => h) (Or.inl ⟨by rfl, ?_⟩) ?_ ?_
  rotate_left
  · (intro w'; go_simp; with_reducible rfl)
  rotate_left
  · (simp only [Act.put, List.setIfInBounds_toArray, List.set_cons_zero, List.set_cons_succ]; rfl)
  refine take_ (i := 1) (N := (some 6)) (v := ?_) (a' := ?_) #[true, true, false, false, false, false, false, false, false, false, false, false, false] rfl rfl (by kernel_rfl) (fun _ _ _ h => h) (Or.inl ⟨by rfl, ?_⟩) hHeld ?_ ?_
  rotate_left
  · (rintro w' hSw; (try dsimp only at hSw); go_split_ands; go_simp; with_reducible rfl)
  rotate_left
  · (simp only [Act.put, List.setIfInBounds_toArray, List.set_cons_zero, List.set_cons_succ]; rfl)
  refine pure_ (i := 2) (N := (some 7)) (v := ?_) (a' := ?_) #[true, true, true, false, false, false, false, false, false, false, false, false, false] rfl rfl (by kernel_rfl) (fun _ _ _ h => h) (Or.inl ⟨by rfl, ?_⟩) ?_ ?_
  rotate_left
  · (intro w'; go_simp; with_reducible rfl)
  rotate_left
  · (simp only [Act.put, List.setIfInBounds_toArray, List.set_cons_zero, List.set_cons_succ]; rfl)
  refine take_ (i := 3) (N := (some 8)) (v := ?_) (a' := ?_) #[true, true, true, true, false, false, false, false, false, false, false, false, false] rfl rfl (by kernel_rfl) (fun _ _ _ h => h) (Or.inl ⟨by rfl, ?_⟩) hHeld ?_ ?_
  rotate_left
  · (rintro w' hSw; (try dsimp only at hSw); go_split_ands; go_simp; with_reducible rfl)
  rotate_left
  · (simp only [Act.put, List.setIfInBounds_toArray, List.set_cons_zero, List.set_cons_succ]; rfl)
  refine pure_ (i := 5) (N := (some 10)) (v := ?_) (a' := ?_) #[true, true, true, true, false, true, false, false, false, false, false, false, false] rfl rfl (by kernel_rfl) (fun _ _ _ h => h) (Or.inl ⟨by rfl, ?_⟩) ?_ ?_
  rotate_left
  · (intro w'; go_simp; with_reducible rfl)
  rotate_left
  · (simp only [Act.put, List.setIfInBounds_toArray, List.set_cons_zero, List.set_cons_succ]; rfl)
  refine take_ (i := 6) (N := (some 11)) (v := ?_) (a' := ?_) #[true, true, true, true, false, true, true, false, false, false, false, false, false] rfl rfl (by kernel_rfl) (fun _ _ _ h => h) (Or.inl ⟨by rfl, ?_⟩) hHeld ?_ ?_
  rotate_left
  · (rintro w' hSw; (try dsimp only at hSw); go_split_ands; go_simp; with_reducible rfl)
  rotate_left
  · (simp only [Act.put, List.setIfInBounds_toArray, List.set_cons_zero, List.set_cons_succ]; rfl)
  refine pure_ (i := 7) (N := (some 12)) (v := ?_) (a' := ?_) #[true, true, true, true, false, true, true, true, false, false, false, false, false] rfl rfl (by kernel_rfl) (fun _ _ _ h => h) (Or.inl ⟨by rfl, ?_⟩) ?_ ?_
  rotate_left
  · (intro w'; go_simp; with_reducible rfl)
  rotate_left
  · (simp only [Act.put, List.setIfInBounds_toArray, List.set_cons_zero, List.set_cons_succ]; rfl)
  refine take_ (i := 8) (N := (some 13)) (v := ?_) (a' := ?_) #[true, true, true, true, false, true, true, true, true, false, false, false, false] rfl rfl (by kernel_rfl) (fun _ _ _ h => h) (Or.inl ⟨by rfl, ?_⟩) hHeld ?_ ?_
  rotate_left
  · (rintro w' hSw; (try dsimp only at hSw); go_split_ands; go_simp; with_reducible rfl)
  rotate_left
  · (simp only [Act.put, List.setIfInBounds_toArray, List.set_cons_zero, List.set_cons_succ]; rfl)
  refine one_ (i := 4) (N := (some 9)) #[true, true, true, true, true, true, true, true, true, false, false, false, false] rfl rfl (by kernel_rfl) (by decide) (fun K hK => ?_)
  generalize W0.drew = W at hb hl0 hl1 hHeld ⊢
  refine goes_ Try.func26 (by kernel_rfl) rfl #[.int .u32 a, .int .u32 c] (by rfl) rfl rfl (by simp only [List.map_toArray, List.map_cons, List.map_nil]; rfl) ?_
  refine (compare32 _ _ _).mono ?_
  rintro e w' ⟨rfl, rfl⟩
  refine ⟨_, rfl, hK.out _ _ hHeld (fun hHeld => ?_)⟩
  clear hK K
  refine norm_ (a' := ?_) ?_ ?_
  rotate_left
  · (show Act.put _ (some 9) _ = _; simp only [Act.put, List.setIfInBounds_toArray, List.set_cons_zero, List.set_cons_succ]; rfl)
  refine one_ (i := 9) (N := (some 14)) #[true, true, true, true, true, true, true, true, true, true, false, false, false] rfl rfl (by kernel_rfl) (by decide) (fun K hK => ?_)
  refine goes_ Try.func26 (by kernel_rfl) rfl #[.int .u32 b, .int .u32 d] (by rfl) rfl rfl (by simp only [List.map_toArray, List.map_cons, List.map_nil]; rfl) ?_
  refine (compare32 _ _ _).mono ?_
  rintro e w' ⟨rfl, rfl⟩
  refine ⟨_, rfl, hK.out _ _ hHeld (fun hHeld => ?_)⟩
  clear hK K
  refine norm_ (a' := ?_) ?_ ?_
  rotate_left
  · (show Act.put _ (some 14) _ = _; simp only [Act.put, List.setIfInBounds_toArray, List.set_cons_zero, List.set_cons_succ]; rfl)
  refine one_ (i := 10) (N := (some 15)) #[true, true, true, true, true, true, true, true, true, true, true, false, false] rfl rfl (by kernel_rfl) (by decide) (fun K hK => ?_)
  refine value_ (by rfl) rfl (exec_buildSlice _ _ _ (by rfl) #[(0, .int .i64 (cmpI a c)), (1, .int .i64 (cmpI b d))] (by simp only [List.map_toArray, List.map_cons, List.map_nil]; rfl) (buildSlice_two W _ _)) ?_
  have hal : Below W.heap.size W (W.alloc (.cells #[.int .i64 (cmpI a c), .int .i64 (cmpI b d)] 3)) := (Below.refl _ _).alloc (Nat.le_refl _) _
  have hnew := heap_alloc_new W (.cells #[.int .i64 (cmpI a c), .int .i64 (cmpI b d)] 3)
  refine hK.out _ _ ⟨(hal.cell (by exact hl0)).trans hHeld.1, (hal.cell (by exact hl0)).trans hHeld.2.1, (hal.cell (by exact hl1)).trans hHeld.2.2.1, (hal.cell (by exact hl1)).trans hHeld.2.2.2⟩ (fun hHeld => ?_)
  clear hK K
  have hb2 := hb.trans (hal.mono hb.size)
  generalize W.alloc (.cells #[.int .i64 (cmpI a c), .int .i64 (cmpI b d)] 3) = W2 at hHeld hnew hb2 ⊢
  refine norm_ (a' := ?_) ?_ ?_
  rotate_left
  · (show Act.put _ (some 15) _ = _; simp only [Act.put, List.setIfInBounds_toArray, List.set_cons_zero, List.set_cons_succ]; rfl)
  refine one_ (i := 11) (N := (some 16)) #[true, true, true, true, true, true, true, true, true, true, true, true, false] rfl rfl (by kernel_rfl) (by decide) (fun K hK => ?_)
  refine goes_ Try.func25 (by kernel_rfl) rfl #[.slice (some ⟨W.heap.size, 0, none⟩) 2 2] (by rfl) rfl rfl (by simp only [List.map_toArray, List.map_cons, List.map_nil]; rfl) ?_
  have ho := or_any W2 W.heap.size (cmpI a c) (cmpI b d) (by rw [cell_of_row _ _ 0 _ _ _ hnew]; rfl) (by rw [cell_of_row _ _ 1 _ _ _ hnew]; rfl)
  generalize hr : (if cmpI a c ≠ 0 then cmpI a c else cmpI b d) = r at ho
  refine ho.mono ?_
  clear ho
  rintro e w' ⟨rfl, rfl⟩
  refine ⟨_, rfl, hK.out _ _ hHeld (fun hHeld => ?_)⟩
  clear hK K
  refine norm_ (a' := ?_) ?_ ?_
  rotate_left
  · (show Act.put _ (some 16) _ = _; simp only [Act.put, List.setIfInBounds_toArray, List.set_cons_zero, List.set_cons_succ]; rfl)
  refine pure_ (i := 12) (N := (some 4)) (v := ?_) (a' := ?_) #[true, true, true, true, true, true, true, true, true, true, true, true, true] rfl rfl (by kernel_rfl) (fun _ _ _ h => h) (Or.inl ⟨by rfl, ?_⟩) ?_ ?_
  rotate_left
  · (intro w'; go_simp; with_reducible rfl)
  rotate_left
  · (simp only [Act.put, List.setIfInBounds_toArray, List.set_cons_zero, List.set_cons_succ]; rfl)
  refine done_ (by kernel_rfl) ?_
  go_wp2_with fail
  go_ret
  exact ⟨by subst hr; rfl, hb2⟩

/-! ### one thing that is held -/
structure F where
  h : Int × Int
  dir : Bool
  size : Int
  change : Int
  at_ : Int
  span : Int
def fc (f : F) : List Value := [.int .u32 f.h.1, .int .u32 f.h.2, .bool f.dir, .int .u32 f.size, .int .u64 f.change, .int .u64 f.at_, .int .u64 f.span]
def fine (f : F) : Bool := decide (f.at_ ≤ 1099511627776) && decide (2 ≤ f.span) && decide (f.span ≤ 16)
theorem fine_any (w : World) (f : F) : Calls Try.prog 15 #[.agg (fc f).toArray] w fun r w' => r = .returned (.bool (fine f)) ∧ Below w.heap.size w w' := by
  obtain ⟨⟨a, b⟩, d, s, c, t, p⟩ := f
  unfold fc fine
  dsimp only
  have hb : Below w.heap.size w (w.alloc (.cells #[.int .u32 a, .int .u32 b, .bool d, .int .u32 s, .int .u64 c, .int .u64 t, .int .u64 p] 42)) := (Below.refl _ _).alloc (Nat.le_refl _) _
  by_cases h1 : t ≤ 1099511627776
  · by_cases h2 : 2 ≤ p
    · by_cases h3 : p ≤ 16
      · have e : (decide (t ≤ 1099511627776) && decide (2 ≤ p) && decide (p ≤ 16)) = true := by simp [h1, h2, h3]
        rw [e]
        go_enter Try.func15, Try.ntmps15
        go_wp2_with fail
        go_ret
        exact ⟨rfl, hb⟩
      · have e : (decide (t ≤ 1099511627776) && decide (2 ≤ p) && decide (p ≤ 16)) = false := by simp [h3]
        rw [e]
        go_enter Try.func15, Try.ntmps15
        go_wp2_with fail
        go_ret
        exact ⟨rfl, hb⟩
    · have e : (decide (t ≤ 1099511627776) && decide (2 ≤ p) && decide (p ≤ 16)) = false := by simp [h2]
      rw [e]
      go_enter Try.func15, Try.ntmps15
      go_wp2_with fail
      go_ret
      exact ⟨rfl, hb⟩
  · have e : (decide (t ≤ 1099511627776) && decide (2 ≤ p) && decide (p ≤ 16)) = false := by simp [h1]
    rw [e]
    go_enter Try.func15, Try.ntmps15
    go_wp2_with fail
    go_ret
    exact ⟨rfl, hb⟩
end Go.Proofs.Ytpnhjckjmpkbfaa

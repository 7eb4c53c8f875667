/- What the statements of this layer share: full and lives, walked. -/
import Derived.Test.YtlngflonolhdhaaDkh
set_option linter.unusedVariables false
set_option linter.unusedSimpArgs false
namespace Go.Proofs.Ytlngflonolhdhaa
open Go.RowKit Go.Proofs.YtlngflonolhdhaaW.PrintLast

def fillTo (c : Int) (k : Nat) : List Int := List.replicate k c ++ List.replicate (64 - k) 0
theorem fillTo_length (c : Int) (k : Nat) (h : k ≤ 64) : (fillTo c k).length = 64 := by simp [fillTo]; omega
theorem fillTo_get (c : Int) (k i : Nat) (h : k ≤ 64) : (fillTo c k)[i]? = if i < k then some c else if i < 64 then some 0 else none := by
  simp only [fillTo, List.getElem?_append, List.length_replicate, List.getElem?_replicate]
  by_cases h1 : i < k
  · rw [if_pos h1, if_pos h1, if_pos h1]
  · rw [if_neg h1, if_neg h1]
    by_cases h2 : i < 64
    · rw [if_pos h2, if_pos (by omega)]
    · rw [if_neg h2, if_neg (by omega)]
theorem fillTo_set (c : Int) (k : Nat) (h : k < 64) : (bc (fillTo c k)).set k (.int .u8 c) = bc (fillTo c (k + 1)) := by
  have hl : (bc (fillTo c k)).length = 64 := by rw [bc_length, fillTo_length _ _ (by omega)]
  apply List.ext_getElem?
  intro i
  rw [List.getElem?_set, hl, bc_get, bc_get, fillTo_get _ _ _ (by omega), fillTo_get _ _ _ (by omega)]
  by_cases hi : k = i
  · subst hi; rw [if_pos rfl, if_pos h, if_pos (by omega)]; rfl
  · rw [if_neg hi]
    by_cases h1 : i < k
    · rw [if_pos h1, if_pos (show i < k + 1 by omega)]
    · rw [if_neg h1, if_neg (show ¬ i < k + 1 by omega)]
theorem build_block (c : Int) (W : World) : (Instr.build 23 #[(0, .int .u8 c)]).run Try.prog W = .ok (.agg (bc (fillTo c 1)).toArray) W := by kernel_rfl
/-- A 'build' at a plain list, its run told. -/
theorem wpList_build_told {P : Program} {ops : Array Oper} {rest : List Oper} {o : Oper} {a : Act} {w : World} {Q : Exit → Act → World → Prop} (hg : o.guard = none) (t : TypeId) (parts : Array (Nat × Operand)) (ho : o.op = .build t parts) (vals : Array (Nat × Value)) (hp : parts.map (fun x => (x.1, a.eval x.2)) = vals) (v : Value)
    (hrun : ∀ W : World, (Instr.build t vals).run P W = .ok v W) (h : wpList P ops Q rest (a.put o.dst v) w) : wpList P ops Q (o :: rest) a w :=
  wpList_plain hg fun _ hK => by
    unfold Oper.wp execOp
    have e : (parts.map fun x => match x with | (i, y) => (i, a.eval y)) = vals := hp
    simp only [ho, e, Sem.run_bind, hrun, Result.andThen_ok, Sem.run_pure]
    exact hK _ _ h

set_option maxRecDepth 100000 in
set_option maxHeartbeats 1000000 in
theorem full_any (w : World) (c : Int) :
    Calls Try.prog 24 #[.int .u8 c] w fun r w' => r = .returned (.agg (bc (fillTo c 64)).toArray) ∧ Below w.heap.size w w' := by
  have ha := alloc_block
  have hz : zb.length = 64 := rfl
  generalize zb = z0 at ha hz
  have hb := build_block c
  have hl1 := fillTo_length c 1 (by omega)
  have hi1 := size_block' _ hl1
  have ho1 := bc_all (fillTo c 1)
  generalize hf : fillTo c 1 = f1 at hb hl1 hi1 ho1
  have HF := Lib.hid hf; clear hf
  have hx2 := Box_new w z0 hz
  have hx3 := Box_new (w.alloc (.cells (bc z0).toArray 23)) z0 hz
  have es : (w.alloc (.cells (bc z0).toArray 23)).heap.size = w.heap.size + 1 := by simp
  rw [es] at hx3
  clear es
  have HX3 := Lib.hid hx3; clear hx3
  have HX2 := Lib.hid hx2; clear hx2
  have HB := Lib.hid hb; clear hb
  go_enter Try.func24, Try.ntmps24
  go_wp2_with (first
    | (refine wpList_alloc_told rfl 23 rfl (bc z0).toArray ha ?_; simp only [Act.put, List.setIfInBounds_toArray, List.set_cons_zero, List.set_cons_succ, World.size_alloc])
    | (refine wpList_build_told rfl 23 #[(0, .tmp 5)] rfl #[(0, .int .u8 c)] (by simp only [List.map_toArray, List.map_cons, List.map_nil]; rfl) _ HB.out ?_; simp only [Act.put, List.setIfInBounds_toArray, List.set_cons_zero, List.set_cons_succ])
    | (refine wpList_store_mid rfl 23 (.tmp 3) (.tmp 6) rfl (w.heap.size + 1) 0 (bc f1).toArray (by rfl) (by rfl) (HX3.out.room f1 hl1) hi1 ho1 ?_; simp only [List.toList_toArray])
    | fail)
  have hbl : Below w.heap.size w (((w.alloc (.cells (bc z0).toArray 23)).alloc (.cells (bc z0).toArray 23)).setCells (w.heap.size + 1) 0 (bc f1)) :=
    (((Below.refl _ _).alloc (Nat.le_refl _) _).alloc (by simp) _).grown (grownBy_setCells _ _ _ _) (by simp; omega) (fun k hk => by simp at hk; omega)
  have hg3 : (((w.alloc (.cells (bc z0).toArray 23)).alloc (.cells (bc z0).toArray 23)).setCells (w.heap.size + 1) 0 (bc f1)).heap[w.heap.size + 1]? = some (.cells (bc f1).toArray 23 (0, 0)) := by
    have h0 : ((w.alloc (.cells (bc z0).toArray 23)).alloc (.cells (bc z0).toArray 23)).heap[w.heap.size + 1]? = some (.cells (bc z0).toArray 23 (0, 0)) := by
      have := heap_alloc_new (w.alloc (.cells (bc z0).toArray 23)) (.cells (bc z0).toArray 23)
      rwa [show (w.alloc (.cells (bc z0).toArray 23)).heap.size = w.heap.size + 1 by simp] at this
    rw [setCells_heap _ _ (bc f1) 0 _ _ h0 (by simp [bc_length, hl1, hz])]
    have : (bc z0).drop (bc f1).length = [] := List.drop_of_length_le (by simp [bc_length, hl1, hz])
    simp [this]
  have hx2' : Box (((w.alloc (.cells (bc z0).toArray 23)).alloc (.cells (bc z0).toArray 23)).setCells (w.heap.size + 1) 0 (bc f1)) w.heap.size z0 := by
    have hg := (grownBy_trans (World.grownBy_alloc _ _ _) (grownBy_setCells ((w.alloc (.cells (bc z0).toArray 23)).alloc (.cells (bc z0).toArray 23)) (w.heap.size + 1) (bc f1) 0))
    exact HX2.out.grown hg (by simp)
  generalize (((w.alloc (.cells (bc z0).toArray 23)).alloc (.cells (bc z0).toArray 23)).setCells (w.heap.size + 1) 0 (bc f1)) = W at hbl hg3 hx2' ⊢
  rw [← HF.out] at hg3
  have HG := Lib.hid hg3; clear hg3
  have HXW := Lib.hid hx2'; clear hx2'
  clear ha hi1 ho1
  go_loopw [4] (fun i wr => ∃ k : Nat, 1 ≤ k ∧ k ≤ 64 ∧ i = .int .i64 k ∧ wr.heap[w.heap.size + 1]? = some (.cells (bc (fillTo c k)).toArray 23 (0, 0)) ∧ W.grownBy wr (some (w.heap.size + 1))) (fun i _ => 64 - (intOf i).toNat)
  case atStart => exact ⟨1, by omega, by omega, rfl, HG.out, grownBy_refl _ _⟩
  case round =>
    obtain ⟨k, hk1, hk2, rfl, hg, hgr⟩ := hrel
    have hc0 : wr.cell? ⟨w.heap.size + 1, 0, none⟩ = some (.int .u8 c) := by
      rw [cell_of_row _ _ _ _ _ _ hg]
      simp [bc_get, fillTo_get c k 0 hk2]; omega
    have hf0 : ∀ j, wr.frozen? ⟨w.heap.size + 1, j, none⟩ = false := fun j => frozen_of_row _ _ _ _ _ hg
    by_cases hlt : k < 64
    · obtain ⟨u, hck⟩ : ∃ u, wr.cell? ⟨w.heap.size + 1, k, none⟩ = some u := by
        rw [cell_of_row _ _ _ _ _ _ hg]
        have : k < (bc (fillTo c k)).toArray.size := by rw [List.size_toArray, bc_length, fillTo_length _ _ hk2]; exact hlt
        exact ⟨_, Array.getElem?_eq_getElem this⟩
      have HG' := Lib.hid hg; clear hg
      have HR := Lib.hid hgr; clear hgr
      go_wp2_with fail
      go_roundw
      case rel =>
        refine ⟨k + 1, by omega, by omega, by go_num, ?_, grownBy_trans HR.out (grownBy_setCell _ _ _ _)⟩
        rw [heap_setCell_same _ _ _ _ _ _ HG'.out, ← fillTo_set c k hlt]
        simp
      case measure => simp [intOf]; omega
    · obtain rfl : k = 64 := by omega
      have hl64 := fillTo_length c 64 (by omega)
      have hr : wr.rangeAt (w.heap.size + 1) 0 (bc (fillTo c 64)) := by
        intro j v hv
        rw [cell_of_row _ _ _ _ _ _ hg]; simpa using hv
      have hxr : Box wr w.heap.size z0 := HXW.out.grown hgr (by simp)
      have hBW : Below w.heap.size w wr := hbl.grown hgr hbl.size (fun k hk => by simp at hk; omega)
      generalize hfe : fillTo c 64 = f64 at hl64 hr hg
      have HFE := Lib.hid hfe; clear hfe
      have hi := size_block f64 hl64
      have hi' := size_block' f64 hl64
      have hall := bc_all f64
      have HR := Lib.hid hr; clear hr
      have HXR := Lib.hid hxr; clear hxr
      clear hc0 hg hgr hf0
      go_wp2_with (first
        | (refine wpList_load_mid rfl 23 (.tmp 3) rfl (w.heap.size + 1) 0 rfl (bc f64) _ HR.out Try.underlying23 rfl hi ?_)
        | (refine wpList_store_mid rfl 23 (.tmp 2) (.tmp 15) rfl w.heap.size 0 (bc f64).toArray rfl rfl (HXR.out.room f64 hl64) hi' hall ?_; simp only [List.toList_toArray])
        | fail)
      refine bodyPost_ret (results_block1 rfl _ _ w.heap.size f64 hl64 rfl (HXR.out.set f64 hl64).1) rfl ⟨by rw [HFE.out], ?_⟩
      exact hBW.grown (grownBy_setCells _ _ _ _) hBW.size (fun k hk => by simp at hk; omega)
end Go.Proofs.Ytlngflonolhdhaa

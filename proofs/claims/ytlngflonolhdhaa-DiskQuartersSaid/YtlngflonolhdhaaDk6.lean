/- The disk's New and empty, walked. -/
import Derived.Test.YtlngflonolhdhaaDk5
set_option linter.unusedVariables false
set_option linter.unusedSimpArgs false
namespace Go.Proofs.Ytlngflonolhdhaa
open Go.RowKit

theorem empty_any (w : World) (g : Nat) (a0 a1 a2 a3 a4 a5 : Value) (hg : w.heap[g]? = some (.cells #[a0, a1, a2, a3, a4, a5] 50 (0, 0))) :
    Calls Try.prog 18 #[.pointer (some ⟨g, 0, none⟩)] w fun r w' => r = .returned (.tuple #[]) ∧
      ∃ M, w.heap.size ≤ M ∧ MapI w' M (fun _ => none) ∧ w'.heap[g]? = some (.cells #[a0, .slice none 0 0, .map (some M), a3, a4, a5] 50 (0, 0)) ∧ w.grownBy w' (some g) := by
  have k1 : w.cell? ⟨g, 1, none⟩ = some a1 := by rw [cell_of_row w g 1 _ _ _ hg]; rfl
  have k2 : w.cell? ⟨g, 2, none⟩ = some a2 := by rw [cell_of_row w g 2 _ _ _ hg]; rfl
  have z : ∀ j, w.frozen? ⟨g, j, none⟩ = false := fun j => frozen_of_row w g j _ _ hg
  have hlt := lt_of_heap hg
  have hmm := @run_makeMap Try.prog
  go_enter Try.func18, Try.ntmps18
  go_wp2
  go_end0
  have e1 := heap_setCell_same _ g 1 _ _ (.slice none 0 0) hg
  have e2 := heap_setCell_same _ g 2 _ _ (.map (some w.heap.size)) e1
  have hgr : w.grownBy ((w.setCell ⟨g, 1, none⟩ (.slice none 0 0)).setCell ⟨g, 2, none⟩ (.map (some w.heap.size))) (some g) :=
    grownBy_trans (grownBy_setCell _ g 1 _) (grownBy_setCell _ g 2 _)
  have hs : ((w.setCell ⟨g, 1, none⟩ (.slice none 0 0)).setCell ⟨g, 2, none⟩ (.map (some w.heap.size))).heap.size = w.heap.size := by simp [World.setCell]
  generalize (w.setCell ⟨g, 1, none⟩ (.slice none 0 0)).setCell ⟨g, 2, none⟩ (.map (some w.heap.size)) = W at hgr hs e2
  refine ⟨rfl, w.heap.size, Nat.le_refl _, hs ▸ MapI_made W, (Below.heap_alloc W _ g (by omega)).trans (by rw [e2]; rfl), grownBy_trans hgr (World.grownBy_alloc W _ _)⟩

theorem toList_madeCells_zb (n : Nat) : (madeCells (bc zb).toArray (n * 64)).toList = flat bc (List.replicate n zb) := by
  apply List.ext_getElem?
  intro j
  have hlen : ∀ p ∈ List.replicate n zb, (bc p).length = 64 := fun p hp => by simp at hp; rw [hp.2]; simp [bc, zb]
  by_cases hj : j < n * 64
  · have h1 := flat_get hlen (j / 64) (j % 64) (by omega) zb (by rw [List.getElem?_replicate, if_pos (by omega)])
    rw [show j / 64 * 64 + j % 64 = j from by omega] at h1
    rw [h1]
    simp [madeCells, hj, bc, zb, List.getElem?_replicate]
    simp [Nat.mod_lt]
  · rw [List.getElem?_eq_none (by simp [madeCells]; omega), List.getElem?_eq_none (by rw [flat_length hlen, List.length_replicate]; omega)]

theorem info_block : (Try.prog.info? 23).map (fun i => (i.zero, i.size, i.bytes)) = some (some (.agg (bc zb).toArray), 64, 64) := by kernel_rfl

theorem fresh_wf (n : Nat) (h1 : 64 ≤ n) (h2 : n ≤ 16384) : Wf (fresh n) :=
  ⟨by simp [fresh]; omega, by simp [fresh]; omega, by intro b hb; simp [fresh] at hb; rw [hb.2]; exact okB_zb, by simp [fresh], by simp [fresh], by simp [fresh]⟩

theorem new_any (B : Nat) (w : World) (n : Nat) (h1 : 64 ≤ n) (h2 : n ≤ 16384) (hB : B ≤ w.heap.size) :
    Calls Try.prog 6 #[.int .i64 n] w fun r w' => ∃ g, r = .returned (.tuple #[.pointer (some ⟨g, 0, none⟩), .int .i64 0]) ∧ DiskAt B w' g (fresh n) ∧ Below w.heap.size w w' := by
  obtain ⟨i0, hi, hz0, hz1, hz2⟩ := info_parts info_block
  go_enter Try.func6, Try.ntmps6
  go_wp2_with ((at_make; refine wpList_make_full _ rfl _ _ _ rfl w.heap.size 23 i0 (.agg (bc zb).toArray) 64 Try.underlying46 hi hz0 hz1 .i64 .i64 n n n rfl rfl rfl rfl (by rw [hz2]; omega) (by unfold maxLen; omega) (Nat.le_refl _) ?_; intro w1 hown hgr1))
  have hgs := hgr1.size
  obtain ⟨_, hlb⟩ := hown.lt w.heap.size rfl
  refine (empty_any _ _ _ _ _ _ _ _ (heap_alloc_new w1 _)).mono ?_
  rintro r w3 ⟨rfl, M, hM, hmap, hg3, hgr3⟩
  go_wp2
  go_ret2
  refine ⟨w1.heap.size, rfl, ⟨w.heap.size, n, .slice none 0 0, M, ?_, ?_, ?_, ?_, ?_, ?_, ?_⟩, ?_⟩
  · omega
  · rw [hg3]; simp [fresh, dc]
  · have h1 := (hown.alloc (.cells #[Value.slice (some ⟨w.heap.size, 0, none⟩) n n, Value.slice none 0 0, Value.map none, Value.int IntKind.i64 (-1), Value.bool false, Value.int IntKind.i64 0] 50)).kept hgr3 (.inr (by simp [Value.ownBlock]; omega))
    rw [show ((Value.agg (bc zb).toArray).cells) = (bc zb).toArray from rfl, toList_madeCells_zb] at h1
    have e : (fresh n).laid.length = n := by simp [fresh]
    rw [e]
    exact own_lower h1 hB
  · exact ⟨rfl, .inl ⟨rfl, rfl⟩⟩
  · exact hmap.congr (fun _ => rfl)
  · simp at hM; omega
  · exact fresh_wf n h1 h2
  · exact ((below_of_grown_none hgr1 (Nat.le_refl _)).alloc hgs _).trans (below_of_grown hgr3 hgs (by simp; omega))
end Go.Proofs.Ytlngflonolhdhaa

/- The disk's Flush, walked: what the closure does. -/
import Derived.Test.YtlngflonolhdhaaDkb
import Derived.Deep.LoopGhost
set_option linter.unusedVariables false
set_option linter.unusedSimpArgs false
namespace Go.Proofs.Ytlngflonolhdhaa
open Go.RowKit Go.Proofs.YtlngflonolhdhaaW.PrintLast

/-- Block n of those that are laid down is written. -/
theorem DAt.setLaid {B : Nat} {w : World} {g : Nat} {D : St} {lb lc : Nat} {qv : Value} {m : Nat} (h : DAt B w g D lb lc qv m) (n : Nat) (hn : n < D.laid.length) (b : List Int) (hb : okB b) :
    w.there lb (n * 64) 64 ∧ DAt B (w.setCells lb (n * 64) (bc b)) g { D with laid := D.laid.set n b } lb lc qv m := by
  obtain ⟨cur, e1, e2, e3, e4, e5, e6⟩ := h.lb_form
  have hfit : n * 64 + 64 ≤ cur.size := by rw [e5]; omega
  have ht : w.there lb (n * 64) 64 := by
    intro j hj
    rw [cell_of_row _ _ _ _ _ _ e1, frozen_of_row _ _ _ _ _ e1]
    simp; omega
  have hbl : (bc b).length = 64 := by rw [bc_length]; exact hb.1
  have hset : (w.setCells lb (n * 64) (bc b)).heap[lb]? = some (.cells (cur.toList.take (n * 64) ++ bc b ++ cur.toList.drop (n * 64 + (bc b).length)).toArray 23 (0, 0)) := setCells_heap w lb (bc b) (n * 64) cur _ e1 (by rw [hbl]; exact hfit)
  have hg := grownBy_setCells w lb (bc b) (n * 64)
  obtain ⟨es, mc, hmb, _⟩ := h.map
  have hlen : ∀ p ∈ D.laid, (bc p).length = 64 := fun p hp => by rw [bc_length]; exact (h.wf.laid p hp).1
  refine ⟨ht, h.hB, ?_, ?_, h.queue.kept hg ?_, h.map.grown hg ?_, h.hm, ?_⟩
  · rw [List.length_set]
    exact (hg.block g h.lt (by simp; exact ne_of_cells h.hg e1 (by decide))).trans h.hg
  · rw [List.length_set]
    have hl2 : (flat bc (D.laid.set n b)).length = D.laid.length * 64 := by
      rw [flat_length (s := 64)]
      · simp
      · intro p hp
        rcases List.mem_or_eq_of_mem_set hp with hp | rfl
        · exact hlen p hp
        · exact hbl
    refine ⟨hl2, .inr ⟨lb, lc, _, rfl, e2, hset, e3, e4, ?_, ?_⟩⟩
    · simp [hbl]; omega
    · rw [← flat_set hlen n b hbl hn, ← e6]
      apply List.ext_getElem?
      intro j
      simp only [List.getElem?_append, List.getElem?_take, List.getElem?_drop, List.length_append, List.length_take, List.length_drop, hbl, Array.length_toList]
      have h1 : min (n * 64) cur.size = n * 64 := by omega
      have h2 : min (n * 64) (min (D.laid.length * 64) cur.size) = n * 64 := by omega
      rw [h1, h2]
      by_cases hj : j < D.laid.length * 64
      · rw [if_pos hj]
        by_cases hj1 : j < n * 64 + 64
        · rw [if_pos hj1, if_pos hj1]
          by_cases hj2 : j < n * 64
          · rw [if_pos hj2, if_pos hj2, if_pos hj2, if_pos hj2, if_pos hj]
          · rw [if_neg hj2, if_neg hj2]
        · rw [if_neg hj1, if_neg hj1, if_pos (by omega)]
      · rw [if_neg hj, if_neg (by omega), if_neg (by omega)]
  · rcases h.qv_own with e | ⟨q, c, e, hq⟩
    · exact .inl e
    · rw [e]; exact .inr (by simp; exact ne_of_cells hq e1 (by decide))
  · simp; exact (ne_of_map e1 hmb).symm
  · refine ⟨by simpa using h.wf.one, by simpa using h.wf.most, ?_, by simpa using h.wf.queue, h.wf.left, h.wf.work⟩
    intro p hp
    rcases List.mem_or_eq_of_mem_set hp with hp | rfl
    · exact h.wf.laid p hp
    · exact hb
end Go.Proofs.Ytlngflonolhdhaa

/- A disk in memory: what its blocks hold. -/
import Derived.Test.YtlngflonolhdhaaDk2
import Derived.Test.YtlngflonolhdhaaProg
set_option linter.unusedVariables false
set_option linter.unusedSimpArgs false
namespace Go.Proofs.Ytlngflonolhdhaa
open Go.RowKit

def wc (x : Int × List Int) : List Value := .int .i64 x.1 :: bc x.2
theorem wc_one (x : Int × List Int) : ∀ v ∈ wc x, v.oneCell' = true := by
  intro v hv
  simp only [wc, List.mem_cons] at hv
  rcases hv with rfl | hv
  · rfl
  · exact bc_one _ v hv
theorem wc_length (x : Int × List Int) : (wc x).length = x.2.length + 1 := by simp [wc, bc]

def dc (n : Nat) (lb lc : Nat) (qv : Value) (m : Nat) (left : Int) (gone : Bool) (work : Int) : Array Value :=
  #[.slice (some ⟨lb, 0, none⟩) n lc, qv, .map (some m), .int .i64 left, .bool gone, .int .i64 work]

structure DAt (B : Nat) (w : World) (g : Nat) (D : St) (lb lc : Nat) (qv : Value) (m : Nat) : Prop where
  hB : B ≤ g
  hg : w.heap[g]? = some (.cells (dc D.laid.length lb lc qv m D.left D.gone D.work) 50 (0, 0))
  laid : w.ownsRow B 23 64 (.slice (some ⟨lb, 0, none⟩) D.laid.length lc) D.laid.length (flat bc D.laid)
  queue : w.ownsRow B 54 65 qv D.queue.length (flat wc D.queue)
  map : MapI w m (fun n => (young D.queue n).map fun b => .agg (bc b).toArray)
  hm : B ≤ m
  wf : Wf D

def DiskAt (B : Nat) (w : World) (g : Nat) (D : St) : Prop := ∃ lb lc qv m, DAt B w g D lb lc qv m

section
variable {B : Nat} {w : World} {g : Nat} {D : St} {lb lc : Nat} {qv : Value} {m : Nat}
theorem DAt.lt (h : DAt B w g D lb lc qv m) : g < w.heap.size := lt_of_heap h.hg
theorem DAt.size (h : DAt B w g D lb lc qv m) : B ≤ w.heap.size := by have := h.lt; have := h.hB; omega
theorem DAt.lb_form (h : DAt B w g D lb lc qv m) : ∃ cur, w.heap[lb]? = some (.cells cur 23 (0, 0)) ∧ B ≤ lb ∧ D.laid.length ≤ lc ∧ lc ≤ maxLen ∧ cur.size = lc * 64 ∧ cur.toList.take (D.laid.length * 64) = flat bc D.laid := by
  rcases h.laid.2 with ⟨e, _⟩ | ⟨b, c, cur, e, h1, h2, h3, h4, h5, h6⟩
  · simp at e
  · simp at e; obtain ⟨rfl, rfl⟩ := e; exact ⟨cur, h2, h1, h3, h4, h5, h6⟩
theorem DAt.qv_form (h : DAt B w g D lb lc qv m) : (qv = .slice none 0 0 ∧ D.queue = []) ∨ ∃ q c cur, qv = .slice (some ⟨q, 0, none⟩) D.queue.length c ∧ w.heap[q]? = some (.cells cur 54 (0, 0)) ∧ B ≤ q ∧ D.queue.length ≤ c ∧ c ≤ maxLen ∧ cur.size = c * 65 ∧ cur.toList.take (D.queue.length * 65) = flat wc D.queue := by
  rcases h.queue.2 with ⟨e, h0⟩ | ⟨b, c, cur, e, h1, h2, h3, h4, h5, h6⟩
  · exact .inl ⟨e, List.eq_nil_of_length_eq_zero h0⟩
  · exact .inr ⟨b, c, cur, e, h2, h1, h3, h4, h5, h6⟩
theorem DAt.qv_own (h : DAt B w g D lb lc qv m) : qv.ownBlock = none ∨ ∃ q cur, qv.ownBlock = some q ∧ w.heap[q]? = some (.cells cur 54 (0, 0)) := by
  rcases h.qv_form with ⟨rfl, _⟩ | ⟨q, c, cur, rfl, h2, _⟩
  · exact .inl rfl
  · exact .inr ⟨q, cur, rfl, h2⟩
theorem DAt.ne_q (h : DAt B w g D lb lc qv m) {k : Nat} {c : Array Value} {t : TypeId} {f : Nat × Nat} (hk : w.heap[k]? = some (.cells c t f)) (ht : 54 ≠ t) : some k ≠ qv.ownBlock := by
  rcases h.qv_own with e | ⟨q, cur, e, hq⟩
  · rw [e]; simp
  · rw [e]; intro he; injection he with he
    exact ne_of_cells hq hk ht he.symm
theorem DAt.ne_q_map (h : DAt B w g D lb lc qv m) {k : Nat} {es : Array MapEntry} {c : Nat} (hk : w.heap[k]? = some (.map es c)) : some k ≠ qv.ownBlock := by
  rcases h.qv_own with e | ⟨q, cur, e, hq⟩
  · rw [e]; simp
  · rw [e]; intro he; injection he with he
    exact ne_of_map hq hk he.symm
theorem DAt.q_base (h : DAt B w g D lb lc qv m) : ∀ k, qv.ownBlock = some k → B ≤ k := fun k hk => (h.queue.lt k hk).1
/-- Other blocks than the disk's are written, or new ones made. -/
theorem DAt.keep (h : DAt B w g D lb lc qv m) {w' : World} (hb : ∀ i, B ≤ i → i < w.heap.size → w'.heap[i]? = w.heap[i]?) (hs : w.heap.size ≤ w'.heap.size) : DAt B w' g D lb lc qv m := by
  have hl := h.lb_form
  obtain ⟨cur, e1, e2, e3, e4, e5, e6⟩ := hl
  refine ⟨h.hB, (hb g h.hB h.lt).trans h.hg, ⟨h.laid.1, .inr ⟨lb, lc, cur, rfl, e2, (hb lb e2 (lt_of_heap e1)).trans e1, e3, e4, e5, e6⟩⟩, ?_, h.map.kept (hb m h.hm h.map.lt), h.hm, h.wf⟩
  refine ⟨h.queue.1, ?_⟩
  rcases h.queue.2 with h0 | ⟨b, c, cur, e, h1, h2, h3⟩
  · exact .inl h0
  · exact .inr ⟨b, c, cur, e, h1, (hb b h1 (lt_of_heap h2)).trans h2, h3⟩
theorem DAt.drew (h : DAt B w g D lb lc qv m) : DAt B w.drew g D lb lc qv m := h.keep (fun _ _ _ => rfl) (Nat.le_refl _)
theorem DAt.drewN (h : DAt B w g D lb lc qv m) (n : Nat) : DAt B (w.drewN n) g D lb lc qv m := h.keep (fun _ _ _ => rfl) (Nat.le_refl _)
theorem DAt.below (h : DAt B w g D lb lc qv m) {w' : World} (hb : Below w.heap.size w w') : DAt B w' g D lb lc qv m := h.keep (fun i _ hi => hb.block i hi) hb.size
theorem DiskAt.keep (h : DiskAt B w g D) {w' : World} (hb : ∀ i, B ≤ i → i < w.heap.size → w'.heap[i]? = w.heap[i]?) (hs : w.heap.size ≤ w'.heap.size) : DiskAt B w' g D := by
  obtain ⟨lb, lc, qv, m, h⟩ := h; exact ⟨lb, lc, qv, m, h.keep hb hs⟩
theorem DiskAt.below (h : DiskAt B w g D) {w' : World} (hb : Below w.heap.size w w') : DiskAt B w' g D := h.keep (fun i _ hi => hb.block i hi) hb.size
theorem DiskAt.lt (h : DiskAt B w g D) : B ≤ g ∧ g < w.heap.size := by obtain ⟨lb, lc, qv, m, h⟩ := h; exact ⟨h.hB, h.lt⟩
theorem DiskAt.wf (h : DiskAt B w g D) : Wf D := by obtain ⟨lb, lc, qv, m, h⟩ := h; exact h.wf
/-- One block is written that is none of the disk's. -/
theorem DAt.other (h : DAt B w g D lb lc qv m) {w' : World} {row : Option Nat} (hg : w.grownBy w' row) (h1 : some g ≠ row) (h2 : some lb ≠ row) (h3 : qv.ownBlock = none ∨ qv.ownBlock ≠ row) (h4 : some m ≠ row) : DAt B w' g D lb lc qv m :=
  ⟨h.hB, (hg.block g h.lt h1).trans h.hg, h.laid.kept hg (.inr (by simpa [Value.ownBlock] using h2)), h.queue.kept hg h3, h.map.grown hg h4, h.hm, h.wf⟩
/-- A block that holds neither cells nor a map is none of the disk's. -/
theorem DAt.other_obj (h : DAt B w g D lb lc qv m) {w' : World} {r : Nat} (hg : w.grownBy w' (some r)) {o : Obj} (ho : w.heap[r]? = some o) (h1 : ∀ c t f, o ≠ .cells c t f) (h2 : ∀ es c, o ≠ .map es c) : DAt B w' g D lb lc qv m := by
  obtain ⟨cl, hcl, _⟩ := h.lb_form
  obtain ⟨es, mc, hmb, _⟩ := h.map
  refine h.other hg ?_ ?_ ?_ ?_
  · intro e; injection e with e; rw [← e, h.hg] at ho; injection ho with ho; exact h1 _ _ _ ho.symm
  · intro e; injection e with e; rw [← e, hcl] at ho; injection ho with ho; exact h1 _ _ _ ho.symm
  · rcases h.qv_own with e | ⟨q, cur, e, hq⟩
    · exact .inl e
    · refine .inr ?_
      rw [e]; intro e2; injection e2 with e2; rw [← e2, hq] at ho; injection ho with ho; exact h1 _ _ _ ho.symm
  · intro e; injection e with e; rw [← e, hmb] at ho; injection ho with ho; exact h2 _ _ ho.symm
/-- g's numbers are written. -/
theorem DAt.numbers (h : DAt B w g D lb lc qv m) {w' : World} (hg : w.grownBy w' (some g)) {l : Int} {gone : Bool} {k : Int} (h' : w'.heap[g]? = some (.cells (dc D.laid.length lb lc qv m l gone k) 50 (0, 0))) (hl : -1 ≤ l ∧ l ≤ 9223372036854775807) (hk : 0 ≤ k) :
    DAt B w' g { D with left := l, gone := gone, work := k } lb lc qv m := by
  obtain ⟨cur, e1, e2, e3⟩ := h.lb_form
  refine ⟨h.hB, h', h.laid.kept hg (.inr ?_), h.queue.kept hg ?_, h.map.grown hg ?_, h.hm, ⟨h.wf.one, h.wf.most, h.wf.laid, h.wf.queue, hl, hk⟩⟩
  · simp [Value.ownBlock]; exact (ne_of_cells e1 h.hg (by decide))
  · rcases h.qv_own with e | ⟨q, c, e, hq⟩
    · exact .inl e
    · rw [e]; exact .inr (by simp; exact ne_of_cells hq h.hg (by decide))
  · obtain ⟨es, c, hb, _⟩ := h.map
    simp; exact (ne_of_map h.hg hb).symm
/-- The cells of block n of those that are laid down. -/
theorem DAt.range (h : DAt B w g D lb lc qv m) {n : Nat} {b : List Int} (hn : D.laid[n]? = some b) : w.rangeAt lb (n * 64) (bc b) := by
  intro j v hv
  obtain ⟨cur, e1, e2, e3, e4, e5, e6⟩ := h.lb_form
  rw [cell_of_row w lb _ _ _ _ e1]
  have hlen : ∀ p ∈ D.laid, (bc p).length = 64 := fun p hp => by rw [bc_length]; exact (h.wf.laid p hp).1
  have hj : j < 64 := by
    have := (List.getElem?_eq_some_iff.1 hv).1
    rw [hlen b (List.mem_of_getElem? hn)] at this; exact this
  have hnl : n < D.laid.length := (List.getElem?_eq_some_iff.1 hn).1
  have := flat_get hlen n j hj b hn
  rw [← e6, List.getElem?_take, if_pos (by omega), hv] at this
  simpa using this
end
/-- Not a type of a disk's own rows. -/
def alien (t : TypeId) : Bool := t != 50 && t != 23 && t != 54
/-- A block that holds no alien row. -/
def NotInt (w : World) (k : Nat) : Prop := ∀ (c : Array Value) (t : TypeId) (f : Nat × Nat), alien t = true → w.heap[k]? ≠ some (.cells c t f)
theorem nint_cells {w : World} {k : Nat} {c : Array Value} {t : TypeId} {f : Nat × Nat} (h : w.heap[k]? = some (.cells c t f)) (ht : alien t = false) : NotInt w k := by
  intro c' t' f' ht' h'; rw [h] at h'; injection h' with h'; injection h' with _ h'; rw [h', ht'] at ht; cases ht
theorem nint_map {w : World} {k : Nat} {es : Array MapEntry} {c : Nat} (h : w.heap[k]? = some (.map es c)) : NotInt w k := by
  intro c' t' f' _ h'; rw [h] at h'; injection h' with h'; cases h'
/-- Below B nothing is turned, and no row of another type than the disk's that is there already. -/
structure Bel (B : Nat) (w w' : World) : Prop where
  below : Below B w w'
  keep : ∀ (i : Nat) (c : Array Value) (t : TypeId) (f : Nat × Nat), alien t = true → w.heap[i]? = some (.cells c t f) → w'.heap[i]? = some (.cells c t f)
theorem Bel.refl (B : Nat) (w : World) : Bel B w w := ⟨Below.refl B w, fun _ _ _ _ _ h => h⟩
theorem Bel.trans {B : Nat} {a b c : World} (h : Bel B a b) (k : Bel B b c) : Bel B a c := ⟨h.below.trans k.below, fun i x t f ht hi => k.keep i x t f ht (h.keep i x t f ht hi)⟩
theorem Bel.drew {B : Nat} {a w : World} (h : Bel B a w) : Bel B a w.drew := ⟨h.below.drew, h.keep⟩
theorem Bel.of_below {B : Nat} {w w' : World} (h : Below w.heap.size w w') (hB : B ≤ w.heap.size) : Bel B w w' := ⟨h.mono hB, fun i _ _ _ _ hi => (h.block i (lt_of_heap hi)).trans hi⟩
theorem Bel.alloc {B : Nat} {a w : World} (h : Bel B a w) (hB : B ≤ w.heap.size) (o : Obj) : Bel B a (w.alloc o) := h.trans (Bel.of_below ((Below.refl _ _).alloc (Nat.le_refl _) o) hB)
theorem Bel.grown {B : Nat} {a w w' : World} {row : Option Nat} (h : Bel B a w) (hg : w.grownBy w' row) (hB : B ≤ w.heap.size) (hr : ∀ k, row = some k → B ≤ k) (ht : ∀ k, row = some k → NotInt w k) : Bel B a w' :=
  ⟨h.below.grown hg hB hr, fun i c t f ha hi => (hg.block i (lt_of_heap (h.keep i c t f ha hi)) (fun e => ht i e.symm c t f ha (h.keep i c t f ha hi))).trans (h.keep i c t f ha hi)⟩
theorem DAt.q_nint {B : Nat} {w : World} {g : Nat} {D : St} {lb lc : Nat} {qv : Value} {m : Nat} (h : DAt B w g D lb lc qv m) : ∀ k, qv.ownBlock = some k → NotInt w k := by
  intro k hk
  rcases h.qv_own with e | ⟨q, cur, e, hq⟩
  · rw [e] at hk; cases hk
  · rw [e] at hk; injection hk with hk; subst hk; exact nint_cells hq (by decide)
end Go.Proofs.Ytlngflonolhdhaa

/- Util: rows of elements as flat lists of cells; blocks in a world; no program in sight. -/
import Derived.WalkKit
import Derived.WalkLawsBesides
import Derived.Below
import Derived.Lib.Hide
import Derived.Deep.MidRow
import Derived.Deep.AppendLies
import Derived.Laws.MakeOwn
import Derived.Laws.OwnMore
set_option linter.unusedVariables false
set_option linter.unusedSimpArgs false
namespace Go.Proofs.Ytpnhjckjmpkbfaa
open Go.RowKit

/-! ### flat rows -/
/-- Elements one behind the other, each of s cells. -/
def flat {α : Type} (enc : α → List Value) (ps : List α) : List Value := ps.flatMap enc

theorem flat_nil {α : Type} (enc : α → List Value) : flat enc [] = [] := rfl
theorem flat_cons {α : Type} (enc : α → List Value) (p : α) (ps : List α) : flat enc (p :: ps) = enc p ++ flat enc ps := by simp [flat]
theorem flat_append {α : Type} (enc : α → List Value) (ps qs : List α) : flat enc (ps ++ qs) = flat enc ps ++ flat enc qs := by simp [flat]
theorem flat_length {α : Type} {enc : α → List Value} {s : Nat} {ps : List α} (h : ∀ p ∈ ps, (enc p).length = s) : (flat enc ps).length = ps.length * s := by
  induction ps with
  | nil => simp [flat]
  | cons p ps ih =>
    rw [flat_cons, List.length_append, h p (by simp), ih (fun q hq => h q (by simp [hq])), List.length_cons, Nat.succ_mul, Nat.add_comm]
theorem flat_get {α : Type} {enc : α → List Value} {s : Nat} {ps : List α} (h : ∀ p ∈ ps, (enc p).length = s) (i j : Nat) (hj : j < s) (p : α) (hp : ps[i]? = some p) : (flat enc ps)[i * s + j]? = (enc p)[j]? := by
  induction ps generalizing i with
  | nil => simp at hp
  | cons q ps ih =>
    rw [flat_cons]
    have hq := h q (by simp)
    cases i with
    | zero =>
      simp at hp; subst hp
      rw [List.getElem?_append_left (by omega)]; simp
    | succ i =>
      simp at hp
      rw [List.getElem?_append_right (by rw [hq, Nat.succ_mul]; omega), hq]
      rw [show (i + 1) * s + j - s = i * s + j from by rw [Nat.succ_mul]; omega]
      exact ih (fun r hr => h r (by simp [hr])) i hp
theorem flat_take_drop {α : Type} {enc : α → List Value} {s : Nat} {ps : List α} (h : ∀ p ∈ ps, (enc p).length = s) (i : Nat) (p : α) (hp : ps[i]? = some p) : ((flat enc ps).drop (i * s)).take s = enc p := by
  apply List.ext_getElem?
  intro j
  rw [List.getElem?_take, List.getElem?_drop]
  have hp' := h p (List.mem_of_getElem? hp)
  split
  · rename_i hj; exact flat_get h i j hj p hp
  · rw [List.getElem?_eq_none (by omega)]
theorem flat_set {α : Type} {enc : α → List Value} {s : Nat} {ps : List α} (h : ∀ p ∈ ps, (enc p).length = s) (i : Nat) (x : α) (hx : (enc x).length = s) (hi : i < ps.length) :
    (flat enc ps).take (i * s) ++ enc x ++ (flat enc ps).drop (i * s + s) = flat enc (ps.set i x) := by
  induction ps generalizing i with
  | nil => simp at hi
  | cons q ps ih =>
    have hq := h q (by simp)
    cases i with
    | zero =>
      simp only [Nat.zero_mul, List.take_zero, List.nil_append, Nat.zero_add, List.set_cons_zero, flat_cons]
      rw [List.drop_append, List.drop_of_length_le (by omega), hq]; simp
    | succ i =>
      have := ih (fun r hr => h r (by simp [hr])) i (by simpa using hi)
      simp only [List.set_cons_succ, flat_cons]
      rw [List.take_append, List.take_of_length_le (by rw [hq, Nat.succ_mul]; omega), List.drop_append, List.drop_of_length_le (by rw [hq, Nat.succ_mul]; omega), hq,
        show (i + 1) * s - s = i * s from by rw [Nat.succ_mul]; omega, show (i + 1) * s + s - s = i * s + s from by rw [Nat.succ_mul]; omega, List.nil_append]
      rw [← this]; simp [List.append_assoc]

/-! ### a world's blocks -/
theorem grownBy_refl (w : World) (row : Option Nat) : w.grownBy w row := ⟨rfl, rfl, rfl, Nat.le_refl _, fun _ _ _ => rfl⟩
theorem grownBy_setCell (w : World) (g j : Nat) (v : Value) : w.grownBy (w.setCell ⟨g, j, none⟩ v) (some g) :=
  ⟨rfl, rfl, rfl, by simp [World.setCell], fun k _ hk => heap_setCell_other w _ k v (fun e => hk (by rw [e]))⟩
theorem grownBy_trans {w a b : World} {row : Option Nat} (h : w.grownBy a row) (k : a.grownBy b row) : w.grownBy b row :=
  ⟨k.os.trans h.os, k.tape.trans h.tape, k.output.trans h.output, Nat.le_trans h.size k.size, fun i hi hr => (k.block i (Nat.lt_of_lt_of_le hi h.size) hr).trans (h.block i hi hr)⟩
theorem grownBy_of_none {w a : World} {row : Option Nat} (h : w.grownBy a none) : w.grownBy a row :=
  ⟨h.os, h.tape, h.output, h.size, fun i hi _ => h.block i hi (by simp)⟩
theorem grownBy_drew {w a : World} {row : Option Nat} (h : w.grownBy a row) : w.grownBy a.drew row := ⟨h.os, h.tape, h.output, h.size, h.block⟩
theorem grownBy_drewN {w a : World} {row : Option Nat} (h : w.grownBy a row) (n : Nat) : w.grownBy (a.drewN n) row := ⟨h.os, h.tape, h.output, h.size, h.block⟩
theorem below_of_grown {B : Nat} {w a : World} {g : Nat} (h : w.grownBy a (some g)) (hg : B ≤ g) (hB : B ≤ w.heap.size) : Below B w a := (Below.refl B w).grown h hB (fun k hk => by simp at hk; omega)
theorem below_of_grown_none {B : Nat} {w a : World} (h : w.grownBy a none) (hB : B ≤ w.heap.size) : Below B w a := (Below.refl B w).grown h hB (fun k hk => by simp at hk)
/-- Two blocks with cells of different types are two. -/
theorem ne_of_cells {w : World} {a b : Nat} {ca cb : Array Value} {ta tb : TypeId} {fa fb : Nat × Nat} (ha : w.heap[a]? = some (.cells ca ta fa)) (hb : w.heap[b]? = some (.cells cb tb fb)) (h : ta ≠ tb) : a ≠ b := by
  rintro rfl; rw [ha] at hb; simp at hb; exact h hb.2.1
theorem ne_of_map {w : World} {a b : Nat} {ca : Array Value} {ta : TypeId} {fa : Nat × Nat} {es : Array MapEntry} {c : Nat} (ha : w.heap[a]? = some (.cells ca ta fa)) (hb : w.heap[b]? = some (.map es c)) : a ≠ b := by
  rintro rfl; rw [ha] at hb; simp at hb
theorem own_lower {w : World} {b b' : Nat} {e : TypeId} {size n : Nat} {v : Value} {xs : List Value} (h : w.ownsRow b e size v n xs) (hb : b' ≤ b) : w.ownsRow b' e size v n xs := by
  obtain ⟨h1, h2⟩ := h
  refine ⟨h1, ?_⟩
  rcases h2 with h2 | ⟨g, cap, cur, hv, hg, r⟩
  · exact .inl h2
  · exact .inr ⟨g, cap, cur, hv, by omega, r⟩
theorem lt_of_heap {w : World} {a : Nat} {o : Obj} (h : w.heap[a]? = some o) : a < w.heap.size := (Array.getElem?_eq_some_iff.1 h).1
theorem setCells_heap (w : World) (g : Nat) : ∀ (vs : List Value) (o : Nat) (cur : Array Value) (t : TypeId), w.heap[g]? = some (.cells cur t (0, 0)) → o + vs.length ≤ cur.size →
    (w.setCells g o vs).heap[g]? = some (.cells (cur.toList.take o ++ vs ++ cur.toList.drop (o + vs.length)).toArray t (0, 0)) := by
  intro vs
  induction vs generalizing w with
  | nil => intro o cur t h hl; show w.heap[g]? = _; rw [h]; simp
  | cons v vs ih =>
    intro o cur t h hl
    simp only [List.length_cons] at hl
    have h1 := heap_setCell_same w g o cur t v h
    have h2 := ih (w.setCell ⟨g, o, none⟩ v) (o + 1) _ t h1 (by simp; omega)
    show ((w.setCell ⟨g, o, none⟩ v).setCells g (o + 1) vs).heap[g]? = _
    rw [h2]
    congr 2
    apply Array.ext'
    simp only [Array.toList_setIfInBounds, List.length_cons]
    apply List.ext_getElem?
    intro j
    simp only [List.getElem?_append, List.length_append, List.length_take, List.length_set, List.getElem?_take, List.getElem?_set, List.getElem?_drop, Array.length_toList, List.length_cons]
    have hm : min (o + 1) cur.size = o + 1 := by omega
    have hm2 : min o cur.size = o := by omega
    rw [hm, hm2]
    by_cases a1 : j < o
    · rw [if_pos (by omega), if_pos (by omega), if_pos (by omega), if_neg (by omega), if_pos (by omega), if_pos (by omega), if_pos a1]
    · by_cases a2 : j = o
      · subst a2
        rw [if_pos (by omega), if_pos (by omega), if_pos (by omega), if_pos rfl, if_pos (by omega), if_pos (by omega), if_neg (by omega)]
        simp
      · by_cases a3 : j < o + 1 + vs.length
        · rw [if_pos (by omega), if_neg (by omega), if_pos (by omega), if_neg (by omega)]
          rw [show j - o = (j - (o + 1)) + 1 from by omega, List.getElem?_cons_succ]
        · rw [if_neg (by omega), if_neg (by omega), if_neg (by omega)]
          congr 1; omega
end Go.Proofs.Ytpnhjckjmpkbfaa

/- The disk as plain data: what each call of it does; no program in sight. -/
import Derived.Test.YtlngflonolhdhaaDk1
set_option linter.unusedVariables false
set_option linter.unusedSimpArgs false
namespace Go.Proofs.Ytlngflonolhdhaa
open Go.RowKit

/-! ### blocks -/
/-- A block's cells: 64 bytes. -/
def bc (b : List Int) : List Value := b.map (Value.int .u8)
def bv (b : List Int) : Value := .agg (bc b).toArray
def zb : List Int := List.replicate 64 0
def okB (b : List Int) : Prop := b.length = 64 ∧ ∀ x ∈ b, 0 ≤ x ∧ x < 256
theorem bc_length (b : List Int) : (bc b).length = b.length := by simp [bc]
theorem bc_one (b : List Int) : ∀ v ∈ bc b, v.oneCell' = true := by
  intro v hv; simp [bc] at hv; obtain ⟨x, _, rfl⟩ := hv; rfl
theorem okB_zb : okB zb := ⟨by simp [zb], by intro x hx; simp [zb] at hx; omega⟩
theorem bc_get (b : List Int) (j : Nat) : (bc b)[j]? = (b[j]?).map (Value.int .u8) := by simp [bc]
theorem bc_inj {a b : List Int} (h : bc a = bc b) : a = b := by
  unfold bc at h
  exact (List.map_inj_right (fun x y e => by injection e)).1 h
theorem bv_inj {a b : List Int} (h : bv a = bv b) : a = b := by
  unfold bv at h; injection h with h; exact bc_inj (by simpa using h)

/-! ### a disk -/
structure St where
  laid : List (List Int)
  queue : List (Int × List Int)
  left : Int
  gone : Bool
  work : Int

/-- What is read of a block that waits: the last that was written. -/
def young (q : List (Int × List Int)) (n : Int) : Option (List Int) := (q.reverse.find? (fun x => x.1 == n)).map (·.2)
theorem young_nil (n : Int) : young [] n = none := rfl
theorem young_snoc (q : List (Int × List Int)) (m : Int) (b : List Int) (n : Int) : young (q ++ [(m, b)]) n = if n = m then some b else young q n := by
  unfold young
  simp only [List.reverse_append, List.reverse_cons, List.reverse_nil, List.nil_append, List.singleton_append, List.find?_cons]
  by_cases h : n = m
  · subst h; simp
  · have : (m == n) = false := by simp; exact fun e => h e.symm
    simp [this, h]
theorem young_mem {q : List (Int × List Int)} {n : Int} {b : List Int} (h : young q n = some b) : (n, b) ∈ q := by
  unfold young at h
  rw [Option.map_eq_some_iff] at h
  obtain ⟨x, hx, rfl⟩ := h
  have h1 := List.find?_some hx
  have h2 := List.mem_of_find?_eq_some hx
  simp at h1 h2
  subst h1; exact h2

def powered (D : St) : Int := if D.gone then 9 else 0
def inR (D : St) (n : Int) : Bool := decide (0 ≤ n) && decide (n < (D.laid.length : Int))
/-- A work, if the power does not go at it. -/
def tick (D : St) : St × Bool :=
  let l := if 0 ≤ D.left then D.left - 1 else D.left
  if l = 0 then ({ D with left := l, gone := true }, false) else ({ D with left := l, gone := false, work := D.work + 1 }, true)
theorem tick_laid (D : St) : (tick D).1.laid = D.laid := by unfold tick; dsimp only; (repeat' split) <;> rfl
theorem tick_queue (D : St) : (tick D).1.queue = D.queue := by unfold tick; dsimp only; (repeat' split) <;> rfl
theorem tick_inR (D : St) (n : Int) : inR (tick D).1 n = inR D n := by simp only [inR, tick_laid]
def addQ (D : St) (n : Int) (b : List Int) : St := { D with queue := D.queue ++ [(n, b)] }
def write (D : St) (n : Int) (b : List Int) : St × Int :=
  if D.gone then (D, 9) else if inR D n then (if (tick D).2 then (addQ (tick D).1 n b, 0) else ((tick D).1, 9)) else (D, 2)
def overlay (laid : List (List Int)) (q : List (Int × List Int)) : List (List Int) := laid.mapIdx fun i b => (young q i).getD b
def lay (D : St) : St := { D with laid := overlay D.laid D.queue, queue := [] }
def flush (D : St) : St × Int :=
  if D.gone then (D, 9) else if (tick D).2 then (lay (tick D).1, 0) else ((tick D).1, 9)
def arm (D : St) (n : Int) : St × Int :=
  if D.gone then (D, 9) else if n < 0 then (D, 2) else ({ D with left := if n = 0 then -1 else n }, 0)
def read (D : St) (n : Int) : List Int × Int :=
  if D.gone then (zb, 9) else if inR D n then ((young D.queue n).getD (D.laid.getD n.toNat []), 0) else (zb, 2)
def sure (D : St) (n : Int) : List Int × Int :=
  if inR D n then (D.laid.getD n.toNat [], 0) else (zb, 2)
/-- Some quarters of a block are another's. -/
def bit (p : Int) (q : Nat) : Bool := (p.toNat >>> q) % 2 == 1
def mixQ (old new : List Int) (p : Int) (q : Nat) : List Int := if bits .and .i64 p (2 ^ q) != 0 then old.take (16 * q) ++ (new.drop (16 * q)).take 16 ++ old.drop (16 * q + 16) else old
def mix (old new : List Int) (p : Int) : List Int := mixQ (mixQ (mixQ (mixQ old new p 0) new p 1) new p 2) new p 3
def crashed (laid : List (List Int)) : List (Int × List Int) → List Int → List (List Int)
  | (n, b) :: q, p :: ps => crashed (laid.set n.toNat (mix (laid.getD n.toNat []) b p)) q ps
  | _, _ => laid
def crash (D : St) (picks : List Int) : St := { laid := crashed D.laid D.queue picks, queue := [], left := -1, gone := false, work := D.work }
def fresh (n : Nat) : St := { laid := List.replicate n zb, queue := [], left := -1, gone := false, work := 0 }

/-- What a disk always is. -/
structure Wf (D : St) : Prop where
  one : 1 ≤ D.laid.length
  most : D.laid.length ≤ 16384
  laid : ∀ b ∈ D.laid, okB b
  queue : ∀ x ∈ D.queue, okB x.2 ∧ 0 ≤ x.1 ∧ x.1 < D.laid.length
  left : -1 ≤ D.left ∧ D.left ≤ 9223372036854775807
  work : 0 ≤ D.work
end Go.Proofs.Ytlngflonolhdhaa

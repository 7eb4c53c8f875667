/- fresh: the place of a handle: what find's function value does; plain data on sorted lists. -/
import Derived.Test.YtpnhjckjmpkbfaaFr1
set_option linter.unusedVariables false
set_option linter.unusedSimpArgs false
namespace Go.Proofs.Ytpnhjckjmpkbfaa
open Go.RowKit Go.Proofs.YtpnhjckjmpkbfaaW.PrintLast

theorem find1_any (w : World) (f : F) (h : Int × Int) : Calls Try.prog 22 #[.agg (fc f).toArray, hv h] w fun r w' => r = .returned (.int .i64 (ord f.h h)) ∧ Below w.heap.size w w' := by
  obtain ⟨⟨a, b⟩, d, s, c, t, p⟩ := f
  obtain ⟨x, y⟩ := h
  unfold fc hv
  dsimp only
  obtain ⟨hb, hh0, hh1⟩ := two_boxes w (.cells #[.int .u32 a, .int .u32 b, .bool d, .int .u32 s, .int .u64 c, .int .u64 t, .int .u64 p] 42) (.cells #[.int .u32 x, .int .u32 y] 30)
  go_enter Try.func22, Try.ntmps22
  go_wp2_with fail
  refine (order_any _ (a, b) (x, y)).mono ?_
  rintro e w' ⟨rfl, hb2⟩
  go_wp2_with fail
  go_ret
  exact ⟨rfl, hb.trans (hb2.mono hb.size)⟩

theorem goesV_ {P : Program} {ops : Array Oper} {Q : Exit → Act → World → Prop} {oi : Oper} {N : Option Tmp} {a : Act} {w : World} {K : Act → World → Prop} {f : FuncId} {fn : Func} {xs : Array Operand} {ts : Array TypeId} {x : Operand} (hf : P.funcs[f]? = some fn) (hname : (fn.name == "runtime.NumGoroutine") = false) (hb : fn.body.isSome = true) (args : Array Value)
    (hw : Region.wanted oi (yielded ops a.tmps) = true) (hN : oi.dst = N) (hop : oi.op = .call { callee := .value x, args := xs, argTypes := ts }) (hx : a.eval x = .func (.func f) #[] #[]) (hargs : xs.map a.eval = args)
    (h : Calls P f args w fun e w' => ∃ v, e = .returned v ∧ K (a.put N v) w') : if Region.wanted oi (yielded ops a.tmps) = true then Oper.wp P oi a w K Q else K (a.put N undef) w := by
  refine call_ f args hw hN ?_ h
  have he := enters_ hf hname hb args w
  unfold execOp
  simp [hop, resolve, Deferred.ofValue, invoke, hx, hargs, he]

/-! ### plain: sorted lists -/
theorem ord_neg {h k : Int × Int} : ord h k < 0 ↔ h.1 < k.1 ∨ (h.1 = k.1 ∧ h.2 < k.2) := by
  unfold ord cmpI; split <;> split <;> (try split) <;> (try split) <;> (try split) <;> omega
theorem ord_zero {h k : Int × Int} : ord h k = 0 ↔ h = k := by
  have : h = k ↔ h.1 = k.1 ∧ h.2 = k.2 := by rw [Prod.ext_iff]
  rw [this]; unfold ord cmpI; split <;> split <;> (try split) <;> (try split) <;> (try split) <;> omega
theorem ord_bounds (h k : Int × Int) : -1 ≤ ord h k ∧ ord h k ≤ 1 := by
  unfold ord cmpI; split <;> split <;> (try split) <;> (try split) <;> (try split) <;> omega
def Sorted (l : List F) : Prop := l.Pairwise (fun f g => ord f.h g.h < 0)
theorem Sorted.lt {l : List F} (hs : Sorted l) {i j : Nat} (hij : i < j) {f g : F} (hf : l[i]? = some f) (hg : l[j]? = some g) : ord f.h g.h < 0 := by
  obtain ⟨hi, rfl⟩ := List.getElem?_eq_some_iff.1 hf
  obtain ⟨hj, rfl⟩ := List.getElem?_eq_some_iff.1 hg
  exact List.pairwise_iff_getElem.1 hs i j hi hj hij
/-- Where a handle stands, or would. -/
def pos (l : List F) (h : Int × Int) : Nat := (l.takeWhile (fun f => decide (ord f.h h < 0))).length
theorem pos_le (l : List F) (h : Int × Int) : pos l h ≤ l.length := by
  unfold pos; exact (List.takeWhile_sublist _).length_le
theorem pos_lt {l : List F} {h : Int × Int} {i : Nat} (hi : i < pos l h) {f : F} (hf : l[i]? = some f) : ord f.h h < 0 := by
  induction l generalizing i with
  | nil => simp at hf
  | cons g l ih =>
    unfold pos at hi ih
    by_cases hg : ord g.h h < 0
    · rw [List.takeWhile_cons_of_pos (by simpa using hg)] at hi
      cases i with
      | zero => simp at hf; subst hf; exact hg
      | succ i => exact ih (by simpa using hi) (by simpa using hf)
    · rw [List.takeWhile_cons_of_neg (by simpa using hg)] at hi
      simp at hi
theorem pos_at {l : List F} {h : Int × Int} {f : F} (hf : l[pos l h]? = some f) : ¬ ord f.h h < 0 := by
  unfold pos at hf
  induction l with
  | nil => simp at hf
  | cons g l ih =>
    by_cases hg : ord g.h h < 0
    · rw [List.takeWhile_cons_of_pos (by simpa using hg)] at hf
      simp only [List.length_cons, List.getElem?_cons_succ] at hf
      exact ih hf
    · rw [List.takeWhile_cons_of_neg (by simpa using hg)] at hf
      simp at hf; subst hf; exact hg
theorem ord_trans {a b c : Int × Int} (h1 : ord a b < 0) (h2 : ord b c < 0) : ord a c < 0 := by
  rw [ord_neg] at *; omega
theorem pos_ge {l : List F} (hs : Sorted l) {h : Int × Int} {i : Nat} (hi : pos l h ≤ i) {f : F} (hf : l[i]? = some f) : ¬ ord f.h h < 0 := by
  rcases Nat.lt_or_eq_of_le hi with hlt | rfl
  · have hlen : i < l.length := (List.getElem?_eq_some_iff.1 hf).1
    have hp : l[pos l h]? = some l[pos l h] := List.getElem?_eq_getElem (by omega)
    intro hc
    exact pos_at hp (ord_trans (hs.lt hlt hp hf) hc)
  · exact pos_at hf
/-- What tells the place. -/
theorem pos_eq {l : List F} (hs : Sorted l) {h : Int × Int} {n : Nat} (hn : n ≤ l.length) (h1 : ∀ i f, i < n → l[i]? = some f → ord f.h h < 0) (h2 : ∀ i f, n ≤ i → l[i]? = some f → ¬ ord f.h h < 0) : pos l h = n := by
  have hp := pos_le l h
  rcases Nat.lt_trichotomy (pos l h) n with hlt | e | hgt
  · exfalso
    have hx : l[pos l h]? = some l[pos l h] := List.getElem?_eq_getElem (by omega)
    exact pos_at hx (h1 _ _ hlt hx)
  · exact e
  · exfalso
    have hx : l[n]? = some l[n] := List.getElem?_eq_getElem (by omega)
    exact h2 n _ (Nat.le_refl _) hx (pos_lt hgt hx)
/-- What is held of a handle. -/
def got (l : List F) (h : Int × Int) : Option F := match l[pos l h]? with
  | some f => if f.h = h then some f else none
  | none => none
end Go.Proofs.Ytpnhjckjmpkbfaa

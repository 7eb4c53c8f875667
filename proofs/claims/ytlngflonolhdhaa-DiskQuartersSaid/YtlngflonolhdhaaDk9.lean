/- Struct values that hold a block: built. -/
import Derived.Test.YtlngflonolhdhaaDk8
import Derived.OrdersHeld
set_option linter.unusedVariables false
set_option linter.unusedSimpArgs false
namespace Go.Proofs.Ytlngflonolhdhaa
open Go.RowKit

theorem fold_set (vs : List Value) : ∀ (cs : Array Value) (off k : Nat), off + k + vs.length ≤ cs.size →
    (vs.zipIdx k).foldl (fun cs (x : Value × Nat) => cs.setIfInBounds (off + x.2) x.1) cs = (cs.toList.take (off + k) ++ vs ++ cs.toList.drop (off + k + vs.length)).toArray := by
  induction vs with
  | nil => intro cs off k h; simp
  | cons v vs ih =>
    intro cs off k h
    simp only [List.length_cons] at h
    rw [List.zipIdx_cons, List.foldl_cons, ih _ off (k + 1) (by simp; omega)]
    congr 1
    simp only [Array.toList_setIfInBounds, List.length_cons]
    apply List.ext_getElem?
    intro j
    simp only [List.getElem?_append, List.length_append, List.length_take, List.length_set, List.getElem?_take, List.getElem?_set, List.getElem?_drop, Array.length_toList, List.length_cons]
    have hm : min (off + (k + 1)) cs.size = off + k + 1 := by omega
    have hm2 : min (off + k) cs.size = off + k := by omega
    rw [hm, hm2]
    by_cases h1 : j < off + k
    · rw [if_pos (by omega), if_pos (by omega), if_pos (by omega), if_neg (by omega), if_pos (by omega), if_pos (by omega), if_pos h1]
    · by_cases h2 : j = off + k
      · subst h2
        rw [if_pos (by omega), if_pos (by omega), if_pos (by omega), if_pos rfl, if_pos (by omega), if_pos (by omega), if_neg (by omega)]
        simp
      · by_cases h3 : j < off + k + 1 + vs.length
        · rw [if_pos (by omega), if_neg (by omega), if_pos (by omega), if_neg (by omega)]
          rw [show j - (off + k) = (j - (off + k + 1)) + 1 from by omega, List.getElem?_cons_succ]
        · rw [if_neg (by omega), if_neg (by omega), if_neg (by omega)]
          congr 1; omega
/-- One part of a struct or an array laid in. -/
theorem fill_cons {place : Nat → Option (Nat × Nat)} {cells : Array Value} {i : Nat} {v : Value} {rest : List (Nat × Value)} {off size : Nat} (hp : place i = some (off, size)) (hs : v.cells.size = size) (ho : off + size ≤ cells.size) :
    Instr.fill place cells ((i, v) :: rest) = Instr.fill place (cells.toList.take off ++ v.cells.toList ++ cells.toList.drop (off + size)).toArray rest := by
  have h := fold_set v.cells.toList cells off 0 (by simp; omega)
  simp only [Nat.add_zero, Array.length_toList, hs] at h
  rw [Instr.fill, hp]
  simp only [hs]
  rw [if_neg (by simp; omega)]
  congr 1
  rw [← h, ← Array.foldl_toList, Array.toList_zipIdx]

/-- A build in a region that draws its order: its run told. -/
theorem yields_build {P : Program} {ops : Array Oper} {op : Oper} {a : Act} (hgd : op.guard = none) (t : TypeId) (parts : Array (Nat × Operand)) (ho : op.op = .build t parts) (vals : Array (Nat × Value)) (hp : parts.map (fun x => (x.1, a.eval x.2)) = vals) (v : Value)
    (hrun : ∀ W : World, (Instr.build t vals).run P W = .ok v W) : Yields P ops op v a :=
  .inl ⟨by simp [Region.wanted, hgd], fun W => by
    unfold execOp
    have e : (parts.map fun x => match x with | (i, y) => (i, a.eval y)) = vals := hp
    simp only [ho, e, Sem.run_bind, hrun, Result.andThen_ok, Sem.run_pure]⟩
theorem yields_slice {P : Program} {ops : Array Oper} {op : Oper} {a : Act} (hgd : op.guard = none) (t : TypeId) (x : Operand) (lo hi : Option Operand) (ho : op.op = .slice t x lo hi none) (vx : Value) (hx : a.eval x = vx) (vlo vhi : Option Value) (hlo : lo.map a.eval = vlo) (hhi : hi.map a.eval = vhi) (v : Value)
    (hrun : ∀ W : World, (Instr.sliceAt t vx vlo vhi none).run P W = .ok v W) : Yields P ops op v a :=
  .inl ⟨by simp [Region.wanted, hgd], fun W => by
    unfold execOp
    simp only [ho, hx, hlo, hhi, Option.map_none, Sem.run_bind, hrun, Result.andThen_ok, Sem.run_pure]⟩
theorem exec_buildSlice {P : Program} {op : Oper} {a : Act} {w w1 : World} {v : Value} (t : TypeId) (len : Nat) (parts : Array (Nat × Operand)) (ho : op.op = .buildSlice t len parts) (vals : Array (Nat × Value)) (hp : parts.map (fun x => (x.1, a.eval x.2)) = vals)
    (hrun : (Instr.buildSlice t len vals).run P w = .ok v w1) : (execOp a.eval op).run P w = .ok (.value v) w1 := by
  unfold execOp
  have e : (parts.map fun x => match x with | (i, y) => (i, a.eval y)) = vals := hp
  simp only [ho, e, Sem.run_bind, hrun, Result.andThen_ok, Sem.run_pure]
theorem exec_store1 {P : Program} {op : Oper} {a : Act} {w : World} (t : TypeId) (x y : Operand) (ho : op.op = .store t x y) (ad : Addr) (u v : Value) (hx : a.eval x = .pointer (some ad)) (hy : a.eval y = v) (hs : ∀ W : World, (sizeOf t).run P W = .ok 1 W) (hv : v.cells = #[v]) (h1 : v.oneCell' = true) (hsp : ad.spot = none)
    (hc : w.cell? ad = some u) (hf : w.frozen? ad = false) : (execOp a.eval op).run P w = .ok .skip (w.setCell ad v) := by
  unfold execOp
  have h0 : ad.add 0 = ad := by unfold Addr.add; cases ad; simp_all
  have hst : ∀ k : Sem Unit, (Sem.store .plain ad v k).run P w = k.run P (w.setCell ad v) := by
    intro k
    cases v <;> simp_all [Sem.run, Value.oneCell']
  simp [ho, hx, hy, Instr.storeAt, Instr.sureAddr, storeVar, hs, hv, storeCells, h0, store, hst, Result.andThen]
theorem exec_storeA {P : Program} {op : Oper} {a : Act} {w : World} (t : TypeId) (x y : Operand) (ho : op.op = .store t x y) (b o : Nat) (cells : List Value) (hx : a.eval x = .pointer (some ⟨b, o, none⟩)) (hy : a.eval y = .agg cells.toArray)
    (ht : w.there b o cells.length) (hi : (P.info? t).map (·.size) = some cells.length) (h1 : ∀ v ∈ cells, v.oneCell' = true) : (execOp a.eval op).run P w = .ok .skip (w.setCells b o cells) := by
  have h := run_storeAt_mid (P := P) w b o t cells.toArray (by simpa using ht) (by simpa using hi) (all_oneCell_toArray h1)
  unfold execOp
  simp only [ho, hx, hy, Sem.run_bind, h, Result.andThen_ok, Sem.run_pure, List.toList_toArray]
theorem exec_copy {P : Program} {op : Oper} {a : Act} {w w1 : World} {v : Value} (dT sT ty : TypeId) (x y : Operand) (ho : op.op = .call { callee := .builtin .copy, args := #[x, y], argTypes := #[dT, sT] }) (hty : op.type = ty) (vx vy : Value) (hx : a.eval x = vx) (hy : a.eval y = vy)
    (hrun : (Builtin.copy_ #[dT, sT] ty #[vx, vy]).run P w = .ok v w1) : (execOp a.eval op).run P w = .ok (.value v) w1 := by
  unfold execOp
  simp [ho, hty, resolve, invoke, builtin, hx, hy, hrun, Result.andThen]
theorem exec_mapUpdate {P : Program} {op : Oper} {a : Act} {w w1 : World} (t : TypeId) (m k x : Operand) (ho : op.op = .mapUpdate t m k x) (vm vk vx : Value) (hm : a.eval m = vm) (hk : a.eval k = vk) (hx : a.eval x = vx)
    (hrun : (Instr.mapUpdate t vm vk vx).run P w = .ok () w1) : (execOp a.eval op).run P w = .ok .skip w1 := by
  unfold execOp
  simp [ho, hm, hk, hx, hrun, Result.andThen]
theorem wc_all (x : Int × List Int) : (wc x).toArray.all (·.oneCell') = true := all_oneCell_toArray (wc_one x)
theorem build_waits (W : World) (n : Int) (b : List Int) (hb : b.length = 64) : (Instr.build 54 #[(0, .int .i64 n), (1, .agg (bc b).toArray)]).run Try.prog W = .ok (.agg (wc (n, b)).toArray) W := by
  have hz : (zeroValue 54).run Try.prog W = .ok (.agg (wc (0, zb)).toArray) W := by kernel_rfl
  have hs0 : ∀ W, (sizeOf 3).run Try.prog W = .ok 1 W := fun _ => by kernel_rfl
  have hs1 : ∀ W, (sizeOf 23).run Try.prog W = .ok 64 W := fun _ => by kernel_rfl
  unfold Instr.build
  simp only [Sem.run_bind, hz, Result.andThen_ok, run_underlying Try.underlying54]
  simp only [Array.mapM_eq_mapM_toList]
  simp [hs0, hs1, Result.andThen]
  have e1 : Instr.fill (fun i => [((0 : Nat), (1 : Nat)), (1, 64)][i]?) (wc (0, zb)).toArray [(0, .int .i64 n), (1, .agg (bc b).toArray)] = some (wc (n, b)).toArray := by
    rw [fill_cons (off := 0) (size := 1) rfl rfl (by simp [wc, bc, zb])]
    rw [fill_cons (off := 1) (size := 64) rfl (by simp [Value.cells, bc_length, hb]) (by simp [wc, bc, zb, Value.cells])]
    simp [Instr.fill, Value.cells, wc, bc, zb]
  have e2 : (Value.agg (wc (0, zb)).toArray).cells = (wc (0, zb)).toArray := rfl
  rw [e2, e1]
  simp
theorem buildSlice_waits (W : World) (x : Int × List Int) (hb : x.2.length = 64) : (Instr.buildSlice 47 1 #[(0, .agg (wc x).toArray)]).run Try.prog W = .ok (.slice (some ⟨W.heap.size, 0, none⟩) 1 1) (W.alloc (.cells (wc x).toArray 54)) := by
  have hz : ∀ W, (zeroValue 54).run Try.prog W = .ok (.agg (wc (0, zb)).toArray) W := fun _ => by kernel_rfl
  have hs : ∀ W, (sizeOf 54).run Try.prog W = .ok 65 W := fun _ => by kernel_rfl
  have hl : (wc x).length = 65 := by rw [wc_length, hb]
  unfold Instr.buildSlice
  simp only [Sem.run_bind, run_underlying Try.underlying47, Result.andThen_ok, hs, Nat.one_mul, if_neg (show ¬ (65 : Nat) > 2 ^ 24 by decide), if_neg (show ¬ (65 : Nat) = 0 by decide), hz, Sem.run_pure]
  have e1 : ∀ cells : Array Value, cells.size = 65 → Instr.fill (fun i => some (i * 65, 65)) cells [(0, .agg (wc x).toArray)] = some (wc x).toArray := by
    intro cells hc
    rw [fill_cons (off := 0) (size := 65) rfl (by simp [Value.cells, hl]) (by omega)]
    have : cells.toList.drop 65 = [] := List.drop_of_length_le (by simp; omega)
    simp [Instr.fill, Value.cells, this]
  rw [e1 _ (by simp)]
  simp [newRow, Result.andThen]
end Go.Proofs.Ytlngflonolhdhaa

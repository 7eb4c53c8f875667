/- For the walks of the laws on crashes: blocks of a call's own, and what a calm disk answers. -/
import Derived.Test.YtlngflonolhdhaaDkp
import Derived.Laws.StructEq
set_option linter.unusedVariables false
set_option linter.unusedSimpArgs false
namespace Go.Proofs.Ytlngflonolhdhaa
open Go.RowKit Go.Proofs.YtlngflonolhdhaaW.PrintLast

/-- A row of whole numbers is written: the disk is as it was. -/
theorem DAt.int_grown {B : Nat} {w : World} {g : Nat} {D : St} {lb lc : Nat} {qv : Value} {m : Nat} (h : DAt B w g D lb lc qv m) {w' : World} {row : Option Nat} (hg : w.grownBy w' row)
    (hr : ∀ k, row = some k → ∃ cur f, w.heap[k]? = some (.cells cur 3 f)) : DAt B w' g D lb lc qv m := by
  have key : ∀ (k : Nat) (o : Obj), w.heap[k]? = some o → (∀ cur f, o ≠ .cells cur 3 f) → some k ≠ row := by
    intro k o ho hne e
    obtain ⟨cur, f, h2⟩ := hr k e.symm
    rw [ho] at h2; injection h2 with h2; exact hne _ _ h2
  obtain ⟨cl, hcl, _⟩ := h.lb_form
  obtain ⟨es, mc, hmb, _⟩ := h.map
  refine h.other hg (key _ _ h.hg (by intro c f e; injection e with _ e; exact absurd e (by decide))) (key _ _ hcl (by intro c f e; injection e with _ e; exact absurd e (by decide))) ?_ (key _ _ hmb (by simp))
  rcases h.qv_own with e | ⟨q, cur, e, hq⟩
  · exact .inl e
  · right; rw [e]; exact key _ _ hq (by intro c f e; injection e with _ e; exact absurd e (by decide))
theorem DiskAt.int_grown {B : Nat} {w : World} {g : Nat} {D : St} (h : DiskAt B w g D) {w' : World} {row : Option Nat} (hg : w.grownBy w' row)
    (hr : ∀ k, row = some k → ∃ cur f, w.heap[k]? = some (.cells cur 3 f)) : DiskAt B w' g D := by
  obtain ⟨lb, lc, qv, m, h⟩ := h; exact ⟨lb, lc, qv, m, h.int_grown hg hr⟩
theorem own_int {w : World} {B : Nat} {v : Value} {n : Nat} {xs : List Value} (h : w.ownsRow B 3 1 v n xs) : ∀ k, v.ownBlock = some k → ∃ cur f, w.heap[k]? = some (.cells cur 3 f) := by
  intro k hk
  rcases h.2 with ⟨rfl, _⟩ | ⟨g, cap, cur, rfl, h1, h2, _⟩
  · cases hk
  · have := Option.some.inj hk; dsimp only at this; subst this; exact ⟨cur, _, h2⟩
theorem own_kept {w w' : World} {B B' : Nat} {v : Value} {n : Nat} {xs : List Value} (h : w.ownsRow B 3 1 v n xs) (hb : Bel B' w w') : w'.ownsRow B 3 1 v n xs := by
  refine ⟨h.1, ?_⟩
  rcases h.2 with hn | ⟨g, cap, cur, rfl, h1, h2, h3⟩
  · exact .inl hn
  · exact .inr ⟨g, cap, cur, rfl, h1, hb.keep _ _ _ _ (by decide) h2, h3⟩
theorem info_int : (Try.prog.info? 3).map (fun i => (i.zero, i.size, i.bytes)) = some (some (.int .i64 0), 1, 8) := by kernel_rfl

section
variable {B : Nat} {w : World} {g : Nat} {q : Nat} {k : Int} {D : St}
theorem q_write (h : DiskAt B w g D) (hc : Calm q k D) (hq : q ≤ 1000) (hk : k ≤ 1000) (n : Int) (h0 : 0 ≤ n) (h1 : n < 64) (b : List Int) (hb : okB b) : Calls Try.prog 9 #[.pointer (some ⟨g, 0, none⟩), .int .i64 n, .agg (bc b).toArray] w fun r w' => r = .returned (.int .i64 0) ∧ Bel B w w' ∧ ∃ D', DiskAt B w' g D' ∧ Calm (q + 1) (k + 1) D' ∧ D'.laid = D.laid ∧ D'.queue = D.queue ++ [(n, b)] := by
  obtain ⟨e, hc'⟩ := hc.write n b h0 h1
  have := write_bel h n b hb (by have := hc.queue; omega) (by have := hc.work; omega)
  rw [e] at this
  exact this.mono fun r w' ⟨h1, h2, h3⟩ => ⟨h1, h2, _, h3, hc', rfl, rfl⟩
theorem q_flush (h : DiskAt B w g D) (hc : Calm q k D) (hk : k ≤ 1000) : Calls Try.prog 8 #[.pointer (some ⟨g, 0, none⟩)] w fun r w' => r = .returned (.int .i64 0) ∧ Bel B w w' ∧ ∃ D', DiskAt B w' g D' ∧ Calm q (k + 1) D' ∧ D'.laid = overlay D.laid D.queue ∧ D'.queue = [] := by
  obtain ⟨e, hc'⟩ := hc.flush
  have := flush_bel h (by have := hc.work; omega)
  rw [e] at this
  exact this.mono fun r w' ⟨h1, h2, h3⟩ => ⟨h1, h2, _, h3, hc', rfl, rfl⟩
theorem q_sure (h : DiskAt B w g D) (n : Int) (h0 : 0 ≤ n) (h1 : n < 64) (hl : D.laid.length = 64) : Calls Try.prog 14 #[.pointer (some ⟨g, 0, none⟩), .int .i64 n] w fun e w' => e = .returned (.tuple #[.agg (bc (sure D n).1).toArray, .int .i64 0]) ∧ Below w.heap.size w w' := by
  obtain ⟨lb, lc, qv, m, h⟩ := h
  have := sure_any h n
  have e : (sure D n).2 = 0 := by
    have hr : inR D n = true := by simp [inR, hl]; omega
    simp [sure, hr]
  rwa [e] at this
theorem q_read (h : DiskAt B w g D) (n : Int) (h0 : 0 ≤ n) (h1 : n < 64) (hl : D.laid.length = 64) (hg : D.gone = false) : Calls Try.prog 16 #[.pointer (some ⟨g, 0, none⟩), .int .i64 n] w fun e w' => e = .returned (.tuple #[.agg (bc (read D n).1).toArray, .int .i64 0]) ∧ Below w.heap.size w w' := by
  obtain ⟨lb, lc, qv, m, h⟩ := h
  have := read_any h n
  have e : (read D n).2 = 0 := by
    have hr : inR D n = true := by simp [inR, hl]; omega
    simp [read, hr, hg]
  rwa [e] at this
end

/-- A new block, and what is stored into it. -/
theorem box_made (w : World) {z0 b : List Int} (hz : z0.length = 64) (hb : b.length = 64) :
    Below w.heap.size w ((w.alloc (.cells (bc z0).toArray 23)).setCells w.heap.size 0 (bc b)) ∧ Box ((w.alloc (.cells (bc z0).toArray 23)).setCells w.heap.size 0 (bc b)) w.heap.size b ∧
      w.heap.size < ((w.alloc (.cells (bc z0).toArray 23)).setCells w.heap.size 0 (bc b)).heap.size := by
  have hx := Box_new w z0 hz
  have hs : (w.alloc (.cells (bc z0).toArray 23)).heap.size = w.heap.size + 1 := by simp
  have h2 := (grownBy_setCells (w.alloc (.cells (bc z0).toArray 23)) w.heap.size (bc b) 0).size
  exact ⟨below_box ((Below.refl _ _).alloc (Nat.le_refl _) _) (Nat.le_refl _) _, hx.set b hb, by omega⟩
theorem Box.below {w w' : World} {c : Nat} {b : List Int} (h : Box w c b) (hg : Below w.heap.size w w') : Box w' c b := by
  have hc : c < w.heap.size := by
    obtain ⟨v, hv⟩ := Option.isSome_iff_exists.1 (h.2 0 (by omega)).1
    exact World.block_lt_of_cell? w _ hv
  exact h.grown (row := none) ⟨hg.os, hg.tape, hg.output, hg.size, fun i hi _ => hg.block i hi⟩ (by simp)
theorem eq_block_same (w : World) (d : Nat) (b : List Int) (hb : b.length = 64) : (Op.equalIn (d + 2) 23 (.agg (bc b).toArray) (.agg (bc b).toArray)).run Try.prog w = .ok true w := by
  have he := Try.underlying5
  have hsz : ∀ w, (sizeOf 5).run Try.prog w = .ok 1 w := fun w => by kernel_rfl
  rw [Op.equalIn]
  simp only [Sem.run_bind, run_underlying Try.underlying23, Result.andThen_ok, hsz, Std.Legacy.Range.forIn_eq_forIn_range', Std.Legacy.Range.size, Nat.sub_zero, Nat.add_sub_cancel, Nat.div_one]
  have hl : ∀ i ∈ List.range' 0 64 1, i < 64 := fun i hi => by simpa using (List.mem_range'_1.1 hi).2
  generalize List.range' 0 64 1 = l at hl ⊢
  induction l with
  | nil => simp
  | cons i l ih =>
    have hi : i < 64 := hl i (by simp)
    have px : (Go.part 5 (bc b).toArray (i * 1)).run Try.prog w = .ok (.int .u8 (b.getD i 0)) w := by
      simp [Go.part, isAgg, run_underlying he, bc, List.getElem?_eq_getElem (show i < b.length by omega)]
    have pe : (Op.equalIn (d + 1) 5 (.int .u8 (b.getD i 0)) (.int .u8 (b.getD i 0))).run Try.prog w = .ok true w := by
      rw [run_equalIn_int w d 5 .u8 .u8 _ _ he]
      simp
    simp only [List.forIn_cons, Sem.run_bind, px, pe, Result.andThen_ok]
    simp only [Bool.not_true, Bool.false_eq_true, if_false, Sem.run_pure, Result.andThen_ok]
    exact ih fun j hj => hl j (by simp [hj])
theorem neq_same (w : World) (b : List Int) (hb : b.length = 64) : (binOp .neq 23 (.agg (bc b).toArray) (.agg (bc b).toArray)).run Try.prog w = .ok (.bool false) w := by
  rw [run_neq_struct, eq_block_same w 9998 b hb]
  rfl
theorem exec_neq_same {op : Oper} {a : Act} {w : World} (x y : Operand) (t2 : TypeId) (ho : op.op = .binOp .neq 23 x y t2) (b : List Int) (hb : b.length = 64) (hx : a.eval x = .agg (bc b).toArray) (hy : a.eval y = .agg (bc b).toArray) :
    (execOp a.eval op).run Try.prog w = .ok (.value (.bool false)) w := by
  have hm : Try.prog.eqGuardType Try.prog.depth 23 = false := by kernel_rfl
  have h1 : (eqGuard .neq 23 x y (.agg (bc b).toArray) (.agg (bc b).toArray)).run Try.prog w = .ok () w := run_eqGuard_agg (hm := hm) ..
  have h2 := neq_same w b hb
  unfold execOp
  simp only [ho, hx, hy, Sem.run_bind, h1, h2, Result.andThen_ok, Sem.run_pure]
/-- An operation that yields a value, its guard on (or with none). -/
theorem value_wanted {P : Program} {ops : Array Oper} {rest : List Oper} {op : Oper} {a : Act} {w w1 : World} {Q : Exit → Act → World → Prop} {v : Value} (hg : Region.wanted op (yielded ops a.tmps) = true) (hrun : (execOp a.eval op).run P w = .ok (.value v) w1)
    (h : wpList P ops Q rest (a.put op.dst v) w1) : wpList P ops Q (op :: rest) a w :=
  wpList_step fun K hK => by
    simp only [hg, if_true]
    unfold Oper.wp
    rw [hrun]
    exact hK _ _ h

theorem okB_sure {q : Nat} {k : Int} {D : St} (hc : Calm q k D) (hw : Wf D) (n : Int) (h0 : 0 ≤ n) (h1 : n < 64) : okB (sure D n).1 := by
  have hr : inR D n = true := by simp [inR, hc.len]; omega
  have hlt : n.toNat < D.laid.length := by have := hc.len; omega
  simp only [sure, hr, if_true, List.getD_eq_getElem?_getD, List.getElem?_eq_getElem hlt, Option.getD_some]
  exact hw.laid _ (List.getElem_mem hlt)
theorem okB_read {q : Nat} {k : Int} {D : St} (hc : Calm q k D) (hw : Wf D) (n : Int) (h0 : 0 ≤ n) (h1 : n < 64) : okB (read D n).1 := by
  have hr : inR D n = true := by simp [inR, hc.len]; omega
  have hlt : n.toNat < D.laid.length := by have := hc.len; omega
  simp only [read, hc.on, hr, if_true, Bool.false_eq_true, if_false, List.getD_eq_getElem?_getD, List.getElem?_eq_getElem hlt, Option.getD_some]
  cases hy : young D.queue n with
  | none => exact hw.laid _ (List.getElem_mem hlt)
  | some b => exact (hw.queue _ (young_mem hy)).1

end Go.Proofs.Ytlngflonolhdhaa

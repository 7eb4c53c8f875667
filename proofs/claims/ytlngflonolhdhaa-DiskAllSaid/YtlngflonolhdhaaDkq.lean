/- DiskAll, walked. -/
import Derived.Test.YtlngflonolhdhaaDkp
import Derived.Laws.StructEq
set_option linter.unusedVariables false
set_option linter.unusedSimpArgs false
namespace Go.Proofs.Ytlngflonolhdhaa
open Go.RowKit Go.Proofs.YtlngflonolhdhaaW.PrintLast

/-- A row of whole numbers is written: the disk is as it was. -/
theorem DAt.int_grown {B : Nat} {w : World} {g : Nat} {D : St} {lb lc : Nat} {qv : Value} {m : Nat} (h : DAt B w g D lb lc qv m) {w' : World} {row : Option Nat} (hg : w.grownBy w' row)
    (hr : ∀ k, row = some k → ∃ cur f, w.heap[k]? = some (.cells cur 3 f)) : DAt B w' g D lb lc qv m := by
  have key : ∀ (k : Nat) (o : Obj), w.heap[k]? = some o → (∀ cur f, o ≠ .cells cur 3 f) → some k ≠ row := by
    intro k o ho hne e
    obtain ⟨cur, f, h2⟩ := hr k e.symm
    rw [ho] at h2; injection h2 with h2; exact hne _ _ h2
  obtain ⟨cl, hcl, _⟩ := h.lb_form
  obtain ⟨es, mc, hmb, _⟩ := h.map
  refine h.other hg (key _ _ h.hg (by intro c f e; injection e with _ e; exact absurd e (by decide))) (key _ _ hcl (by intro c f e; injection e with _ e; exact absurd e (by decide))) ?_ (key _ _ hmb (by simp))
  rcases h.qv_own with e | ⟨q, cur, e, hq⟩
  · exact .inl e
  · right; rw [e]; exact key _ _ hq (by intro c f e; injection e with _ e; exact absurd e (by decide))
theorem DiskAt.int_grown {B : Nat} {w : World} {g : Nat} {D : St} (h : DiskAt B w g D) {w' : World} {row : Option Nat} (hg : w.grownBy w' row)
    (hr : ∀ k, row = some k → ∃ cur f, w.heap[k]? = some (.cells cur 3 f)) : DiskAt B w' g D := by
  obtain ⟨lb, lc, qv, m, h⟩ := h; exact ⟨lb, lc, qv, m, h.int_grown hg hr⟩
theorem own_int {w : World} {B : Nat} {v : Value} {n : Nat} {xs : List Value} (h : w.ownsRow B 3 1 v n xs) : ∀ k, v.ownBlock = some k → ∃ cur f, w.heap[k]? = some (.cells cur 3 f) := by
  intro k hk
  rcases h.2 with ⟨rfl, _⟩ | ⟨g, cap, cur, rfl, h1, h2, _⟩
  · cases hk
  · have := Option.some.inj hk; dsimp only at this; subst this; exact ⟨cur, _, h2⟩
theorem own_kept {w w' : World} {B B' : Nat} {v : Value} {n : Nat} {xs : List Value} (h : w.ownsRow B 3 1 v n xs) (hb : Bel B' w w') : w'.ownsRow B 3 1 v n xs := by
  refine ⟨h.1, ?_⟩
  rcases h.2 with hn | ⟨g, cap, cur, rfl, h1, h2, h3⟩
  · exact .inl hn
  · exact .inr ⟨g, cap, cur, rfl, h1, hb.keep _ _ _ h2, h3⟩
theorem info_int : (Try.prog.info? 3).map (fun i => (i.zero, i.size, i.bytes)) = some (some (.int .i64 0), 1, 8) := by kernel_rfl

section
variable {B : Nat} {w : World} {g : Nat} {q : Nat} {k : Int} {D : St}
theorem q_write (h : DiskAt B w g D) (hc : Calm q k D) (hq : q ≤ 1000) (hk : k ≤ 1000) (n : Int) (h0 : 0 ≤ n) (h1 : n < 64) (b : List Int) (hb : okB b) : Calls Try.prog 9 #[.pointer (some ⟨g, 0, none⟩), .int .i64 n, .agg (bc b).toArray] w fun r w' => r = .returned (.int .i64 0) ∧ Bel B w w' ∧ ∃ D', DiskAt B w' g D' ∧ Calm (q + 1) (k + 1) D' ∧ D'.laid = D.laid ∧ D'.queue = D.queue ++ [(n, b)] := by
  obtain ⟨e, hc'⟩ := hc.write n b h0 h1
  have := write_bel h n b hb (by have := hc.queue; omega) (by have := hc.work; omega)
  rw [e] at this
  exact this.mono fun r w' ⟨h1, h2, h3⟩ => ⟨h1, h2, _, h3, hc', rfl, rfl⟩
theorem q_flush (h : DiskAt B w g D) (hc : Calm q k D) (hk : k ≤ 1000) : Calls Try.prog 8 #[.pointer (some ⟨g, 0, none⟩)] w fun r w' => r = .returned (.int .i64 0) ∧ Bel B w w' ∧ ∃ D', DiskAt B w' g D' ∧ Calm q (k + 1) D' ∧ D'.laid = overlay D.laid D.queue ∧ D'.queue = [] := by
  obtain ⟨e, hc'⟩ := hc.flush
  have := flush_bel h (by have := hc.work; omega)
  rw [e] at this
  exact this.mono fun r w' ⟨h1, h2, h3⟩ => ⟨h1, h2, _, h3, hc', rfl, rfl⟩
theorem q_sure (h : DiskAt B w g D) (n : Int) (h0 : 0 ≤ n) (h1 : n < 64) (hl : D.laid.length = 64) : Calls Try.prog 14 #[.pointer (some ⟨g, 0, none⟩), .int .i64 n] w fun e w' => e = .returned (.tuple #[.agg (bc (sure D n).1).toArray, .int .i64 0]) ∧ Below w.heap.size w w' := by
  obtain ⟨lb, lc, qv, m, h⟩ := h
  have := sure_any h n
  have e : (sure D n).2 = 0 := by
    have hr : inR D n = true := by simp [inR, hl]; omega
    simp [sure, hr]
  rwa [e] at this
theorem q_read (h : DiskAt B w g D) (n : Int) (h0 : 0 ≤ n) (h1 : n < 64) (hl : D.laid.length = 64) (hg : D.gone = false) : Calls Try.prog 16 #[.pointer (some ⟨g, 0, none⟩), .int .i64 n] w fun e w' => e = .returned (.tuple #[.agg (bc (read D n).1).toArray, .int .i64 0]) ∧ Below w.heap.size w w' := by
  obtain ⟨lb, lc, qv, m, h⟩ := h
  have := read_any h n
  have e : (read D n).2 = 0 := by
    have hr : inR D n = true := by simp [inR, hl]; omega
    simp [read, hr, hg]
  rwa [e] at this
end

/-- A new block, and what is stored into it. -/
theorem box_made (w : World) {z0 b : List Int} (hz : z0.length = 64) (hb : b.length = 64) :
    Below w.heap.size w ((w.alloc (.cells (bc z0).toArray 23)).setCells w.heap.size 0 (bc b)) ∧ Box ((w.alloc (.cells (bc z0).toArray 23)).setCells w.heap.size 0 (bc b)) w.heap.size b ∧
      w.heap.size < ((w.alloc (.cells (bc z0).toArray 23)).setCells w.heap.size 0 (bc b)).heap.size := by
  have hx := Box_new w z0 hz
  have hs : (w.alloc (.cells (bc z0).toArray 23)).heap.size = w.heap.size + 1 := by simp
  have h2 := (grownBy_setCells (w.alloc (.cells (bc z0).toArray 23)) w.heap.size (bc b) 0).size
  exact ⟨below_box ((Below.refl _ _).alloc (Nat.le_refl _) _) (Nat.le_refl _) _, hx.set b hb, by omega⟩
theorem Box.below {w w' : World} {c : Nat} {b : List Int} (h : Box w c b) (hg : Below w.heap.size w w') : Box w' c b := by
  have hc : c < w.heap.size := by
    obtain ⟨v, hv⟩ := Option.isSome_iff_exists.1 (h.2 0 (by omega)).1
    exact World.block_lt_of_cell? w _ hv
  exact h.grown (row := none) ⟨hg.os, hg.tape, hg.output, hg.size, fun i hi _ => hg.block i hi⟩ (by simp)
theorem eq_block_same (w : World) (d : Nat) (b : List Int) (hb : b.length = 64) : (Op.equalIn (d + 2) 23 (.agg (bc b).toArray) (.agg (bc b).toArray)).run Try.prog w = .ok true w := by
  have he := Try.underlying5
  have hsz : ∀ w, (sizeOf 5).run Try.prog w = .ok 1 w := fun w => by kernel_rfl
  rw [Op.equalIn]
  simp only [Sem.run_bind, run_underlying Try.underlying23, Result.andThen_ok, hsz, Std.Legacy.Range.forIn_eq_forIn_range', Std.Legacy.Range.size, Nat.sub_zero, Nat.add_sub_cancel, Nat.div_one]
  have hl : ∀ i ∈ List.range' 0 64 1, i < 64 := fun i hi => by simpa using (List.mem_range'_1.1 hi).2
  generalize List.range' 0 64 1 = l at hl ⊢
  induction l with
  | nil => simp
  | cons i l ih =>
    have hi : i < 64 := hl i (by simp)
    have px : (Go.part 5 (bc b).toArray (i * 1)).run Try.prog w = .ok (.int .u8 (b.getD i 0)) w := by
      simp [Go.part, isAgg, run_underlying he, bc, List.getElem?_eq_getElem (show i < b.length by omega)]
    have pe : (Op.equalIn (d + 1) 5 (.int .u8 (b.getD i 0)) (.int .u8 (b.getD i 0))).run Try.prog w = .ok true w := by
      rw [run_equalIn_int w d 5 .u8 .u8 _ _ he]
      simp
    simp only [List.forIn_cons, Sem.run_bind, px, pe, Result.andThen_ok]
    simp only [Bool.not_true, Bool.false_eq_true, if_false, Sem.run_pure, Result.andThen_ok]
    exact ih fun j hj => hl j (by simp [hj])
theorem neq_same (w : World) (b : List Int) (hb : b.length = 64) : (binOp .neq 23 (.agg (bc b).toArray) (.agg (bc b).toArray)).run Try.prog w = .ok (.bool false) w := by
  rw [run_neq_struct, eq_block_same w 9998 b hb]
  rfl
theorem exec_neq_same {op : Oper} {a : Act} {w : World} (x y : Operand) (t2 : TypeId) (ho : op.op = .binOp .neq 23 x y t2) (b : List Int) (hb : b.length = 64) (hx : a.eval x = .agg (bc b).toArray) (hy : a.eval y = .agg (bc b).toArray) :
    (execOp a.eval op).run Try.prog w = .ok (.value (.bool false)) w := by
  have hm : Try.prog.eqGuardType Try.prog.depth 23 = false := by kernel_rfl
  have h1 : (eqGuard .neq 23 x y (.agg (bc b).toArray) (.agg (bc b).toArray)).run Try.prog w = .ok () w := run_eqGuard_agg (hm := hm) ..
  have h2 := neq_same w b hb
  unfold execOp
  simp only [ho, hx, hy, Sem.run_bind, h1, h2, Result.andThen_ok, Sem.run_pure]
/-- An operation that yields a value, its guard on (or with none). -/
theorem value_wanted {P : Program} {ops : Array Oper} {rest : List Oper} {op : Oper} {a : Act} {w w1 : World} {Q : Exit → Act → World → Prop} {v : Value} (hg : Region.wanted op (yielded ops a.tmps) = true) (hrun : (execOp a.eval op).run P w = .ok (.value v) w1)
    (h : wpList P ops Q rest (a.put op.dst v) w1) : wpList P ops Q (op :: rest) a w :=
  wpList_step fun K hK => by
    simp only [hg, if_true]
    unfold Oper.wp
    rw [hrun]
    exact hK _ _ h

theorem okB_sure {q : Nat} {k : Int} {D : St} (hc : Calm q k D) (hw : Wf D) (n : Int) (h0 : 0 ≤ n) (h1 : n < 64) : okB (sure D n).1 := by
  have hr : inR D n = true := by simp [inR, hc.len]; omega
  have hlt : n.toNat < D.laid.length := by have := hc.len; omega
  simp only [sure, hr, if_true, List.getD_eq_getElem?_getD, List.getElem?_eq_getElem hlt, Option.getD_some]
  exact hw.laid _ (List.getElem_mem hlt)
theorem okB_read {q : Nat} {k : Int} {D : St} (hc : Calm q k D) (hw : Wf D) (n : Int) (h0 : 0 ≤ n) (h1 : n < 64) : okB (read D n).1 := by
  have hr : inR D n = true := by simp [inR, hc.len]; omega
  have hlt : n.toNat < D.laid.length := by have := hc.len; omega
  simp only [read, hc.on, hr, if_true, Bool.false_eq_true, if_false, List.getD_eq_getElem?_getD, List.getElem?_eq_getElem hlt, Option.getD_some]
  cases hy : young D.queue n with
  | none => exact hw.laid _ (List.getElem_mem hlt)
  | some b => exact (hw.queue _ (young_mem hy)).1

/-- What the first loop leaves. -/
structure AllAt (w : World) (g : Nat) (pv : Value) (x : Int) (k : Nat) (wr : World) : Prop where
  below : Below w.heap.size w wr
  own : wr.ownsRow w.heap.size 3 1 pv k (List.replicate k (.int .i64 x))
  disk : ∃ D, DiskAt w.heap.size wr g D ∧ Calm k (2 * k) D

theorem Ints.below {w w' : World} {A : Option Addr} {xs : List Int} {k : Nat} {B : Nat} (h : Ints w A xs k) (hg : Below B w w') (hk : k < B) : Ints w' A xs k := by
  refine ⟨h.1, fun h0 => ?_⟩
  obtain ⟨o, e, hc⟩ := h.2 h0
  exact ⟨o, e, fun j hj => (hg.cell hk).trans (hc j hj)⟩
theorem picks_row {w : World} {B : Nat} {v : Value} {k : Nat} {x : Int} (h : w.ownsRow B 3 1 v k (List.replicate k (.int .i64 x))) (hB : 0 < w.heap.size) (hk : k ≤ 1000) :
    ∃ P0 pc gp, v = .slice P0 k pc ∧ gp < w.heap.size ∧ Ints w P0 (List.replicate k x) gp := by
  rcases h.2 with ⟨rfl, rfl⟩ | ⟨g, cap, cur, rfl, h1, h2, h3, h4, h5, h6⟩
  · exact ⟨none, 0, 0, rfl, hB, by simp, by simp⟩
  · refine ⟨_, cap, g, rfl, lt_of_heap h2, by simp; omega, fun _ => ⟨0, rfl, fun j hj => ?_⟩⟩
    simp at hj
    have := congrArg (fun l : List Value => l[j]?) h6
    rw [cell_of_row _ _ _ _ _ _ h2]
    simp only [List.getElem?_take, List.getElem?_replicate] at this
    rw [if_pos (by omega), if_pos hj] at this
    simpa [hj] using this

set_option maxRecDepth 100000 in
set_option maxHeartbeats 4000000 in
theorem all_loop (w : World) (A : Option Addr) (l : List (Int × List Int)) (cap : Nat) (all : Bool) (hl : 0 < l.length → ∃ b o, A = some ⟨b, o, none⟩ ∧ b < w.heap.size ∧ DeedsAt w b o l) :
    Calls Try.prog 5 #[.slice A l.length cap, .bool all] w fun r w' => r = .returned (.bool true) ∧ Below w.heap.size w w' := by
  obtain ⟨i0, hi0, hz0, hz1, hz2⟩ := info_parts info_int
  have HL := Lib.hid hl; clear hl
  go_enter Try.func5, Try.ntmps5
  go_wp2_with fail
  refine (new_any w.heap.size w 64 (by omega) (by omega) (Nat.le_refl _)).mono ?_
  rintro e w1 ⟨g, rfl, hd, hb1⟩
  have HD := Lib.hid hd; clear hd
  have HB := Lib.hid hb1; clear hb1
  cases all
  · go_wp2_with fail
    go_loopw [8, 9] (fun pv i wr => ∃ k : Nat, k ≤ l.length ∧ k ≤ 40 ∧ i = .int .i64 k ∧ AllAt w g pv 0 k wr) (fun _ i _ => ((l.length : Int) - intOf i).toNat)
    case atStart => exact ⟨0, by omega, by omega, rfl, HB.out, World.ownsRow_nil _ _ _ _, _, HD.out, Calm.fresh⟩
    case round =>
      obtain ⟨k, hk1, hk2, rfl, hat⟩ := hrel
      clear HD HB
      have HA := Lib.hid hat; clear hat
      by_cases hlt : (k : Int) < l.length ∧ (k : Int) < 40
      · obtain ⟨ha1, ha2⟩ := hlt
        have hk0 : (0 : Int) ≤ (k : Int) := by omega
        obtain ⟨b, o, rfl, hbw, hds⟩ := HL.out (by omega)
        have hx : l[k]? = some l[k] := List.getElem?_eq_getElem (by omega)
        obtain ⟨hn, hr, hok⟩ := hds k _ hx
        generalize l[k] = y at hn hr hok hx
        have HN := Lib.hid hn; clear hn
        have HR := Lib.hid hr; clear hr
        have HO := Lib.hid hok; clear hok
        have HX := Lib.hid hx; clear hx
        clear hds
        go_wp2_with (first
          | (refine wpList_append_own rfl (.tmp 35) (.tmp 37) _ rfl w.heap.size 3 i0 (.int .i64 0) 1 8 Try.underlying35 hi0 hz0 hz1 hz2 rfl (by decide) _ k _ rfl (HA.out.own.alloc _) ⟨wr.heap.size, 0, none⟩ 1 1 [.int .i64 0] (by rfl) rfl (World.news_of_block (heap_alloc_new wr _)) (by intro u hu; simp at hu; subst hu; rfl) (by unfold maxLen; omega) (by omega) (by have := HA.out.below.size; simp; omega) ?_
             intro pv' w2 hown2 hgr2 hnil2)
          | fail)
        have hb2 : Below w.heap.size w w2.drew := ((HA.out.below.alloc HA.out.below.size _).grown hgr2 (by have := HA.out.below.size; simp; omega) (fun k hk => (HA.out.own.lt k hk).1)).drew
        obtain ⟨D, hd, hc⟩ := HA.out.disk
        have hd2 : DiskAt w.heap.size w2.drew g D := ((hd.below ((Below.refl _ _).alloc (Nat.le_refl _) _)).int_grown hgr2 (own_int (HA.out.own.alloc _))).below (Below.refl _ _).drew
        have hown2' : w2.drew.ownsRow w.heap.size 3 1 pv' (k + 1) (List.replicate (k + 1) (.int .i64 0)) := by
          rw [List.replicate_succ']; exact hown2
        have HD := Lib.hid hd2
        have HC := Lib.hid hc
        have HP := Lib.hid hown2'
        have f1 := (hb2.cell (p := ⟨b, o + k * 67 + 1, none⟩) hbw).trans HN.out
        have f2 : w2.drew.rangeAt b (o + k * 67 + 2) (bc y.2) := fun j v hv => (hb2.cell (p := ⟨b, _, none⟩) hbw).trans (HR.out j v hv)
        have hu := Try.underlying23
        have hi := size_block y.2 HO.out.1
        clear hd hc hd2 hown2 hown2' hnil2 hgr2 HA
        by_cases h6 : (k : Int) % 7 = 6
        · have h6' : ((k : Int).tmod 7 == 6) = true := by rw [Int.tmod_eq_emod_of_nonneg hk0]; simp [h6]
          refine start_ (n := 24) (S := (fun w' => w'.cell? ⟨b, o + k * 67 + 1, none⟩ = some (.int .i64 y.1) ∧ w'.rangeAt b (o + k * 67 + 2) (bc y.2))) (ds := []) #[false, false, false, false, false, false, false, false, false, false, false, false, false, false, false, false, false, false, false, false, false, false, false, false] (by kernel_rfl) rfl rfl ⟨f1, f2⟩ (fun hHeld => ?_)
          refine pure_ (i := 0) (N := (some 39)) (v := ?_) (a' := ?_) #[true, false, false, false, false, false, false, false, false, false, false, false, false, false, false, false, false, false, false, false, false, false, false, false] rfl rfl (by kernel_rfl) (fun _ _ _ h => h) (Or.inl ⟨by rfl, ?_⟩) ?_ ?_
          rotate_left
          · (intro w'; go_simp; with_reducible rfl)
          rotate_left
          · (simp only [Act.put, List.setIfInBounds_toArray, List.set_cons_zero, List.set_cons_succ]; rfl)
          refine pure_ (i := 1) (N := (some 40)) (v := ?_) (a' := ?_) #[true, true, false, false, false, false, false, false, false, false, false, false, false, false, false, false, false, false, false, false, false, false, false, false] rfl rfl (by kernel_rfl) (fun _ _ _ h => h) (Or.inl ⟨by rfl, ?_⟩) ?_ ?_
          rotate_left
          · (intro w'; go_simp; with_reducible rfl)
          rotate_left
          · (simp only [Act.put, List.setIfInBounds_toArray, List.set_cons_zero, List.set_cons_succ]; rfl)
          refine pure_ (i := 2) (N := (some 41)) (v := ?_) (a' := ?_) #[true, true, true, false, false, false, false, false, false, false, false, false, false, false, false, false, false, false, false, false, false, false, false, false] rfl rfl (by kernel_rfl) (fun _ _ _ h => h) (Or.inl ⟨by rfl, ?_⟩) ?_ ?_
          rotate_left
          · (intro w'; go_simp; with_reducible rfl)
          rotate_left
          · (simp only [Act.put, List.setIfInBounds_toArray, List.set_cons_zero, List.set_cons_succ]; rfl)
          refine pure_ (i := 3) (N := (some 42)) (v := ?_) (a' := ?_) #[true, true, true, true, false, false, false, false, false, false, false, false, false, false, false, false, false, false, false, false, false, false, false, false] rfl rfl (by kernel_rfl) (fun _ _ _ h => h) (Or.inl ⟨by rfl, ?_⟩) ?_ ?_
          rotate_left
          · (intro w'; go_simp; with_reducible rfl)
          rotate_left
          · (simp only [Act.put, List.setIfInBounds_toArray, List.set_cons_zero, List.set_cons_succ]; rfl)
          refine pure_ (i := 4) (N := (some 43)) (v := ?_) (a' := ?_) #[true, true, true, true, true, false, false, false, false, false, false, false, false, false, false, false, false, false, false, false, false, false, false, false] rfl rfl (by kernel_rfl) (fun _ _ _ h => h) (Or.inl ⟨by rfl, ?_⟩) ?_ ?_
          rotate_left
          · (intro w'; go_simp; with_reducible rfl)
          rotate_left
          · (simp only [Act.put, List.setIfInBounds_toArray, List.set_cons_zero, List.set_cons_succ]; rfl)
          refine take_ (i := 5) (N := (some 44)) (v := ?_) (a' := ?_) #[true, true, true, true, true, true, false, false, false, false, false, false, false, false, false, false, false, false, false, false, false, false, false, false] rfl rfl (by kernel_rfl) (fun _ _ _ h => h) (Or.inl ⟨by rfl, ?_⟩) hHeld ?_ ?_
          rotate_left
          · (rintro w' hSw; (try dsimp only at hSw); go_split_ands; go_simp; with_reducible rfl)
          rotate_left
          · (simp only [Act.put, List.setIfInBounds_toArray, List.set_cons_zero, List.set_cons_succ]; rfl)
          refine pure_ (i := 6) (N := (some 45)) (v := ?_) (a' := ?_) #[true, true, true, true, true, true, true, false, false, false, false, false, false, false, false, false, false, false, false, false, false, false, false, false] rfl rfl (by kernel_rfl) (fun _ _ _ h => h) (Or.inl ⟨by rfl, ?_⟩) ?_ ?_
          rotate_left
          · (intro w'; go_simp; with_reducible rfl)
          rotate_left
          · (simp only [Act.put, List.setIfInBounds_toArray, List.set_cons_zero, List.set_cons_succ]; rfl)
          refine pure_ (i := 7) (N := (some 46)) (v := ?_) (a' := ?_) #[true, true, true, true, true, true, true, true, false, false, false, false, false, false, false, false, false, false, false, false, false, false, false, false] rfl rfl (by kernel_rfl) (fun _ _ _ h => h) (Or.inl ⟨by rfl, ?_⟩) ?_ ?_
          rotate_left
          · (intro w'; go_simp; with_reducible rfl)
          rotate_left
          · (simp only [Act.put, List.setIfInBounds_toArray, List.set_cons_zero, List.set_cons_succ]; rfl)
          refine pure_ (i := 8) (N := (some 47)) (v := ?_) (a' := ?_) #[true, true, true, true, true, true, true, true, true, false, false, false, false, false, false, false, false, false, false, false, false, false, false, false] rfl rfl (by kernel_rfl) (fun _ _ _ h => h) (Or.inl ⟨by rfl, ?_⟩) ?_ ?_
          rotate_left
          · (intro w'; go_simp; with_reducible rfl)
          rotate_left
          · (simp only [Act.put, List.setIfInBounds_toArray, List.set_cons_zero, List.set_cons_succ]; rfl)
          refine pure_ (i := 9) (N := (some 48)) (v := ?_) (a' := ?_) #[true, true, true, true, true, true, true, true, true, true, false, false, false, false, false, false, false, false, false, false, false, false, false, false] rfl rfl (by kernel_rfl) (fun _ _ _ h => h) (Or.inl ⟨by rfl, ?_⟩) ?_ ?_
          rotate_left
          · (intro w'; go_simp; with_reducible rfl)
          rotate_left
          · (simp only [Act.put, List.setIfInBounds_toArray, List.set_cons_zero, List.set_cons_succ]; rfl)
          refine pure_ (i := 10) (N := (some 49)) (v := ?_) (a' := ?_) #[true, true, true, true, true, true, true, true, true, true, true, false, false, false, false, false, false, false, false, false, false, false, false, false] rfl rfl (by kernel_rfl) (fun _ _ _ h => h) (Or.inl ⟨by rfl, ?_⟩) ?_ ?_
          rotate_left
          · (intro w'; go_simp; with_reducible rfl)
          rotate_left
          · (simp only [Act.put, List.setIfInBounds_toArray, List.set_cons_zero, List.set_cons_succ]; rfl)
          refine take_ (i := 11) (N := (some 50)) (v := _) (a' := ?_) #[true, true, true, true, true, true, true, true, true, true, true, true, false, false, false, false, false, false, false, false, false, false, false, false] rfl rfl (by kernel_rfl) (fun _ _ _ h => h) (yieldsIf_load_mid (by rfl) 23 (.tmp 49) rfl b (o + k * 67 + 2) rfl (bc y.2) _ (fun w' h => h.2) hu rfl hi) hHeld ?_ ?_
          rotate_left
          · (simp only [Act.put, List.setIfInBounds_toArray, List.set_cons_zero, List.set_cons_succ]; rfl)
          refine one_ (i := 12) (N := (some 51)) #[true, true, true, true, true, true, true, true, true, true, true, true, true, false, false, false, false, false, false, false, false, false, false, false] rfl rfl (by kernel_rfl) (by decide) (fun K hK => ?_)
          generalize w2.drew = W at hb2 HD HP hHeld ⊢
          refine goes_ Try.func9 (by kernel_rfl) rfl #[.pointer (some ⟨g, 0, none⟩), .int .i64 (y.1 % 64), .agg (bc y.2).toArray] (by rfl) rfl rfl (by rw [← i64_and63]; simp only [List.map_toArray, List.map_cons, List.map_nil]; rfl) ?_
          refine (q_write HD.out HC.out (by omega) (by omega) (y.1 % 64) (by omega) (by omega) y.2 HO.out).mono ?_
          rintro e w3 ⟨rfl, hbel3, D3, hd3, hc3, -, -⟩
          have hb3 := hb2.trans hbel3.below
          refine ⟨_, rfl, hK.out _ _ ⟨(hbel3.below.cell hbw).trans hHeld.1, fun j v hv => (hbel3.below.cell hbw).trans (hHeld.2 j v hv)⟩ (fun hHeld => ?_)⟩
          replace HD := Lib.hid hd3
          replace HC := Lib.hid hc3
          replace HP := Lib.hid (own_kept HP.out hbel3)
          clear hK K hd3 hc3 hbel3 hb2
          refine norm_ (a' := ?_) ?_ ?_
          rotate_left
          · (show Act.put _ (some 51) _ = _; simp only [Act.put, List.setIfInBounds_toArray, List.set_cons_zero, List.set_cons_succ]; rfl)
          refine pure_ (i := 13) (N := (some 52)) (v := ?_) (a' := ?_) #[true, true, true, true, true, true, true, true, true, true, true, true, true, true, false, false, false, false, false, false, false, false, false, false] rfl rfl (by kernel_rfl) (fun _ _ _ h => h) (Or.inl ⟨by rfl, ?_⟩) ?_ ?_
          rotate_left
          · (intro w'; go_simp; with_reducible rfl)
          rotate_left
          · (simp only [Act.put, List.setIfInBounds_toArray, List.set_cons_zero, List.set_cons_succ]; rfl)
          refine pure_ (i := 14) (N := (some 53)) (v := ?_) (a' := ?_) #[true, true, true, true, true, true, true, true, true, true, true, true, true, true, true, false, false, false, false, false, false, false, false, false] rfl rfl (by kernel_rfl) (fun _ _ _ h => h) (Or.inl ⟨by rfl, ?_⟩) ?_ ?_
          rotate_left
          · (intro w'; go_simp; with_reducible rfl)
          rotate_left
          · (simp only [Act.put, List.setIfInBounds_toArray, List.set_cons_zero, List.set_cons_succ]; rfl)
          refine pure_ (i := 15) (N := (some 54)) (v := ?_) (a' := ?_) #[true, true, true, true, true, true, true, true, true, true, true, true, true, true, true, true, false, false, false, false, false, false, false, false] rfl rfl (by kernel_rfl) (fun _ _ _ h => h) (Or.inl ⟨by rfl, ?_⟩) ?_ ?_
          rotate_left
          · (intro w'; go_simp; with_reducible rfl)
          rotate_left
          · (simp only [Act.put, List.setIfInBounds_toArray, List.set_cons_zero, List.set_cons_succ]; rfl)
          refine pure_ (i := 16) (N := (some 55)) (v := ?_) (a' := ?_) #[true, true, true, true, true, true, true, true, true, true, true, true, true, true, true, true, true, false, false, false, false, false, false, false] rfl rfl (by kernel_rfl) (fun _ _ _ h => h) (Or.inl ⟨by rfl, ?_⟩) ?_ ?_
          rotate_left
          · (intro w'; go_simp; with_reducible rfl)
          rotate_left
          · (simp only [Act.put, List.setIfInBounds_toArray, List.set_cons_zero, List.set_cons_succ]; rfl)
          refine pure_ (i := 17) (N := (some 56)) (v := ?_) (a' := ?_) #[true, true, true, true, true, true, true, true, true, true, true, true, true, true, true, true, true, true, false, false, false, false, false, false] rfl rfl (by kernel_rfl) (fun _ _ _ h => h) (Or.inl ⟨by rfl, ?_⟩) ?_ ?_
          rotate_left
          · (intro w'; go_simp; with_reducible rfl)
          rotate_left
          · (simp only [Act.put, List.setIfInBounds_toArray, List.set_cons_zero, List.set_cons_succ]; rfl)
          refine pure_ (i := 18) (N := (some 57)) (v := ?_) (a' := ?_) #[true, true, true, true, true, true, true, true, true, true, true, true, true, true, true, true, true, true, true, false, false, false, false, false] rfl rfl (by kernel_rfl) (fun _ _ _ h => h) (Or.inl ⟨by rfl, ?_⟩) ?_ ?_
          rotate_left
          · (intro w'; go_simp; with_reducible rfl)
          rotate_left
          · (simp only [Act.put, List.setIfInBounds_toArray, List.set_cons_zero, List.set_cons_succ]; rfl)
          refine pure_ (i := 19) (N := (some 58)) (v := ?_) (a' := ?_) #[true, true, true, true, true, true, true, true, true, true, true, true, true, true, true, true, true, true, true, true, false, false, false, false] rfl rfl (by kernel_rfl) (fun _ _ _ h => h) (Or.inl ⟨by rfl, ?_⟩) ?_ ?_
          rotate_left
          · (intro w'; go_simp; with_reducible rfl)
          rotate_left
          · (simp only [Act.put, List.setIfInBounds_toArray, List.set_cons_zero, List.set_cons_succ]; rfl)
          refine one_ (i := 20) (N := (some 59)) #[true, true, true, true, true, true, true, true, true, true, true, true, true, true, true, true, true, true, true, true, true, false, false, false] rfl rfl (by kernel_rfl) (by decide) (fun K hK => ?_)
          refine goes_ Try.func8 (by kernel_rfl) rfl #[.pointer (some ⟨g, 0, none⟩)] (by rfl) rfl rfl (by simp only [List.map_toArray, List.map_cons, List.map_nil]; rfl) ?_
          refine (q_flush HD.out HC.out (by omega)).mono ?_
          rintro e w4 ⟨rfl, hbel3, D4, hd3, hc3, -, -⟩
          replace hb3 := hb3.trans hbel3.below
          refine ⟨_, rfl, hK.out _ _ ⟨(hbel3.below.cell hbw).trans hHeld.1, fun j v hv => (hbel3.below.cell hbw).trans (hHeld.2 j v hv)⟩ (fun hHeld => ?_)⟩
          replace HD := Lib.hid hd3
          replace HC := Lib.hid hc3
          replace HP := Lib.hid (own_kept HP.out hbel3)
          clear hK K hd3 hc3 hbel3
          refine norm_ (a' := ?_) ?_ ?_
          rotate_left
          · (show Act.put _ (some 59) _ = _; simp only [Act.put, List.setIfInBounds_toArray, List.set_cons_zero, List.set_cons_succ]; rfl)
          refine pure_ (i := 21) (N := (some 60)) (v := ?_) (a' := ?_) #[true, true, true, true, true, true, true, true, true, true, true, true, true, true, true, true, true, true, true, true, true, true, false, false] rfl rfl (by kernel_rfl) (fun _ _ _ h => h) (Or.inl ⟨by rfl, ?_⟩) ?_ ?_
          rotate_left
          · (intro w'; go_simp; with_reducible rfl)
          rotate_left
          · (simp only [Act.put, List.setIfInBounds_toArray, List.set_cons_zero, List.set_cons_succ]; rfl)
          refine pure_ (i := 22) (N := (some 61)) (v := ?_) (a' := ?_) #[true, true, true, true, true, true, true, true, true, true, true, true, true, true, true, true, true, true, true, true, true, true, true, false] rfl rfl (by kernel_rfl) (fun _ _ _ h => h) (Or.inl ⟨by rfl, ?_⟩) ?_ ?_
          rotate_left
          · (intro w'; go_simp; with_reducible rfl)
          rotate_left
          · (simp only [Act.put, List.setIfInBounds_toArray, List.set_cons_zero, List.set_cons_succ]; rfl)
          refine pure_ (i := 23) (N := (some 62)) (v := ?_) (a' := ?_) #[true, true, true, true, true, true, true, true, true, true, true, true, true, true, true, true, true, true, true, true, true, true, true, true] rfl rfl (by kernel_rfl) (fun _ _ _ h => h) (Or.inl ⟨by rfl, ?_⟩) ?_ ?_
          rotate_left
          · (intro w'; go_simp; with_reducible rfl)
          rotate_left
          · (simp only [Act.put, List.setIfInBounds_toArray, List.set_cons_zero, List.set_cons_succ]; rfl)
          refine done_ (by kernel_rfl) ?_
          go_wp2_with fail
          exact ⟨⟨k + 1, by omega, by omega, rfl, hb3, HP.out, _, HD.out, HC.out.mono (by omega) (by omega)⟩, by simp only [intOf]; omega⟩
        · have h6' : ((k : Int).tmod 7 == 6) = false := by rw [Int.tmod_eq_emod_of_nonneg hk0]; simp [h6]
          refine start_ (n := 24) (S := (fun w' => w'.cell? ⟨b, o + k * 67 + 1, none⟩ = some (.int .i64 y.1) ∧ w'.rangeAt b (o + k * 67 + 2) (bc y.2))) (ds := []) #[false, false, false, false, false, false, false, false, false, false, false, false, false, false, false, false, false, false, false, false, false, false, false, false] (by kernel_rfl) rfl rfl ⟨f1, f2⟩ (fun hHeld => ?_)
          refine pure_ (i := 0) (N := (some 39)) (v := ?_) (a' := ?_) #[true, false, false, false, false, false, false, false, false, false, false, false, false, false, false, false, false, false, false, false, false, false, false, false] rfl rfl (by kernel_rfl) (fun _ _ _ h => h) (Or.inl ⟨by rfl, ?_⟩) ?_ ?_
          rotate_left
          · (intro w'; go_simp; with_reducible rfl)
          rotate_left
          · (simp only [Act.put, List.setIfInBounds_toArray, List.set_cons_zero, List.set_cons_succ]; rfl)
          refine pure_ (i := 1) (N := (some 40)) (v := ?_) (a' := ?_) #[true, true, false, false, false, false, false, false, false, false, false, false, false, false, false, false, false, false, false, false, false, false, false, false] rfl rfl (by kernel_rfl) (fun _ _ _ h => h) (Or.inl ⟨by rfl, ?_⟩) ?_ ?_
          rotate_left
          · (intro w'; go_simp; with_reducible rfl)
          rotate_left
          · (simp only [Act.put, List.setIfInBounds_toArray, List.set_cons_zero, List.set_cons_succ]; rfl)
          refine pure_ (i := 2) (N := (some 41)) (v := ?_) (a' := ?_) #[true, true, true, false, false, false, false, false, false, false, false, false, false, false, false, false, false, false, false, false, false, false, false, false] rfl rfl (by kernel_rfl) (fun _ _ _ h => h) (Or.inl ⟨by rfl, ?_⟩) ?_ ?_
          rotate_left
          · (intro w'; go_simp; with_reducible rfl)
          rotate_left
          · (simp only [Act.put, List.setIfInBounds_toArray, List.set_cons_zero, List.set_cons_succ]; rfl)
          refine pure_ (i := 3) (N := (some 42)) (v := ?_) (a' := ?_) #[true, true, true, true, false, false, false, false, false, false, false, false, false, false, false, false, false, false, false, false, false, false, false, false] rfl rfl (by kernel_rfl) (fun _ _ _ h => h) (Or.inl ⟨by rfl, ?_⟩) ?_ ?_
          rotate_left
          · (intro w'; go_simp; with_reducible rfl)
          rotate_left
          · (simp only [Act.put, List.setIfInBounds_toArray, List.set_cons_zero, List.set_cons_succ]; rfl)
          refine pure_ (i := 4) (N := (some 43)) (v := ?_) (a' := ?_) #[true, true, true, true, true, false, false, false, false, false, false, false, false, false, false, false, false, false, false, false, false, false, false, false] rfl rfl (by kernel_rfl) (fun _ _ _ h => h) (Or.inl ⟨by rfl, ?_⟩) ?_ ?_
          rotate_left
          · (intro w'; go_simp; with_reducible rfl)
          rotate_left
          · (simp only [Act.put, List.setIfInBounds_toArray, List.set_cons_zero, List.set_cons_succ]; rfl)
          refine take_ (i := 5) (N := (some 44)) (v := ?_) (a' := ?_) #[true, true, true, true, true, true, false, false, false, false, false, false, false, false, false, false, false, false, false, false, false, false, false, false] rfl rfl (by kernel_rfl) (fun _ _ _ h => h) (Or.inl ⟨by rfl, ?_⟩) hHeld ?_ ?_
          rotate_left
          · (rintro w' hSw; (try dsimp only at hSw); go_split_ands; go_simp; with_reducible rfl)
          rotate_left
          · (simp only [Act.put, List.setIfInBounds_toArray, List.set_cons_zero, List.set_cons_succ]; rfl)
          refine pure_ (i := 6) (N := (some 45)) (v := ?_) (a' := ?_) #[true, true, true, true, true, true, true, false, false, false, false, false, false, false, false, false, false, false, false, false, false, false, false, false] rfl rfl (by kernel_rfl) (fun _ _ _ h => h) (Or.inl ⟨by rfl, ?_⟩) ?_ ?_
          rotate_left
          · (intro w'; go_simp; with_reducible rfl)
          rotate_left
          · (simp only [Act.put, List.setIfInBounds_toArray, List.set_cons_zero, List.set_cons_succ]; rfl)
          refine pure_ (i := 7) (N := (some 46)) (v := ?_) (a' := ?_) #[true, true, true, true, true, true, true, true, false, false, false, false, false, false, false, false, false, false, false, false, false, false, false, false] rfl rfl (by kernel_rfl) (fun _ _ _ h => h) (Or.inl ⟨by rfl, ?_⟩) ?_ ?_
          rotate_left
          · (intro w'; go_simp; with_reducible rfl)
          rotate_left
          · (simp only [Act.put, List.setIfInBounds_toArray, List.set_cons_zero, List.set_cons_succ]; rfl)
          refine pure_ (i := 8) (N := (some 47)) (v := ?_) (a' := ?_) #[true, true, true, true, true, true, true, true, true, false, false, false, false, false, false, false, false, false, false, false, false, false, false, false] rfl rfl (by kernel_rfl) (fun _ _ _ h => h) (Or.inl ⟨by rfl, ?_⟩) ?_ ?_
          rotate_left
          · (intro w'; go_simp; with_reducible rfl)
          rotate_left
          · (simp only [Act.put, List.setIfInBounds_toArray, List.set_cons_zero, List.set_cons_succ]; rfl)
          refine pure_ (i := 9) (N := (some 48)) (v := ?_) (a' := ?_) #[true, true, true, true, true, true, true, true, true, true, false, false, false, false, false, false, false, false, false, false, false, false, false, false] rfl rfl (by kernel_rfl) (fun _ _ _ h => h) (Or.inl ⟨by rfl, ?_⟩) ?_ ?_
          rotate_left
          · (intro w'; go_simp; with_reducible rfl)
          rotate_left
          · (simp only [Act.put, List.setIfInBounds_toArray, List.set_cons_zero, List.set_cons_succ]; rfl)
          refine pure_ (i := 10) (N := (some 49)) (v := ?_) (a' := ?_) #[true, true, true, true, true, true, true, true, true, true, true, false, false, false, false, false, false, false, false, false, false, false, false, false] rfl rfl (by kernel_rfl) (fun _ _ _ h => h) (Or.inl ⟨by rfl, ?_⟩) ?_ ?_
          rotate_left
          · (intro w'; go_simp; with_reducible rfl)
          rotate_left
          · (simp only [Act.put, List.setIfInBounds_toArray, List.set_cons_zero, List.set_cons_succ]; rfl)
          refine take_ (i := 11) (N := (some 50)) (v := _) (a' := ?_) #[true, true, true, true, true, true, true, true, true, true, true, true, false, false, false, false, false, false, false, false, false, false, false, false] rfl rfl (by kernel_rfl) (fun _ _ _ h => h) (yieldsIf_load_mid (by rfl) 23 (.tmp 49) rfl b (o + k * 67 + 2) rfl (bc y.2) _ (fun w' h => h.2) hu rfl hi) hHeld ?_ ?_
          rotate_left
          · (simp only [Act.put, List.setIfInBounds_toArray, List.set_cons_zero, List.set_cons_succ]; rfl)
          refine one_ (i := 12) (N := (some 51)) #[true, true, true, true, true, true, true, true, true, true, true, true, true, false, false, false, false, false, false, false, false, false, false, false] rfl rfl (by kernel_rfl) (by decide) (fun K hK => ?_)
          generalize w2.drew = W at hb2 HD HP hHeld ⊢
          refine goes_ Try.func9 (by kernel_rfl) rfl #[.pointer (some ⟨g, 0, none⟩), .int .i64 (y.1 % 64), .agg (bc y.2).toArray] (by rfl) rfl rfl (by rw [← i64_and63]; simp only [List.map_toArray, List.map_cons, List.map_nil]; rfl) ?_
          refine (q_write HD.out HC.out (by omega) (by omega) (y.1 % 64) (by omega) (by omega) y.2 HO.out).mono ?_
          rintro e w3 ⟨rfl, hbel3, D3, hd3, hc3, -, -⟩
          have hb3 := hb2.trans hbel3.below
          refine ⟨_, rfl, hK.out _ _ ⟨(hbel3.below.cell hbw).trans hHeld.1, fun j v hv => (hbel3.below.cell hbw).trans (hHeld.2 j v hv)⟩ (fun hHeld => ?_)⟩
          replace HD := Lib.hid hd3
          replace HC := Lib.hid hc3
          replace HP := Lib.hid (own_kept HP.out hbel3)
          clear hK K hd3 hc3 hbel3 hb2
          refine norm_ (a' := ?_) ?_ ?_
          rotate_left
          · (show Act.put _ (some 51) _ = _; simp only [Act.put, List.setIfInBounds_toArray, List.set_cons_zero, List.set_cons_succ]; rfl)
          refine pure_ (i := 13) (N := (some 52)) (v := ?_) (a' := ?_) #[true, true, true, true, true, true, true, true, true, true, true, true, true, true, false, false, false, false, false, false, false, false, false, false] rfl rfl (by kernel_rfl) (fun _ _ _ h => h) (Or.inl ⟨by rfl, ?_⟩) ?_ ?_
          rotate_left
          · (intro w'; go_simp; with_reducible rfl)
          rotate_left
          · (simp only [Act.put, List.setIfInBounds_toArray, List.set_cons_zero, List.set_cons_succ]; rfl)
          refine pure_ (i := 14) (N := (some 53)) (v := ?_) (a' := ?_) #[true, true, true, true, true, true, true, true, true, true, true, true, true, true, true, false, false, false, false, false, false, false, false, false] rfl rfl (by kernel_rfl) (fun _ _ _ h => h) (Or.inl ⟨by rfl, ?_⟩) ?_ ?_
          rotate_left
          · (intro w'; go_simp; with_reducible rfl)
          rotate_left
          · (simp only [Act.put, List.setIfInBounds_toArray, List.set_cons_zero, List.set_cons_succ]; rfl)
          refine pure_ (i := 15) (N := (some 54)) (v := ?_) (a' := ?_) #[true, true, true, true, true, true, true, true, true, true, true, true, true, true, true, true, false, false, false, false, false, false, false, false] rfl rfl (by kernel_rfl) (fun _ _ _ h => h) (Or.inl ⟨by rfl, ?_⟩) ?_ ?_
          rotate_left
          · (intro w'; go_simp; with_reducible rfl)
          rotate_left
          · (simp only [Act.put, List.setIfInBounds_toArray, List.set_cons_zero, List.set_cons_succ]; rfl)
          refine pure_ (i := 16) (N := (some 55)) (v := ?_) (a' := ?_) #[true, true, true, true, true, true, true, true, true, true, true, true, true, true, true, true, true, false, false, false, false, false, false, false] rfl rfl (by kernel_rfl) (fun _ _ _ h => h) (Or.inl ⟨by rfl, ?_⟩) ?_ ?_
          rotate_left
          · (intro w'; go_simp; with_reducible rfl)
          rotate_left
          · (simp only [Act.put, List.setIfInBounds_toArray, List.set_cons_zero, List.set_cons_succ]; rfl)
          refine pure_ (i := 17) (N := (some 56)) (v := ?_) (a' := ?_) #[true, true, true, true, true, true, true, true, true, true, true, true, true, true, true, true, true, true, false, false, false, false, false, false] rfl rfl (by kernel_rfl) (fun _ _ _ h => h) (Or.inl ⟨by rfl, ?_⟩) ?_ ?_
          rotate_left
          · (intro w'; go_simp; with_reducible rfl)
          rotate_left
          · (simp only [Act.put, List.setIfInBounds_toArray, List.set_cons_zero, List.set_cons_succ]; rfl)
          refine pure_ (i := 18) (N := (some 57)) (v := ?_) (a' := ?_) #[true, true, true, true, true, true, true, true, true, true, true, true, true, true, true, true, true, true, true, false, false, false, false, false] rfl rfl (by kernel_rfl) (fun _ _ _ h => h) (Or.inl ⟨by rfl, ?_⟩) ?_ ?_
          rotate_left
          · (intro w'; go_simp; with_reducible rfl)
          rotate_left
          · (simp only [Act.put, List.setIfInBounds_toArray, List.set_cons_zero, List.set_cons_succ]; rfl)
          refine pure_ (i := 19) (N := (some 58)) (v := undef) (a' := ?_) #[true, true, true, true, true, true, true, true, true, true, true, true, true, true, true, true, true, true, true, true, false, false, false, false] rfl rfl (by kernel_rfl) (fun _ _ _ h => h) (Or.inr ⟨by rfl, rfl⟩) ?_ ?_
          rotate_left
          · (simp only [Act.put, List.setIfInBounds_toArray, List.set_cons_zero, List.set_cons_succ]; rfl)
          refine pure_ (i := 20) (N := (some 59)) (v := undef) (a' := ?_) #[true, true, true, true, true, true, true, true, true, true, true, true, true, true, true, true, true, true, true, true, true, false, false, false] rfl rfl (by kernel_rfl) (fun _ _ _ h => h) (Or.inr ⟨by rfl, rfl⟩) ?_ ?_
          rotate_left
          · (simp only [Act.put, List.setIfInBounds_toArray, List.set_cons_zero, List.set_cons_succ]; rfl)
          refine pure_ (i := 21) (N := (some 60)) (v := undef) (a' := ?_) #[true, true, true, true, true, true, true, true, true, true, true, true, true, true, true, true, true, true, true, true, true, true, false, false] rfl rfl (by kernel_rfl) (fun _ _ _ h => h) (Or.inr ⟨by rfl, rfl⟩) ?_ ?_
          rotate_left
          · (simp only [Act.put, List.setIfInBounds_toArray, List.set_cons_zero, List.set_cons_succ]; rfl)
          refine pure_ (i := 22) (N := (some 61)) (v := ?_) (a' := ?_) #[true, true, true, true, true, true, true, true, true, true, true, true, true, true, true, true, true, true, true, true, true, true, true, false] rfl rfl (by kernel_rfl) (fun _ _ _ h => h) (Or.inl ⟨by rfl, ?_⟩) ?_ ?_
          rotate_left
          · (intro w'; go_simp; with_reducible rfl)
          rotate_left
          · (simp only [Act.put, List.setIfInBounds_toArray, List.set_cons_zero, List.set_cons_succ]; rfl)
          refine pure_ (i := 23) (N := (some 62)) (v := ?_) (a' := ?_) #[true, true, true, true, true, true, true, true, true, true, true, true, true, true, true, true, true, true, true, true, true, true, true, true] rfl rfl (by kernel_rfl) (fun _ _ _ h => h) (Or.inl ⟨by rfl, ?_⟩) ?_ ?_
          rotate_left
          · (intro w'; go_simp; with_reducible rfl)
          rotate_left
          · (simp only [Act.put, List.setIfInBounds_toArray, List.set_cons_zero, List.set_cons_succ]; rfl)
          refine done_ (by kernel_rfl) ?_
          go_wp2_with fail
          exact ⟨⟨k + 1, by omega, by omega, rfl, hb3, HP.out, _, HD.out, HC.out.mono (by omega) (by omega)⟩, by simp only [intOf]; omega⟩
      · rcases (show ¬ ((k : Int) < l.length) ∨ ((k : Int) < l.length ∧ ¬ ((k : Int) < 40)) by omega) with hx1 | ⟨hx1, hx2⟩
        · obtain ⟨P0, pc, gp, hpv, hgp, hints⟩ := picks_row HA.out.own (by have := HA.out.below.size; obtain ⟨D, hd, _⟩ := HA.out.disk; have := hd.lt; omega) (by omega)
          obtain ⟨D, hd, hc⟩ := HA.out.disk
          have HB := Lib.hid HA.out.below
          subst hpv
          have HD := Lib.hid hd; clear hd
          have HC := Lib.hid hc; clear hc
          have HI := Lib.hid hints; clear hints
          clear HA
          go_wp2_with fail
          refine (copy_any HD.out (by have := HC.out.queue; omega)).mono ?_
          rintro e w2 ⟨gx, rfl, hb2, hdx⟩
          have HX := Lib.hid hdx; clear hdx
          replace HI := Lib.hid (HI.out.below hb2 hgp)
          have HB2 := Lib.hid hb2; clear hb2
          go_wp2_with fail
          have hcr := crash_any HX.out P0 (List.replicate k 0) gp pc HI.out (fun cur hc => by omega)
          rw [List.length_replicate] at hcr
          refine hcr.mono ?_
          rintro e w3 ⟨rfl, hb3, hdx⟩
          have hD3 := HD.out.below (HB2.out.trans hb3)
          have hB3 := HB.out.trans ((HB2.out.trans hb3).mono HB.out.size)
          have hrd : ∀ n : Int, 0 ≤ n → n < 64 → (read (crash D (List.replicate k 0)) n).1 = (sure D n).1 := fun n h0 h1 => crash_reads HC.out HD.out.wf false n h0 h1
          have hoff : (crash D (List.replicate k 0)).gone = false := rfl
          have hxl : (crash D (List.replicate k 0)).laid.length = 64 := by
            simp only [crash, crashed_length]; exact HC.out.len
          generalize crash D (List.replicate k 0) = Dx at hdx hrd hoff hxl
          clear HX HI hcr
          clear HD HB
          generalize wr.heap.size = B1 at hdx hb3 HB2
          have hz : zb.length = 64 := rfl
          have ha := alloc_block
          generalize zb = z0 at hz ha
          have HX := Lib.hid hdx; clear hdx
          have HD := Lib.hid hD3; clear hD3
          have HB := Lib.hid hB3; clear hB3
          have HR := Lib.hid hrd; clear hrd
          have HZ := Lib.hid hz; clear hz
          clear HB2 hb3
          go_wp2_with fail
          go_loopw [11] (fun i wr => ∃ n : Nat, n ≤ 64 ∧ i = .int .i64 n ∧ Below w.heap.size w wr ∧ DiskAt w.heap.size wr g D ∧ DiskAt B1 wr gx Dx) (fun i _ => ((64 : Int) - intOf i).toNat)
          case atStart => exact ⟨0, by omega, rfl, HB.out, HD.out, HX.out⟩
          case round =>
            obtain ⟨n, hn64, rfl, hb4, hd4, hx4⟩ := hrel
            clear HD HB HX
            have HD := Lib.hid hd4; clear hd4
            have HX := Lib.hid hx4; clear hx4
            have HB := Lib.hid hb4; clear hb4
            by_cases hn : (n : Int) < 64
            · have hn0 : (0 : Int) ≤ (n : Int) := by omega
              have hok1 : ∀ n : Int, 0 ≤ n → n < 64 → ((read D n).1).length = 64 := fun n h0 h1 => (okB_read HC.out HD.out.wf n h0 h1).1
              have hok2 : ∀ n : Int, 0 ≤ n → n < 64 → ((sure D n).1).length = 64 := fun n h0 h1 => (okB_sure HC.out HD.out.wf n h0 h1).1
              have e1 := hok1 n hn0 hn
              have e2 := hok2 n hn0 hn
              have e3 := HR.out n hn0 hn
              clear hok1 hok2
              have q1 := q_read HD.out n hn0 hn HC.out.len HC.out.on
              have q2 : ∀ W, DiskAt w.heap.size W g D → _ := fun W h => q_sure h n hn0 hn HC.out.len
              have q3 : ∀ W, DiskAt B1 W gx Dx → _ := fun W h => q_read h n hn0 hn hxl hoff
              generalize (read D n).1 = b1 at e1 e3 q1
              generalize (sure D n).1 = b2 at e2 e3 q2
              generalize (read Dx n).1 = b3 at e3 q3
              have E1 := Lib.hid e1; clear e1
              have E2 := Lib.hid e2; clear e2
              subst b3
              have Q2 := Lib.hid q2; clear q2
              have Q3 := Lib.hid q3; clear q3
              go_wp2_with fail
              refine q1.mono ?_
              clear q1
              rintro e w5 ⟨rfl, hw5⟩
              obtain ⟨m1, m2, m3⟩ := box_made w5 (z0 := z0) HZ.out E1.out
              have BN := Lib.hid (Box_new w5 z0 HZ.out)
              go_wp2_with (first
                | (refine wpList_alloc_told rfl 23 rfl (bc z0).toArray ha ?_)
                | (refine wpList_store_mid rfl 23 (.tmp 12) (.tmp 81) rfl w5.heap.size 0 (bc b1).toArray rfl rfl (BN.out.room b1 E1.out) (size_block' b1 E1.out) (bc_all b1) ?_; simp only [List.toList_toArray])
                | fail)
              clear BN
              generalize (w5.alloc (.cells (bc z0).toArray 23)).setCells w5.heap.size 0 (bc b1) = W5 at m1 m2 m3 ⊢
              have HD5 := Lib.hid (HD.out.below (hw5.trans (m1.mono hw5.size)))
              have HX5 := Lib.hid (HX.out.below (hw5.trans (m1.mono hw5.size)))
              have HB5 := Lib.hid (HB.out.trans ((hw5.trans (m1.mono hw5.size)).mono HB.out.size))
              have M1 := Lib.hid m2
              clear HD HX HB m1 m2 hw5
              refine (Q2.out _ HD5.out).mono ?_
              rintro e w6 ⟨rfl, hw6⟩
              obtain ⟨m1, m2, m4⟩ := box_made w6 (z0 := z0) HZ.out E2.out
              have BN := Lib.hid (Box_new w6 z0 HZ.out)
              go_wp2_with (first
                | (refine wpList_alloc_told rfl 23 rfl (bc z0).toArray ha ?_)
                | (refine wpList_store_mid rfl 23 (.tmp 14) (.tmp 87) rfl w6.heap.size 0 (bc b2).toArray rfl rfl (BN.out.room b2 E2.out) (size_block' b2 E2.out) (bc_all b2) ?_; simp only [List.toList_toArray])
                | fail)
              clear BN
              generalize (w6.alloc (.cells (bc z0).toArray 23)).setCells w6.heap.size 0 (bc b2) = W6 at m1 m2 m4 ⊢
              have hs6 := hw6.trans (m1.mono hw6.size)
              have HD6 := Lib.hid (HD5.out.below hs6)
              have HX6 := Lib.hid (HX5.out.below hs6)
              have HB6 := Lib.hid (HB5.out.trans (hs6.mono HB5.out.size))
              have M2 := Lib.hid m2
              replace M1 := Lib.hid (M1.out.below hs6)
              clear HD5 HX5 HB5 m1 m2 hw6 hs6
              refine (Q3.out _ HX6.out).mono ?_
              rintro e w7 ⟨rfl, hw7⟩
              obtain ⟨m1, m2, m5⟩ := box_made w7 (z0 := z0) HZ.out E2.out
              have BN := Lib.hid (Box_new w7 z0 HZ.out)
              have hs7 := hw7.trans (m1.mono hw7.size)
              have R1 := Lib.hid m2.1
              have R2 := Lib.hid (M2.out.below hs7).1
              have HD7 := Lib.hid (HD6.out.below hs7)
              have HX7 := Lib.hid (HX6.out.below hs7)
              have HB7 := Lib.hid (HB6.out.trans (hs7.mono HB6.out.size))
              clear HD6 HX6 HB6 m1 m2 hw7 hs7 M1 M2
              have hu := Try.underlying23
              have hi := size_block _ E2.out
              go_wp2_with (first
                | (refine wpList_alloc_told rfl 23 rfl (bc z0).toArray ha ?_)
                | (refine wpList_store_mid rfl 23 (.tmp 16) (.tmp 93) rfl w7.heap.size 0 (bc b2).toArray rfl rfl (BN.out.room _ E2.out) (size_block' _ E2.out) (bc_all _) ?_; simp only [List.toList_toArray])
                | (refine load_wanted (by rfl) 23 (.tmp 16) rfl w7.heap.size 0 (by rfl) (bc b2) _ R1.out hu rfl hi ?_)
                | (refine load_wanted (by rfl) 23 (.tmp 14) rfl w6.heap.size 0 (by rfl) (bc b2) _ R2.out hu rfl hi ?_)
                | (refine value_wanted (by rfl) (exec_neq_same (.tmp 105) (.tmp 106) _ rfl b2 E2.out (by rfl) (by rfl)) ?_)
                | fail)
              exact ⟨⟨n + 1, by omega, rfl, HB7.out, HD7.out, HX7.out⟩, by simp only [intOf]; omega⟩
            · go_wp2_with (first
                | (refine (lives_any _).mono ?_; rintro e w' ⟨rfl, hbw⟩)
                | fail)
              go_ret
              exact ⟨rfl, HB.out.trans (hbw.mono HB.out.size)⟩
        · obtain ⟨P0, pc, gp, hpv, hgp, hints⟩ := picks_row HA.out.own (by have := HA.out.below.size; obtain ⟨D, hd, _⟩ := HA.out.disk; have := hd.lt; omega) (by omega)
          obtain ⟨D, hd, hc⟩ := HA.out.disk
          have HB := Lib.hid HA.out.below
          subst hpv
          have HD := Lib.hid hd; clear hd
          have HC := Lib.hid hc; clear hc
          have HI := Lib.hid hints; clear hints
          clear HA
          go_wp2_with fail
          refine (copy_any HD.out (by have := HC.out.queue; omega)).mono ?_
          rintro e w2 ⟨gx, rfl, hb2, hdx⟩
          have HX := Lib.hid hdx; clear hdx
          replace HI := Lib.hid (HI.out.below hb2 hgp)
          have HB2 := Lib.hid hb2; clear hb2
          go_wp2_with fail
          have hcr := crash_any HX.out P0 (List.replicate k 0) gp pc HI.out (fun cur hc => by omega)
          rw [List.length_replicate] at hcr
          refine hcr.mono ?_
          rintro e w3 ⟨rfl, hb3, hdx⟩
          have hD3 := HD.out.below (HB2.out.trans hb3)
          have hB3 := HB.out.trans ((HB2.out.trans hb3).mono HB.out.size)
          have hrd : ∀ n : Int, 0 ≤ n → n < 64 → (read (crash D (List.replicate k 0)) n).1 = (sure D n).1 := fun n h0 h1 => crash_reads HC.out HD.out.wf false n h0 h1
          have hoff : (crash D (List.replicate k 0)).gone = false := rfl
          have hxl : (crash D (List.replicate k 0)).laid.length = 64 := by
            simp only [crash, crashed_length]; exact HC.out.len
          generalize crash D (List.replicate k 0) = Dx at hdx hrd hoff hxl
          clear HX HI hcr
          clear HD HB
          generalize wr.heap.size = B1 at hdx hb3 HB2
          have hz : zb.length = 64 := rfl
          have ha := alloc_block
          generalize zb = z0 at hz ha
          have HX := Lib.hid hdx; clear hdx
          have HD := Lib.hid hD3; clear hD3
          have HB := Lib.hid hB3; clear hB3
          have HR := Lib.hid hrd; clear hrd
          have HZ := Lib.hid hz; clear hz
          clear HB2 hb3
          go_wp2_with fail
          go_loopw [11] (fun i wr => ∃ n : Nat, n ≤ 64 ∧ i = .int .i64 n ∧ Below w.heap.size w wr ∧ DiskAt w.heap.size wr g D ∧ DiskAt B1 wr gx Dx) (fun i _ => ((64 : Int) - intOf i).toNat)
          case atStart => exact ⟨0, by omega, rfl, HB.out, HD.out, HX.out⟩
          case round =>
            obtain ⟨n, hn64, rfl, hb4, hd4, hx4⟩ := hrel
            clear HD HB HX
            have HD := Lib.hid hd4; clear hd4
            have HX := Lib.hid hx4; clear hx4
            have HB := Lib.hid hb4; clear hb4
            by_cases hn : (n : Int) < 64
            · have hn0 : (0 : Int) ≤ (n : Int) := by omega
              have hok1 : ∀ n : Int, 0 ≤ n → n < 64 → ((read D n).1).length = 64 := fun n h0 h1 => (okB_read HC.out HD.out.wf n h0 h1).1
              have hok2 : ∀ n : Int, 0 ≤ n → n < 64 → ((sure D n).1).length = 64 := fun n h0 h1 => (okB_sure HC.out HD.out.wf n h0 h1).1
              have e1 := hok1 n hn0 hn
              have e2 := hok2 n hn0 hn
              have e3 := HR.out n hn0 hn
              clear hok1 hok2
              have q1 := q_read HD.out n hn0 hn HC.out.len HC.out.on
              have q2 : ∀ W, DiskAt w.heap.size W g D → _ := fun W h => q_sure h n hn0 hn HC.out.len
              have q3 : ∀ W, DiskAt B1 W gx Dx → _ := fun W h => q_read h n hn0 hn hxl hoff
              generalize (read D n).1 = b1 at e1 e3 q1
              generalize (sure D n).1 = b2 at e2 e3 q2
              generalize (read Dx n).1 = b3 at e3 q3
              have E1 := Lib.hid e1; clear e1
              have E2 := Lib.hid e2; clear e2
              subst b3
              have Q2 := Lib.hid q2; clear q2
              have Q3 := Lib.hid q3; clear q3
              go_wp2_with fail
              refine q1.mono ?_
              clear q1
              rintro e w5 ⟨rfl, hw5⟩
              obtain ⟨m1, m2, m3⟩ := box_made w5 (z0 := z0) HZ.out E1.out
              have BN := Lib.hid (Box_new w5 z0 HZ.out)
              go_wp2_with (first
                | (refine wpList_alloc_told rfl 23 rfl (bc z0).toArray ha ?_)
                | (refine wpList_store_mid rfl 23 (.tmp 12) (.tmp 81) rfl w5.heap.size 0 (bc b1).toArray rfl rfl (BN.out.room b1 E1.out) (size_block' b1 E1.out) (bc_all b1) ?_; simp only [List.toList_toArray])
                | fail)
              clear BN
              generalize (w5.alloc (.cells (bc z0).toArray 23)).setCells w5.heap.size 0 (bc b1) = W5 at m1 m2 m3 ⊢
              have HD5 := Lib.hid (HD.out.below (hw5.trans (m1.mono hw5.size)))
              have HX5 := Lib.hid (HX.out.below (hw5.trans (m1.mono hw5.size)))
              have HB5 := Lib.hid (HB.out.trans ((hw5.trans (m1.mono hw5.size)).mono HB.out.size))
              have M1 := Lib.hid m2
              clear HD HX HB m1 m2 hw5
              refine (Q2.out _ HD5.out).mono ?_
              rintro e w6 ⟨rfl, hw6⟩
              obtain ⟨m1, m2, m4⟩ := box_made w6 (z0 := z0) HZ.out E2.out
              have BN := Lib.hid (Box_new w6 z0 HZ.out)
              go_wp2_with (first
                | (refine wpList_alloc_told rfl 23 rfl (bc z0).toArray ha ?_)
                | (refine wpList_store_mid rfl 23 (.tmp 14) (.tmp 87) rfl w6.heap.size 0 (bc b2).toArray rfl rfl (BN.out.room b2 E2.out) (size_block' b2 E2.out) (bc_all b2) ?_; simp only [List.toList_toArray])
                | fail)
              clear BN
              generalize (w6.alloc (.cells (bc z0).toArray 23)).setCells w6.heap.size 0 (bc b2) = W6 at m1 m2 m4 ⊢
              have hs6 := hw6.trans (m1.mono hw6.size)
              have HD6 := Lib.hid (HD5.out.below hs6)
              have HX6 := Lib.hid (HX5.out.below hs6)
              have HB6 := Lib.hid (HB5.out.trans (hs6.mono HB5.out.size))
              have M2 := Lib.hid m2
              replace M1 := Lib.hid (M1.out.below hs6)
              clear HD5 HX5 HB5 m1 m2 hw6 hs6
              refine (Q3.out _ HX6.out).mono ?_
              rintro e w7 ⟨rfl, hw7⟩
              obtain ⟨m1, m2, m5⟩ := box_made w7 (z0 := z0) HZ.out E2.out
              have BN := Lib.hid (Box_new w7 z0 HZ.out)
              have hs7 := hw7.trans (m1.mono hw7.size)
              have R1 := Lib.hid m2.1
              have R2 := Lib.hid (M2.out.below hs7).1
              have HD7 := Lib.hid (HD6.out.below hs7)
              have HX7 := Lib.hid (HX6.out.below hs7)
              have HB7 := Lib.hid (HB6.out.trans (hs7.mono HB6.out.size))
              clear HD6 HX6 HB6 m1 m2 hw7 hs7 M1 M2
              have hu := Try.underlying23
              have hi := size_block _ E2.out
              go_wp2_with (first
                | (refine wpList_alloc_told rfl 23 rfl (bc z0).toArray ha ?_)
                | (refine wpList_store_mid rfl 23 (.tmp 16) (.tmp 93) rfl w7.heap.size 0 (bc b2).toArray rfl rfl (BN.out.room _ E2.out) (size_block' _ E2.out) (bc_all _) ?_; simp only [List.toList_toArray])
                | (refine load_wanted (by rfl) 23 (.tmp 16) rfl w7.heap.size 0 (by rfl) (bc b2) _ R1.out hu rfl hi ?_)
                | (refine load_wanted (by rfl) 23 (.tmp 14) rfl w6.heap.size 0 (by rfl) (bc b2) _ R2.out hu rfl hi ?_)
                | (refine value_wanted (by rfl) (exec_neq_same (.tmp 105) (.tmp 106) _ rfl b2 E2.out (by rfl) (by rfl)) ?_)
                | fail)
              exact ⟨⟨n + 1, by omega, rfl, HB7.out, HD7.out, HX7.out⟩, by simp only [intOf]; omega⟩
            · go_wp2_with (first
                | (refine (lives_any _).mono ?_; rintro e w' ⟨rfl, hbw⟩)
                | fail)
              go_ret
              exact ⟨rfl, HB.out.trans (hbw.mono HB.out.size)⟩
  · go_wp2_with fail
    go_loopw [8, 9] (fun pv i wr => ∃ k : Nat, k ≤ l.length ∧ k ≤ 40 ∧ i = .int .i64 k ∧ AllAt w g pv 15 k wr) (fun _ i _ => ((l.length : Int) - intOf i).toNat)
    case atStart => exact ⟨0, by omega, by omega, rfl, HB.out, World.ownsRow_nil _ _ _ _, _, HD.out, Calm.fresh⟩
    case round =>
      obtain ⟨k, hk1, hk2, rfl, hat⟩ := hrel
      clear HD HB
      have HA := Lib.hid hat; clear hat
      by_cases hlt : (k : Int) < l.length ∧ (k : Int) < 40
      · obtain ⟨ha1, ha2⟩ := hlt
        have hk0 : (0 : Int) ≤ (k : Int) := by omega
        obtain ⟨b, o, rfl, hbw, hds⟩ := HL.out (by omega)
        have hx : l[k]? = some l[k] := List.getElem?_eq_getElem (by omega)
        obtain ⟨hn, hr, hok⟩ := hds k _ hx
        generalize l[k] = y at hn hr hok hx
        have HN := Lib.hid hn; clear hn
        have HR := Lib.hid hr; clear hr
        have HO := Lib.hid hok; clear hok
        have HX := Lib.hid hx; clear hx
        clear hds
        go_wp2_with (first
          | (refine wpList_append_own rfl (.tmp 35) (.tmp 37) _ rfl w.heap.size 3 i0 (.int .i64 0) 1 8 Try.underlying35 hi0 hz0 hz1 hz2 rfl (by decide) _ k _ rfl (HA.out.own.alloc _) ⟨wr.heap.size, 0, none⟩ 1 1 [.int .i64 15] (by rfl) rfl (World.news_of_block (heap_alloc_new wr _)) (by intro u hu; simp at hu; subst hu; rfl) (by unfold maxLen; omega) (by omega) (by have := HA.out.below.size; simp; omega) ?_
             intro pv' w2 hown2 hgr2 hnil2)
          | fail)
        have hb2 : Below w.heap.size w w2.drew := ((HA.out.below.alloc HA.out.below.size _).grown hgr2 (by have := HA.out.below.size; simp; omega) (fun k hk => (HA.out.own.lt k hk).1)).drew
        obtain ⟨D, hd, hc⟩ := HA.out.disk
        have hd2 : DiskAt w.heap.size w2.drew g D := ((hd.below ((Below.refl _ _).alloc (Nat.le_refl _) _)).int_grown hgr2 (own_int (HA.out.own.alloc _))).below (Below.refl _ _).drew
        have hown2' : w2.drew.ownsRow w.heap.size 3 1 pv' (k + 1) (List.replicate (k + 1) (.int .i64 15)) := by
          rw [List.replicate_succ']; exact hown2
        have HD := Lib.hid hd2
        have HC := Lib.hid hc
        have HP := Lib.hid hown2'
        have f1 := (hb2.cell (p := ⟨b, o + k * 67 + 1, none⟩) hbw).trans HN.out
        have f2 : w2.drew.rangeAt b (o + k * 67 + 2) (bc y.2) := fun j v hv => (hb2.cell (p := ⟨b, _, none⟩) hbw).trans (HR.out j v hv)
        have hu := Try.underlying23
        have hi := size_block y.2 HO.out.1
        clear hd hc hd2 hown2 hown2' hnil2 hgr2 HA
        by_cases h6 : (k : Int) % 7 = 6
        · have h6' : ((k : Int).tmod 7 == 6) = true := by rw [Int.tmod_eq_emod_of_nonneg hk0]; simp [h6]
          refine start_ (n := 24) (S := (fun w' => w'.cell? ⟨b, o + k * 67 + 1, none⟩ = some (.int .i64 y.1) ∧ w'.rangeAt b (o + k * 67 + 2) (bc y.2))) (ds := []) #[false, false, false, false, false, false, false, false, false, false, false, false, false, false, false, false, false, false, false, false, false, false, false, false] (by kernel_rfl) rfl rfl ⟨f1, f2⟩ (fun hHeld => ?_)
          refine pure_ (i := 0) (N := (some 39)) (v := ?_) (a' := ?_) #[true, false, false, false, false, false, false, false, false, false, false, false, false, false, false, false, false, false, false, false, false, false, false, false] rfl rfl (by kernel_rfl) (fun _ _ _ h => h) (Or.inl ⟨by rfl, ?_⟩) ?_ ?_
          rotate_left
          · (intro w'; go_simp; with_reducible rfl)
          rotate_left
          · (simp only [Act.put, List.setIfInBounds_toArray, List.set_cons_zero, List.set_cons_succ]; rfl)
          refine pure_ (i := 1) (N := (some 40)) (v := ?_) (a' := ?_) #[true, true, false, false, false, false, false, false, false, false, false, false, false, false, false, false, false, false, false, false, false, false, false, false] rfl rfl (by kernel_rfl) (fun _ _ _ h => h) (Or.inl ⟨by rfl, ?_⟩) ?_ ?_
          rotate_left
          · (intro w'; go_simp; with_reducible rfl)
          rotate_left
          · (simp only [Act.put, List.setIfInBounds_toArray, List.set_cons_zero, List.set_cons_succ]; rfl)
          refine pure_ (i := 2) (N := (some 41)) (v := ?_) (a' := ?_) #[true, true, true, false, false, false, false, false, false, false, false, false, false, false, false, false, false, false, false, false, false, false, false, false] rfl rfl (by kernel_rfl) (fun _ _ _ h => h) (Or.inl ⟨by rfl, ?_⟩) ?_ ?_
          rotate_left
          · (intro w'; go_simp; with_reducible rfl)
          rotate_left
          · (simp only [Act.put, List.setIfInBounds_toArray, List.set_cons_zero, List.set_cons_succ]; rfl)
          refine pure_ (i := 3) (N := (some 42)) (v := ?_) (a' := ?_) #[true, true, true, true, false, false, false, false, false, false, false, false, false, false, false, false, false, false, false, false, false, false, false, false] rfl rfl (by kernel_rfl) (fun _ _ _ h => h) (Or.inl ⟨by rfl, ?_⟩) ?_ ?_
          rotate_left
          · (intro w'; go_simp; with_reducible rfl)
          rotate_left
          · (simp only [Act.put, List.setIfInBounds_toArray, List.set_cons_zero, List.set_cons_succ]; rfl)
          refine pure_ (i := 4) (N := (some 43)) (v := ?_) (a' := ?_) #[true, true, true, true, true, false, false, false, false, false, false, false, false, false, false, false, false, false, false, false, false, false, false, false] rfl rfl (by kernel_rfl) (fun _ _ _ h => h) (Or.inl ⟨by rfl, ?_⟩) ?_ ?_
          rotate_left
          · (intro w'; go_simp; with_reducible rfl)
          rotate_left
          · (simp only [Act.put, List.setIfInBounds_toArray, List.set_cons_zero, List.set_cons_succ]; rfl)
          refine take_ (i := 5) (N := (some 44)) (v := ?_) (a' := ?_) #[true, true, true, true, true, true, false, false, false, false, false, false, false, false, false, false, false, false, false, false, false, false, false, false] rfl rfl (by kernel_rfl) (fun _ _ _ h => h) (Or.inl ⟨by rfl, ?_⟩) hHeld ?_ ?_
          rotate_left
          · (rintro w' hSw; (try dsimp only at hSw); go_split_ands; go_simp; with_reducible rfl)
          rotate_left
          · (simp only [Act.put, List.setIfInBounds_toArray, List.set_cons_zero, List.set_cons_succ]; rfl)
          refine pure_ (i := 6) (N := (some 45)) (v := ?_) (a' := ?_) #[true, true, true, true, true, true, true, false, false, false, false, false, false, false, false, false, false, false, false, false, false, false, false, false] rfl rfl (by kernel_rfl) (fun _ _ _ h => h) (Or.inl ⟨by rfl, ?_⟩) ?_ ?_
          rotate_left
          · (intro w'; go_simp; with_reducible rfl)
          rotate_left
          · (simp only [Act.put, List.setIfInBounds_toArray, List.set_cons_zero, List.set_cons_succ]; rfl)
          refine pure_ (i := 7) (N := (some 46)) (v := ?_) (a' := ?_) #[true, true, true, true, true, true, true, true, false, false, false, false, false, false, false, false, false, false, false, false, false, false, false, false] rfl rfl (by kernel_rfl) (fun _ _ _ h => h) (Or.inl ⟨by rfl, ?_⟩) ?_ ?_
          rotate_left
          · (intro w'; go_simp; with_reducible rfl)
          rotate_left
          · (simp only [Act.put, List.setIfInBounds_toArray, List.set_cons_zero, List.set_cons_succ]; rfl)
          refine pure_ (i := 8) (N := (some 47)) (v := ?_) (a' := ?_) #[true, true, true, true, true, true, true, true, true, false, false, false, false, false, false, false, false, false, false, false, false, false, false, false] rfl rfl (by kernel_rfl) (fun _ _ _ h => h) (Or.inl ⟨by rfl, ?_⟩) ?_ ?_
          rotate_left
          · (intro w'; go_simp; with_reducible rfl)
          rotate_left
          · (simp only [Act.put, List.setIfInBounds_toArray, List.set_cons_zero, List.set_cons_succ]; rfl)
          refine pure_ (i := 9) (N := (some 48)) (v := ?_) (a' := ?_) #[true, true, true, true, true, true, true, true, true, true, false, false, false, false, false, false, false, false, false, false, false, false, false, false] rfl rfl (by kernel_rfl) (fun _ _ _ h => h) (Or.inl ⟨by rfl, ?_⟩) ?_ ?_
          rotate_left
          · (intro w'; go_simp; with_reducible rfl)
          rotate_left
          · (simp only [Act.put, List.setIfInBounds_toArray, List.set_cons_zero, List.set_cons_succ]; rfl)
          refine pure_ (i := 10) (N := (some 49)) (v := ?_) (a' := ?_) #[true, true, true, true, true, true, true, true, true, true, true, false, false, false, false, false, false, false, false, false, false, false, false, false] rfl rfl (by kernel_rfl) (fun _ _ _ h => h) (Or.inl ⟨by rfl, ?_⟩) ?_ ?_
          rotate_left
          · (intro w'; go_simp; with_reducible rfl)
          rotate_left
          · (simp only [Act.put, List.setIfInBounds_toArray, List.set_cons_zero, List.set_cons_succ]; rfl)
          refine take_ (i := 11) (N := (some 50)) (v := _) (a' := ?_) #[true, true, true, true, true, true, true, true, true, true, true, true, false, false, false, false, false, false, false, false, false, false, false, false] rfl rfl (by kernel_rfl) (fun _ _ _ h => h) (yieldsIf_load_mid (by rfl) 23 (.tmp 49) rfl b (o + k * 67 + 2) rfl (bc y.2) _ (fun w' h => h.2) hu rfl hi) hHeld ?_ ?_
          rotate_left
          · (simp only [Act.put, List.setIfInBounds_toArray, List.set_cons_zero, List.set_cons_succ]; rfl)
          refine one_ (i := 12) (N := (some 51)) #[true, true, true, true, true, true, true, true, true, true, true, true, true, false, false, false, false, false, false, false, false, false, false, false] rfl rfl (by kernel_rfl) (by decide) (fun K hK => ?_)
          generalize w2.drew = W at hb2 HD HP hHeld ⊢
          refine goes_ Try.func9 (by kernel_rfl) rfl #[.pointer (some ⟨g, 0, none⟩), .int .i64 (y.1 % 64), .agg (bc y.2).toArray] (by rfl) rfl rfl (by rw [← i64_and63]; simp only [List.map_toArray, List.map_cons, List.map_nil]; rfl) ?_
          refine (q_write HD.out HC.out (by omega) (by omega) (y.1 % 64) (by omega) (by omega) y.2 HO.out).mono ?_
          rintro e w3 ⟨rfl, hbel3, D3, hd3, hc3, -, -⟩
          have hb3 := hb2.trans hbel3.below
          refine ⟨_, rfl, hK.out _ _ ⟨(hbel3.below.cell hbw).trans hHeld.1, fun j v hv => (hbel3.below.cell hbw).trans (hHeld.2 j v hv)⟩ (fun hHeld => ?_)⟩
          replace HD := Lib.hid hd3
          replace HC := Lib.hid hc3
          replace HP := Lib.hid (own_kept HP.out hbel3)
          clear hK K hd3 hc3 hbel3 hb2
          refine norm_ (a' := ?_) ?_ ?_
          rotate_left
          · (show Act.put _ (some 51) _ = _; simp only [Act.put, List.setIfInBounds_toArray, List.set_cons_zero, List.set_cons_succ]; rfl)
          refine pure_ (i := 13) (N := (some 52)) (v := ?_) (a' := ?_) #[true, true, true, true, true, true, true, true, true, true, true, true, true, true, false, false, false, false, false, false, false, false, false, false] rfl rfl (by kernel_rfl) (fun _ _ _ h => h) (Or.inl ⟨by rfl, ?_⟩) ?_ ?_
          rotate_left
          · (intro w'; go_simp; with_reducible rfl)
          rotate_left
          · (simp only [Act.put, List.setIfInBounds_toArray, List.set_cons_zero, List.set_cons_succ]; rfl)
          refine pure_ (i := 14) (N := (some 53)) (v := ?_) (a' := ?_) #[true, true, true, true, true, true, true, true, true, true, true, true, true, true, true, false, false, false, false, false, false, false, false, false] rfl rfl (by kernel_rfl) (fun _ _ _ h => h) (Or.inl ⟨by rfl, ?_⟩) ?_ ?_
          rotate_left
          · (intro w'; go_simp; with_reducible rfl)
          rotate_left
          · (simp only [Act.put, List.setIfInBounds_toArray, List.set_cons_zero, List.set_cons_succ]; rfl)
          refine pure_ (i := 15) (N := (some 54)) (v := ?_) (a' := ?_) #[true, true, true, true, true, true, true, true, true, true, true, true, true, true, true, true, false, false, false, false, false, false, false, false] rfl rfl (by kernel_rfl) (fun _ _ _ h => h) (Or.inl ⟨by rfl, ?_⟩) ?_ ?_
          rotate_left
          · (intro w'; go_simp; with_reducible rfl)
          rotate_left
          · (simp only [Act.put, List.setIfInBounds_toArray, List.set_cons_zero, List.set_cons_succ]; rfl)
          refine pure_ (i := 16) (N := (some 55)) (v := ?_) (a' := ?_) #[true, true, true, true, true, true, true, true, true, true, true, true, true, true, true, true, true, false, false, false, false, false, false, false] rfl rfl (by kernel_rfl) (fun _ _ _ h => h) (Or.inl ⟨by rfl, ?_⟩) ?_ ?_
          rotate_left
          · (intro w'; go_simp; with_reducible rfl)
          rotate_left
          · (simp only [Act.put, List.setIfInBounds_toArray, List.set_cons_zero, List.set_cons_succ]; rfl)
          refine pure_ (i := 17) (N := (some 56)) (v := ?_) (a' := ?_) #[true, true, true, true, true, true, true, true, true, true, true, true, true, true, true, true, true, true, false, false, false, false, false, false] rfl rfl (by kernel_rfl) (fun _ _ _ h => h) (Or.inl ⟨by rfl, ?_⟩) ?_ ?_
          rotate_left
          · (intro w'; go_simp; with_reducible rfl)
          rotate_left
          · (simp only [Act.put, List.setIfInBounds_toArray, List.set_cons_zero, List.set_cons_succ]; rfl)
          refine pure_ (i := 18) (N := (some 57)) (v := ?_) (a' := ?_) #[true, true, true, true, true, true, true, true, true, true, true, true, true, true, true, true, true, true, true, false, false, false, false, false] rfl rfl (by kernel_rfl) (fun _ _ _ h => h) (Or.inl ⟨by rfl, ?_⟩) ?_ ?_
          rotate_left
          · (intro w'; go_simp; with_reducible rfl)
          rotate_left
          · (simp only [Act.put, List.setIfInBounds_toArray, List.set_cons_zero, List.set_cons_succ]; rfl)
          refine pure_ (i := 19) (N := (some 58)) (v := ?_) (a' := ?_) #[true, true, true, true, true, true, true, true, true, true, true, true, true, true, true, true, true, true, true, true, false, false, false, false] rfl rfl (by kernel_rfl) (fun _ _ _ h => h) (Or.inl ⟨by rfl, ?_⟩) ?_ ?_
          rotate_left
          · (intro w'; go_simp; with_reducible rfl)
          rotate_left
          · (simp only [Act.put, List.setIfInBounds_toArray, List.set_cons_zero, List.set_cons_succ]; rfl)
          refine one_ (i := 20) (N := (some 59)) #[true, true, true, true, true, true, true, true, true, true, true, true, true, true, true, true, true, true, true, true, true, false, false, false] rfl rfl (by kernel_rfl) (by decide) (fun K hK => ?_)
          refine goes_ Try.func8 (by kernel_rfl) rfl #[.pointer (some ⟨g, 0, none⟩)] (by rfl) rfl rfl (by simp only [List.map_toArray, List.map_cons, List.map_nil]; rfl) ?_
          refine (q_flush HD.out HC.out (by omega)).mono ?_
          rintro e w4 ⟨rfl, hbel3, D4, hd3, hc3, -, -⟩
          replace hb3 := hb3.trans hbel3.below
          refine ⟨_, rfl, hK.out _ _ ⟨(hbel3.below.cell hbw).trans hHeld.1, fun j v hv => (hbel3.below.cell hbw).trans (hHeld.2 j v hv)⟩ (fun hHeld => ?_)⟩
          replace HD := Lib.hid hd3
          replace HC := Lib.hid hc3
          replace HP := Lib.hid (own_kept HP.out hbel3)
          clear hK K hd3 hc3 hbel3
          refine norm_ (a' := ?_) ?_ ?_
          rotate_left
          · (show Act.put _ (some 59) _ = _; simp only [Act.put, List.setIfInBounds_toArray, List.set_cons_zero, List.set_cons_succ]; rfl)
          refine pure_ (i := 21) (N := (some 60)) (v := ?_) (a' := ?_) #[true, true, true, true, true, true, true, true, true, true, true, true, true, true, true, true, true, true, true, true, true, true, false, false] rfl rfl (by kernel_rfl) (fun _ _ _ h => h) (Or.inl ⟨by rfl, ?_⟩) ?_ ?_
          rotate_left
          · (intro w'; go_simp; with_reducible rfl)
          rotate_left
          · (simp only [Act.put, List.setIfInBounds_toArray, List.set_cons_zero, List.set_cons_succ]; rfl)
          refine pure_ (i := 22) (N := (some 61)) (v := ?_) (a' := ?_) #[true, true, true, true, true, true, true, true, true, true, true, true, true, true, true, true, true, true, true, true, true, true, true, false] rfl rfl (by kernel_rfl) (fun _ _ _ h => h) (Or.inl ⟨by rfl, ?_⟩) ?_ ?_
          rotate_left
          · (intro w'; go_simp; with_reducible rfl)
          rotate_left
          · (simp only [Act.put, List.setIfInBounds_toArray, List.set_cons_zero, List.set_cons_succ]; rfl)
          refine pure_ (i := 23) (N := (some 62)) (v := ?_) (a' := ?_) #[true, true, true, true, true, true, true, true, true, true, true, true, true, true, true, true, true, true, true, true, true, true, true, true] rfl rfl (by kernel_rfl) (fun _ _ _ h => h) (Or.inl ⟨by rfl, ?_⟩) ?_ ?_
          rotate_left
          · (intro w'; go_simp; with_reducible rfl)
          rotate_left
          · (simp only [Act.put, List.setIfInBounds_toArray, List.set_cons_zero, List.set_cons_succ]; rfl)
          refine done_ (by kernel_rfl) ?_
          go_wp2_with fail
          exact ⟨⟨k + 1, by omega, by omega, rfl, hb3, HP.out, _, HD.out, HC.out.mono (by omega) (by omega)⟩, by simp only [intOf]; omega⟩
        · have h6' : ((k : Int).tmod 7 == 6) = false := by rw [Int.tmod_eq_emod_of_nonneg hk0]; simp [h6]
          refine start_ (n := 24) (S := (fun w' => w'.cell? ⟨b, o + k * 67 + 1, none⟩ = some (.int .i64 y.1) ∧ w'.rangeAt b (o + k * 67 + 2) (bc y.2))) (ds := []) #[false, false, false, false, false, false, false, false, false, false, false, false, false, false, false, false, false, false, false, false, false, false, false, false] (by kernel_rfl) rfl rfl ⟨f1, f2⟩ (fun hHeld => ?_)
          refine pure_ (i := 0) (N := (some 39)) (v := ?_) (a' := ?_) #[true, false, false, false, false, false, false, false, false, false, false, false, false, false, false, false, false, false, false, false, false, false, false, false] rfl rfl (by kernel_rfl) (fun _ _ _ h => h) (Or.inl ⟨by rfl, ?_⟩) ?_ ?_
          rotate_left
          · (intro w'; go_simp; with_reducible rfl)
          rotate_left
          · (simp only [Act.put, List.setIfInBounds_toArray, List.set_cons_zero, List.set_cons_succ]; rfl)
          refine pure_ (i := 1) (N := (some 40)) (v := ?_) (a' := ?_) #[true, true, false, false, false, false, false, false, false, false, false, false, false, false, false, false, false, false, false, false, false, false, false, false] rfl rfl (by kernel_rfl) (fun _ _ _ h => h) (Or.inl ⟨by rfl, ?_⟩) ?_ ?_
          rotate_left
          · (intro w'; go_simp; with_reducible rfl)
          rotate_left
          · (simp only [Act.put, List.setIfInBounds_toArray, List.set_cons_zero, List.set_cons_succ]; rfl)
          refine pure_ (i := 2) (N := (some 41)) (v := ?_) (a' := ?_) #[true, true, true, false, false, false, false, false, false, false, false, false, false, false, false, false, false, false, false, false, false, false, false, false] rfl rfl (by kernel_rfl) (fun _ _ _ h => h) (Or.inl ⟨by rfl, ?_⟩) ?_ ?_
          rotate_left
          · (intro w'; go_simp; with_reducible rfl)
          rotate_left
          · (simp only [Act.put, List.setIfInBounds_toArray, List.set_cons_zero, List.set_cons_succ]; rfl)
          refine pure_ (i := 3) (N := (some 42)) (v := ?_) (a' := ?_) #[true, true, true, true, false, false, false, false, false, false, false, false, false, false, false, false, false, false, false, false, false, false, false, false] rfl rfl (by kernel_rfl) (fun _ _ _ h => h) (Or.inl ⟨by rfl, ?_⟩) ?_ ?_
          rotate_left
          · (intro w'; go_simp; with_reducible rfl)
          rotate_left
          · (simp only [Act.put, List.setIfInBounds_toArray, List.set_cons_zero, List.set_cons_succ]; rfl)
          refine pure_ (i := 4) (N := (some 43)) (v := ?_) (a' := ?_) #[true, true, true, true, true, false, false, false, false, false, false, false, false, false, false, false, false, false, false, false, false, false, false, false] rfl rfl (by kernel_rfl) (fun _ _ _ h => h) (Or.inl ⟨by rfl, ?_⟩) ?_ ?_
          rotate_left
          · (intro w'; go_simp; with_reducible rfl)
          rotate_left
          · (simp only [Act.put, List.setIfInBounds_toArray, List.set_cons_zero, List.set_cons_succ]; rfl)
          refine take_ (i := 5) (N := (some 44)) (v := ?_) (a' := ?_) #[true, true, true, true, true, true, false, false, false, false, false, false, false, false, false, false, false, false, false, false, false, false, false, false] rfl rfl (by kernel_rfl) (fun _ _ _ h => h) (Or.inl ⟨by rfl, ?_⟩) hHeld ?_ ?_
          rotate_left
          · (rintro w' hSw; (try dsimp only at hSw); go_split_ands; go_simp; with_reducible rfl)
          rotate_left
          · (simp only [Act.put, List.setIfInBounds_toArray, List.set_cons_zero, List.set_cons_succ]; rfl)
          refine pure_ (i := 6) (N := (some 45)) (v := ?_) (a' := ?_) #[true, true, true, true, true, true, true, false, false, false, false, false, false, false, false, false, false, false, false, false, false, false, false, false] rfl rfl (by kernel_rfl) (fun _ _ _ h => h) (Or.inl ⟨by rfl, ?_⟩) ?_ ?_
          rotate_left
          · (intro w'; go_simp; with_reducible rfl)
          rotate_left
          · (simp only [Act.put, List.setIfInBounds_toArray, List.set_cons_zero, List.set_cons_succ]; rfl)
          refine pure_ (i := 7) (N := (some 46)) (v := ?_) (a' := ?_) #[true, true, true, true, true, true, true, true, false, false, false, false, false, false, false, false, false, false, false, false, false, false, false, false] rfl rfl (by kernel_rfl) (fun _ _ _ h => h) (Or.inl ⟨by rfl, ?_⟩) ?_ ?_
          rotate_left
          · (intro w'; go_simp; with_reducible rfl)
          rotate_left
          · (simp only [Act.put, List.setIfInBounds_toArray, List.set_cons_zero, List.set_cons_succ]; rfl)
          refine pure_ (i := 8) (N := (some 47)) (v := ?_) (a' := ?_) #[true, true, true, true, true, true, true, true, true, false, false, false, false, false, false, false, false, false, false, false, false, false, false, false] rfl rfl (by kernel_rfl) (fun _ _ _ h => h) (Or.inl ⟨by rfl, ?_⟩) ?_ ?_
          rotate_left
          · (intro w'; go_simp; with_reducible rfl)
          rotate_left
          · (simp only [Act.put, List.setIfInBounds_toArray, List.set_cons_zero, List.set_cons_succ]; rfl)
          refine pure_ (i := 9) (N := (some 48)) (v := ?_) (a' := ?_) #[true, true, true, true, true, true, true, true, true, true, false, false, false, false, false, false, false, false, false, false, false, false, false, false] rfl rfl (by kernel_rfl) (fun _ _ _ h => h) (Or.inl ⟨by rfl, ?_⟩) ?_ ?_
          rotate_left
          · (intro w'; go_simp; with_reducible rfl)
          rotate_left
          · (simp only [Act.put, List.setIfInBounds_toArray, List.set_cons_zero, List.set_cons_succ]; rfl)
          refine pure_ (i := 10) (N := (some 49)) (v := ?_) (a' := ?_) #[true, true, true, true, true, true, true, true, true, true, true, false, false, false, false, false, false, false, false, false, false, false, false, false] rfl rfl (by kernel_rfl) (fun _ _ _ h => h) (Or.inl ⟨by rfl, ?_⟩) ?_ ?_
          rotate_left
          · (intro w'; go_simp; with_reducible rfl)
          rotate_left
          · (simp only [Act.put, List.setIfInBounds_toArray, List.set_cons_zero, List.set_cons_succ]; rfl)
          refine take_ (i := 11) (N := (some 50)) (v := _) (a' := ?_) #[true, true, true, true, true, true, true, true, true, true, true, true, false, false, false, false, false, false, false, false, false, false, false, false] rfl rfl (by kernel_rfl) (fun _ _ _ h => h) (yieldsIf_load_mid (by rfl) 23 (.tmp 49) rfl b (o + k * 67 + 2) rfl (bc y.2) _ (fun w' h => h.2) hu rfl hi) hHeld ?_ ?_
          rotate_left
          · (simp only [Act.put, List.setIfInBounds_toArray, List.set_cons_zero, List.set_cons_succ]; rfl)
          refine one_ (i := 12) (N := (some 51)) #[true, true, true, true, true, true, true, true, true, true, true, true, true, false, false, false, false, false, false, false, false, false, false, false] rfl rfl (by kernel_rfl) (by decide) (fun K hK => ?_)
          generalize w2.drew = W at hb2 HD HP hHeld ⊢
          refine goes_ Try.func9 (by kernel_rfl) rfl #[.pointer (some ⟨g, 0, none⟩), .int .i64 (y.1 % 64), .agg (bc y.2).toArray] (by rfl) rfl rfl (by rw [← i64_and63]; simp only [List.map_toArray, List.map_cons, List.map_nil]; rfl) ?_
          refine (q_write HD.out HC.out (by omega) (by omega) (y.1 % 64) (by omega) (by omega) y.2 HO.out).mono ?_
          rintro e w3 ⟨rfl, hbel3, D3, hd3, hc3, -, -⟩
          have hb3 := hb2.trans hbel3.below
          refine ⟨_, rfl, hK.out _ _ ⟨(hbel3.below.cell hbw).trans hHeld.1, fun j v hv => (hbel3.below.cell hbw).trans (hHeld.2 j v hv)⟩ (fun hHeld => ?_)⟩
          replace HD := Lib.hid hd3
          replace HC := Lib.hid hc3
          replace HP := Lib.hid (own_kept HP.out hbel3)
          clear hK K hd3 hc3 hbel3 hb2
          refine norm_ (a' := ?_) ?_ ?_
          rotate_left
          · (show Act.put _ (some 51) _ = _; simp only [Act.put, List.setIfInBounds_toArray, List.set_cons_zero, List.set_cons_succ]; rfl)
          refine pure_ (i := 13) (N := (some 52)) (v := ?_) (a' := ?_) #[true, true, true, true, true, true, true, true, true, true, true, true, true, true, false, false, false, false, false, false, false, false, false, false] rfl rfl (by kernel_rfl) (fun _ _ _ h => h) (Or.inl ⟨by rfl, ?_⟩) ?_ ?_
          rotate_left
          · (intro w'; go_simp; with_reducible rfl)
          rotate_left
          · (simp only [Act.put, List.setIfInBounds_toArray, List.set_cons_zero, List.set_cons_succ]; rfl)
          refine pure_ (i := 14) (N := (some 53)) (v := ?_) (a' := ?_) #[true, true, true, true, true, true, true, true, true, true, true, true, true, true, true, false, false, false, false, false, false, false, false, false] rfl rfl (by kernel_rfl) (fun _ _ _ h => h) (Or.inl ⟨by rfl, ?_⟩) ?_ ?_
          rotate_left
          · (intro w'; go_simp; with_reducible rfl)
          rotate_left
          · (simp only [Act.put, List.setIfInBounds_toArray, List.set_cons_zero, List.set_cons_succ]; rfl)
          refine pure_ (i := 15) (N := (some 54)) (v := ?_) (a' := ?_) #[true, true, true, true, true, true, true, true, true, true, true, true, true, true, true, true, false, false, false, false, false, false, false, false] rfl rfl (by kernel_rfl) (fun _ _ _ h => h) (Or.inl ⟨by rfl, ?_⟩) ?_ ?_
          rotate_left
          · (intro w'; go_simp; with_reducible rfl)
          rotate_left
          · (simp only [Act.put, List.setIfInBounds_toArray, List.set_cons_zero, List.set_cons_succ]; rfl)
          refine pure_ (i := 16) (N := (some 55)) (v := ?_) (a' := ?_) #[true, true, true, true, true, true, true, true, true, true, true, true, true, true, true, true, true, false, false, false, false, false, false, false] rfl rfl (by kernel_rfl) (fun _ _ _ h => h) (Or.inl ⟨by rfl, ?_⟩) ?_ ?_
          rotate_left
          · (intro w'; go_simp; with_reducible rfl)
          rotate_left
          · (simp only [Act.put, List.setIfInBounds_toArray, List.set_cons_zero, List.set_cons_succ]; rfl)
          refine pure_ (i := 17) (N := (some 56)) (v := ?_) (a' := ?_) #[true, true, true, true, true, true, true, true, true, true, true, true, true, true, true, true, true, true, false, false, false, false, false, false] rfl rfl (by kernel_rfl) (fun _ _ _ h => h) (Or.inl ⟨by rfl, ?_⟩) ?_ ?_
          rotate_left
          · (intro w'; go_simp; with_reducible rfl)
          rotate_left
          · (simp only [Act.put, List.setIfInBounds_toArray, List.set_cons_zero, List.set_cons_succ]; rfl)
          refine pure_ (i := 18) (N := (some 57)) (v := ?_) (a' := ?_) #[true, true, true, true, true, true, true, true, true, true, true, true, true, true, true, true, true, true, true, false, false, false, false, false] rfl rfl (by kernel_rfl) (fun _ _ _ h => h) (Or.inl ⟨by rfl, ?_⟩) ?_ ?_
          rotate_left
          · (intro w'; go_simp; with_reducible rfl)
          rotate_left
          · (simp only [Act.put, List.setIfInBounds_toArray, List.set_cons_zero, List.set_cons_succ]; rfl)
          refine pure_ (i := 19) (N := (some 58)) (v := undef) (a' := ?_) #[true, true, true, true, true, true, true, true, true, true, true, true, true, true, true, true, true, true, true, true, false, false, false, false] rfl rfl (by kernel_rfl) (fun _ _ _ h => h) (Or.inr ⟨by rfl, rfl⟩) ?_ ?_
          rotate_left
          · (simp only [Act.put, List.setIfInBounds_toArray, List.set_cons_zero, List.set_cons_succ]; rfl)
          refine pure_ (i := 20) (N := (some 59)) (v := undef) (a' := ?_) #[true, true, true, true, true, true, true, true, true, true, true, true, true, true, true, true, true, true, true, true, true, false, false, false] rfl rfl (by kernel_rfl) (fun _ _ _ h => h) (Or.inr ⟨by rfl, rfl⟩) ?_ ?_
          rotate_left
          · (simp only [Act.put, List.setIfInBounds_toArray, List.set_cons_zero, List.set_cons_succ]; rfl)
          refine pure_ (i := 21) (N := (some 60)) (v := undef) (a' := ?_) #[true, true, true, true, true, true, true, true, true, true, true, true, true, true, true, true, true, true, true, true, true, true, false, false] rfl rfl (by kernel_rfl) (fun _ _ _ h => h) (Or.inr ⟨by rfl, rfl⟩) ?_ ?_
          rotate_left
          · (simp only [Act.put, List.setIfInBounds_toArray, List.set_cons_zero, List.set_cons_succ]; rfl)
          refine pure_ (i := 22) (N := (some 61)) (v := ?_) (a' := ?_) #[true, true, true, true, true, true, true, true, true, true, true, true, true, true, true, true, true, true, true, true, true, true, true, false] rfl rfl (by kernel_rfl) (fun _ _ _ h => h) (Or.inl ⟨by rfl, ?_⟩) ?_ ?_
          rotate_left
          · (intro w'; go_simp; with_reducible rfl)
          rotate_left
          · (simp only [Act.put, List.setIfInBounds_toArray, List.set_cons_zero, List.set_cons_succ]; rfl)
          refine pure_ (i := 23) (N := (some 62)) (v := ?_) (a' := ?_) #[true, true, true, true, true, true, true, true, true, true, true, true, true, true, true, true, true, true, true, true, true, true, true, true] rfl rfl (by kernel_rfl) (fun _ _ _ h => h) (Or.inl ⟨by rfl, ?_⟩) ?_ ?_
          rotate_left
          · (intro w'; go_simp; with_reducible rfl)
          rotate_left
          · (simp only [Act.put, List.setIfInBounds_toArray, List.set_cons_zero, List.set_cons_succ]; rfl)
          refine done_ (by kernel_rfl) ?_
          go_wp2_with fail
          exact ⟨⟨k + 1, by omega, by omega, rfl, hb3, HP.out, _, HD.out, HC.out.mono (by omega) (by omega)⟩, by simp only [intOf]; omega⟩
      · rcases (show ¬ ((k : Int) < l.length) ∨ ((k : Int) < l.length ∧ ¬ ((k : Int) < 40)) by omega) with hx1 | ⟨hx1, hx2⟩
        · obtain ⟨P0, pc, gp, hpv, hgp, hints⟩ := picks_row HA.out.own (by have := HA.out.below.size; obtain ⟨D, hd, _⟩ := HA.out.disk; have := hd.lt; omega) (by omega)
          obtain ⟨D, hd, hc⟩ := HA.out.disk
          have HB := Lib.hid HA.out.below
          subst hpv
          have HD := Lib.hid hd; clear hd
          have HC := Lib.hid hc; clear hc
          have HI := Lib.hid hints; clear hints
          clear HA
          go_wp2_with fail
          refine (copy_any HD.out (by have := HC.out.queue; omega)).mono ?_
          rintro e w2 ⟨gx, rfl, hb2, hdx⟩
          have HX := Lib.hid hdx; clear hdx
          replace HI := Lib.hid (HI.out.below hb2 hgp)
          have HB2 := Lib.hid hb2; clear hb2
          go_wp2_with fail
          have hcr := crash_any HX.out P0 (List.replicate k 15) gp pc HI.out (fun cur hc => by omega)
          rw [List.length_replicate] at hcr
          refine hcr.mono ?_
          rintro e w3 ⟨rfl, hb3, hdx⟩
          have hD3 := HD.out.below (HB2.out.trans hb3)
          have hB3 := HB.out.trans ((HB2.out.trans hb3).mono HB.out.size)
          have hrd : ∀ n : Int, 0 ≤ n → n < 64 → (read (crash D (List.replicate k 15)) n).1 = (read D n).1 := fun n h0 h1 => crash_reads HC.out HD.out.wf true n h0 h1
          have hoff : (crash D (List.replicate k 15)).gone = false := rfl
          have hxl : (crash D (List.replicate k 15)).laid.length = 64 := by
            simp only [crash, crashed_length]; exact HC.out.len
          generalize crash D (List.replicate k 15) = Dx at hdx hrd hoff hxl
          clear HX HI hcr
          clear HD HB
          generalize wr.heap.size = B1 at hdx hb3 HB2
          have hz : zb.length = 64 := rfl
          have ha := alloc_block
          generalize zb = z0 at hz ha
          have HX := Lib.hid hdx; clear hdx
          have HD := Lib.hid hD3; clear hD3
          have HB := Lib.hid hB3; clear hB3
          have HR := Lib.hid hrd; clear hrd
          have HZ := Lib.hid hz; clear hz
          clear HB2 hb3
          go_wp2_with fail
          go_loopw [11] (fun i wr => ∃ n : Nat, n ≤ 64 ∧ i = .int .i64 n ∧ Below w.heap.size w wr ∧ DiskAt w.heap.size wr g D ∧ DiskAt B1 wr gx Dx) (fun i _ => ((64 : Int) - intOf i).toNat)
          case atStart => exact ⟨0, by omega, rfl, HB.out, HD.out, HX.out⟩
          case round =>
            obtain ⟨n, hn64, rfl, hb4, hd4, hx4⟩ := hrel
            clear HD HB HX
            have HD := Lib.hid hd4; clear hd4
            have HX := Lib.hid hx4; clear hx4
            have HB := Lib.hid hb4; clear hb4
            by_cases hn : (n : Int) < 64
            · have hn0 : (0 : Int) ≤ (n : Int) := by omega
              have hok1 : ∀ n : Int, 0 ≤ n → n < 64 → ((read D n).1).length = 64 := fun n h0 h1 => (okB_read HC.out HD.out.wf n h0 h1).1
              have hok2 : ∀ n : Int, 0 ≤ n → n < 64 → ((sure D n).1).length = 64 := fun n h0 h1 => (okB_sure HC.out HD.out.wf n h0 h1).1
              have e1 := hok1 n hn0 hn
              have e2 := hok2 n hn0 hn
              have e3 := HR.out n hn0 hn
              clear hok1 hok2
              have q1 := q_read HD.out n hn0 hn HC.out.len HC.out.on
              have q2 : ∀ W, DiskAt w.heap.size W g D → _ := fun W h => q_sure h n hn0 hn HC.out.len
              have q3 : ∀ W, DiskAt B1 W gx Dx → _ := fun W h => q_read h n hn0 hn hxl hoff
              generalize (read D n).1 = b1 at e1 e3 q1
              generalize (sure D n).1 = b2 at e2 e3 q2
              generalize (read Dx n).1 = b3 at e3 q3
              have E1 := Lib.hid e1; clear e1
              have E2 := Lib.hid e2; clear e2
              subst b3
              have Q2 := Lib.hid q2; clear q2
              have Q3 := Lib.hid q3; clear q3
              go_wp2_with fail
              refine q1.mono ?_
              clear q1
              rintro e w5 ⟨rfl, hw5⟩
              obtain ⟨m1, m2, m3⟩ := box_made w5 (z0 := z0) HZ.out E1.out
              have BN := Lib.hid (Box_new w5 z0 HZ.out)
              go_wp2_with (first
                | (refine wpList_alloc_told rfl 23 rfl (bc z0).toArray ha ?_)
                | (refine wpList_store_mid rfl 23 (.tmp 12) (.tmp 81) rfl w5.heap.size 0 (bc b1).toArray rfl rfl (BN.out.room b1 E1.out) (size_block' b1 E1.out) (bc_all b1) ?_; simp only [List.toList_toArray])
                | fail)
              clear BN
              generalize (w5.alloc (.cells (bc z0).toArray 23)).setCells w5.heap.size 0 (bc b1) = W5 at m1 m2 m3 ⊢
              have HD5 := Lib.hid (HD.out.below (hw5.trans (m1.mono hw5.size)))
              have HX5 := Lib.hid (HX.out.below (hw5.trans (m1.mono hw5.size)))
              have HB5 := Lib.hid (HB.out.trans ((hw5.trans (m1.mono hw5.size)).mono HB.out.size))
              have M1 := Lib.hid m2
              clear HD HX HB m1 m2 hw5
              refine (Q2.out _ HD5.out).mono ?_
              rintro e w6 ⟨rfl, hw6⟩
              obtain ⟨m1, m2, m4⟩ := box_made w6 (z0 := z0) HZ.out E2.out
              have BN := Lib.hid (Box_new w6 z0 HZ.out)
              go_wp2_with (first
                | (refine wpList_alloc_told rfl 23 rfl (bc z0).toArray ha ?_)
                | (refine wpList_store_mid rfl 23 (.tmp 14) (.tmp 87) rfl w6.heap.size 0 (bc b2).toArray rfl rfl (BN.out.room b2 E2.out) (size_block' b2 E2.out) (bc_all b2) ?_; simp only [List.toList_toArray])
                | fail)
              clear BN
              generalize (w6.alloc (.cells (bc z0).toArray 23)).setCells w6.heap.size 0 (bc b2) = W6 at m1 m2 m4 ⊢
              have hs6 := hw6.trans (m1.mono hw6.size)
              have HD6 := Lib.hid (HD5.out.below hs6)
              have HX6 := Lib.hid (HX5.out.below hs6)
              have HB6 := Lib.hid (HB5.out.trans (hs6.mono HB5.out.size))
              have M2 := Lib.hid m2
              replace M1 := Lib.hid (M1.out.below hs6)
              clear HD5 HX5 HB5 m1 m2 hw6 hs6
              refine (Q3.out _ HX6.out).mono ?_
              rintro e w7 ⟨rfl, hw7⟩
              obtain ⟨m1, m2, m5⟩ := box_made w7 (z0 := z0) HZ.out E1.out
              have BN := Lib.hid (Box_new w7 z0 HZ.out)
              have hs7 := hw7.trans (m1.mono hw7.size)
              have R1 := Lib.hid m2.1
              have R2 := Lib.hid (M1.out.below hs7).1
              have HD7 := Lib.hid (HD6.out.below hs7)
              have HX7 := Lib.hid (HX6.out.below hs7)
              have HB7 := Lib.hid (HB6.out.trans (hs7.mono HB6.out.size))
              clear HD6 HX6 HB6 m1 m2 hw7 hs7 M1 M2
              have hu := Try.underlying23
              have hi := size_block _ E1.out
              go_wp2_with (first
                | (refine wpList_alloc_told rfl 23 rfl (bc z0).toArray ha ?_)
                | (refine wpList_store_mid rfl 23 (.tmp 16) (.tmp 93) rfl w7.heap.size 0 (bc b1).toArray rfl rfl (BN.out.room _ E1.out) (size_block' _ E1.out) (bc_all _) ?_; simp only [List.toList_toArray])
                | (refine load_wanted (by rfl) 23 (.tmp 16) rfl w7.heap.size 0 (by rfl) (bc b1) _ R1.out hu rfl hi ?_)
                | (refine load_wanted (by rfl) 23 (.tmp 12) rfl w5.heap.size 0 (by rfl) (bc b1) _ R2.out hu rfl hi ?_)
                | (refine value_wanted (by rfl) (exec_neq_same (.tmp 97) (.tmp 98) _ rfl b1 E1.out (by rfl) (by rfl)) ?_)
                | fail)
              exact ⟨⟨n + 1, by omega, rfl, HB7.out, HD7.out, HX7.out⟩, by simp only [intOf]; omega⟩
            · go_wp2_with (first
                | (refine (lives_any _).mono ?_; rintro e w' ⟨rfl, hbw⟩)
                | fail)
              go_ret
              exact ⟨rfl, HB.out.trans (hbw.mono HB.out.size)⟩
        · obtain ⟨P0, pc, gp, hpv, hgp, hints⟩ := picks_row HA.out.own (by have := HA.out.below.size; obtain ⟨D, hd, _⟩ := HA.out.disk; have := hd.lt; omega) (by omega)
          obtain ⟨D, hd, hc⟩ := HA.out.disk
          have HB := Lib.hid HA.out.below
          subst hpv
          have HD := Lib.hid hd; clear hd
          have HC := Lib.hid hc; clear hc
          have HI := Lib.hid hints; clear hints
          clear HA
          go_wp2_with fail
          refine (copy_any HD.out (by have := HC.out.queue; omega)).mono ?_
          rintro e w2 ⟨gx, rfl, hb2, hdx⟩
          have HX := Lib.hid hdx; clear hdx
          replace HI := Lib.hid (HI.out.below hb2 hgp)
          have HB2 := Lib.hid hb2; clear hb2
          go_wp2_with fail
          have hcr := crash_any HX.out P0 (List.replicate k 15) gp pc HI.out (fun cur hc => by omega)
          rw [List.length_replicate] at hcr
          refine hcr.mono ?_
          rintro e w3 ⟨rfl, hb3, hdx⟩
          have hD3 := HD.out.below (HB2.out.trans hb3)
          have hB3 := HB.out.trans ((HB2.out.trans hb3).mono HB.out.size)
          have hrd : ∀ n : Int, 0 ≤ n → n < 64 → (read (crash D (List.replicate k 15)) n).1 = (read D n).1 := fun n h0 h1 => crash_reads HC.out HD.out.wf true n h0 h1
          have hoff : (crash D (List.replicate k 15)).gone = false := rfl
          have hxl : (crash D (List.replicate k 15)).laid.length = 64 := by
            simp only [crash, crashed_length]; exact HC.out.len
          generalize crash D (List.replicate k 15) = Dx at hdx hrd hoff hxl
          clear HX HI hcr
          clear HD HB
          generalize wr.heap.size = B1 at hdx hb3 HB2
          have hz : zb.length = 64 := rfl
          have ha := alloc_block
          generalize zb = z0 at hz ha
          have HX := Lib.hid hdx; clear hdx
          have HD := Lib.hid hD3; clear hD3
          have HB := Lib.hid hB3; clear hB3
          have HR := Lib.hid hrd; clear hrd
          have HZ := Lib.hid hz; clear hz
          clear HB2 hb3
          go_wp2_with fail
          go_loopw [11] (fun i wr => ∃ n : Nat, n ≤ 64 ∧ i = .int .i64 n ∧ Below w.heap.size w wr ∧ DiskAt w.heap.size wr g D ∧ DiskAt B1 wr gx Dx) (fun i _ => ((64 : Int) - intOf i).toNat)
          case atStart => exact ⟨0, by omega, rfl, HB.out, HD.out, HX.out⟩
          case round =>
            obtain ⟨n, hn64, rfl, hb4, hd4, hx4⟩ := hrel
            clear HD HB HX
            have HD := Lib.hid hd4; clear hd4
            have HX := Lib.hid hx4; clear hx4
            have HB := Lib.hid hb4; clear hb4
            by_cases hn : (n : Int) < 64
            · have hn0 : (0 : Int) ≤ (n : Int) := by omega
              have hok1 : ∀ n : Int, 0 ≤ n → n < 64 → ((read D n).1).length = 64 := fun n h0 h1 => (okB_read HC.out HD.out.wf n h0 h1).1
              have hok2 : ∀ n : Int, 0 ≤ n → n < 64 → ((sure D n).1).length = 64 := fun n h0 h1 => (okB_sure HC.out HD.out.wf n h0 h1).1
              have e1 := hok1 n hn0 hn
              have e2 := hok2 n hn0 hn
              have e3 := HR.out n hn0 hn
              clear hok1 hok2
              have q1 := q_read HD.out n hn0 hn HC.out.len HC.out.on
              have q2 : ∀ W, DiskAt w.heap.size W g D → _ := fun W h => q_sure h n hn0 hn HC.out.len
              have q3 : ∀ W, DiskAt B1 W gx Dx → _ := fun W h => q_read h n hn0 hn hxl hoff
              generalize (read D n).1 = b1 at e1 e3 q1
              generalize (sure D n).1 = b2 at e2 e3 q2
              generalize (read Dx n).1 = b3 at e3 q3
              have E1 := Lib.hid e1; clear e1
              have E2 := Lib.hid e2; clear e2
              subst b3
              have Q2 := Lib.hid q2; clear q2
              have Q3 := Lib.hid q3; clear q3
              go_wp2_with fail
              refine q1.mono ?_
              clear q1
              rintro e w5 ⟨rfl, hw5⟩
              obtain ⟨m1, m2, m3⟩ := box_made w5 (z0 := z0) HZ.out E1.out
              have BN := Lib.hid (Box_new w5 z0 HZ.out)
              go_wp2_with (first
                | (refine wpList_alloc_told rfl 23 rfl (bc z0).toArray ha ?_)
                | (refine wpList_store_mid rfl 23 (.tmp 12) (.tmp 81) rfl w5.heap.size 0 (bc b1).toArray rfl rfl (BN.out.room b1 E1.out) (size_block' b1 E1.out) (bc_all b1) ?_; simp only [List.toList_toArray])
                | fail)
              clear BN
              generalize (w5.alloc (.cells (bc z0).toArray 23)).setCells w5.heap.size 0 (bc b1) = W5 at m1 m2 m3 ⊢
              have HD5 := Lib.hid (HD.out.below (hw5.trans (m1.mono hw5.size)))
              have HX5 := Lib.hid (HX.out.below (hw5.trans (m1.mono hw5.size)))
              have HB5 := Lib.hid (HB.out.trans ((hw5.trans (m1.mono hw5.size)).mono HB.out.size))
              have M1 := Lib.hid m2
              clear HD HX HB m1 m2 hw5
              refine (Q2.out _ HD5.out).mono ?_
              rintro e w6 ⟨rfl, hw6⟩
              obtain ⟨m1, m2, m4⟩ := box_made w6 (z0 := z0) HZ.out E2.out
              have BN := Lib.hid (Box_new w6 z0 HZ.out)
              go_wp2_with (first
                | (refine wpList_alloc_told rfl 23 rfl (bc z0).toArray ha ?_)
                | (refine wpList_store_mid rfl 23 (.tmp 14) (.tmp 87) rfl w6.heap.size 0 (bc b2).toArray rfl rfl (BN.out.room b2 E2.out) (size_block' b2 E2.out) (bc_all b2) ?_; simp only [List.toList_toArray])
                | fail)
              clear BN
              generalize (w6.alloc (.cells (bc z0).toArray 23)).setCells w6.heap.size 0 (bc b2) = W6 at m1 m2 m4 ⊢
              have hs6 := hw6.trans (m1.mono hw6.size)
              have HD6 := Lib.hid (HD5.out.below hs6)
              have HX6 := Lib.hid (HX5.out.below hs6)
              have HB6 := Lib.hid (HB5.out.trans (hs6.mono HB5.out.size))
              have M2 := Lib.hid m2
              replace M1 := Lib.hid (M1.out.below hs6)
              clear HD5 HX5 HB5 m1 m2 hw6 hs6
              refine (Q3.out _ HX6.out).mono ?_
              rintro e w7 ⟨rfl, hw7⟩
              obtain ⟨m1, m2, m5⟩ := box_made w7 (z0 := z0) HZ.out E1.out
              have BN := Lib.hid (Box_new w7 z0 HZ.out)
              have hs7 := hw7.trans (m1.mono hw7.size)
              have R1 := Lib.hid m2.1
              have R2 := Lib.hid (M1.out.below hs7).1
              have HD7 := Lib.hid (HD6.out.below hs7)
              have HX7 := Lib.hid (HX6.out.below hs7)
              have HB7 := Lib.hid (HB6.out.trans (hs7.mono HB6.out.size))
              clear HD6 HX6 HB6 m1 m2 hw7 hs7 M1 M2
              have hu := Try.underlying23
              have hi := size_block _ E1.out
              go_wp2_with (first
                | (refine wpList_alloc_told rfl 23 rfl (bc z0).toArray ha ?_)
                | (refine wpList_store_mid rfl 23 (.tmp 16) (.tmp 93) rfl w7.heap.size 0 (bc b1).toArray rfl rfl (BN.out.room _ E1.out) (size_block' _ E1.out) (bc_all _) ?_; simp only [List.toList_toArray])
                | (refine load_wanted (by rfl) 23 (.tmp 16) rfl w7.heap.size 0 (by rfl) (bc b1) _ R1.out hu rfl hi ?_)
                | (refine load_wanted (by rfl) 23 (.tmp 12) rfl w5.heap.size 0 (by rfl) (bc b1) _ R2.out hu rfl hi ?_)
                | (refine value_wanted (by rfl) (exec_neq_same (.tmp 97) (.tmp 98) _ rfl b1 E1.out (by rfl) (by rfl)) ?_)
                | fail)
              exact ⟨⟨n + 1, by omega, rfl, HB7.out, HD7.out, HX7.out⟩, by simp only [intOf]; omega⟩
            · go_wp2_with (first
                | (refine (lives_any _).mono ?_; rintro e w' ⟨rfl, hbw⟩)
                | fail)
              go_ret
              exact ⟨rfl, HB.out.trans (hbw.mono HB.out.size)⟩
end Go.Proofs.Ytlngflonolhdhaa

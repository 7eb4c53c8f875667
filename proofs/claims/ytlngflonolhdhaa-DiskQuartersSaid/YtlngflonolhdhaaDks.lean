/- DiskQuarters, walked. -/
import Derived.Test.YtlngflonolhdhaaDkr
set_option linter.unusedVariables false
set_option linter.unusedSimpArgs false
namespace Go.Proofs.Ytlngflonolhdhaa
open Go.RowKit Go.Proofs.YtlngflonolhdhaaW.PrintLast

/-- 64 blocks in one variable. -/
def RowAt (w : World) (c : Nat) (L : List (List Int)) : Prop := w.heap[c]? = some (.cells (flat bc L).toArray 38 (0, 0)) ∧ L.length = 64 ∧ ∀ b ∈ L, okB b
theorem RowAt.lens {w : World} {c : Nat} {L : List (List Int)} (h : RowAt w c L) : ∀ p ∈ L, (bc p).length = 64 := fun p hp => by rw [bc_length]; exact (h.2.2 p hp).1
theorem RowAt.below {w w' : World} {c : Nat} {L : List (List Int)} (h : RowAt w c L) (hb : Below w.heap.size w w') : RowAt w' c L := ⟨(hb.block c (lt_of_heap h.1)).trans h.1, h.2⟩
theorem RowAt.bel {w w' : World} {c : Nat} {L : List (List Int)} {B : Nat} (h : RowAt w c L) (hb : Bel B w w') : RowAt w' c L := ⟨hb.keep _ _ _ _ (by decide) h.1, h.2⟩
theorem RowAt.range {w : World} {c : Nat} {L : List (List Int)} (h : RowAt w c L) {n : Nat} {b : List Int} (hn : L[n]? = some b) : w.rangeAt c (n * 64) (bc b) := by
  intro j v hv
  have hj : j < 64 := by
    have := (List.getElem?_eq_some_iff.1 hv).1
    rw [h.lens b (List.mem_of_getElem? hn)] at this; exact this
  rw [cell_of_row w c _ _ _ _ h.1]
  have := flat_get h.lens n j hj b hn
  rw [hv] at this
  simpa using this
theorem RowAt.set {w : World} {c : Nat} {L : List (List Int)} (h : RowAt w c L) (n : Nat) (hn : n < 64) (b : List Int) (hb : okB b) : w.there c (n * 64) 64 ∧ RowAt (w.setCells c (n * 64) (bc b)) c (L.set n b) := by
  have hfl : (flat bc L).length = 64 * 64 := by rw [flat_length h.lens, h.2.1]
  have hbl : (bc b).length = 64 := by rw [bc_length]; exact hb.1
  refine ⟨?_, ?_, by simp [h.2.1], ?_⟩
  · intro j hj
    rw [cell_of_row _ _ _ _ _ _ h.1, frozen_of_row _ _ _ _ _ h.1]
    simp [List.getElem?_eq_getElem (show n * 64 + j < (flat bc L).length by omega)]
  · have := setCells_heap w c (bc b) (n * 64) _ _ h.1 (by rw [hbl]; simp [hfl]; omega)
    rw [this]
    have e := flat_set h.lens n b hbl (by rw [h.2.1]; exact hn)
    rw [hbl]
    simp only [List.toList_toArray]
    rw [e]
  · intro p hp
    rcases List.mem_or_eq_of_mem_set hp with hp | rfl
    · exact h.2.2 p hp
    · exact hb
theorem alloc_row (W : World) : (Instr.alloc 38 true (.tuple #[])).run Try.prog W = .ok (.pointer (some ⟨W.heap.size, 0, none⟩)) (W.alloc (.cells (flat bc (List.replicate 64 zb)).toArray 38)) := by kernel_rfl
theorem RowAt_new (w : World) : RowAt (w.alloc (.cells (flat bc (List.replicate 64 zb)).toArray 38)) w.heap.size (List.replicate 64 zb) :=
  ⟨heap_alloc_new w _, by simp, by intro b hb; rw [(List.mem_replicate.1 hb).2]; exact okB_zb⟩
theorem q_crash {B : Nat} {w : World} {g : Nat} {D : St} (h : DiskAt B w g D) (A : Option Addr) (ps : List Int) (k : Nat) (pc : Nat) (hi : Ints w A ps k) (hk : 0 < ps.length → k < B) :
    Calls Try.prog 15 #[.pointer (some ⟨g, 0, none⟩), .slice A ps.length pc] w fun r w' => r = .returned (.int .i64 0) ∧ Bel B w w' ∧ DiskAt B w' g (crash D ps) := by
  by_cases h0 : 0 < ps.length
  · exact crash_bel h A ps k pc hi (fun cur hB => by have := hk h0; omega)
  · exact crash_bel h A ps w.heap.size pc ⟨hi.1, fun h1 => absurd h1 h0⟩ (fun cur hB => by simp)
theorem Ints.lt_below {w w' : World} {A : Option Addr} {xs : List Int} {k : Nat} {B : Nat} (h : Ints w A xs k) (hg : Below B w w') (hk : 0 < xs.length → k < B) : Ints w' A xs k := by
  refine ⟨h.1, fun h0 => ?_⟩
  obtain ⟨o, e, hc⟩ := h.2 h0
  exact ⟨o, e, fun j hj => (hg.cell (hk h0)).trans (hc j hj)⟩
theorem q_loose {B : Nat} {w : World} {g : Nat} {D : St} (h : DiskAt B w g D) (hq : D.queue = []) (hg : D.gone = false) : Calls Try.prog 13 #[.pointer (some ⟨g, 0, none⟩)] w fun r w' => r = .returned (.int .i64 0) ∧ w = w' := by
  obtain ⟨lb, lc, qv, m, h⟩ := h
  have := loose_any h
  rwa [hq] at this

theorem slice_q (blk o j : Nat) (hj : j < 4) (W : World) : (Instr.sliceAt 23 (.pointer (some ⟨blk, o, none⟩)) (some (.int .i64 (16 * (j : Int)))) (some (.int .i64 (16 * (j : Int) + 16))) none).run Try.prog W = .ok (.slice (some ⟨blk, o + 16 * j, none⟩) 16 (64 - 16 * j)) W := by
  rcases (show j = 0 ∨ j = 1 ∨ j = 2 ∨ j = 3 by omega) with rfl | rfl | rfl | rfl <;> kernel_rfl
theorem yieldsIf_convert {P : Program} {ops : Array Oper} {S : World → Prop} {op : Oper} {a : Act} (hw : Region.wanted op (yielded ops a.tmps) = true) (src dst : TypeId) (x : Operand) (ho : op.op = .convert src dst x) (v u : Value) (hx : a.eval x = v)
    (hS : ∀ w, S w → (convert src dst v).run P w = .ok u w) : YieldsIf P ops S op u a :=
  .inl ⟨hw, fun w hw' => by
    unfold execOp
    simp only [ho, hx, Sem.run_bind, hS w hw', Result.andThen_ok, Sem.run_pure]⟩
theorem yields_slice_w {P : Program} {ops : Array Oper} {op : Oper} {a : Act} (hw : Region.wanted op (yielded ops a.tmps) = true) (t : TypeId) (x : Operand) (lo hi : Option Operand) (ho : op.op = .slice t x lo hi none) (vx : Value) (hx : a.eval x = vx) (vlo vhi : Option Value) (hlo : lo.map a.eval = vlo) (hhi : hi.map a.eval = vhi) (v : Value)
    (hrun : ∀ W : World, (Instr.sliceAt t vx vlo vhi none).run P W = .ok v W) : Yields P ops op v a :=
  .inl ⟨hw, fun W => by
    unfold execOp
    simp only [ho, hx, hlo, hhi, Option.map_none, Sem.run_bind, hrun, Result.andThen_ok, Sem.run_pure]⟩
theorem convert_q {w : World} {blk o : Nat} {b : List Int} (h : w.rangeAt blk o (bc b)) (hb : b.length = 64) (j : Nat) (hj : j < 4) (cap : Nat) : (convert 42 9 (.slice (some ⟨blk, o + 16 * j, none⟩) 16 cap)).run Try.prog w = .ok (.string (strOfNums (qt b j))) w := by
  refine run_convert_bytes_arg w 42 5 Try.underlying42 Try.underlying5 blk (o + 16 * j) 16 cap (qt b j) (qt_length hb j hj) (fun i hi => ?_) 9 Try.underlying9
  have h1 : b[16 * j + i]? = some b[16 * j + i] := List.getElem?_eq_getElem (by omega)
  have h2 := h (16 * j + i) (.int .u8 b[16 * j + i]) (by rw [bc_get, h1]; rfl)
  rw [Nat.add_assoc, h2, List.getD_eq_getElem?_getD, qt_get, if_pos hi, h1]
  rfl
theorem DAt.alien_grown {B : Nat} {w : World} {g : Nat} {D : St} {lb lc : Nat} {qv : Value} {m : Nat} (h : DAt B w g D lb lc qv m) {w' : World} {row : Option Nat} (hg : w.grownBy w' row)
    (hr : ∀ k, row = some k → ∃ cur t f, alien t = true ∧ w.heap[k]? = some (.cells cur t f)) : DAt B w' g D lb lc qv m := by
  have key : ∀ (k : Nat) (o : Obj), w.heap[k]? = some o → (∀ cur t f, alien t = true → o ≠ .cells cur t f) → some k ≠ row := by
    intro k o ho hne e
    obtain ⟨cur, t, f, ha, h2⟩ := hr k e.symm
    rw [ho] at h2; injection h2 with h2; exact hne _ _ _ ha h2
  obtain ⟨cl, hcl, _⟩ := h.lb_form
  obtain ⟨es, mc, hmb, _⟩ := h.map
  refine h.other hg (key _ _ h.hg ?_) (key _ _ hcl ?_) ?_ (key _ _ hmb (by simp))
  · intro c t f ha e; injection e with _ e; rw [← e] at ha; exact absurd ha (by decide)
  · intro c t f ha e; injection e with _ e; rw [← e] at ha; exact absurd ha (by decide)
  rcases h.qv_own with e | ⟨q, cur, e, hq⟩
  · exact .inl e
  · right; rw [e]; refine key _ _ hq ?_
    intro c t f ha e; injection e with _ e; rw [← e] at ha; exact absurd ha (by decide)
theorem DiskAt.alien_grown {B : Nat} {w : World} {g : Nat} {D : St} (h : DiskAt B w g D) {w' : World} {row : Option Nat} (hg : w.grownBy w' row)
    (hr : ∀ k, row = some k → ∃ cur t f, alien t = true ∧ w.heap[k]? = some (.cells cur t f)) : DiskAt B w' g D := by
  obtain ⟨lb, lc, qv, m, h⟩ := h; exact ⟨lb, lc, qv, m, h.alien_grown hg hr⟩
def lay2 (L : List (List Int)) (n : Nat) : List (List Int) := L.take n ++ (List.replicate 64 zb).drop n
theorem lay2_set {L : List (List Int)} (hL : L.length = 64) {n : Nat} (hn : n < 64) {b : List Int} (hb : L[n]? = some b) : (lay2 L n).set n b = lay2 L (n + 1) := by
  unfold lay2
  apply List.ext_getElem?
  intro i
  simp only [List.getElem?_set, List.getElem?_append, List.getElem?_take, List.getElem?_drop, List.length_append, List.length_take, List.length_drop, List.length_replicate, hL]
  by_cases e : n = i
  · subst e
    have h1 : n < min n 64 + (64 - n) := by omega
    rw [if_pos rfl, if_pos h1, if_pos (by omega), if_pos (by omega), hb]
  · rw [if_neg e]
    by_cases h1 : i < n
    · rw [if_pos (by omega), if_pos h1, if_pos (by omega), if_pos (by omega)]
    · rw [if_neg (by omega), if_neg (by omega)]; congr 1; omega

theorem crash_calm {q : Nat} {k : Int} {D : St} (hc : Calm q k D) (ps : List Int) : Calm 0 k (crash D ps) := ⟨by simp only [crash, crashed_length]; exact hc.len, rfl, rfl, Nat.le_refl _, hc.work⟩
theorem read_sure {k : Int} {D : St} (hc : Calm 0 k D) (n : Int) (h0 : 0 ≤ n) (h1 : n < 64) : (read D n).1 = (sure D n).1 := by
  have hr : inR D n = true := by simp [inR, hc.len]; omega
  have hq : D.queue = [] := List.eq_nil_of_length_eq_zero (Nat.le_zero.1 hc.queue)
  simp only [read, sure, hc.on, hr, hq, young_nil, Bool.false_eq_true, if_false, if_true, Option.getD_none]
theorem crash_found {D : St} {L : List (List Int)} {l2 : List (Int × List Int)} (ps : List Int) (hw : Wf D) (hl : D.laid = L) (h64 : L.length = 64) (hq : D.queue = (l2.take 40).map (fun x => (x.1 % 64, x.2))) (n : Nat) (hn : n < 64) (j : Nat) (hj : j < 4) (i : Nat) (hi : 40 ≤ i ∨ l2.length ≤ i) :
    isAt (L.getD n []) l2 n (sure (crash D ps) n).1 j i = true := by
  have hr : inR (crash D ps) n = true := by simp [inR, crash, crashed_length, hl, h64]; omega
  refine isAt_all _ _ _ _ _ ?_ i hi
  have hs : (sure (crash D ps) n).1 = (crashed D.laid D.queue ps).getD n [] := by unfold sure; rw [if_pos hr]; simp [crash]
  rw [hs, ← hl, ← hq]
  exact crashed_qt n j hj D.queue ps D.laid (fun b hb => (hw.laid b hb).1) (fun x hx => ⟨(hw.queue x hx).1.1, (hw.queue x hx).2.1, (hw.queue x hx).2.2⟩) (by rw [hl, h64]; exact hn)

set_option maxRecDepth 100000 in
set_option maxHeartbeats 8000000 in
theorem quarters_any (w : World) (A1 : Option Addr) (l1 : List (Int × List Int)) (cap1 : Nat) (A2 : Option Addr) (l2 : List (Int × List Int)) (cap2 : Nat) (P0 : Option Addr) (ps : List Int) (pc gp : Nat)
    (hl1 : 0 < l1.length → ∃ b o, A1 = some ⟨b, o, none⟩ ∧ b < w.heap.size ∧ DeedsAt w b o l1) (hl2 : 0 < l2.length → ∃ b o, A2 = some ⟨b, o, none⟩ ∧ b < w.heap.size ∧ DeedsAt w b o l2)
    (hps : Ints w P0 ps gp) (hgp : 0 < ps.length → gp < w.heap.size) :
    Calls Try.prog 4 #[.slice A1 l1.length cap1, .slice A2 l2.length cap2, .slice P0 ps.length pc] w fun r w' => r = .returned (.bool true) ∧ Below w.heap.size w w' := by
  have HL1 := Lib.hid hl1; clear hl1
  have HL2 := Lib.hid hl2; clear hl2
  have HP := Lib.hid hps; clear hps
  go_enter Try.func4, Try.ntmps4
  go_wp2_with fail
  refine (new_any w.heap.size w 64 (by omega) (by omega) (Nat.le_refl _)).mono ?_
  rintro e w1 ⟨g, rfl, hd, hb1⟩
  have HD := Lib.hid hd; clear hd
  have HB := Lib.hid hb1; clear hb1
  go_wp2_with fail
  go_loopw [9] (fun i wr => ∃ k : Nat, k ≤ l1.length ∧ k ≤ 40 ∧ i = .int .i64 k ∧ Below w.heap.size w wr ∧ ∃ D, DiskAt w.heap.size wr g D ∧ Calm k k D) (fun i _ => ((l1.length : Int) - intOf i).toNat)
  case atStart => exact ⟨0, by omega, by omega, rfl, HB.out, _, HD.out, Calm.fresh⟩
  case round =>
    rename_i K1 aK1
    obtain ⟨k, hk1, hk2, rfl, hb2, D, hd, hc⟩ := hrel
    clear HD HB
    have HD := Lib.hid hd; clear hd
    have HC := Lib.hid hc; clear hc
    by_cases hlt : (k : Int) < l1.length ∧ (k : Int) < 40
    · obtain ⟨ha1, ha2⟩ := hlt
      have hk0 : (0 : Int) ≤ (k : Int) := by omega
      obtain ⟨b, o, rfl, hbw, hds⟩ := HL1.out (by omega)
      have hx : l1[k]? = some l1[k] := List.getElem?_eq_getElem (by omega)
      obtain ⟨hn, hr, hok⟩ := hds k _ hx
      generalize l1[k] = y at hn hr hok hx
      have HN := Lib.hid hn; clear hn
      have HR := Lib.hid hr; clear hr
      have HO := Lib.hid hok; clear hok
      clear hds hx
      go_wp2_with fail
      replace hb2 := hb2.drew
      replace HD := Lib.hid (HD.out.below (Below.refl _ _).drew)
      have f1 := (hb2.cell (p := ⟨b, o + k * 67 + 1, none⟩) hbw).trans HN.out
      have f2 : wr.drew.rangeAt b (o + k * 67 + 2) (bc y.2) := fun j v hv => (hb2.cell (p := ⟨b, _, none⟩) hbw).trans (HR.out j v hv)
      have hu := Try.underlying23
      have hi := size_block y.2 HO.out.1
      refine start_ (n := 14) (S := (fun w' => w'.cell? ⟨b, o + k * 67 + 1, none⟩ = some (.int .i64 y.1) ∧ w'.rangeAt b (o + k * 67 + 2) (bc y.2))) (ds := []) #[false, false, false, false, false, false, false, false, false, false, false, false, false, false] (by kernel_rfl) rfl rfl ⟨f1, f2⟩ (fun hHeld => ?_)
      refine pure_ (i := 0) (N := (some 37)) (v := ?_) (a' := ?_) #[true, false, false, false, false, false, false, false, false, false, false, false, false, false] rfl rfl (by kernel_rfl) (fun _ _ _ h => h) (Or.inl ⟨by rfl, ?_⟩) ?_ ?_
      rotate_left
      · (intro w'; go_simp; with_reducible rfl)
      rotate_left
      · (simp only [Act.put, List.setIfInBounds_toArray, List.set_cons_zero, List.set_cons_succ]; rfl)
      refine pure_ (i := 1) (N := (some 38)) (v := ?_) (a' := ?_) #[true, true, false, false, false, false, false, false, false, false, false, false, false, false] rfl rfl (by kernel_rfl) (fun _ _ _ h => h) (Or.inl ⟨by rfl, ?_⟩) ?_ ?_
      rotate_left
      · (intro w'; go_simp; with_reducible rfl)
      rotate_left
      · (simp only [Act.put, List.setIfInBounds_toArray, List.set_cons_zero, List.set_cons_succ]; rfl)
      refine pure_ (i := 2) (N := (some 39)) (v := ?_) (a' := ?_) #[true, true, true, false, false, false, false, false, false, false, false, false, false, false] rfl rfl (by kernel_rfl) (fun _ _ _ h => h) (Or.inl ⟨by rfl, ?_⟩) ?_ ?_
      rotate_left
      · (intro w'; go_simp; with_reducible rfl)
      rotate_left
      · (simp only [Act.put, List.setIfInBounds_toArray, List.set_cons_zero, List.set_cons_succ]; rfl)
      refine pure_ (i := 3) (N := (some 40)) (v := ?_) (a' := ?_) #[true, true, true, true, false, false, false, false, false, false, false, false, false, false] rfl rfl (by kernel_rfl) (fun _ _ _ h => h) (Or.inl ⟨by rfl, ?_⟩) ?_ ?_
      rotate_left
      · (intro w'; go_simp; with_reducible rfl)
      rotate_left
      · (simp only [Act.put, List.setIfInBounds_toArray, List.set_cons_zero, List.set_cons_succ]; rfl)
      refine pure_ (i := 4) (N := (some 41)) (v := ?_) (a' := ?_) #[true, true, true, true, true, false, false, false, false, false, false, false, false, false] rfl rfl (by kernel_rfl) (fun _ _ _ h => h) (Or.inl ⟨by rfl, ?_⟩) ?_ ?_
      rotate_left
      · (intro w'; go_simp; with_reducible rfl)
      rotate_left
      · (simp only [Act.put, List.setIfInBounds_toArray, List.set_cons_zero, List.set_cons_succ]; rfl)
      refine take_ (i := 5) (N := (some 42)) (v := ?_) (a' := ?_) #[true, true, true, true, true, true, false, false, false, false, false, false, false, false] rfl rfl (by kernel_rfl) (fun _ _ _ h => h) (Or.inl ⟨by rfl, ?_⟩) hHeld ?_ ?_
      rotate_left
      · (rintro w' hSw; (try dsimp only at hSw); go_split_ands; go_simp; with_reducible rfl)
      rotate_left
      · (simp only [Act.put, List.setIfInBounds_toArray, List.set_cons_zero, List.set_cons_succ]; rfl)
      refine pure_ (i := 6) (N := (some 43)) (v := ?_) (a' := ?_) #[true, true, true, true, true, true, true, false, false, false, false, false, false, false] rfl rfl (by kernel_rfl) (fun _ _ _ h => h) (Or.inl ⟨by rfl, ?_⟩) ?_ ?_
      rotate_left
      · (intro w'; go_simp; with_reducible rfl)
      rotate_left
      · (simp only [Act.put, List.setIfInBounds_toArray, List.set_cons_zero, List.set_cons_succ]; rfl)
      refine pure_ (i := 7) (N := (some 44)) (v := ?_) (a' := ?_) #[true, true, true, true, true, true, true, true, false, false, false, false, false, false] rfl rfl (by kernel_rfl) (fun _ _ _ h => h) (Or.inl ⟨by rfl, ?_⟩) ?_ ?_
      rotate_left
      · (intro w'; go_simp; with_reducible rfl)
      rotate_left
      · (simp only [Act.put, List.setIfInBounds_toArray, List.set_cons_zero, List.set_cons_succ]; rfl)
      refine pure_ (i := 8) (N := (some 45)) (v := ?_) (a' := ?_) #[true, true, true, true, true, true, true, true, true, false, false, false, false, false] rfl rfl (by kernel_rfl) (fun _ _ _ h => h) (Or.inl ⟨by rfl, ?_⟩) ?_ ?_
      rotate_left
      · (intro w'; go_simp; with_reducible rfl)
      rotate_left
      · (simp only [Act.put, List.setIfInBounds_toArray, List.set_cons_zero, List.set_cons_succ]; rfl)
      refine pure_ (i := 9) (N := (some 46)) (v := ?_) (a' := ?_) #[true, true, true, true, true, true, true, true, true, true, false, false, false, false] rfl rfl (by kernel_rfl) (fun _ _ _ h => h) (Or.inl ⟨by rfl, ?_⟩) ?_ ?_
      rotate_left
      · (intro w'; go_simp; with_reducible rfl)
      rotate_left
      · (simp only [Act.put, List.setIfInBounds_toArray, List.set_cons_zero, List.set_cons_succ]; rfl)
      refine pure_ (i := 10) (N := (some 47)) (v := ?_) (a' := ?_) #[true, true, true, true, true, true, true, true, true, true, true, false, false, false] rfl rfl (by kernel_rfl) (fun _ _ _ h => h) (Or.inl ⟨by rfl, ?_⟩) ?_ ?_
      rotate_left
      · (intro w'; go_simp; with_reducible rfl)
      rotate_left
      · (simp only [Act.put, List.setIfInBounds_toArray, List.set_cons_zero, List.set_cons_succ]; rfl)
      refine take_ (i := 11) (N := (some 48)) (v := _) (a' := ?_) #[true, true, true, true, true, true, true, true, true, true, true, true, false, false] rfl rfl (by kernel_rfl) (fun _ _ _ h => h) (yieldsIf_load_mid (by rfl) 23 (.tmp 47) rfl b (o + k * 67 + 2) rfl (bc y.2) _ (fun w' h => h.2) hu rfl hi) hHeld ?_ ?_
      rotate_left
      · (simp only [Act.put, List.setIfInBounds_toArray, List.set_cons_zero, List.set_cons_succ]; rfl)
      refine one_ (i := 12) (N := (some 49)) #[true, true, true, true, true, true, true, true, true, true, true, true, true, false] rfl rfl (by kernel_rfl) (by decide) (fun K hK => ?_)
      generalize wr.drew = W at hb2 HD hHeld ⊢
      refine goes_ Try.func9 (by kernel_rfl) rfl #[.pointer (some ⟨g, 0, none⟩), .int .i64 (y.1 % 64), .agg (bc y.2).toArray] (by rfl) rfl rfl (by rw [← i64_and63]; simp only [List.map_toArray, List.map_cons, List.map_nil]; rfl) ?_
      refine (q_write HD.out HC.out (by omega) (by omega) (y.1 % 64) (by omega) (by omega) y.2 HO.out).mono ?_
      rintro e w3 ⟨rfl, hbel3, D3, hd3, hc3, hl3, hq3⟩
      have hb3 := hb2.trans hbel3.below
      refine ⟨_, rfl, hK.out _ _ ⟨(hbel3.below.cell hbw).trans hHeld.1, fun j v hv => (hbel3.below.cell hbw).trans (hHeld.2 j v hv)⟩ (fun hHeld => ?_)⟩
      replace HD := Lib.hid hd3
      replace HC := Lib.hid hc3
      clear hK K hd3 hc3 hbel3 hb2
      refine norm_ (a' := ?_) ?_ ?_
      rotate_left
      · (show Act.put _ (some 49) _ = _; simp only [Act.put, List.setIfInBounds_toArray, List.set_cons_zero, List.set_cons_succ]; rfl)
      refine pure_ (i := 13) (N := (some 50)) (v := ?_) (a' := ?_) #[true, true, true, true, true, true, true, true, true, true, true, true, true, true] rfl rfl (by kernel_rfl) (fun _ _ _ h => h) (Or.inl ⟨by rfl, ?_⟩) ?_ ?_
      rotate_left
      · (intro w'; go_simp; with_reducible rfl)
      rotate_left
      · (simp only [Act.put, List.setIfInBounds_toArray, List.set_cons_zero, List.set_cons_succ]; rfl)
      refine done_ (by kernel_rfl) ?_
      go_wp2_with fail
      exact ⟨⟨k + 1, by omega, by omega, rfl, hb3, _, HD.out, HC.out.mono (by omega) (by omega)⟩, by simp only [intOf]; omega⟩
    · have HB := Lib.hid hb2; clear hb2
      have hx : ¬ ((k : Int) < l1.length) ∨ ((k : Int) < l1.length ∧ ¬ ((k : Int) < 40)) := by omega
      replace HB := Lib.hid HB.out
      have ha := alloc_row
      have hrn := fun w => RowAt_new w
      have hl0 : List.replicate 64 zb = lay2 [] 0 := by simp [lay2]
      generalize hz64 : flat bc (List.replicate 64 zb) = z64 at ha hrn
      have rest_y : ∀ (u27 u28 u29 u30 u31 u32 u33 u34 u35 u36 u37 u38 u39 u40 u41 u42 u43 u44 u45 u46 u47 u48 u49 u50 : Value), K1 { tmps := #[Value.slice A1 l1.length cap1, Value.slice A2 l2.length cap2, Value.slice P0 ps.length pc, undef, undef, undef, u6, Value.pointer (some { block := g, off := 0 }), Value.int IntKind.i64 0, Value.int IntKind.i64 ↑k, undef, undef, undef, undef, undef, undef, undef, undef, undef, undef, undef, Value.tuple #[Value.pointer (some { block := g, off := 0 }), Value.int IntKind.i64 0], Value.tuple #[Value.pointer (some { block := g, off := 0 }), Value.int IntKind.i64 0], Value.pointer (some { block := g, off := 0 }), Value.int IntKind.i64 0, Value.int IntKind.i64 0, Value.bool false, u27, u28, u29, u30, u31, u32, u33, u34, u35, u36, u37, u38, u39, u40, u41, u42, u43, u44, u45, u46, u47, u48, u49, u50, undef, undef, undef, undef, undef, undef, undef, undef, undef, undef, undef, undef, undef, undef, undef, undef, undef, undef, undef, undef, undef, undef, undef, undef, undef, undef, undef, undef, undef, undef, undef, undef, undef, undef, undef, undef, undef, undef, undef, undef, undef, undef, undef, undef, undef, undef, undef, undef, undef, undef, undef, undef, undef, undef, undef, undef, undef, undef, undef, undef, undef, undef, undef, undef, undef, undef, undef, undef, undef, undef, undef, undef, undef, undef, undef, undef, undef, undef, undef, undef, undef, undef, undef, undef, undef, undef, undef, undef, undef, undef, undef, undef, undef, undef, undef, undef, undef, undef, undef, undef, undef, undef, undef, undef, undef, undef, undef, undef, undef, undef, undef, undef, undef, undef, undef, undef, undef, undef, undef, undef, undef, undef, undef, undef, undef, undef, undef, undef, undef, undef, undef, undef, undef, undef], defers := [] } wr := by
        intro u27 u28 u29 u30 u31 u32 u33 u34 u35 u36 u37 u38 u39 u40 u41 u42 u43 u44 u45 u46 u47 u48 u49 u50
        refine aK1 _ _ ?_
        go_wp2_with (first
          | (go_at_call 8; refine (q_flush HD.out HC.out (by omega)).mono ?_; rintro e w4 ⟨rfl, hbel4, D4, hd4, hc4, hl4, hq4⟩)
          | (go_at_call 13; refine (q_loose hd4 hq4 hc4.on).mono ?_; rintro e w5 ⟨rfl, rfl⟩)
          | (refine wpList_alloc_told rfl 38 rfl z64.toArray ha ?_)
          | fail)
        have hr4 := hrn w4
        have hb4 : Below w4.heap.size w4 (w4.alloc (.cells z64.toArray 38)) := (Below.refl _ _).alloc (Nat.le_refl _) _
        replace hd4 := hd4.below hb4
        have hB4 : Below w.heap.size w (w4.alloc (.cells z64.toArray 38)) := (HB.out.trans hbel4.below).trans (hb4.mono (by have := HB.out.size; have := hbel4.below.size; omega))
        have hcB : w.heap.size ≤ w4.heap.size := by have := HB.out.size; have := hbel4.below.size; omega
        generalize w4.heap.size = c at hr4 hb4 hcB ⊢
        generalize w4.alloc (.cells z64.toArray 38) = w6 at hr4 hd4 hB4 hb4 ⊢
        have hwf := hd4.wf
        have HD4 := Lib.hid hd4; clear hd4
        have HC4 := Lib.hid (show Calm 0 (k + 1) D4 from ⟨hc4.len, hc4.on, hc4.left, by rw [hq4]; exact Nat.le_refl _, hc4.work⟩); clear hc4
        have HR4 := Lib.hid hr4; clear hr4
        have HB4 := Lib.hid hB4; clear hB4
        clear HB HD HC hb4 hbel4 hrn ha hz64 hl4
        go_loopw [11] (fun i wr => ∃ n : Nat, n ≤ 64 ∧ i = .int .i64 n ∧ Below w.heap.size w wr ∧ DiskAt w.heap.size wr g D4 ∧ RowAt wr c (lay2 D4.laid n)) (fun i _ => ((64 : Int) - intOf i).toNat)
        case atStart => exact ⟨0, by omega, rfl, HB4.out, HD4.out, by rw [show lay2 D4.laid 0 = List.replicate 64 zb by simp [lay2]]; exact HR4.out⟩
        case round =>
          obtain ⟨n, hn64, rfl, hb7, hd7, hr7⟩ := hrel
          clear HD4 HB4 HR4
          by_cases hn : (n : Int) < 64
          · have hn0 : (0 : Int) ≤ (n : Int) := by omega
            have e2 := okB_sure HC4.out hwf n hn0 hn
            have e3 : D4.laid[n]? = some (sure D4 n).1 := by
              have hr : inR D4 n = true := by simp [inR, HC4.out.len]; omega
              have := laid_some hr
              simp only [Int.toNat_natCast] at this
              simp only [sure, hr, if_true, Int.toNat_natCast]; exact this
            have q2 := q_sure hd7 n hn0 hn HC4.out.len
            generalize (sure D4 n).1 = b2 at e2 e3 q2
            have E2 := Lib.hid e2; clear e2
            have E3 := Lib.hid e3; clear e3
            have HB := Lib.hid hb7; clear hb7
            have HD := Lib.hid hd7; clear hd7
            have HR := Lib.hid hr7; clear hr7
            go_wp2_with fail
            refine q2.mono ?_
            rintro e w8 ⟨rfl, hb8⟩
            have hr8 := HR.out.below hb8
            obtain ⟨hth, hset⟩ := hr8.set n (by omega) b2 E2.out
            have HT := Lib.hid hth; clear hth
            go_wp2_with (first
              | (refine wpList_store_mid rfl 23 (.tmp 70) (.tmp 68) rfl c (n * 64) (bc b2).toArray rfl rfl (by rw [List.size_toArray, bc_length, E2.out.1]; exact HT.out) (size_block' b2 E2.out.1) (bc_all b2) ?_; simp only [List.toList_toArray])
              | fail)
            have hg9 := grownBy_setCells w8 c (bc b2) (n * 64)
            have hb9 : Below w.heap.size w (w8.setCells c (n * 64) (bc b2)) := (HB.out.trans (hb8.mono HB.out.size)).grown hg9 (Nat.le_trans HB.out.size hb8.size) (fun k hk => by simp at hk; omega)
            have hd9 := (HD.out.below hb8).alien_grown hg9 (fun k hk => by injection hk with hk; subst hk; exact ⟨_, _, _, by decide, hr8.1⟩)
            rw [lay2_set HC4.out.len (by omega) E3.out] at hset
            exact ⟨⟨n + 1, by omega, rfl, hb9, hd9, hset⟩, by simp only [intOf]; omega⟩
          · obtain rfl : n = 64 := by omega
            have hlay : lay2 D4.laid 64 = D4.laid := by
              unfold lay2
              rw [List.take_of_length_le (by rw [HC4.out.len]; exact Nat.le_refl _)]; simp
            rw [hlay] at hr7
            have HB := Lib.hid hb7; clear hb7
            have HD := Lib.hid hd7; clear hd7
            have HR := Lib.hid hr7; clear hr7
            clear hlay
            go_wp2_with fail
            go_loopw [12] (fun i wr => ∃ k' : Nat, k' ≤ l2.length ∧ k' ≤ 40 ∧ i = .int .i64 k' ∧ Below w.heap.size w wr ∧ RowAt wr c D4.laid ∧ ∃ D, DiskAt w.heap.size wr g D ∧ Calm k' (k + 1 + k') D ∧ D.laid = D4.laid ∧ D.queue = (l2.take k').map (fun x => (x.1 % 64, x.2))) (fun i _ => ((l2.length : Int) - intOf i).toNat)
            case atStart => exact ⟨0, by omega, by omega, rfl, HB.out, HR.out, D4, HD.out, HC4.out.mono (Nat.le_refl _) (by omega), rfl, by rw [hq4]; rfl⟩
            case round =>
              rename_i K2 aK2
              obtain ⟨k', hk1', hk2', rfl, hb2, hrow, D, hd, hc, hlD, hqD⟩ := hrel
              clear HB HD HR HC4
              have HD := Lib.hid hd; clear hd
              have HC := Lib.hid hc; clear hc
              by_cases hlt' : (k' : Int) < l2.length ∧ (k' : Int) < 40
              · obtain ⟨ha1, ha2⟩ := hlt'
                have hk0 : (0 : Int) ≤ (k' : Int) := by omega
                obtain ⟨b, o, rfl, hbw, hds⟩ := HL2.out (by omega)
                have hx : l2[k']? = some l2[k'] := List.getElem?_eq_getElem (by omega)
                obtain ⟨hn, hr, hok⟩ := hds k' _ hx
                generalize l2[k'] = y at hn hr hok hx
                have HN := Lib.hid hn; clear hn
                have HR := Lib.hid hr; clear hr
                have HO := Lib.hid hok; clear hok
                have HX := Lib.hid hx; clear hx
                clear hds
                go_wp2_with fail
                replace hb2 := hb2.drew
                replace hrow : RowAt wr.drew c D4.laid := hrow.below (Below.refl _ _).drew
                replace HD := Lib.hid (HD.out.below (Below.refl _ _).drew)
                have f1 := (hb2.cell (p := ⟨b, o + k' * 67 + 1, none⟩) hbw).trans HN.out
                have f2 : wr.drew.rangeAt b (o + k' * 67 + 2) (bc y.2) := fun j v hv => (hb2.cell (p := ⟨b, _, none⟩) hbw).trans (HR.out j v hv)
                have hu := Try.underlying23
                have hi := size_block y.2 HO.out.1
                refine start_ (n := 14) (S := (fun w' => w'.cell? ⟨b, o + k' * 67 + 1, none⟩ = some (.int .i64 y.1) ∧ w'.rangeAt b (o + k' * 67 + 2) (bc y.2))) (ds := []) #[false, false, false, false, false, false, false, false, false, false, false, false, false, false] (by kernel_rfl) rfl rfl ⟨f1, f2⟩ (fun hHeld => ?_)
                refine pure_ (i := 0) (N := (some 81)) (v := ?_) (a' := ?_) #[true, false, false, false, false, false, false, false, false, false, false, false, false, false] rfl rfl (by kernel_rfl) (fun _ _ _ h => h) (Or.inl ⟨by rfl, ?_⟩) ?_ ?_
                rotate_left
                · (intro w'; go_simp; with_reducible rfl)
                rotate_left
                · (simp only [Act.put, List.setIfInBounds_toArray, List.set_cons_zero, List.set_cons_succ]; rfl)
                refine pure_ (i := 1) (N := (some 82)) (v := ?_) (a' := ?_) #[true, true, false, false, false, false, false, false, false, false, false, false, false, false] rfl rfl (by kernel_rfl) (fun _ _ _ h => h) (Or.inl ⟨by rfl, ?_⟩) ?_ ?_
                rotate_left
                · (intro w'; go_simp; with_reducible rfl)
                rotate_left
                · (simp only [Act.put, List.setIfInBounds_toArray, List.set_cons_zero, List.set_cons_succ]; rfl)
                refine pure_ (i := 2) (N := (some 83)) (v := ?_) (a' := ?_) #[true, true, true, false, false, false, false, false, false, false, false, false, false, false] rfl rfl (by kernel_rfl) (fun _ _ _ h => h) (Or.inl ⟨by rfl, ?_⟩) ?_ ?_
                rotate_left
                · (intro w'; go_simp; with_reducible rfl)
                rotate_left
                · (simp only [Act.put, List.setIfInBounds_toArray, List.set_cons_zero, List.set_cons_succ]; rfl)
                refine pure_ (i := 3) (N := (some 84)) (v := ?_) (a' := ?_) #[true, true, true, true, false, false, false, false, false, false, false, false, false, false] rfl rfl (by kernel_rfl) (fun _ _ _ h => h) (Or.inl ⟨by rfl, ?_⟩) ?_ ?_
                rotate_left
                · (intro w'; go_simp; with_reducible rfl)
                rotate_left
                · (simp only [Act.put, List.setIfInBounds_toArray, List.set_cons_zero, List.set_cons_succ]; rfl)
                refine pure_ (i := 4) (N := (some 85)) (v := ?_) (a' := ?_) #[true, true, true, true, true, false, false, false, false, false, false, false, false, false] rfl rfl (by kernel_rfl) (fun _ _ _ h => h) (Or.inl ⟨by rfl, ?_⟩) ?_ ?_
                rotate_left
                · (intro w'; go_simp; with_reducible rfl)
                rotate_left
                · (simp only [Act.put, List.setIfInBounds_toArray, List.set_cons_zero, List.set_cons_succ]; rfl)
                refine take_ (i := 5) (N := (some 86)) (v := ?_) (a' := ?_) #[true, true, true, true, true, true, false, false, false, false, false, false, false, false] rfl rfl (by kernel_rfl) (fun _ _ _ h => h) (Or.inl ⟨by rfl, ?_⟩) hHeld ?_ ?_
                rotate_left
                · (rintro w' hSw; (try dsimp only at hSw); go_split_ands; go_simp; with_reducible rfl)
                rotate_left
                · (simp only [Act.put, List.setIfInBounds_toArray, List.set_cons_zero, List.set_cons_succ]; rfl)
                refine pure_ (i := 6) (N := (some 87)) (v := ?_) (a' := ?_) #[true, true, true, true, true, true, true, false, false, false, false, false, false, false] rfl rfl (by kernel_rfl) (fun _ _ _ h => h) (Or.inl ⟨by rfl, ?_⟩) ?_ ?_
                rotate_left
                · (intro w'; go_simp; with_reducible rfl)
                rotate_left
                · (simp only [Act.put, List.setIfInBounds_toArray, List.set_cons_zero, List.set_cons_succ]; rfl)
                refine pure_ (i := 7) (N := (some 88)) (v := ?_) (a' := ?_) #[true, true, true, true, true, true, true, true, false, false, false, false, false, false] rfl rfl (by kernel_rfl) (fun _ _ _ h => h) (Or.inl ⟨by rfl, ?_⟩) ?_ ?_
                rotate_left
                · (intro w'; go_simp; with_reducible rfl)
                rotate_left
                · (simp only [Act.put, List.setIfInBounds_toArray, List.set_cons_zero, List.set_cons_succ]; rfl)
                refine pure_ (i := 8) (N := (some 89)) (v := ?_) (a' := ?_) #[true, true, true, true, true, true, true, true, true, false, false, false, false, false] rfl rfl (by kernel_rfl) (fun _ _ _ h => h) (Or.inl ⟨by rfl, ?_⟩) ?_ ?_
                rotate_left
                · (intro w'; go_simp; with_reducible rfl)
                rotate_left
                · (simp only [Act.put, List.setIfInBounds_toArray, List.set_cons_zero, List.set_cons_succ]; rfl)
                refine pure_ (i := 9) (N := (some 90)) (v := ?_) (a' := ?_) #[true, true, true, true, true, true, true, true, true, true, false, false, false, false] rfl rfl (by kernel_rfl) (fun _ _ _ h => h) (Or.inl ⟨by rfl, ?_⟩) ?_ ?_
                rotate_left
                · (intro w'; go_simp; with_reducible rfl)
                rotate_left
                · (simp only [Act.put, List.setIfInBounds_toArray, List.set_cons_zero, List.set_cons_succ]; rfl)
                refine pure_ (i := 10) (N := (some 91)) (v := ?_) (a' := ?_) #[true, true, true, true, true, true, true, true, true, true, true, false, false, false] rfl rfl (by kernel_rfl) (fun _ _ _ h => h) (Or.inl ⟨by rfl, ?_⟩) ?_ ?_
                rotate_left
                · (intro w'; go_simp; with_reducible rfl)
                rotate_left
                · (simp only [Act.put, List.setIfInBounds_toArray, List.set_cons_zero, List.set_cons_succ]; rfl)
                refine take_ (i := 11) (N := (some 92)) (v := _) (a' := ?_) #[true, true, true, true, true, true, true, true, true, true, true, true, false, false] rfl rfl (by kernel_rfl) (fun _ _ _ h => h) (yieldsIf_load_mid (by rfl) 23 (.tmp 91) rfl b (o + k' * 67 + 2) rfl (bc y.2) _ (fun w' h => h.2) hu rfl hi) hHeld ?_ ?_
                rotate_left
                · (simp only [Act.put, List.setIfInBounds_toArray, List.set_cons_zero, List.set_cons_succ]; rfl)
                refine one_ (i := 12) (N := (some 93)) #[true, true, true, true, true, true, true, true, true, true, true, true, true, false] rfl rfl (by kernel_rfl) (by decide) (fun K hK => ?_)
                generalize wr.drew = W at hb2 HD hHeld hrow ⊢
                refine goes_ Try.func9 (by kernel_rfl) rfl #[.pointer (some ⟨g, 0, none⟩), .int .i64 (y.1 % 64), .agg (bc y.2).toArray] (by rfl) rfl rfl (by rw [← i64_and63]; simp only [List.map_toArray, List.map_cons, List.map_nil]; rfl) ?_
                refine (q_write HD.out HC.out (by omega) (by omega) (y.1 % 64) (by omega) (by omega) y.2 HO.out).mono ?_
                rintro e w3 ⟨rfl, hbel3, D3, hd3, hc3, hl3, hq3⟩
                have hb3 := hb2.trans hbel3.below
                have hrow3 := hrow.bel hbel3
                refine ⟨_, rfl, hK.out _ _ ⟨(hbel3.below.cell hbw).trans hHeld.1, fun j v hv => (hbel3.below.cell hbw).trans (hHeld.2 j v hv)⟩ (fun hHeld => ?_)⟩
                replace HD := Lib.hid hd3
                replace HC := Lib.hid hc3
                clear hK K hd3 hc3 hbel3 hb2 hrow
                refine norm_ (a' := ?_) ?_ ?_
                rotate_left
                · (show Act.put _ (some 93) _ = _; simp only [Act.put, List.setIfInBounds_toArray, List.set_cons_zero, List.set_cons_succ]; rfl)
                refine pure_ (i := 13) (N := (some 94)) (v := ?_) (a' := ?_) #[true, true, true, true, true, true, true, true, true, true, true, true, true, true] rfl rfl (by kernel_rfl) (fun _ _ _ h => h) (Or.inl ⟨by rfl, ?_⟩) ?_ ?_
                rotate_left
                · (intro w'; go_simp; with_reducible rfl)
                rotate_left
                · (simp only [Act.put, List.setIfInBounds_toArray, List.set_cons_zero, List.set_cons_succ]; rfl)
                refine done_ (by kernel_rfl) ?_
                go_wp2_with fail
                refine ⟨⟨k' + 1, by omega, by omega, rfl, hb3, hrow3, _, HD.out, HC.out.mono (by omega) (by omega), hl3.trans hlD, ?_⟩, by simp only [intOf]; omega⟩
                rw [hq3, hqD, List.take_add_one, HX.out]; simp
              · have HB := Lib.hid hb2; clear hb2
                have HR := Lib.hid hrow; clear hrow
                have hxx : ¬ ((k' : Int) < l2.length) ∨ ((k' : Int) < l2.length ∧ ¬ ((k' : Int) < 40)) := by omega
                have hqq : D.queue = (l2.take 40).map (fun x => (x.1 % 64, x.2)) := by
                  rw [hqD]; congr 1
                  by_cases h40 : k' = 40
                  · rw [h40]
                  · rw [List.take_of_length_le (by omega), List.take_of_length_le (by omega)]
                have rest_z : ∀ (u71 u72 u73 u74 u75 u76 u77 u78 u79 u80 u81 u82 u83 u84 u85 u86 u87 u88 u89 u90 u91 u92 u93 u94 : Value), K2 { tmps := #[Value.slice A1 l1.length cap1, Value.slice A2 l2.length cap2, Value.slice P0 ps.length pc, undef, undef, undef, u6, Value.pointer (some { block := g, off := 0 }), Value.int IntKind.i64 0, Value.int IntKind.i64 ↑k, Value.pointer (some { block := c, off := 0 }), Value.int IntKind.i64 64, Value.int IntKind.i64 ↑k', undef, undef, undef, undef, undef, undef, undef, undef, Value.tuple #[Value.pointer (some { block := g, off := 0 }), Value.int IntKind.i64 0], Value.tuple #[Value.pointer (some { block := g, off := 0 }), Value.int IntKind.i64 0], Value.pointer (some { block := g, off := 0 }), Value.int IntKind.i64 0, Value.int IntKind.i64 0, Value.bool false, u27, u28, u29, u30, u31, u32, u33, u34, u35, u36, u37, u38, u39, u40, u41, u42, u43, u44, u45, u46, u47, u48, u49, u50, Value.pointer (some { block := g, off := 0 }), Value.int IntKind.i64 0, Value.bool false, Value.bool false, Value.pointer (some { block := g, off := 0 }), Value.int IntKind.i64 0, Value.bool false, Value.bool false, Value.int IntKind.i64 64, Value.bool false, u61, u62, u63, u64, u65, u66, u67, u68, u69, u70, u71, u72, u73, u74, u75, u76, u77, u78, u79, u80, u81, u82, u83, u84, u85, u86, u87, u88, u89, u90, u91, u92, u93, u94, undef, undef, undef, undef, undef, undef, undef, undef, undef, undef, undef, undef, undef, undef, undef, undef, undef, undef, undef, undef, undef, undef, undef, undef, undef, undef, undef, undef, undef, undef, undef, undef, undef, undef, undef, undef, undef, undef, undef, undef, undef, undef, undef, undef, undef, undef, undef, undef, undef, undef, undef, undef, undef, undef, undef, undef, undef, undef, undef, undef, undef, undef, undef, undef, undef, undef, undef, undef, undef, undef, undef, undef, undef, undef, undef, undef, undef, undef, undef, undef, undef, undef, undef, undef, undef, undef, undef, undef, undef, undef], defers := [] } wr := by
                  intro u71 u72 u73 u74 u75 u76 u77 u78 u79 u80 u81 u82 u83 u84 u85 u86 u87 u88 u89 u90 u91 u92 u93 u94
                  refine aK2 _ _ ?_
                  go_wp2_with (first
                    | (go_at_call 15; refine (q_crash HD.out P0 ps gp pc (HP.out.lt_below HB.out hgp) hgp).mono ?_; rintro e w9 ⟨rfl, hbel9, hd9⟩)
                    | fail)
                  have hfound := fun (n : Nat) (hn : n < 64) (j : Nat) (hj : j < 4) (i : Nat) (hi : 40 ≤ i ∨ l2.length ≤ i) => crash_found ps HD.out.wf hlD (by rw [← hlD]; exact HC.out.len) hqq n hn j hj i hi
      
                  have hr9 := HR.out.bel hbel9
                  have hB9 : Below w.heap.size w w9 := HB.out.trans hbel9.below
                  have hc9 := crash_calm HC.out ps
                  have hwf9 := hd9.wf
                  clear HB HR HD HC hbel9 hqq hqD hlD
                  generalize crash D ps = Dc at hd9 hc9 hwf9 hfound
                  generalize D4.laid = L at hr9 hfound
                  have HF := Lib.hid hfound; clear hfound
                  have HB := Lib.hid hB9; clear hB9
                  have HR := Lib.hid hr9; clear hr9
                  have HD := Lib.hid hd9; clear hd9
                  have HC := Lib.hid hc9; clear hc9
                  have hz : zb.length = 64 := rfl
                  have ha := alloc_block
                  generalize zb = z0 at hz ha
                  have HZ := Lib.hid hz; clear hz
                  go_loopw [13] (fun i wr => ∃ n : Nat, n ≤ 64 ∧ i = .int .i64 n ∧ Below w.heap.size w wr ∧ DiskAt w.heap.size wr g Dc ∧ RowAt wr c L) (fun i _ => ((64 : Int) - intOf i).toNat)
                  case atStart => exact ⟨0, by omega, rfl, HB.out, HD.out, HR.out⟩
                  case round =>
                    obtain ⟨n, hn64, rfl, hbA, hdA, hrA⟩ := hrel
                    clear HB HD HR
                    have HD := Lib.hid hdA; clear hdA
                    have HB := Lib.hid hbA; clear hbA
                    have HR := Lib.hid hrA; clear hrA
                    by_cases hn : (n : Int) < 64
                    · have hn0 : (0 : Int) ≤ (n : Int) := by omega
                      have hnn : n < 64 := by omega
                      have e1 := okB_sure HC.out hwf9 n hn0 hn
                      have q1 := q_read HD.out n hn0 hn HC.out.len HC.out.on
                      rw [read_sure HC.out n hn0 hn] at q1
                      have q2 : ∀ W, DiskAt w.heap.size W g Dc → _ := fun W h => q_sure h n hn0 hn HC.out.len
                      have hf := HF.out n hnn
                      generalize (sure Dc n).1 = bb at e1 q1 q2 hf
                      have hLn : L[n]? = some (L.getD n []) := by
                        rw [List.getD_eq_getElem?_getD, List.getElem?_eq_getElem (by rw [HR.out.2.1]; exact hnn)]; rfl
                      have hLok := HR.out.2.2 _ (List.mem_of_getElem? hLn)
                      have hLr := HR.out.range hLn
                      generalize L.getD n [] = Ln at hf hLn hLok hLr
                      have E1 := Lib.hid e1; clear e1
                      have Q2 := Lib.hid q2; clear q2
                      have HN := Lib.hid hf; clear hf
                      have HLO := Lib.hid hLok; clear hLok
                      have HLN := Lib.hid hLn; clear hLn
                      clear hLr
                      go_wp2_with fail
                      refine q1.mono ?_
                      clear q1
                      rintro e w5 ⟨rfl, hw5⟩
                      obtain ⟨m1, m2, m3⟩ := box_made w5 (z0 := z0) HZ.out E1.out.1
                      have BN := Lib.hid (Box_new w5 z0 HZ.out)
                      go_wp2_with (first
                        | (refine wpList_alloc_told rfl 23 rfl (bc z0).toArray ha ?_)
                        | (refine wpList_store_mid rfl 23 (.tmp 14) (.tmp 107) rfl w5.heap.size 0 (bc bb).toArray rfl rfl (BN.out.room bb E1.out.1) (size_block' bb E1.out.1) (bc_all bb) ?_; simp only [List.toList_toArray])
                        | fail)
                      clear BN
                      generalize (w5.alloc (.cells (bc z0).toArray 23)).setCells w5.heap.size 0 (bc bb) = W5 at m1 m2 m3 ⊢
                      have hs5 := hw5.trans (m1.mono hw5.size)
                      have HD5 := Lib.hid (HD.out.below hs5)
                      have HB5 := Lib.hid (HB.out.trans (hs5.mono HB.out.size))
                      have HR5 := Lib.hid (HR.out.below hs5)
                      have M1 := Lib.hid m2
                      clear HD HB HR m1 m2 hw5 hs5
                      refine (Q2.out _ HD5.out).mono ?_
                      rintro e w6' ⟨rfl, hw6⟩
                      obtain ⟨m1, m2, m4⟩ := box_made w6' (z0 := z0) HZ.out E1.out.1
                      have BN := Lib.hid (Box_new w6' z0 HZ.out)
                      have hs6 := hw6.trans (m1.mono hw6.size)
                      have HD6 := Lib.hid (HD5.out.below hs6)
                      have HB6 := Lib.hid (HB5.out.trans (hs6.mono HB5.out.size))
                      have HR6 := Lib.hid (HR5.out.below hs6)
                      have M2 := Lib.hid m2
                      replace M1 := Lib.hid (M1.out.below hs6)
                      clear HD5 HB5 HR5 m1 m2 hw6 hs6
                      have hu := Try.underlying23
                      have hi := size_block _ E1.out.1
                      go_wp2_with (first
                        | (refine wpList_alloc_told rfl 23 rfl (bc z0).toArray ha ?_)
                        | (refine wpList_store_mid rfl 23 (.tmp 16) (.tmp 113) rfl w6'.heap.size 0 (bc bb).toArray rfl rfl (BN.out.room bb E1.out.1) (size_block' bb E1.out.1) (bc_all bb) ?_; simp only [List.toList_toArray])
                        | (refine load_wanted (by rfl) 23 (.tmp 14) rfl w5.heap.size 0 (by rfl) (bc bb) _ M1.out.1 hu rfl hi ?_)
                        | (refine load_wanted (by rfl) 23 (.tmp 16) rfl w6'.heap.size 0 (by rfl) (bc bb) _ M2.out.1 hu rfl hi ?_)
                        | (refine value_wanted (by rfl) (exec_neq_same (.tmp 115) (.tmp 116) _ rfl bb E1.out.1 (by rfl) (by rfl)) ?_)
                        | fail)
                      clear BN
                      generalize (w6'.alloc (.cells (bc z0).toArray 23)).setCells w6'.heap.size 0 (bc bb) = W at HD6 HB6 HR6 M1 M2 m4 ⊢
                      have HW := Lib.hid (show ∀ W', Below W.heap.size W W' → W'.rangeAt w5.heap.size 0 (bc bb) ∧ W'.rangeAt c (n * 64) (bc Ln) from fun W' hb => ⟨(M1.out.below hb).1, (HR6.out.below hb).range HLN.out⟩)
                      clear M1 M2 hi
                      go_loopw [18] (fun q wr => ∃ j : Nat, j ≤ 4 ∧ q = .int .i64 (16 * (j : Int)) ∧ Below W.heap.size W wr) (fun q _ => ((64 : Int) - intOf q).toNat)
                      case atStart => exact ⟨0, by omega, rfl, Below.refl _ _⟩
                      case round =>
                        obtain ⟨j, hj4, rfl, hbq⟩ := hrel
                        by_cases hj : (16 * (j : Int)) < 64
                        · have hjj : j < 4 := by omega
                          have hj0 : (0 : Int) ≤ 16 * (j : Int) := by omega
                          have s1 := slice_q w5.heap.size 0 j hjj
                          have s2 := slice_q c (n * 64) j hjj
                          have hbq' := hbq.drew
                          have hS := HW.out _ hbq'
                          have HJ := Lib.hid (fun i hi => HN.out j hjj i hi)
                          have hstr := str_beq E1.out HLO.out j
                          have hw16 : wrap64 (16 * (j : Int) + 16) = 16 * (j : Int) + 16 := by unfold wrap64; omega
                          have hw16' : IntKind.i64.wrap (16 * (j : Int) + 16) = 16 * (j : Int) + 16 := by rw [i64_w]; exact hw16
                          go_wp2_with fail
                          refine start_ (n := 14) (S := (fun w' => w'.rangeAt w5.heap.size 0 (bc bb) ∧ w'.rangeAt c (n * 64) (bc Ln))) (ds := []) #[false, false, false, false, false, false, false, false, false, false, false, false, false, false] (by kernel_rfl) rfl rfl hS (fun hHeld => ?_)
                          refine pure_ (i := 0) (N := (some 130)) (v := ?_) (a' := ?_) #[true, false, false, false, false, false, false, false, false, false, false, false, false, false] rfl rfl (by kernel_rfl) (fun _ _ _ h => h) (Or.inl ⟨by rfl, ?_⟩) ?_ ?_
                          rotate_left
                          · (intro w'; go_simp; with_reducible rfl)
                          rotate_left
                          · (simp only [Act.put, List.setIfInBounds_toArray, List.set_cons_zero, List.set_cons_succ]; rfl)
                          refine pure_ (i := 1) (N := (some 131)) (v := ?_) (a' := ?_) #[true, true, false, false, false, false, false, false, false, false, false, false, false, false] rfl rfl (by kernel_rfl) (fun _ _ _ h => h) (Or.inl ⟨by rfl, ?_⟩) ?_ ?_
                          rotate_left
                          · (intro w'; go_simp; with_reducible rfl)
                          rotate_left
                          · (simp only [Act.put, List.setIfInBounds_toArray, List.set_cons_zero, List.set_cons_succ]; rfl)
                          refine pure_ (i := 2) (N := (some 132)) (v := ?_) (a' := ?_) #[true, true, true, false, false, false, false, false, false, false, false, false, false, false] rfl rfl (by kernel_rfl) (fun _ _ _ h => h) (Or.inl ⟨by rfl, ?_⟩) ?_ ?_
                          rotate_left
                          · (intro w'; go_simp; with_reducible rfl)
                          rotate_left
                          · (simp only [Act.put, List.setIfInBounds_toArray, List.set_cons_zero, List.set_cons_succ]; rfl)
                          refine pure_ (i := 3) (N := (some 133)) (v := _) (a' := ?_) #[true, true, true, true, false, false, false, false, false, false, false, false, false, false] rfl rfl (by kernel_rfl) (fun _ _ _ h => h) (yields_slice (by rfl) 23 (.tmp 14) (some (.tmp 130)) (some (.tmp 132)) (by rfl) (.pointer (some ⟨w5.heap.size, 0, none⟩)) (by rfl) (some (.int .i64 (16 * (j : Int)))) (some (.int .i64 (16 * (j : Int) + 16))) (by rfl) (by rfl) _ s1) ?_ ?_
                          rotate_left
                          · (simp only [Act.put, List.setIfInBounds_toArray, List.set_cons_zero, List.set_cons_succ]; rfl)
                          refine take_ (i := 4) (N := (some 134)) (v := _) (a' := ?_) #[true, true, true, true, true, false, false, false, false, false, false, false, false, false] rfl rfl (by kernel_rfl) (fun _ _ _ h => h) (yieldsIf_convert (by rfl) 42 9 (.tmp 133) (by rfl) _ (.string (strOfNums (qt bb j))) (by rfl) (fun w' h => convert_q h.1 E1.out.1 j hjj _)) hHeld ?_ ?_
                          rotate_left
                          · (simp only [Act.put, List.setIfInBounds_toArray, List.set_cons_zero, List.set_cons_succ]; rfl)
                          refine pure_ (i := 5) (N := (some 135)) (v := ?_) (a' := ?_) #[true, true, true, true, true, true, false, false, false, false, false, false, false, false] rfl rfl (by kernel_rfl) (fun _ _ _ h => h) (Or.inl ⟨by rfl, ?_⟩) ?_ ?_
                          rotate_left
                          · (intro w'; go_simp; with_reducible rfl)
                          rotate_left
                          · (simp only [Act.put, List.setIfInBounds_toArray, List.set_cons_zero, List.set_cons_succ]; rfl)
                          refine pure_ (i := 6) (N := (some 136)) (v := ?_) (a' := ?_) #[true, true, true, true, true, true, true, false, false, false, false, false, false, false] rfl rfl (by kernel_rfl) (fun _ _ _ h => h) (Or.inl ⟨by rfl, ?_⟩) ?_ ?_
                          rotate_left
                          · (intro w'; go_simp; with_reducible rfl)
                          rotate_left
                          · (simp only [Act.put, List.setIfInBounds_toArray, List.set_cons_zero, List.set_cons_succ]; rfl)
                          refine pure_ (i := 7) (N := (some 137)) (v := ?_) (a' := ?_) #[true, true, true, true, true, true, true, true, false, false, false, false, false, false] rfl rfl (by kernel_rfl) (fun _ _ _ h => h) (Or.inl ⟨by rfl, ?_⟩) ?_ ?_
                          rotate_left
                          · (intro w'; go_simp; with_reducible rfl)
                          rotate_left
                          · (simp only [Act.put, List.setIfInBounds_toArray, List.set_cons_zero, List.set_cons_succ]; rfl)
                          refine pure_ (i := 8) (N := (some 138)) (v := ?_) (a' := ?_) #[true, true, true, true, true, true, true, true, true, false, false, false, false, false] rfl rfl (by kernel_rfl) (fun _ _ _ h => h) (Or.inl ⟨by rfl, ?_⟩) ?_ ?_
                          rotate_left
                          · (intro w'; go_simp; with_reducible rfl)
                          rotate_left
                          · (simp only [Act.put, List.setIfInBounds_toArray, List.set_cons_zero, List.set_cons_succ]; rfl)
                          refine pure_ (i := 9) (N := (some 139)) (v := ?_) (a' := ?_) #[true, true, true, true, true, true, true, true, true, true, false, false, false, false] rfl rfl (by kernel_rfl) (fun _ _ _ h => h) (Or.inl ⟨by rfl, ?_⟩) ?_ ?_
                          rotate_left
                          · (intro w'; go_simp; with_reducible rfl)
                          rotate_left
                          · (simp only [Act.put, List.setIfInBounds_toArray, List.set_cons_zero, List.set_cons_succ]; rfl)
                          refine pure_ (i := 10) (N := (some 140)) (v := _) (a' := ?_) #[true, true, true, true, true, true, true, true, true, true, true, false, false, false] rfl rfl (by kernel_rfl) (fun _ _ _ h => h) (yields_slice (by rfl) 23 (.tmp 136) (some (.tmp 137)) (some (.tmp 139)) (by rfl) (.pointer (some ⟨c, n * 64, none⟩)) (by rfl) (some (.int .i64 (16 * (j : Int)))) (some (.int .i64 (16 * (j : Int) + 16))) (by rfl) (by rfl) _ s2) ?_ ?_
                          rotate_left
                          · (simp only [Act.put, List.setIfInBounds_toArray, List.set_cons_zero, List.set_cons_succ]; rfl)
                          refine take_ (i := 11) (N := (some 141)) (v := _) (a' := ?_) #[true, true, true, true, true, true, true, true, true, true, true, true, false, false] rfl rfl (by kernel_rfl) (fun _ _ _ h => h) (yieldsIf_convert (by rfl) 42 9 (.tmp 140) (by rfl) _ (.string (strOfNums (qt Ln j))) (by rfl) (fun w' h => convert_q h.2 HLO.out.1 j hjj _)) hHeld ?_ ?_
                          rotate_left
                          · (simp only [Act.put, List.setIfInBounds_toArray, List.set_cons_zero, List.set_cons_succ]; rfl)
                          refine pure_ (i := 12) (N := (some 142)) (v := ?_) (a' := ?_) #[true, true, true, true, true, true, true, true, true, true, true, true, true, false] rfl rfl (by kernel_rfl) (fun _ _ _ h => h) (Or.inl ⟨by rfl, ?_⟩) ?_ ?_
                          rotate_left
                          · (intro w'; go_simp; with_reducible rfl)
                          rotate_left
                          · (simp only [Act.put, List.setIfInBounds_toArray, List.set_cons_zero, List.set_cons_succ]; rfl)
                          refine pure_ (i := 13) (N := (some 19)) (v := ?_) (a' := ?_) #[true, true, true, true, true, true, true, true, true, true, true, true, true, true] rfl rfl (by kernel_rfl) (fun _ _ _ h => h) (Or.inl ⟨by rfl, ?_⟩) ?_ ?_
                          rotate_left
                          · (intro w'; go_simp; with_reducible rfl)
                          rotate_left
                          · (simp only [Act.put, List.setIfInBounds_toArray, List.set_cons_zero, List.set_cons_succ]; rfl)
                          refine done_ (by kernel_rfl) ?_
                          go_wp2_with fail
                          clear s1 s2
                          go_loopw [19, 20] (fun is i wr => ∃ ii : Nat, ii ≤ l2.length ∧ ii ≤ 40 ∧ i = .int .i64 ii ∧ is = .bool (isAt Ln l2 n bb j ii) ∧ Below W.heap.size W wr) (fun _ i _ => ((40 : Int) - intOf i).toNat)
                          case atStart => exact ⟨0, by omega, by omega, rfl, by rw [isAt_zero, ← hstr], hbq'⟩
                          case round =>
                            obtain ⟨ii, hi1, hi2, rfl, rfl, hbi⟩ := hrel
                            clear hS hbq'
                            by_cases hcc : (ii : Int) < l2.length ∧ (ii : Int) < 40 ∧ isAt Ln l2 n bb j ii = false
                            · obtain ⟨ha1, ha2, ha3⟩ := hcc
                              have hii0 : (0 : Int) ≤ (ii : Int) := by omega
                              obtain ⟨b, o, rfl, hbw, hds⟩ := HL2.out (by omega)
                              have hx : l2[ii]? = some l2[ii] := List.getElem?_eq_getElem (by omega)
                              obtain ⟨hyn, hyr, hok⟩ := hds ii _ hx
                              generalize l2[ii] = y at hyn hyr hok hx
                              have hnext := isAt_succ ha3 hx
                              have hbW := HB6.out.trans (hbi.drew.mono HB6.out.size)
                              have f1 := (hbW.cell (p := ⟨b, o + ii * 67 + 1, none⟩) hbw).trans hyn
                              have f2 : wr.drew.rangeAt b (o + ii * 67 + 2) (bc y.2) := fun j v hv => (hbW.cell (p := ⟨b, _, none⟩) hbw).trans (hyr j v hv)
                              have f3 := (HW.out _ hbi.drew).1
                              have s1 := slice_q w5.heap.size 0 j hjj
                              have s2 := slice_q b (o + ii * 67 + 2) j hjj
                              have hstr2 := str_beq E1.out hok j
                              have HO := Lib.hid hok; clear hok
                              have HNX := Lib.hid hnext; clear hnext
                              have HS2 := Lib.hid hstr2; clear hstr2
                              clear hx hyn hyr hds
                              by_cases h6 : y.1 % 64 = (n : Int)
                              · have h6' : (bits .and .i64 y.1 63 == (n : Int)) = true := by rw [i64_and63]; simp [h6]
                                have h6e : (y.1 % 64 == (n : Int)) = true := by simp [h6]
                                go_wp2_with fail
                                refine start_ (n := 26) (S := (fun w' => w'.cell? ⟨b, o + ii * 67 + 1, none⟩ = some (.int .i64 y.1) ∧ w'.rangeAt b (o + ii * 67 + 2) (bc y.2) ∧ w'.rangeAt w5.heap.size 0 (bc bb))) (ds := []) #[false, false, false, false, false, false, false, false, false, false, false, false, false, false, false, false, false, false, false, false, false, false, false, false, false, false] (by kernel_rfl) rfl rfl ⟨f1, f2, f3⟩ (fun hHeld => ?_)
                                refine pure_ (i := 0) (N := (some 157)) (v := ?_) (a' := ?_) #[true, false, false, false, false, false, false, false, false, false, false, false, false, false, false, false, false, false, false, false, false, false, false, false, false, false] rfl rfl (by kernel_rfl) (fun _ _ _ h => h) (Or.inl ⟨by rfl, ?_⟩) ?_ ?_
                                rotate_left
                                · (intro w'; go_simp; with_reducible rfl)
                                rotate_left
                                · (simp only [Act.put, List.setIfInBounds_toArray, List.set_cons_zero, List.set_cons_succ]; rfl)
                                refine pure_ (i := 1) (N := (some 158)) (v := ?_) (a' := ?_) #[true, true, false, false, false, false, false, false, false, false, false, false, false, false, false, false, false, false, false, false, false, false, false, false, false, false] rfl rfl (by kernel_rfl) (fun _ _ _ h => h) (Or.inl ⟨by rfl, ?_⟩) ?_ ?_
                                rotate_left
                                · (intro w'; go_simp; with_reducible rfl)
                                rotate_left
                                · (simp only [Act.put, List.setIfInBounds_toArray, List.set_cons_zero, List.set_cons_succ]; rfl)
                                refine pure_ (i := 2) (N := (some 159)) (v := ?_) (a' := ?_) #[true, true, true, false, false, false, false, false, false, false, false, false, false, false, false, false, false, false, false, false, false, false, false, false, false, false] rfl rfl (by kernel_rfl) (fun _ _ _ h => h) (Or.inl ⟨by rfl, ?_⟩) ?_ ?_
                                rotate_left
                                · (intro w'; go_simp; with_reducible rfl)
                                rotate_left
                                · (simp only [Act.put, List.setIfInBounds_toArray, List.set_cons_zero, List.set_cons_succ]; rfl)
                                refine pure_ (i := 3) (N := (some 160)) (v := ?_) (a' := ?_) #[true, true, true, true, false, false, false, false, false, false, false, false, false, false, false, false, false, false, false, false, false, false, false, false, false, false] rfl rfl (by kernel_rfl) (fun _ _ _ h => h) (Or.inl ⟨by rfl, ?_⟩) ?_ ?_
                                rotate_left
                                · (intro w'; go_simp; with_reducible rfl)
                                rotate_left
                                · (simp only [Act.put, List.setIfInBounds_toArray, List.set_cons_zero, List.set_cons_succ]; rfl)
                                refine take_ (i := 4) (N := (some 161)) (v := ?_) (a' := ?_) #[true, true, true, true, true, false, false, false, false, false, false, false, false, false, false, false, false, false, false, false, false, false, false, false, false, false] rfl rfl (by kernel_rfl) (fun _ _ _ h => h) (Or.inl ⟨by rfl, ?_⟩) hHeld ?_ ?_
                                rotate_left
                                · (rintro w' hSw; (try dsimp only at hSw); go_split_ands; go_simp; with_reducible rfl)
                                rotate_left
                                · (simp only [Act.put, List.setIfInBounds_toArray, List.set_cons_zero, List.set_cons_succ]; rfl)
                                refine pure_ (i := 5) (N := (some 162)) (v := ?_) (a' := ?_) #[true, true, true, true, true, true, false, false, false, false, false, false, false, false, false, false, false, false, false, false, false, false, false, false, false, false] rfl rfl (by kernel_rfl) (fun _ _ _ h => h) (Or.inl ⟨by rfl, ?_⟩) ?_ ?_
                                rotate_left
                                · (intro w'; go_simp; with_reducible rfl)
                                rotate_left
                                · (simp only [Act.put, List.setIfInBounds_toArray, List.set_cons_zero, List.set_cons_succ]; rfl)
                                refine pure_ (i := 6) (N := (some 163)) (v := ?_) (a' := ?_) #[true, true, true, true, true, true, true, false, false, false, false, false, false, false, false, false, false, false, false, false, false, false, false, false, false, false] rfl rfl (by kernel_rfl) (fun _ _ _ h => h) (Or.inl ⟨by rfl, ?_⟩) ?_ ?_
                                rotate_left
                                · (intro w'; go_simp; with_reducible rfl)
                                rotate_left
                                · (simp only [Act.put, List.setIfInBounds_toArray, List.set_cons_zero, List.set_cons_succ]; rfl)
                                refine pure_ (i := 7) (N := (some 164)) (v := ?_) (a' := ?_) #[true, true, true, true, true, true, true, true, false, false, false, false, false, false, false, false, false, false, false, false, false, false, false, false, false, false] rfl rfl (by kernel_rfl) (fun _ _ _ h => h) (Or.inl ⟨by rfl, ?_⟩) ?_ ?_
                                rotate_left
                                · (intro w'; go_simp; with_reducible rfl)
                                rotate_left
                                · (simp only [Act.put, List.setIfInBounds_toArray, List.set_cons_zero, List.set_cons_succ]; rfl)
                                refine pure_ (i := 8) (N := (some 165)) (v := ?_) (a' := ?_) #[true, true, true, true, true, true, true, true, true, false, false, false, false, false, false, false, false, false, false, false, false, false, false, false, false, false] rfl rfl (by kernel_rfl) (fun _ _ _ h => h) (Or.inl ⟨by rfl, ?_⟩) ?_ ?_
                                rotate_left
                                · (intro w'; go_simp; with_reducible rfl)
                                rotate_left
                                · (simp only [Act.put, List.setIfInBounds_toArray, List.set_cons_zero, List.set_cons_succ]; rfl)
                                refine pure_ (i := 9) (N := (some 166)) (v := ?_) (a' := ?_) #[true, true, true, true, true, true, true, true, true, true, false, false, false, false, false, false, false, false, false, false, false, false, false, false, false, false] rfl rfl (by kernel_rfl) (fun _ _ _ h => h) (Or.inl ⟨by rfl, ?_⟩) ?_ ?_
                                rotate_left
                                · (intro w'; go_simp; with_reducible rfl)
                                rotate_left
                                · (simp only [Act.put, List.setIfInBounds_toArray, List.set_cons_zero, List.set_cons_succ]; rfl)
                                refine pure_ (i := 10) (N := (some 167)) (v := ?_) (a' := ?_) #[true, true, true, true, true, true, true, true, true, true, true, false, false, false, false, false, false, false, false, false, false, false, false, false, false, false] rfl rfl (by kernel_rfl) (fun _ _ _ h => h) (Or.inl ⟨by rfl, ?_⟩) ?_ ?_
                                rotate_left
                                · (intro w'; go_simp; with_reducible rfl)
                                rotate_left
                                · (simp only [Act.put, List.setIfInBounds_toArray, List.set_cons_zero, List.set_cons_succ]; rfl)
                                refine pure_ (i := 11) (N := (some 168)) (v := ?_) (a' := ?_) #[true, true, true, true, true, true, true, true, true, true, true, true, false, false, false, false, false, false, false, false, false, false, false, false, false, false] rfl rfl (by kernel_rfl) (fun _ _ _ h => h) (Or.inl ⟨by rfl, ?_⟩) ?_ ?_
                                rotate_left
                                · (intro w'; go_simp; with_reducible rfl)
                                rotate_left
                                · (simp only [Act.put, List.setIfInBounds_toArray, List.set_cons_zero, List.set_cons_succ]; rfl)
                                refine pure_ (i := 12) (N := (some 169)) (v := _) (a' := ?_) #[true, true, true, true, true, true, true, true, true, true, true, true, true, false, false, false, false, false, false, false, false, false, false, false, false, false] rfl rfl (by kernel_rfl) (fun _ _ _ h => h) (yields_slice_w (by rfl) 23 (.tmp 14) (some (.tmp 166)) (some (.tmp 168)) (by rfl) (.pointer (some ⟨w5.heap.size, 0, none⟩)) (by rfl) (some (.int .i64 (16 * (j : Int)))) (some (.int .i64 (16 * (j : Int) + 16))) (by rfl) (by rfl) _ s1) ?_ ?_
                                rotate_left
                                · (simp only [Act.put, List.setIfInBounds_toArray, List.set_cons_zero, List.set_cons_succ]; rfl)
                                refine take_ (i := 13) (N := (some 170)) (v := _) (a' := ?_) #[true, true, true, true, true, true, true, true, true, true, true, true, true, true, false, false, false, false, false, false, false, false, false, false, false, false] rfl rfl (by kernel_rfl) (fun _ _ _ h => h) (yieldsIf_convert (by rfl) 42 9 (.tmp 169) (by rfl) _ (.string (strOfNums (qt bb j))) (by rfl) (fun w' h => convert_q h.2.2 E1.out.1 j hjj _)) hHeld ?_ ?_
                                rotate_left
                                · (simp only [Act.put, List.setIfInBounds_toArray, List.set_cons_zero, List.set_cons_succ]; rfl)
                                refine pure_ (i := 14) (N := (some 171)) (v := ?_) (a' := ?_) #[true, true, true, true, true, true, true, true, true, true, true, true, true, true, true, false, false, false, false, false, false, false, false, false, false, false] rfl rfl (by kernel_rfl) (fun _ _ _ h => h) (Or.inl ⟨by rfl, ?_⟩) ?_ ?_
                                rotate_left
                                · (intro w'; go_simp; with_reducible rfl)
                                rotate_left
                                · (simp only [Act.put, List.setIfInBounds_toArray, List.set_cons_zero, List.set_cons_succ]; rfl)
                                refine pure_ (i := 15) (N := (some 172)) (v := ?_) (a' := ?_) #[true, true, true, true, true, true, true, true, true, true, true, true, true, true, true, true, false, false, false, false, false, false, false, false, false, false] rfl rfl (by kernel_rfl) (fun _ _ _ h => h) (Or.inl ⟨by rfl, ?_⟩) ?_ ?_
                                rotate_left
                                · (intro w'; go_simp; with_reducible rfl)
                                rotate_left
                                · (simp only [Act.put, List.setIfInBounds_toArray, List.set_cons_zero, List.set_cons_succ]; rfl)
                                refine pure_ (i := 16) (N := (some 173)) (v := ?_) (a' := ?_) #[true, true, true, true, true, true, true, true, true, true, true, true, true, true, true, true, true, false, false, false, false, false, false, false, false, false] rfl rfl (by kernel_rfl) (fun _ _ _ h => h) (Or.inl ⟨by rfl, ?_⟩) ?_ ?_
                                rotate_left
                                · (intro w'; go_simp; with_reducible rfl)
                                rotate_left
                                · (simp only [Act.put, List.setIfInBounds_toArray, List.set_cons_zero, List.set_cons_succ]; rfl)
                                refine pure_ (i := 17) (N := (some 174)) (v := ?_) (a' := ?_) #[true, true, true, true, true, true, true, true, true, true, true, true, true, true, true, true, true, true, false, false, false, false, false, false, false, false] rfl rfl (by kernel_rfl) (fun _ _ _ h => h) (Or.inl ⟨by rfl, ?_⟩) ?_ ?_
                                rotate_left
                                · (intro w'; go_simp; with_reducible rfl)
                                rotate_left
                                · (simp only [Act.put, List.setIfInBounds_toArray, List.set_cons_zero, List.set_cons_succ]; rfl)
                                refine pure_ (i := 18) (N := (some 175)) (v := ?_) (a' := ?_) #[true, true, true, true, true, true, true, true, true, true, true, true, true, true, true, true, true, true, true, false, false, false, false, false, false, false] rfl rfl (by kernel_rfl) (fun _ _ _ h => h) (Or.inl ⟨by rfl, ?_⟩) ?_ ?_
                                rotate_left
                                · (intro w'; go_simp; with_reducible rfl)
                                rotate_left
                                · (simp only [Act.put, List.setIfInBounds_toArray, List.set_cons_zero, List.set_cons_succ]; rfl)
                                refine pure_ (i := 19) (N := (some 176)) (v := ?_) (a' := ?_) #[true, true, true, true, true, true, true, true, true, true, true, true, true, true, true, true, true, true, true, true, false, false, false, false, false, false] rfl rfl (by kernel_rfl) (fun _ _ _ h => h) (Or.inl ⟨by rfl, ?_⟩) ?_ ?_
                                rotate_left
                                · (intro w'; go_simp; with_reducible rfl)
                                rotate_left
                                · (simp only [Act.put, List.setIfInBounds_toArray, List.set_cons_zero, List.set_cons_succ]; rfl)
                                refine pure_ (i := 20) (N := (some 177)) (v := ?_) (a' := ?_) #[true, true, true, true, true, true, true, true, true, true, true, true, true, true, true, true, true, true, true, true, true, false, false, false, false, false] rfl rfl (by kernel_rfl) (fun _ _ _ h => h) (Or.inl ⟨by rfl, ?_⟩) ?_ ?_
                                rotate_left
                                · (intro w'; go_simp; with_reducible rfl)
                                rotate_left
                                · (simp only [Act.put, List.setIfInBounds_toArray, List.set_cons_zero, List.set_cons_succ]; rfl)
                                refine pure_ (i := 21) (N := (some 178)) (v := _) (a' := ?_) #[true, true, true, true, true, true, true, true, true, true, true, true, true, true, true, true, true, true, true, true, true, true, false, false, false, false] rfl rfl (by kernel_rfl) (fun _ _ _ h => h) (yields_slice_w (by rfl) 23 (.tmp 174) (some (.tmp 175)) (some (.tmp 177)) (by rfl) (.pointer (some ⟨b, o + ii * 67 + 2, none⟩)) (by rfl) (some (.int .i64 (16 * (j : Int)))) (some (.int .i64 (16 * (j : Int) + 16))) (by rfl) (by rfl) _ s2) ?_ ?_
                                rotate_left
                                · (simp only [Act.put, List.setIfInBounds_toArray, List.set_cons_zero, List.set_cons_succ]; rfl)
                                refine take_ (i := 22) (N := (some 179)) (v := _) (a' := ?_) #[true, true, true, true, true, true, true, true, true, true, true, true, true, true, true, true, true, true, true, true, true, true, true, false, false, false] rfl rfl (by kernel_rfl) (fun _ _ _ h => h) (yieldsIf_convert (by rfl) 42 9 (.tmp 178) (by rfl) _ (.string (strOfNums (qt y.2 j))) (by rfl) (fun w' h => convert_q h.2.1 HO.out.1 j hjj _)) hHeld ?_ ?_
                                rotate_left
                                · (simp only [Act.put, List.setIfInBounds_toArray, List.set_cons_zero, List.set_cons_succ]; rfl)
                                refine pure_ (i := 23) (N := (some 180)) (v := ?_) (a' := ?_) #[true, true, true, true, true, true, true, true, true, true, true, true, true, true, true, true, true, true, true, true, true, true, true, true, false, false] rfl rfl (by kernel_rfl) (fun _ _ _ h => h) (Or.inl ⟨by rfl, ?_⟩) ?_ ?_
                                rotate_left
                                · (intro w'; go_simp; with_reducible rfl)
                                rotate_left
                                · (simp only [Act.put, List.setIfInBounds_toArray, List.set_cons_zero, List.set_cons_succ]; rfl)
                                refine pure_ (i := 24) (N := (some 181)) (v := ?_) (a' := ?_) #[true, true, true, true, true, true, true, true, true, true, true, true, true, true, true, true, true, true, true, true, true, true, true, true, true, false] rfl rfl (by kernel_rfl) (fun _ _ _ h => h) (Or.inl ⟨by rfl, ?_⟩) ?_ ?_
                                rotate_left
                                · (intro w'; go_simp; with_reducible rfl)
                                rotate_left
                                · (simp only [Act.put, List.setIfInBounds_toArray, List.set_cons_zero, List.set_cons_succ]; rfl)
                                refine pure_ (i := 25) (N := (some 19)) (v := ?_) (a' := ?_) #[true, true, true, true, true, true, true, true, true, true, true, true, true, true, true, true, true, true, true, true, true, true, true, true, true, true] rfl rfl (by kernel_rfl) (fun _ _ _ h => h) (Or.inl ⟨by rfl, ?_⟩) ?_ ?_
                                rotate_left
                                · (intro w'; go_simp; with_reducible rfl)
                                rotate_left
                                · (simp only [Act.put, List.setIfInBounds_toArray, List.set_cons_zero, List.set_cons_succ]; rfl)
                                refine done_ (by kernel_rfl) ?_
                                go_wp2_with fail
                                exact ⟨⟨ii + 1, by omega, by omega, rfl, by rw [HNX.out, h6e, ← HS2.out, Bool.true_and], hbi.drew⟩, by simp only [intOf]; omega⟩
                              · have h6' : (bits .and .i64 y.1 63 == (n : Int)) = false := by rw [i64_and63]; simp [h6]
                                have h6e : (y.1 % 64 == (n : Int)) = false := by simp [h6]
                                go_wp2_with fail
                                refine start_ (n := 26) (S := (fun w' => w'.cell? ⟨b, o + ii * 67 + 1, none⟩ = some (.int .i64 y.1) ∧ w'.rangeAt b (o + ii * 67 + 2) (bc y.2) ∧ w'.rangeAt w5.heap.size 0 (bc bb))) (ds := []) #[false, false, false, false, false, false, false, false, false, false, false, false, false, false, false, false, false, false, false, false, false, false, false, false, false, false] (by kernel_rfl) rfl rfl ⟨f1, f2, f3⟩ (fun hHeld => ?_)
                                refine pure_ (i := 0) (N := (some 157)) (v := ?_) (a' := ?_) #[true, false, false, false, false, false, false, false, false, false, false, false, false, false, false, false, false, false, false, false, false, false, false, false, false, false] rfl rfl (by kernel_rfl) (fun _ _ _ h => h) (Or.inl ⟨by rfl, ?_⟩) ?_ ?_
                                rotate_left
                                · (intro w'; go_simp; with_reducible rfl)
                                rotate_left
                                · (simp only [Act.put, List.setIfInBounds_toArray, List.set_cons_zero, List.set_cons_succ]; rfl)
                                refine pure_ (i := 1) (N := (some 158)) (v := ?_) (a' := ?_) #[true, true, false, false, false, false, false, false, false, false, false, false, false, false, false, false, false, false, false, false, false, false, false, false, false, false] rfl rfl (by kernel_rfl) (fun _ _ _ h => h) (Or.inl ⟨by rfl, ?_⟩) ?_ ?_
                                rotate_left
                                · (intro w'; go_simp; with_reducible rfl)
                                rotate_left
                                · (simp only [Act.put, List.setIfInBounds_toArray, List.set_cons_zero, List.set_cons_succ]; rfl)
                                refine pure_ (i := 2) (N := (some 159)) (v := ?_) (a' := ?_) #[true, true, true, false, false, false, false, false, false, false, false, false, false, false, false, false, false, false, false, false, false, false, false, false, false, false] rfl rfl (by kernel_rfl) (fun _ _ _ h => h) (Or.inl ⟨by rfl, ?_⟩) ?_ ?_
                                rotate_left
                                · (intro w'; go_simp; with_reducible rfl)
                                rotate_left
                                · (simp only [Act.put, List.setIfInBounds_toArray, List.set_cons_zero, List.set_cons_succ]; rfl)
                                refine pure_ (i := 3) (N := (some 160)) (v := ?_) (a' := ?_) #[true, true, true, true, false, false, false, false, false, false, false, false, false, false, false, false, false, false, false, false, false, false, false, false, false, false] rfl rfl (by kernel_rfl) (fun _ _ _ h => h) (Or.inl ⟨by rfl, ?_⟩) ?_ ?_
                                rotate_left
                                · (intro w'; go_simp; with_reducible rfl)
                                rotate_left
                                · (simp only [Act.put, List.setIfInBounds_toArray, List.set_cons_zero, List.set_cons_succ]; rfl)
                                refine take_ (i := 4) (N := (some 161)) (v := ?_) (a' := ?_) #[true, true, true, true, true, false, false, false, false, false, false, false, false, false, false, false, false, false, false, false, false, false, false, false, false, false] rfl rfl (by kernel_rfl) (fun _ _ _ h => h) (Or.inl ⟨by rfl, ?_⟩) hHeld ?_ ?_
                                rotate_left
                                · (rintro w' hSw; (try dsimp only at hSw); go_split_ands; go_simp; with_reducible rfl)
                                rotate_left
                                · (simp only [Act.put, List.setIfInBounds_toArray, List.set_cons_zero, List.set_cons_succ]; rfl)
                                refine pure_ (i := 5) (N := (some 162)) (v := ?_) (a' := ?_) #[true, true, true, true, true, true, false, false, false, false, false, false, false, false, false, false, false, false, false, false, false, false, false, false, false, false] rfl rfl (by kernel_rfl) (fun _ _ _ h => h) (Or.inl ⟨by rfl, ?_⟩) ?_ ?_
                                rotate_left
                                · (intro w'; go_simp; with_reducible rfl)
                                rotate_left
                                · (simp only [Act.put, List.setIfInBounds_toArray, List.set_cons_zero, List.set_cons_succ]; rfl)
                                refine pure_ (i := 6) (N := (some 163)) (v := ?_) (a' := ?_) #[true, true, true, true, true, true, true, false, false, false, false, false, false, false, false, false, false, false, false, false, false, false, false, false, false, false] rfl rfl (by kernel_rfl) (fun _ _ _ h => h) (Or.inl ⟨by rfl, ?_⟩) ?_ ?_
                                rotate_left
                                · (intro w'; go_simp; with_reducible rfl)
                                rotate_left
                                · (simp only [Act.put, List.setIfInBounds_toArray, List.set_cons_zero, List.set_cons_succ]; rfl)
                                refine pure_ (i := 7) (N := (some 164)) (v := ?_) (a' := ?_) #[true, true, true, true, true, true, true, true, false, false, false, false, false, false, false, false, false, false, false, false, false, false, false, false, false, false] rfl rfl (by kernel_rfl) (fun _ _ _ h => h) (Or.inl ⟨by rfl, ?_⟩) ?_ ?_
                                rotate_left
                                · (intro w'; go_simp; with_reducible rfl)
                                rotate_left
                                · (simp only [Act.put, List.setIfInBounds_toArray, List.set_cons_zero, List.set_cons_succ]; rfl)
                                refine pure_ (i := 8) (N := (some 165)) (v := ?_) (a' := ?_) #[true, true, true, true, true, true, true, true, true, false, false, false, false, false, false, false, false, false, false, false, false, false, false, false, false, false] rfl rfl (by kernel_rfl) (fun _ _ _ h => h) (Or.inl ⟨by rfl, ?_⟩) ?_ ?_
                                rotate_left
                                · (intro w'; go_simp; with_reducible rfl)
                                rotate_left
                                · (simp only [Act.put, List.setIfInBounds_toArray, List.set_cons_zero, List.set_cons_succ]; rfl)
                                refine pure_ (i := 9) (N := (some 166)) (v := undef) (a' := ?_) #[true, true, true, true, true, true, true, true, true, true, false, false, false, false, false, false, false, false, false, false, false, false, false, false, false, false] rfl rfl (by kernel_rfl) (fun _ _ _ h => h) (Or.inr ⟨by rfl, rfl⟩) ?_ ?_
                                rotate_left
                                · (simp only [Act.put, List.setIfInBounds_toArray, List.set_cons_zero, List.set_cons_succ]; rfl)
                                refine pure_ (i := 10) (N := (some 167)) (v := undef) (a' := ?_) #[true, true, true, true, true, true, true, true, true, true, true, false, false, false, false, false, false, false, false, false, false, false, false, false, false, false] rfl rfl (by kernel_rfl) (fun _ _ _ h => h) (Or.inr ⟨by rfl, rfl⟩) ?_ ?_
                                rotate_left
                                · (simp only [Act.put, List.setIfInBounds_toArray, List.set_cons_zero, List.set_cons_succ]; rfl)
                                refine pure_ (i := 11) (N := (some 168)) (v := undef) (a' := ?_) #[true, true, true, true, true, true, true, true, true, true, true, true, false, false, false, false, false, false, false, false, false, false, false, false, false, false] rfl rfl (by kernel_rfl) (fun _ _ _ h => h) (Or.inr ⟨by rfl, rfl⟩) ?_ ?_
                                rotate_left
                                · (simp only [Act.put, List.setIfInBounds_toArray, List.set_cons_zero, List.set_cons_succ]; rfl)
                                refine pure_ (i := 12) (N := (some 169)) (v := undef) (a' := ?_) #[true, true, true, true, true, true, true, true, true, true, true, true, true, false, false, false, false, false, false, false, false, false, false, false, false, false] rfl rfl (by kernel_rfl) (fun _ _ _ h => h) (Or.inr ⟨by rfl, rfl⟩) ?_ ?_
                                rotate_left
                                · (simp only [Act.put, List.setIfInBounds_toArray, List.set_cons_zero, List.set_cons_succ]; rfl)
                                refine pure_ (i := 13) (N := (some 170)) (v := undef) (a' := ?_) #[true, true, true, true, true, true, true, true, true, true, true, true, true, true, false, false, false, false, false, false, false, false, false, false, false, false] rfl rfl (by kernel_rfl) (fun _ _ _ h => h) (Or.inr ⟨by rfl, rfl⟩) ?_ ?_
                                rotate_left
                                · (simp only [Act.put, List.setIfInBounds_toArray, List.set_cons_zero, List.set_cons_succ]; rfl)
                                refine pure_ (i := 14) (N := (some 171)) (v := undef) (a' := ?_) #[true, true, true, true, true, true, true, true, true, true, true, true, true, true, true, false, false, false, false, false, false, false, false, false, false, false] rfl rfl (by kernel_rfl) (fun _ _ _ h => h) (Or.inr ⟨by rfl, rfl⟩) ?_ ?_
                                rotate_left
                                · (simp only [Act.put, List.setIfInBounds_toArray, List.set_cons_zero, List.set_cons_succ]; rfl)
                                refine pure_ (i := 15) (N := (some 172)) (v := undef) (a' := ?_) #[true, true, true, true, true, true, true, true, true, true, true, true, true, true, true, true, false, false, false, false, false, false, false, false, false, false] rfl rfl (by kernel_rfl) (fun _ _ _ h => h) (Or.inr ⟨by rfl, rfl⟩) ?_ ?_
                                rotate_left
                                · (simp only [Act.put, List.setIfInBounds_toArray, List.set_cons_zero, List.set_cons_succ]; rfl)
                                refine pure_ (i := 16) (N := (some 173)) (v := undef) (a' := ?_) #[true, true, true, true, true, true, true, true, true, true, true, true, true, true, true, true, true, false, false, false, false, false, false, false, false, false] rfl rfl (by kernel_rfl) (fun _ _ _ h => h) (Or.inr ⟨by rfl, rfl⟩) ?_ ?_
                                rotate_left
                                · (simp only [Act.put, List.setIfInBounds_toArray, List.set_cons_zero, List.set_cons_succ]; rfl)
                                refine pure_ (i := 17) (N := (some 174)) (v := undef) (a' := ?_) #[true, true, true, true, true, true, true, true, true, true, true, true, true, true, true, true, true, true, false, false, false, false, false, false, false, false] rfl rfl (by kernel_rfl) (fun _ _ _ h => h) (Or.inr ⟨by rfl, rfl⟩) ?_ ?_
                                rotate_left
                                · (simp only [Act.put, List.setIfInBounds_toArray, List.set_cons_zero, List.set_cons_succ]; rfl)
                                refine pure_ (i := 18) (N := (some 175)) (v := undef) (a' := ?_) #[true, true, true, true, true, true, true, true, true, true, true, true, true, true, true, true, true, true, true, false, false, false, false, false, false, false] rfl rfl (by kernel_rfl) (fun _ _ _ h => h) (Or.inr ⟨by rfl, rfl⟩) ?_ ?_
                                rotate_left
                                · (simp only [Act.put, List.setIfInBounds_toArray, List.set_cons_zero, List.set_cons_succ]; rfl)
                                refine pure_ (i := 19) (N := (some 176)) (v := undef) (a' := ?_) #[true, true, true, true, true, true, true, true, true, true, true, true, true, true, true, true, true, true, true, true, false, false, false, false, false, false] rfl rfl (by kernel_rfl) (fun _ _ _ h => h) (Or.inr ⟨by rfl, rfl⟩) ?_ ?_
                                rotate_left
                                · (simp only [Act.put, List.setIfInBounds_toArray, List.set_cons_zero, List.set_cons_succ]; rfl)
                                refine pure_ (i := 20) (N := (some 177)) (v := undef) (a' := ?_) #[true, true, true, true, true, true, true, true, true, true, true, true, true, true, true, true, true, true, true, true, true, false, false, false, false, false] rfl rfl (by kernel_rfl) (fun _ _ _ h => h) (Or.inr ⟨by rfl, rfl⟩) ?_ ?_
                                rotate_left
                                · (simp only [Act.put, List.setIfInBounds_toArray, List.set_cons_zero, List.set_cons_succ]; rfl)
                                refine pure_ (i := 21) (N := (some 178)) (v := undef) (a' := ?_) #[true, true, true, true, true, true, true, true, true, true, true, true, true, true, true, true, true, true, true, true, true, true, false, false, false, false] rfl rfl (by kernel_rfl) (fun _ _ _ h => h) (Or.inr ⟨by rfl, rfl⟩) ?_ ?_
                                rotate_left
                                · (simp only [Act.put, List.setIfInBounds_toArray, List.set_cons_zero, List.set_cons_succ]; rfl)
                                refine pure_ (i := 22) (N := (some 179)) (v := undef) (a' := ?_) #[true, true, true, true, true, true, true, true, true, true, true, true, true, true, true, true, true, true, true, true, true, true, true, false, false, false] rfl rfl (by kernel_rfl) (fun _ _ _ h => h) (Or.inr ⟨by rfl, rfl⟩) ?_ ?_
                                rotate_left
                                · (simp only [Act.put, List.setIfInBounds_toArray, List.set_cons_zero, List.set_cons_succ]; rfl)
                                refine pure_ (i := 23) (N := (some 180)) (v := undef) (a' := ?_) #[true, true, true, true, true, true, true, true, true, true, true, true, true, true, true, true, true, true, true, true, true, true, true, true, false, false] rfl rfl (by kernel_rfl) (fun _ _ _ h => h) (Or.inr ⟨by rfl, rfl⟩) ?_ ?_
                                rotate_left
                                · (simp only [Act.put, List.setIfInBounds_toArray, List.set_cons_zero, List.set_cons_succ]; rfl)
                                refine pure_ (i := 24) (N := (some 181)) (v := ?_) (a' := ?_) #[true, true, true, true, true, true, true, true, true, true, true, true, true, true, true, true, true, true, true, true, true, true, true, true, true, false] rfl rfl (by kernel_rfl) (fun _ _ _ h => h) (Or.inl ⟨by rfl, ?_⟩) ?_ ?_
                                rotate_left
                                · (intro w'; go_simp; with_reducible rfl)
                                rotate_left
                                · (simp only [Act.put, List.setIfInBounds_toArray, List.set_cons_zero, List.set_cons_succ]; rfl)
                                refine pure_ (i := 25) (N := (some 19)) (v := ?_) (a' := ?_) #[true, true, true, true, true, true, true, true, true, true, true, true, true, true, true, true, true, true, true, true, true, true, true, true, true, true] rfl rfl (by kernel_rfl) (fun _ _ _ h => h) (Or.inl ⟨by rfl, ?_⟩) ?_ ?_
                                rotate_left
                                · (intro w'; go_simp; with_reducible rfl)
                                rotate_left
                                · (simp only [Act.put, List.setIfInBounds_toArray, List.set_cons_zero, List.set_cons_succ]; rfl)
                                refine done_ (by kernel_rfl) ?_
                                go_wp2_with fail
                                exact ⟨⟨ii + 1, by omega, by omega, rfl, by rw [HNX.out, h6e, Bool.false_and], hbi.drew⟩, by simp only [intOf]; omega⟩
                            · have hex : ¬ ((ii : Int) < l2.length) ∨ ((ii : Int) < l2.length ∧ ¬ ((ii : Int) < 40)) ∨ ((ii : Int) < l2.length ∧ (ii : Int) < 40 ∧ isAt Ln l2 n bb j ii = true) := by
                                cases hq : isAt Ln l2 n bb j ii <;> simp [hq] at hcc ⊢ <;> omega
                              have hall : isAt Ln l2 n bb j ii = true := by
                                rcases hex with h | ⟨_, h⟩ | ⟨_, _, h⟩
                                · exact HJ.out ii (by omega)
                                · exact HJ.out ii (by omega)
                                · exact h
                              rw [hall]
                              rcases hex with hx1 | ⟨hx1, hx2⟩ | ⟨hx1, hx2, _⟩
                              · go_wp2_with fail
                                exact ⟨⟨j + 1, by omega, by (congr 1) <;> omega, hbi⟩, by simp only [intOf]; omega⟩
                              · go_wp2_with fail
                                exact ⟨⟨j + 1, by omega, by (congr 1) <;> omega, hbi⟩, by simp only [intOf]; omega⟩
                              · go_wp2_with fail
                                exact ⟨⟨j + 1, by omega, by (congr 1) <;> omega, hbi⟩, by simp only [intOf]; omega⟩
                        · go_wp2_with fail
                          exact ⟨⟨n + 1, by omega, rfl, HB6.out.trans (hbq.mono HB6.out.size), HD6.out.below hbq, HR6.out.below hbq⟩, by simp only [intOf]; omega⟩
                    · go_wp2_with (first
                        | (refine (lives_any _).mono ?_; rintro e w' ⟨rfl, hbw⟩)
                        | fail)
                      go_ret
                      exact ⟨rfl, HB.out.trans (hbw.mono HB.out.size)⟩
                clear aK2
                rcases hxx with hx1' | ⟨hx1', hx2'⟩
                · go_wp2_with fail
                  exact rest_z _ _ _ _ _ _ _ _ _ _ _ _ _ _ _ _ _ _ _ _ _ _ _ _
                · go_wp2_with fail
                  exact rest_z _ _ _ _ _ _ _ _ _ _ _ _ _ _ _ _ _ _ _ _ _ _ _ _
      clear aK1
      rcases hx with hx1 | ⟨hx1, hx2⟩
      · go_wp2_with fail
        exact rest_y _ _ _ _ _ _ _ _ _ _ _ _ _ _ _ _ _ _ _ _ _ _ _ _
      · go_wp2_with fail
        exact rest_y _ _ _ _ _ _ _ _ _ _ _ _ _ _ _ _ _ _ _ _ _ _ _ _
end Go.Proofs.Ytlngflonolhdhaa

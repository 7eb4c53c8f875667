/- fresh: slices.BinarySearchFunc, and find, walked. -/
import Derived.Test.YtpnhjckjmpkbfaaFr2
set_option linter.unusedVariables false
set_option linter.unusedSimpArgs false
namespace Go.Proofs.Ytpnhjckjmpkbfaa
open Go.RowKit Go.Proofs.YtpnhjckjmpkbfaaW.PrintLast

theorem cell_of_row (w : World) (g o : Nat) (cs : Array Value) (t : TypeId) (f : Nat × Nat) (h : w.heap[g]? = some (.cells cs t f)) : w.cell? ⟨g, o, none⟩ = cs[o]? := by
  simp [World.cell?, h]
theorem fc_length (f : F) : (fc f).length = 7 := rfl
/-- A row that is read. -/
def Reads (w : World) (A : Option Addr) (l : List F) : Prop := 0 < l.length → ∃ b, A = some ⟨b, 0, none⟩ ∧ b < w.heap.size ∧ ∀ i f, l[i]? = some f → w.rangeAt b (i * 7) (fc f)
theorem Reads.below {w w' : World} {A : Option Addr} {l : List F} (h : Reads w A l) (hb : Below w.heap.size w w') : Reads w' A l := fun h0 => by
  obtain ⟨b, e, hlt, hr⟩ := h h0
  exact ⟨b, e, Nat.lt_of_lt_of_le hlt hb.size, fun i f hf j v hv => (hb.cell hlt).trans (hr i f hf j v hv)⟩
theorem size_fresh (f : F) : (Try.prog.info? 42).map (·.size) = some (fc f).length := by rw [fc_length]; kernel_rfl

set_option maxRecDepth 100000 in
set_option maxHeartbeats 2000000 in
theorem bs_any (w : World) (A : Option Addr) (cap : Nat) (l : List F) (h : Int × Int) (hr : Reads w A l) (hs : Sorted l) (hn : l.length ≤ 1000) :
    Calls Try.prog 21 #[.slice A l.length cap, hv h, .func (.func 22) #[] #[]] w fun r w' => r = .returned (.tuple #[.int .i64 (pos l h), .bool (got l h).isSome]) ∧ Below w.heap.size w w' := by
  have HR := Lib.hid hr; clear hr
  have HS := Lib.hid hs; clear hs
  obtain ⟨x, y⟩ := h
  have hbox := heap_alloc_new w (.cells #[.int .u32 x, .int .u32 y] 30)
  have hbl : Below w.heap.size w (w.alloc (.cells #[.int .u32 x, .int .u32 y] 30)) := (Below.refl _ _).alloc (Nat.le_refl _) _
  unfold hv
  go_enter Try.func21, Try.ntmps21
  go_wp2_with fail
  go_loopw [9, 10] (fun vi vj wr => ∃ i j : Nat, i ≤ j ∧ j ≤ l.length ∧ vi = .int .i64 i ∧ vj = .int .i64 j ∧ (∀ k f, k < i → l[k]? = some f → ord f.h (x, y) < 0) ∧ (∀ k f, j ≤ k → l[k]? = some f → 0 ≤ ord f.h (x, y)) ∧ Below w.heap.size w wr ∧ wr.heap[w.heap.size]? = some (.cells #[.int .u32 x, .int .u32 y] 30 (0, 0))) (fun vi vj _ => (intOf vj - intOf vi).toNat)
  case atStart => exact ⟨0, l.length, Nat.zero_le _, Nat.le_refl _, rfl, rfl, fun k f hk => absurd hk (by omega), fun k f hk hf => (by rw [List.getElem?_eq_none hk] at hf; cases hf), hbl, hbox⟩
  case round =>
    obtain ⟨i, j, hij, hjn, rfl, rfl, h1, h2, hb, hbx⟩ := hrel
    clear hbl hbox
    have H1 := Lib.hid h1; clear h1
    have H2 := Lib.hid h2; clear h2
    have HX := Lib.hid hbx; clear hbx
    by_cases hlt : (i : Int) < j
    · obtain ⟨b, rfl, hbw, hrg⟩ := HR.out (by omega)
      obtain ⟨m, hm, hm1, hm2⟩ : ∃ m : Nat, ((i : Int) + j) / 2 = (m : Int) ∧ i ≤ m ∧ m < j := ⟨(i + j) / 2, by omega, by omega, by omega⟩
      have hx : l[m]? = some l[m] := List.getElem?_eq_getElem (by omega)
      generalize l[m] = f at hx
      have hf0 := hrg m f hx
      have hbd := hb.drew
      have f0 : wr.drew.rangeAt b (m * 7) (fc f) := fun j v hv => (hbd.cell (p := ⟨b, _, none⟩) hbw).trans (hf0 j v hv)
      have f1 : wr.drew.rangeAt w.heap.size 0 [.int .u32 x, .int .u32 y] := fun j v hv => by
        have : wr.drew.heap[w.heap.size]? = some (.cells #[.int .u32 x, .int .u32 y] 30 (0, 0)) := HX.out
        rw [cell_of_row _ _ _ _ _ _ this, Nat.zero_add]; simpa using hv
      have hk0 : (0 : Int) ≤ (m : Int) := by omega
      have hk1 : (m : Int) < (l.length : Int) := by omega
      have hxl : w.heap.size < wr.drew.heap.size := lt_of_heap HX.out
      clear hf0 hrg
      go_wp2_with fail
      refine start_ (n := 8) (S := (fun w' => w'.rangeAt b (m * 7) (fc f) ∧ w'.rangeAt w.heap.size 0 [.int .u32 x, .int .u32 y])) (ds := []) #[false, false, false, false, false, false, false, false] (by kernel_rfl) rfl rfl ⟨f0, f1⟩ (fun hHeld => ?_)
      refine pure_ (i := 0) (N := (some 24)) (v := ?_) (a' := ?_) #[true, false, false, false, false, false, false, false] rfl rfl (by kernel_rfl) (fun _ _ _ h => h) (Or.inl ⟨by rfl, ?_⟩) ?_ ?_
      rotate_left
      · (intro w'; go_simp; with_reducible rfl)
      rotate_left
      · (simp only [Act.put, List.setIfInBounds_toArray, List.set_cons_zero, List.set_cons_succ]; rfl)
      refine pure_ (i := 1) (N := (some 25)) (v := ?_) (a' := ?_) #[true, true, false, false, false, false, false, false] rfl rfl (by kernel_rfl) (fun _ _ _ h => h) (Or.inl ⟨by rfl, ?_⟩) ?_ ?_
      rotate_left
      · (intro w'; go_simp; with_reducible rfl)
      rotate_left
      · (simp only [Act.put, List.setIfInBounds_toArray, List.set_cons_zero, List.set_cons_succ]; rfl)
      refine pure_ (i := 2) (N := (some 26)) (v := ?_) (a' := ?_) #[true, true, true, false, false, false, false, false] rfl rfl (by kernel_rfl) (fun _ _ _ h => h) (Or.inl ⟨by rfl, ?_⟩) ?_ ?_
      rotate_left
      · (intro w'; go_simp; with_reducible rfl)
      rotate_left
      · (simp only [Act.put, List.setIfInBounds_toArray, List.set_cons_zero, List.set_cons_succ]; rfl)
      refine pure_ (i := 3) (N := (some 27)) (v := ?_) (a' := ?_) #[true, true, true, true, false, false, false, false] rfl rfl (by kernel_rfl) (fun _ _ _ h => h) (Or.inl ⟨by rfl, ?_⟩) ?_ ?_
      rotate_left
      · (intro w'; go_simp; with_reducible rfl)
      rotate_left
      · (simp only [Act.put, List.setIfInBounds_toArray, List.set_cons_zero, List.set_cons_succ]; rfl)
      refine take_ (i := 4) (N := (some 28)) (v := _) (a' := ?_) #[true, true, true, true, true, false, false, false] rfl rfl (by kernel_rfl) (fun _ _ _ h => h) (yieldsIf_load_mid (by rfl) 42 (.tmp 27) rfl b (m * 7) rfl (fc f) _ (fun w' h => h.1) Try.underlying42 rfl (size_fresh f)) hHeld ?_ ?_
      rotate_left
      · (simp only [Act.put, List.setIfInBounds_toArray, List.set_cons_zero, List.set_cons_succ]; rfl)
      refine take_ (i := 5) (N := (some 29)) (v := _) (a' := ?_) #[true, true, true, true, true, true, false, false] rfl rfl (by kernel_rfl) (fun _ _ _ h => h) (yieldsIf_load_mid (by rfl) 30 (.tmp 4) rfl w.heap.size 0 rfl [.int .u32 x, .int .u32 y] _ (fun w' h => h.2) Try.underlying30 rfl (by kernel_rfl)) hHeld ?_ ?_
      rotate_left
      · (simp only [Act.put, List.setIfInBounds_toArray, List.set_cons_zero, List.set_cons_succ]; rfl)
      refine one_ (i := 6) (N := (some 30)) #[true, true, true, true, true, true, true, false] rfl rfl (by kernel_rfl) (by decide) (fun K hK => ?_)
      generalize hW : wr.drew = W at hbd hHeld hxl ⊢
      have hbx : W.heap[w.heap.size]? = some (.cells #[.int .u32 x, .int .u32 y] 30 (0, 0)) := by rw [← hW]; exact HX.out
      refine goesV_ Try.func22 (by kernel_rfl) rfl #[.agg (fc f).toArray, hv (x, y)] (by rfl) rfl rfl (by rfl) (by simp only [List.map_toArray, List.map_cons, List.map_nil]; rfl) ?_
      refine (find1_any _ f (x, y)).mono ?_
      rintro e w' ⟨rfl, hb3⟩
      refine ⟨_, rfl, hK.out _ _ ⟨fun j v hv => (hb3.cell (p := ⟨b, _, none⟩) (Nat.lt_of_lt_of_le hbw hbd.size)).trans (hHeld.1 j v hv), fun j v hv => (hb3.cell (p := ⟨w.heap.size, _, none⟩) hxl).trans (hHeld.2 j v hv)⟩ (fun hHeld => ?_)⟩
      clear hK K
      have hb4 := hbd.trans (hb3.mono hbd.size)
      have hbx4 := (hb3.block _ hxl).trans hbx
      clear hbx hb3 hHeld
      refine norm_ (a' := ?_) ?_ ?_
      rotate_left
      · (show Act.put _ (some 30) _ = _; simp only [Act.put, List.setIfInBounds_toArray, List.set_cons_zero, List.set_cons_succ]; rfl)
      refine pure_ (i := 7) (N := (some 31)) (v := ?_) (a' := ?_) #[true, true, true, true, true, true, true, true] rfl rfl (by kernel_rfl) (fun _ _ _ h => h) (Or.inl ⟨by rfl, ?_⟩) ?_ ?_
      rotate_left
      · (intro w'; go_simp; with_reducible rfl)
      rotate_left
      · (simp only [Act.put, List.setIfInBounds_toArray, List.set_cons_zero, List.set_cons_succ]; rfl)
      refine done_ (by kernel_rfl) ?_
      by_cases hneg : ord f.h (x, y) < 0
      · go_wp2_with fail
        refine ⟨⟨m + 1, j, by omega, by omega, rfl, rfl, fun k g hk hg => ?_, H2.out, hb4, hbx4⟩, by simp only [intOf]; omega⟩
        rcases Nat.lt_or_eq_of_le (Nat.le_of_lt_succ hk) with hlt2 | rfl
        · exact ord_trans (HS.out.lt hlt2 hg hx) hneg
        · rw [hx] at hg; injection hg with hg; subst hg; exact hneg
      · go_wp2_with fail
        refine ⟨⟨i, m, by omega, by omega, rfl, rfl, H1.out, fun k g hk hg => ?_, hb4, hbx4⟩, by simp only [intOf]; omega⟩
        rcases Nat.lt_or_eq_of_le hk with hlt2 | rfl
        · refine Int.not_lt.1 fun hc => hneg (ord_trans (HS.out.lt hlt2 hx hg) hc)
        · rw [hx] at hg; injection hg with hg; subst hg; omega
    · obtain rfl : i = j := by omega
      have hpos := pos_eq HS.out hjn H1.out (fun k g hk hg => Int.not_lt.2 (H2.out k g hk hg))
      have hbd := hb.drew
      by_cases hil : (i : Int) < (l.length : Int)
      · obtain ⟨b, rfl, hbw, hrg⟩ := HR.out (by omega)
        have hx : l[i]? = some l[i] := List.getElem?_eq_getElem (by omega)
        have hgot : (got l (x, y)).isSome = decide ((l[i]).h = (x, y)) := by
          unfold got; rw [hpos, hx]; dsimp only; split <;> simp_all
        generalize l[i] = f at hx hgot
        have hf0 := hrg i f hx
        have f0 : wr.drew.rangeAt b (i * 7) (fc f) := fun j v hv => (hbd.cell (p := ⟨b, _, none⟩) hbw).trans (hf0 j v hv)
        have f1 : wr.drew.rangeAt w.heap.size 0 [.int .u32 x, .int .u32 y] := fun j v hv => by
          have : wr.drew.heap[w.heap.size]? = some (.cells #[.int .u32 x, .int .u32 y] 30 (0, 0)) := HX.out
          rw [cell_of_row _ _ _ _ _ _ this, Nat.zero_add]; simpa using hv
        have hk0 : (0 : Int) ≤ (i : Int) := by omega
        have hxl : w.heap.size < wr.drew.heap.size := lt_of_heap HX.out
        clear hf0 hrg
        go_wp2_with fail
        refine start_ (n := 16) (S := (fun w' => w'.rangeAt b (i * 7) (fc f) ∧ w'.rangeAt w.heap.size 0 [.int .u32 x, .int .u32 y])) (ds := []) #[false, false, false, false, false, false, false, false, false, false, false, false, false, false, false, false] (by kernel_rfl) rfl rfl ⟨f0, f1⟩ (fun hHeld => ?_)
        refine pure_ (i := 0) (N := (some 35)) (v := ?_) (a' := ?_) #[true, false, false, false, false, false, false, false, false, false, false, false, false, false, false, false] rfl rfl (by kernel_rfl) (fun _ _ _ h => h) (Or.inl ⟨by rfl, ?_⟩) ?_ ?_
        rotate_left
        · (intro w'; go_simp; with_reducible rfl)
        rotate_left
        · (simp only [Act.put, List.setIfInBounds_toArray, List.set_cons_zero, List.set_cons_succ]; rfl)
        refine pure_ (i := 1) (N := (some 36)) (v := ?_) (a' := ?_) #[true, true, false, false, false, false, false, false, false, false, false, false, false, false, false, false] rfl rfl (by kernel_rfl) (fun _ _ _ h => h) (Or.inl ⟨by rfl, ?_⟩) ?_ ?_
        rotate_left
        · (intro w'; go_simp; with_reducible rfl)
        rotate_left
        · (simp only [Act.put, List.setIfInBounds_toArray, List.set_cons_zero, List.set_cons_succ]; rfl)
        refine pure_ (i := 2) (N := (some 37)) (v := ?_) (a' := ?_) #[true, true, true, false, false, false, false, false, false, false, false, false, false, false, false, false] rfl rfl (by kernel_rfl) (fun _ _ _ h => h) (Or.inl ⟨by rfl, ?_⟩) ?_ ?_
        rotate_left
        · (intro w'; go_simp; with_reducible rfl)
        rotate_left
        · (simp only [Act.put, List.setIfInBounds_toArray, List.set_cons_zero, List.set_cons_succ]; rfl)
        refine pure_ (i := 3) (N := (some 38)) (v := ?_) (a' := ?_) #[true, true, true, true, false, false, false, false, false, false, false, false, false, false, false, false] rfl rfl (by kernel_rfl) (fun _ _ _ h => h) (Or.inl ⟨by rfl, ?_⟩) ?_ ?_
        rotate_left
        · (intro w'; go_simp; with_reducible rfl)
        rotate_left
        · (simp only [Act.put, List.setIfInBounds_toArray, List.set_cons_zero, List.set_cons_succ]; rfl)
        refine pure_ (i := 4) (N := (some 39)) (v := ?_) (a' := ?_) #[true, true, true, true, true, false, false, false, false, false, false, false, false, false, false, false] rfl rfl (by kernel_rfl) (fun _ _ _ h => h) (Or.inl ⟨by rfl, ?_⟩) ?_ ?_
        rotate_left
        · (intro w'; go_simp; with_reducible rfl)
        rotate_left
        · (simp only [Act.put, List.setIfInBounds_toArray, List.set_cons_zero, List.set_cons_succ]; rfl)
        refine pure_ (i := 5) (N := (some 40)) (v := ?_) (a' := ?_) #[true, true, true, true, true, true, false, false, false, false, false, false, false, false, false, false] rfl rfl (by kernel_rfl) (fun _ _ _ h => h) (Or.inl ⟨by rfl, ?_⟩) ?_ ?_
        rotate_left
        · (intro w'; go_simp; with_reducible rfl)
        rotate_left
        · (simp only [Act.put, List.setIfInBounds_toArray, List.set_cons_zero, List.set_cons_succ]; rfl)
        refine pure_ (i := 6) (N := (some 41)) (v := ?_) (a' := ?_) #[true, true, true, true, true, true, true, false, false, false, false, false, false, false, false, false] rfl rfl (by kernel_rfl) (fun _ _ _ h => h) (Or.inl ⟨by rfl, ?_⟩) ?_ ?_
        rotate_left
        · (intro w'; go_simp; with_reducible rfl)
        rotate_left
        · (simp only [Act.put, List.setIfInBounds_toArray, List.set_cons_zero, List.set_cons_succ]; rfl)
        refine pure_ (i := 7) (N := (some 42)) (v := ?_) (a' := ?_) #[true, true, true, true, true, true, true, true, false, false, false, false, false, false, false, false] rfl rfl (by kernel_rfl) (fun _ _ _ h => h) (Or.inl ⟨by rfl, ?_⟩) ?_ ?_
        rotate_left
        · (intro w'; go_simp; with_reducible rfl)
        rotate_left
        · (simp only [Act.put, List.setIfInBounds_toArray, List.set_cons_zero, List.set_cons_succ]; rfl)
        refine pure_ (i := 8) (N := (some 43)) (v := ?_) (a' := ?_) #[true, true, true, true, true, true, true, true, true, false, false, false, false, false, false, false] rfl rfl (by kernel_rfl) (fun _ _ _ h => h) (Or.inl ⟨by rfl, ?_⟩) ?_ ?_
        rotate_left
        · (intro w'; go_simp; with_reducible rfl)
        rotate_left
        · (simp only [Act.put, List.setIfInBounds_toArray, List.set_cons_zero, List.set_cons_succ]; rfl)
        refine take_ (i := 9) (N := (some 44)) (v := _) (a' := ?_) #[true, true, true, true, true, true, true, true, true, true, false, false, false, false, false, false] rfl rfl (by kernel_rfl) (fun _ _ _ h => h) (yieldsIf_load_mid (by rfl) 42 (.tmp 43) rfl b (i * 7) rfl (fc f) _ (fun w' h => h.1) Try.underlying42 rfl (size_fresh f)) hHeld ?_ ?_
        rotate_left
        · (simp only [Act.put, List.setIfInBounds_toArray, List.set_cons_zero, List.set_cons_succ]; rfl)
        refine take_ (i := 10) (N := (some 45)) (v := _) (a' := ?_) #[true, true, true, true, true, true, true, true, true, true, true, false, false, false, false, false] rfl rfl (by kernel_rfl) (fun _ _ _ h => h) (yieldsIf_load_mid (by rfl) 30 (.tmp 4) rfl w.heap.size 0 rfl [.int .u32 x, .int .u32 y] _ (fun w' h => h.2) Try.underlying30 rfl (by kernel_rfl)) hHeld ?_ ?_
        rotate_left
        · (simp only [Act.put, List.setIfInBounds_toArray, List.set_cons_zero, List.set_cons_succ]; rfl)
        refine one_ (i := 11) (N := (some 46)) #[true, true, true, true, true, true, true, true, true, true, true, true, false, false, false, false] rfl rfl (by kernel_rfl) (by decide) (fun K hK => ?_)
        generalize wr.drew = W at hbd hHeld hxl ⊢
        refine goesV_ Try.func22 (by kernel_rfl) rfl #[.agg (fc f).toArray, hv (x, y)] (by rfl) rfl rfl (by rfl) (by simp only [List.map_toArray, List.map_cons, List.map_nil]; rfl) ?_
        refine (find1_any _ f (x, y)).mono ?_
        rintro e w' ⟨rfl, hb3⟩
        refine ⟨_, rfl, hK.out _ _ ⟨fun j v hv => (hb3.cell (p := ⟨b, _, none⟩) (Nat.lt_of_lt_of_le hbw hbd.size)).trans (hHeld.1 j v hv), fun j v hv => (hb3.cell (p := ⟨w.heap.size, _, none⟩) hxl).trans (hHeld.2 j v hv)⟩ (fun hHeld => ?_)⟩
        clear hK K
        have hb4 := hbd.trans (hb3.mono hbd.size)
        refine norm_ (a' := ?_) ?_ ?_
        rotate_left
        · (show Act.put _ (some 46) _ = _; simp only [Act.put, List.setIfInBounds_toArray, List.set_cons_zero, List.set_cons_succ]; rfl)
        refine pure_ (i := 12) (N := (some 47)) (v := ?_) (a' := ?_) #[true, true, true, true, true, true, true, true, true, true, true, true, true, false, false, false] rfl rfl (by kernel_rfl) (fun _ _ _ h => h) (Or.inl ⟨by rfl, ?_⟩) ?_ ?_
        rotate_left
        · (intro w'; go_simp; with_reducible rfl)
        rotate_left
        · (simp only [Act.put, List.setIfInBounds_toArray, List.set_cons_zero, List.set_cons_succ]; rfl)
        refine pure_ (i := 13) (N := (some 48)) (v := ?_) (a' := ?_) #[true, true, true, true, true, true, true, true, true, true, true, true, true, true, false, false] rfl rfl (by kernel_rfl) (fun _ _ _ h => h) (Or.inl ⟨by rfl, ?_⟩) ?_ ?_
        rotate_left
        · (intro w'; go_simp; with_reducible rfl)
        rotate_left
        · (simp only [Act.put, List.setIfInBounds_toArray, List.set_cons_zero, List.set_cons_succ]; rfl)
        refine pure_ (i := 14) (N := (some 6)) (v := ?_) (a' := ?_) #[true, true, true, true, true, true, true, true, true, true, true, true, true, true, true, false] rfl rfl (by kernel_rfl) (fun _ _ _ h => h) (Or.inl ⟨by rfl, ?_⟩) ?_ ?_
        rotate_left
        · (intro w'; go_simp; with_reducible rfl)
        rotate_left
        · (simp only [Act.put, List.setIfInBounds_toArray, List.set_cons_zero, List.set_cons_succ]; rfl)
        refine pure_ (i := 15) (N := (some 7)) (v := ?_) (a' := ?_) #[true, true, true, true, true, true, true, true, true, true, true, true, true, true, true, true] rfl rfl (by kernel_rfl) (fun _ _ _ h => h) (Or.inl ⟨by rfl, ?_⟩) ?_ ?_
        rotate_left
        · (intro w'; go_simp; with_reducible rfl)
        rotate_left
        · (simp only [Act.put, List.setIfInBounds_toArray, List.set_cons_zero, List.set_cons_succ]; rfl)
        refine done_ (by kernel_rfl) ?_
        go_wp2_with fail
        go_ret2
        refine ⟨?_, hb4⟩
        have e : (ord f.h (x, y) == 0) = decide (f.h = (x, y)) := by rw [Bool.eq_iff_iff]; simp [ord_zero]
        rw [hpos, hgot, ← e]
        rfl
      · obtain rfl : i = l.length := by omega
        have hgot : (got l (x, y)).isSome = false := by
          unfold got; rw [hpos, List.getElem?_eq_none (Nat.le_refl _)]; rfl
        go_wp2_with fail
        refine start_ (n := 16) (S := (fun w' => True)) (ds := []) #[false, false, false, false, false, false, false, false, false, false, false, false, false, false, false, false] (by kernel_rfl) rfl rfl trivial (fun hHeld => ?_)
        refine pure_ (i := 0) (N := (some 35)) (v := ?_) (a' := ?_) #[true, false, false, false, false, false, false, false, false, false, false, false, false, false, false, false] rfl rfl (by kernel_rfl) (fun _ _ _ h => h) (Or.inl ⟨by rfl, ?_⟩) ?_ ?_
        rotate_left
        · (intro w'; go_simp; with_reducible rfl)
        rotate_left
        · (simp only [Act.put, List.setIfInBounds_toArray, List.set_cons_zero, List.set_cons_succ]; rfl)
        refine pure_ (i := 1) (N := (some 36)) (v := ?_) (a' := ?_) #[true, true, false, false, false, false, false, false, false, false, false, false, false, false, false, false] rfl rfl (by kernel_rfl) (fun _ _ _ h => h) (Or.inl ⟨by rfl, ?_⟩) ?_ ?_
        rotate_left
        · (intro w'; go_simp; with_reducible rfl)
        rotate_left
        · (simp only [Act.put, List.setIfInBounds_toArray, List.set_cons_zero, List.set_cons_succ]; rfl)
        refine pure_ (i := 2) (N := (some 37)) (v := ?_) (a' := ?_) #[true, true, true, false, false, false, false, false, false, false, false, false, false, false, false, false] rfl rfl (by kernel_rfl) (fun _ _ _ h => h) (Or.inl ⟨by rfl, ?_⟩) ?_ ?_
        rotate_left
        · (intro w'; go_simp; with_reducible rfl)
        rotate_left
        · (simp only [Act.put, List.setIfInBounds_toArray, List.set_cons_zero, List.set_cons_succ]; rfl)
        refine pure_ (i := 3) (N := (some 38)) (v := ?_) (a' := ?_) #[true, true, true, true, false, false, false, false, false, false, false, false, false, false, false, false] rfl rfl (by kernel_rfl) (fun _ _ _ h => h) (Or.inl ⟨by rfl, ?_⟩) ?_ ?_
        rotate_left
        · (intro w'; go_simp; with_reducible rfl)
        rotate_left
        · (simp only [Act.put, List.setIfInBounds_toArray, List.set_cons_zero, List.set_cons_succ]; rfl)
        refine pure_ (i := 4) (N := (some 39)) (v := ?_) (a' := ?_) #[true, true, true, true, true, false, false, false, false, false, false, false, false, false, false, false] rfl rfl (by kernel_rfl) (fun _ _ _ h => h) (Or.inl ⟨by rfl, ?_⟩) ?_ ?_
        rotate_left
        · (intro w'; go_simp; with_reducible rfl)
        rotate_left
        · (simp only [Act.put, List.setIfInBounds_toArray, List.set_cons_zero, List.set_cons_succ]; rfl)
        refine pure_ (i := 5) (N := (some 40)) (v := undef) (a' := ?_) #[true, true, true, true, true, true, false, false, false, false, false, false, false, false, false, false] rfl rfl (by kernel_rfl) (fun _ _ _ h => h) (Or.inr ⟨by rfl, rfl⟩) ?_ ?_
        rotate_left
        · (simp only [Act.put, List.setIfInBounds_toArray, List.set_cons_zero, List.set_cons_succ]; rfl)
        refine pure_ (i := 6) (N := (some 41)) (v := undef) (a' := ?_) #[true, true, true, true, true, true, true, false, false, false, false, false, false, false, false, false] rfl rfl (by kernel_rfl) (fun _ _ _ h => h) (Or.inr ⟨by rfl, rfl⟩) ?_ ?_
        rotate_left
        · (simp only [Act.put, List.setIfInBounds_toArray, List.set_cons_zero, List.set_cons_succ]; rfl)
        refine pure_ (i := 7) (N := (some 42)) (v := undef) (a' := ?_) #[true, true, true, true, true, true, true, true, false, false, false, false, false, false, false, false] rfl rfl (by kernel_rfl) (fun _ _ _ h => h) (Or.inr ⟨by rfl, rfl⟩) ?_ ?_
        rotate_left
        · (simp only [Act.put, List.setIfInBounds_toArray, List.set_cons_zero, List.set_cons_succ]; rfl)
        refine pure_ (i := 8) (N := (some 43)) (v := undef) (a' := ?_) #[true, true, true, true, true, true, true, true, true, false, false, false, false, false, false, false] rfl rfl (by kernel_rfl) (fun _ _ _ h => h) (Or.inr ⟨by rfl, rfl⟩) ?_ ?_
        rotate_left
        · (simp only [Act.put, List.setIfInBounds_toArray, List.set_cons_zero, List.set_cons_succ]; rfl)
        refine pure_ (i := 9) (N := (some 44)) (v := undef) (a' := ?_) #[true, true, true, true, true, true, true, true, true, true, false, false, false, false, false, false] rfl rfl (by kernel_rfl) (fun _ _ _ h => h) (Or.inr ⟨by rfl, rfl⟩) ?_ ?_
        rotate_left
        · (simp only [Act.put, List.setIfInBounds_toArray, List.set_cons_zero, List.set_cons_succ]; rfl)
        refine pure_ (i := 10) (N := (some 45)) (v := undef) (a' := ?_) #[true, true, true, true, true, true, true, true, true, true, true, false, false, false, false, false] rfl rfl (by kernel_rfl) (fun _ _ _ h => h) (Or.inr ⟨by rfl, rfl⟩) ?_ ?_
        rotate_left
        · (simp only [Act.put, List.setIfInBounds_toArray, List.set_cons_zero, List.set_cons_succ]; rfl)
        refine pure_ (i := 11) (N := (some 46)) (v := undef) (a' := ?_) #[true, true, true, true, true, true, true, true, true, true, true, true, false, false, false, false] rfl rfl (by kernel_rfl) (fun _ _ _ h => h) (Or.inr ⟨by rfl, rfl⟩) ?_ ?_
        rotate_left
        · (simp only [Act.put, List.setIfInBounds_toArray, List.set_cons_zero, List.set_cons_succ]; rfl)
        refine pure_ (i := 12) (N := (some 47)) (v := undef) (a' := ?_) #[true, true, true, true, true, true, true, true, true, true, true, true, true, false, false, false] rfl rfl (by kernel_rfl) (fun _ _ _ h => h) (Or.inr ⟨by rfl, rfl⟩) ?_ ?_
        rotate_left
        · (simp only [Act.put, List.setIfInBounds_toArray, List.set_cons_zero, List.set_cons_succ]; rfl)
        refine pure_ (i := 13) (N := (some 48)) (v := ?_) (a' := ?_) #[true, true, true, true, true, true, true, true, true, true, true, true, true, true, false, false] rfl rfl (by kernel_rfl) (fun _ _ _ h => h) (Or.inl ⟨by rfl, ?_⟩) ?_ ?_
        rotate_left
        · (intro w'; go_simp; with_reducible rfl)
        rotate_left
        · (simp only [Act.put, List.setIfInBounds_toArray, List.set_cons_zero, List.set_cons_succ]; rfl)
        refine pure_ (i := 14) (N := (some 6)) (v := ?_) (a' := ?_) #[true, true, true, true, true, true, true, true, true, true, true, true, true, true, true, false] rfl rfl (by kernel_rfl) (fun _ _ _ h => h) (Or.inl ⟨by rfl, ?_⟩) ?_ ?_
        rotate_left
        · (intro w'; go_simp; with_reducible rfl)
        rotate_left
        · (simp only [Act.put, List.setIfInBounds_toArray, List.set_cons_zero, List.set_cons_succ]; rfl)
        refine pure_ (i := 15) (N := (some 7)) (v := ?_) (a' := ?_) #[true, true, true, true, true, true, true, true, true, true, true, true, true, true, true, true] rfl rfl (by kernel_rfl) (fun _ _ _ h => h) (Or.inl ⟨by rfl, ?_⟩) ?_ ?_
        rotate_left
        · (intro w'; go_simp; with_reducible rfl)
        rotate_left
        · (simp only [Act.put, List.setIfInBounds_toArray, List.set_cons_zero, List.set_cons_succ]; rfl)
        refine done_ (by kernel_rfl) ?_
        go_wp2_with fail
        go_ret2
        rw [hpos, hgot]
        exact ⟨rfl, hbd⟩

theorem find_any (w : World) (A : Option Addr) (cap : Nat) (l : List F) (h : Int × Int) (hr : Reads w A l) (hs : Sorted l) (hn : l.length ≤ 1000) :
    Calls Try.prog 13 #[.slice A l.length cap, hv h] w fun r w' => r = .returned (.tuple #[.int .i64 (pos l h), .bool (got l h).isSome]) ∧ Below w.heap.size w w' := by
  have HS := Lib.hid hs; clear hs
  obtain ⟨x, y⟩ := h
  have hbl : Below w.heap.size w (w.alloc (.cells #[.int .u32 x, .int .u32 y] 30)) := (Below.refl _ _).alloc (Nat.le_refl _) _
  have HR := Lib.hid (hr.below hbl); clear hr
  unfold hv
  go_enter Try.func13, Try.ntmps13
  go_wp2_with fail
  refine (bs_any _ A cap l (x, y) HR.out HS.out hn).mono ?_
  rintro e w' ⟨rfl, hb⟩
  go_wp2_with fail
  go_ret2
  exact ⟨rfl, hbl.trans (hb.mono hbl.size)⟩
end Go.Proofs.Ytpnhjckjmpkbfaa

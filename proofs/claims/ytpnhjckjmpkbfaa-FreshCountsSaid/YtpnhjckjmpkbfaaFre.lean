/- fresh: slices.MinFunc, and oldest, walked. -/
import Derived.Test.YtpnhjckjmpkbfaaFrd
set_option linter.unusedVariables false
set_option linter.unusedSimpArgs false
namespace Go.Proofs.Ytpnhjckjmpkbfaa
open Go.RowKit Go.Proofs.YtpnhjckjmpkbfaaW.PrintLast

/-- One of a list that was told no later than any other. -/
def Least (l : List F) (P : F → Prop) : Prop := ∃ f ∈ l, (∀ g ∈ l, f.at_ ≤ g.at_) ∧ P f
def MinPost (l : List F) (w : World) (r : Ending) (w' : World) : Prop := Least l (fun f => r = .returned (.agg (fc f).toArray)) ∧ Below w.heap.size w w'
theorem FBox.of_heap {w : World} {c : Nat} {f : F} (h : w.heap[c]? = some (.cells (fc f).toArray 42 (0, 0))) : FBox w c (fc f) := by
  constructor
  · intro j v hv; rw [cell_of_row _ _ _ _ _ _ h]; simpa using hv
  · intro j hj
    rw [cell_of_row _ _ _ _ _ _ h, frozen_of_row _ _ _ _ _ h]
    refine ⟨?_, rfl⟩
    have : j < (fc f).toArray.size := hj
    simp [Array.getElem?_eq_getElem this]
theorem FBox.lt {w : World} {c : Nat} {cs : List Value} (h : FBox w c cs) : c < w.heap.size := by
  obtain ⟨v, hv⟩ := Option.isSome_iff_exists.1 (h.2 0 (by omega)).1
  exact World.block_lt_of_cell? w _ hv
theorem FBox.other {w : World} {c d : Nat} {cs : List Value} (h : FBox w c cs) (hd : c ≠ d) (vs : List Value) : FBox (w.setCells d 0 vs) c cs := by
  refine ⟨fun j v hv => ?_, World.there_setCells h.2 d 0 _⟩
  have hg := (grownBy_setCells w d vs 0).block c h.lt (by simpa using hd)
  rw [World.cell?_of_block (w := w) hg]
  exact h.1 j v hv
theorem results_cell1 {fn : Func} {p : Tmp} {ty : TypeId} (h : fn.results = #[.cell p ty]) (tmps : Array Value) (P : Program) (w : World) :
    (results fn tmps).run P w = ((asAddr (tmps.getD p undef)).run P w).andThen fun a w₁ => (loadVar ty a).run P w₁ := by
  simp only [results, h]
  simp [Sem.run_bind, Result.andThen]
theorem results_fresh1 {fn : Func} {p : Tmp} (hr : fn.results = #[.cell p 42]) (tmps : Array Value) (w : World) (c : Nat) (cs : List Value) (hl : cs.length = 7) (hp : tmps.getD p undef = .pointer (some ⟨c, 0, none⟩)) (hc : w.rangeAt c 0 cs) :
    (results fn tmps).run Try.prog w = .ok (.agg cs.toArray) w := by
  rw [results_cell1 hr, hp]
  simp only [asAddr, Sem.run_pure, Result.andThen, run_loadVar_mid w c 0 42 cs _ hc Try.underlying42 rfl (by rw [hl]; kernel_rfl)]
theorem results_handle1 {fn : Func} {p : Tmp} (hr : fn.results = #[.cell p 30]) (tmps : Array Value) (w : World) (c : Nat) (a b : Int) (hp : tmps.getD p undef = .pointer (some ⟨c, 0, none⟩)) (hc : w.rangeAt c 0 [.int .u32 a, .int .u32 b]) :
    (results fn tmps).run Try.prog w = .ok (.agg #[.int .u32 a, .int .u32 b]) w := by
  rw [results_cell1 hr, hp]
  simp only [asAddr, Sem.run_pure, Result.andThen, run_loadVar_mid w c 0 30 [.int .u32 a, .int .u32 b] _ hc Try.underlying30 rfl (by kernel_rfl)]
def LeastTo (l : List F) (i : Nat) (f : F) : Prop := f ∈ l.take i ∧ ∀ g ∈ l.take i, f.at_ ≤ g.at_
def MinAt (w : World) (l : List F) (vi : Value) (wr : World) : Prop := ∃ (i : Nat) (m : F), i ≤ l.length ∧ vi = .int .i64 i ∧ LeastTo l i m ∧ FBox wr w.heap.size zfc ∧ FBox wr (w.heap.size + 1) (fc m) ∧ Below w.heap.size w wr
theorem take_one_more {l : List F} {i : Nat} {x : F} (hx : l[i]? = some x) : l.take (i + 1) = l.take i ++ [x] := by
  rw [List.take_add_one, hx]; rfl
theorem LeastTo.less {l : List F} {i : Nat} {m x : F} (h : LeastTo l i m) (hx : l[i]? = some x) (hc : x.at_ < m.at_) : LeastTo l (i + 1) x := by
  unfold LeastTo
  rw [take_one_more hx]
  refine ⟨by simp, fun g hg => ?_⟩
  rcases List.mem_append.1 hg with hg | hg
  · have := h.2 g hg; omega
  · simp at hg; subst hg; exact Int.le_refl _
theorem LeastTo.more {l : List F} {i : Nat} {m x : F} (h : LeastTo l i m) (hx : l[i]? = some x) (hc : ¬ x.at_ < m.at_) : LeastTo l (i + 1) m := by
  unfold LeastTo
  rw [take_one_more hx]
  refine ⟨List.mem_append_left _ h.1, fun g hg => ?_⟩
  rcases List.mem_append.1 hg with hg | hg
  · exact h.2 g hg
  · simp at hg; subst hg; omega

set_option maxRecDepth 100000 in
set_option maxHeartbeats 2000000 in
theorem min_any (w : World) (A : Option Addr) (cap : Nat) (l : List F) (hr : Reads w A l) (hl0 : 0 < l.length) (hn : l.length ≤ 1000) :
    Calls Try.prog 18 #[.slice A l.length cap, .func (.func 19) #[] #[]] w (MinPost l w) := by
  obtain ⟨b, rfl, hbw, hrg⟩ := hr hl0
  obtain ⟨x0, hx0⟩ : ∃ f, l[0]? = some f := ⟨l[0], List.getElem?_eq_getElem hl0⟩
  have r0 : w.rangeAt b (0 * 7) (fc x0) := hrg 0 x0 hx0
  rw [Nat.zero_mul] at r0
  have q0 : ¬ ((l.length : Int) < 1) := by omega
  have q1 : (0 : Int) < (l.length : Int) := by omega
  have HG := Lib.hid hrg; clear hrg
  have hA1 : (w.alloc (.cells zfc.toArray 42)).rangeAt b 0 (fc x0) := fun j v hv => ((World.grownBy_alloc w (.cells zfc.toArray 42) none).cell (r0 j v hv) (by simp))
  have hf1 := FBox_new w zfc rfl
  have hf2 := FBox_new (w.alloc (.cells zfc.toArray 42)) zfc rfl
  have H3b := Lib.hid hf2
  rw [show (w.alloc (.cells zfc.toArray 42)).heap.size = w.heap.size + 1 by simp] at hf2
  have H1 := Lib.hid hA1; clear hA1
  have H2 := Lib.hid hf1; clear hf1
  have H3 := Lib.hid hf2; clear hf2
  have hfs := size_fresh x0
  have hfs' := size_fresh' x0
  have hfa := fc_all x0
  have hfl : (fc x0).toArray.size = 7 := rfl
  generalize hfc : fc x0 = cs at hfs hfs' hfa hfl H1
  go_enter Try.func18, Try.ntmps18
  go_wp2_with (first
    | (refine wpList_load_mid rfl 42 (.tmp 12) rfl b 0 rfl cs _ H1.out Try.underlying42 rfl hfs ?_)
    | (refine wpList_alloc_told rfl 42 rfl _ alloc_fresh ?_)
    | (refine wpList_store_mid rfl 42 (.tmp 5) (.tmp 13) rfl _ 0 cs.toArray (by rfl) (by rfl) (by rw [hfl]; first | exact H3.out.2 | exact H3b.out.2) hfs' hfa ?_; simp only [List.toList_toArray])
    | fail)
  have G1 := (H2.out.below ((Below.refl _ _).alloc (Nat.le_refl _) (.cells zfc.toArray 42)) : FBox _ _ _).other (d := w.heap.size + 1) (by omega) cs
  have G2 := H3.out.set cs hfl
  have G3 : Below w.heap.size w (((w.alloc (.cells zfc.toArray 42)).alloc (.cells zfc.toArray 42)).setCells (w.heap.size + 1) 0 cs) :=
    below_set (((Below.refl _ _).alloc (Nat.le_refl _) _).alloc (by simp) _) (by omega) _
  generalize ((w.alloc (.cells zfc.toArray 42)).alloc (.cells zfc.toArray 42)).setCells (w.heap.size + 1) 0 cs = W at G1 G2 G3 ⊢
  clear H1 H2 H3 H3b hfs hfs' hfa hfl r0
  subst hfc
  have GL : LeastTo l 1 x0 := by
    have e : l.take 1 = [x0] := by
      cases l with
      | nil => simp at hl0
      | cons a t => simp at hx0; subst hx0; simp
    unfold LeastTo; rw [e]; exact ⟨by simp, fun g hg => by simp at hg; subst hg; exact Int.le_refl _⟩
  clear hx0
  go_loopw [6] (fun vi wr => MinAt w l vi wr) (fun vi _ => ((l.length : Int) - intOf vi).toNat)
  case atStart => exact ⟨1, x0, by omega, rfl, GL, G1, G2, G3⟩
  case round =>
    clear G1 G2 G3 GL
    obtain ⟨i, m, hil, rfl, GL, G1, G2, hb⟩ := hrel
    have HL := Lib.hid GL; clear GL
    have hk0 : (0 : Int) ≤ (i : Int) := by omega
    by_cases hlt : (i : Int) < (l.length : Int)
    · have hx : l[i]? = some l[i] := List.getElem?_eq_getElem (by omega)
      generalize l[i] = x at hx
      have hbd := hb.drew
      have f0 : wr.drew.rangeAt b (i * 7) (fc x) := fun j v hv => (hbd.cell (p := ⟨b, _, none⟩) hbw).trans (HG.out i x hx j v hv)
      have f1 : wr.drew.rangeAt (w.heap.size + 1) 0 (fc m) := fun j v hv => G2.1 j v hv
      have hF1 : FBox wr.drew w.heap.size zfc := G1
      have hF2 : FBox wr.drew (w.heap.size + 1) (fc m) := G2
      have hxl : w.heap.size + 1 < wr.drew.heap.size := G2.lt
      have HX := Lib.hid hx; clear hx
      clear G1 G2 hb
      go_wp2_with fail
      by_cases hc : x.at_ < m.at_
      · have LTE := HL.out.less HX.out hc
        refine start_ (n := 8) (S := (fun w' => w'.rangeAt b (i * 7) (fc x) ∧ w'.rangeAt (w.heap.size + 1) 0 (fc m))) (ds := []) #[false, false, false, false, false, false, false, false] (by kernel_rfl) rfl rfl ⟨f0, f1⟩ (fun hHeld => ?_)
        refine pure_ (i := 0) (N := (some 20)) (v := ?_) (a' := ?_) #[true, false, false, false, false, false, false, false] rfl rfl (by kernel_rfl) (fun _ _ _ h => h) (Or.inl ⟨by rfl, ?_⟩) ?_ ?_
        rotate_left
        · (intro w'; go_simp; with_reducible rfl)
        rotate_left
        · (simp only [Act.put, List.setIfInBounds_toArray, List.set_cons_zero, List.set_cons_succ]; rfl)
        refine pure_ (i := 1) (N := (some 21)) (v := ?_) (a' := ?_) #[true, true, false, false, false, false, false, false] rfl rfl (by kernel_rfl) (fun _ _ _ h => h) (Or.inl ⟨by rfl, ?_⟩) ?_ ?_
        rotate_left
        · (intro w'; go_simp; with_reducible rfl)
        rotate_left
        · (simp only [Act.put, List.setIfInBounds_toArray, List.set_cons_zero, List.set_cons_succ]; rfl)
        refine pure_ (i := 2) (N := (some 22)) (v := ?_) (a' := ?_) #[true, true, true, false, false, false, false, false] rfl rfl (by kernel_rfl) (fun _ _ _ h => h) (Or.inl ⟨by rfl, ?_⟩) ?_ ?_
        rotate_left
        · (intro w'; go_simp; with_reducible rfl)
        rotate_left
        · (simp only [Act.put, List.setIfInBounds_toArray, List.set_cons_zero, List.set_cons_succ]; rfl)
        refine pure_ (i := 3) (N := (some 23)) (v := ?_) (a' := ?_) #[true, true, true, true, false, false, false, false] rfl rfl (by kernel_rfl) (fun _ _ _ h => h) (Or.inl ⟨by rfl, ?_⟩) ?_ ?_
        rotate_left
        · (intro w'; go_simp; with_reducible rfl)
        rotate_left
        · (simp only [Act.put, List.setIfInBounds_toArray, List.set_cons_zero, List.set_cons_succ]; rfl)
        refine take_ (i := 4) (N := (some 24)) (v := _) (a' := ?_) #[true, true, true, true, true, false, false, false] rfl rfl (by kernel_rfl) (fun _ _ _ h => h) (yieldsIf_load_mid (by rfl) 42 (.tmp 23) rfl b (i * 7) rfl (fc x) _ (fun w' h => h.1) Try.underlying42 rfl (size_fresh x)) hHeld ?_ ?_
        rotate_left
        · (simp only [Act.put, List.setIfInBounds_toArray, List.set_cons_zero, List.set_cons_succ]; rfl)
        refine take_ (i := 5) (N := (some 25)) (v := _) (a' := ?_) #[true, true, true, true, true, true, false, false] rfl rfl (by kernel_rfl) (fun _ _ _ h => h) (yieldsIf_load_mid (by rfl) 42 (.tmp 5) rfl (w.heap.size + 1) 0 rfl (fc m) _ (fun w' h => h.2) Try.underlying42 rfl (size_fresh m)) hHeld ?_ ?_
        rotate_left
        · (simp only [Act.put, List.setIfInBounds_toArray, List.set_cons_zero, List.set_cons_succ]; rfl)
        refine one_ (i := 6) (N := (some 26)) #[true, true, true, true, true, true, true, false] rfl rfl (by kernel_rfl) (by decide) (fun K hK => ?_)
        generalize wr.drew = W at hbd hHeld hxl hF1 hF2 ⊢
        refine goesV_ Try.func19 (by kernel_rfl) rfl #[.agg (fc x).toArray, .agg (fc m).toArray] (by rfl) rfl rfl (by rfl) (by simp only [List.map_toArray, List.map_cons, List.map_nil]; rfl) ?_
        have hold := oldest1_any W x m
        rw [cmpI_lt hc] at hold
        refine hold.mono ?_
        clear hold
        rintro e w' ⟨rfl, hb3⟩
        have hF3 := hF1.below hb3
        have hF4 := hF2.below hb3
        have hb4 := hbd.trans (hb3.mono hbd.size)
        refine ⟨_, rfl, hK.out _ _ ⟨fun j v hv => (hb3.cell (p := ⟨b, _, none⟩) (Nat.lt_of_lt_of_le hbw hbd.size)).trans (hHeld.1 j v hv), fun j v hv => (hb3.cell (p := ⟨w.heap.size + 1, _, none⟩) hxl).trans (hHeld.2 j v hv)⟩ (fun hHeld => ?_)⟩
        clear hK K
        refine norm_ (a' := ?_) ?_ ?_
        rotate_left
        · (show Act.put _ (some 26) _ = _; simp only [Act.put, List.setIfInBounds_toArray, List.set_cons_zero, List.set_cons_succ]; rfl)
        refine pure_ (i := 7) (N := (some 27)) (v := ?_) (a' := ?_) #[true, true, true, true, true, true, true, true] rfl rfl (by kernel_rfl) (fun _ _ _ h => h) (Or.inl ⟨by rfl, ?_⟩) ?_ ?_
        rotate_left
        · (intro w'; go_simp; with_reducible rfl)
        rotate_left
        · (simp only [Act.put, List.setIfInBounds_toArray, List.set_cons_zero, List.set_cons_succ]; rfl)
        refine done_ (by kernel_rfl) ?_
        have hg1 : w'.rangeAt b (i * 7) (fc x) := hHeld.1
        have hfs := size_fresh x
        have hfs' := size_fresh' x
        have hfa := fc_all x
        have hfl : (fc x).toArray.size = 7 := rfl
        have hfl2 : (fc x).length = 7 := rfl
        have HF3 := Lib.hid hF3; clear hF3
        have HF4 := Lib.hid hF4; clear hF4
        have HG1 := Lib.hid hg1; clear hg1
        generalize hfc : fc x = cs at hfs hfs' hfa hfl hfl2 HG1
        go_wp2_with (first
          | (refine wpList_load_mid rfl 42 (.tmp 30) rfl b (i * 7) rfl cs _ HG1.out Try.underlying42 rfl hfs ?_)
          | (refine wpList_store_mid rfl 42 (.tmp 5) (.tmp 31) rfl (w.heap.size + 1) 0 cs.toArray (by rfl) (by rfl) (by rw [hfl]; exact HF4.out.2) hfs' hfa ?_; simp only [List.toList_toArray])
          | fail)
        go_roundw
        case rel =>
          refine ⟨i + 1, x, by omega, by go_num, LTE, HF3.out.other (by omega) _, ?_, below_set hb4 (by omega) _⟩
          rw [hfc]
          exact HF4.out.set cs hfl2
        case measure => simp only [intOf]; omega
      · have LTE := HL.out.more HX.out hc
        refine start_ (n := 8) (S := (fun w' => w'.rangeAt b (i * 7) (fc x) ∧ w'.rangeAt (w.heap.size + 1) 0 (fc m))) (ds := []) #[false, false, false, false, false, false, false, false] (by kernel_rfl) rfl rfl ⟨f0, f1⟩ (fun hHeld => ?_)
        refine pure_ (i := 0) (N := (some 20)) (v := ?_) (a' := ?_) #[true, false, false, false, false, false, false, false] rfl rfl (by kernel_rfl) (fun _ _ _ h => h) (Or.inl ⟨by rfl, ?_⟩) ?_ ?_
        rotate_left
        · (intro w'; go_simp; with_reducible rfl)
        rotate_left
        · (simp only [Act.put, List.setIfInBounds_toArray, List.set_cons_zero, List.set_cons_succ]; rfl)
        refine pure_ (i := 1) (N := (some 21)) (v := ?_) (a' := ?_) #[true, true, false, false, false, false, false, false] rfl rfl (by kernel_rfl) (fun _ _ _ h => h) (Or.inl ⟨by rfl, ?_⟩) ?_ ?_
        rotate_left
        · (intro w'; go_simp; with_reducible rfl)
        rotate_left
        · (simp only [Act.put, List.setIfInBounds_toArray, List.set_cons_zero, List.set_cons_succ]; rfl)
        refine pure_ (i := 2) (N := (some 22)) (v := ?_) (a' := ?_) #[true, true, true, false, false, false, false, false] rfl rfl (by kernel_rfl) (fun _ _ _ h => h) (Or.inl ⟨by rfl, ?_⟩) ?_ ?_
        rotate_left
        · (intro w'; go_simp; with_reducible rfl)
        rotate_left
        · (simp only [Act.put, List.setIfInBounds_toArray, List.set_cons_zero, List.set_cons_succ]; rfl)
        refine pure_ (i := 3) (N := (some 23)) (v := ?_) (a' := ?_) #[true, true, true, true, false, false, false, false] rfl rfl (by kernel_rfl) (fun _ _ _ h => h) (Or.inl ⟨by rfl, ?_⟩) ?_ ?_
        rotate_left
        · (intro w'; go_simp; with_reducible rfl)
        rotate_left
        · (simp only [Act.put, List.setIfInBounds_toArray, List.set_cons_zero, List.set_cons_succ]; rfl)
        refine take_ (i := 4) (N := (some 24)) (v := _) (a' := ?_) #[true, true, true, true, true, false, false, false] rfl rfl (by kernel_rfl) (fun _ _ _ h => h) (yieldsIf_load_mid (by rfl) 42 (.tmp 23) rfl b (i * 7) rfl (fc x) _ (fun w' h => h.1) Try.underlying42 rfl (size_fresh x)) hHeld ?_ ?_
        rotate_left
        · (simp only [Act.put, List.setIfInBounds_toArray, List.set_cons_zero, List.set_cons_succ]; rfl)
        refine take_ (i := 5) (N := (some 25)) (v := _) (a' := ?_) #[true, true, true, true, true, true, false, false] rfl rfl (by kernel_rfl) (fun _ _ _ h => h) (yieldsIf_load_mid (by rfl) 42 (.tmp 5) rfl (w.heap.size + 1) 0 rfl (fc m) _ (fun w' h => h.2) Try.underlying42 rfl (size_fresh m)) hHeld ?_ ?_
        rotate_left
        · (simp only [Act.put, List.setIfInBounds_toArray, List.set_cons_zero, List.set_cons_succ]; rfl)
        refine one_ (i := 6) (N := (some 26)) #[true, true, true, true, true, true, true, false] rfl rfl (by kernel_rfl) (by decide) (fun K hK => ?_)
        generalize wr.drew = W at hbd hHeld hxl hF1 hF2 ⊢
        refine goesV_ Try.func19 (by kernel_rfl) rfl #[.agg (fc x).toArray, .agg (fc m).toArray] (by rfl) rfl rfl (by rfl) (by simp only [List.map_toArray, List.map_cons, List.map_nil]; rfl) ?_
        have hold := oldest1_any W x m
        have hcm : cmpI x.at_ m.at_ = 0 ∨ cmpI x.at_ m.at_ = 1 := by unfold cmpI; rw [if_neg hc]; split <;> simp
        generalize cmpI x.at_ m.at_ = cm at hold hcm
        have hcn : ¬ (cm < 0) := by omega
        clear hcm
        refine hold.mono ?_
        clear hold
        rintro e w' ⟨rfl, hb3⟩
        have hF3 := hF1.below hb3
        have hF4 := hF2.below hb3
        have hb4 := hbd.trans (hb3.mono hbd.size)
        refine ⟨_, rfl, hK.out _ _ ⟨fun j v hv => (hb3.cell (p := ⟨b, _, none⟩) (Nat.lt_of_lt_of_le hbw hbd.size)).trans (hHeld.1 j v hv), fun j v hv => (hb3.cell (p := ⟨w.heap.size + 1, _, none⟩) hxl).trans (hHeld.2 j v hv)⟩ (fun hHeld => ?_)⟩
        clear hK K
        refine norm_ (a' := ?_) ?_ ?_
        rotate_left
        · (show Act.put _ (some 26) _ = _; simp only [Act.put, List.setIfInBounds_toArray, List.set_cons_zero, List.set_cons_succ]; rfl)
        refine pure_ (i := 7) (N := (some 27)) (v := ?_) (a' := ?_) #[true, true, true, true, true, true, true, true] rfl rfl (by kernel_rfl) (fun _ _ _ h => h) (Or.inl ⟨by rfl, ?_⟩) ?_ ?_
        rotate_left
        · (intro w'; go_simp; with_reducible rfl)
        rotate_left
        · (simp only [Act.put, List.setIfInBounds_toArray, List.set_cons_zero, List.set_cons_succ]; rfl)
        refine done_ (by kernel_rfl) ?_
        go_wp2_with fail
        go_roundw
        case rel => exact ⟨i + 1, m, by omega, by go_num, LTE, hF3, hF4, hb4⟩
        case measure => simp only [intOf]; omega
    · obtain rfl : i = l.length := by omega
      have hfs := size_fresh m
      have hfs' := size_fresh' m
      have hfa := fc_all m
      have hfl : (fc m).toArray.size = 7 := rfl
      have hfl2 : (fc m).length = 7 := rfl
      have HF1 := Lib.hid G1; clear G1
      have HF2 := Lib.hid G2; clear G2
      generalize hfc : fc m = cs at hfs hfs' hfa hfl hfl2 HF2
      go_wp2_with (first
        | (refine wpList_load_mid rfl 42 (.tmp 5) rfl (w.heap.size + 1) 0 rfl cs _ HF2.out.1 Try.underlying42 rfl hfs ?_)
        | (refine wpList_store_mid rfl 42 (.tmp 4) (.tmp 32) rfl w.heap.size 0 cs.toArray (by rfl) (by rfl) (by rw [hfl]; exact HF1.out.2) hfs' hfa ?_; simp only [List.toList_toArray])
        | fail)
      refine bodyPost_ret (results_fresh1 rfl _ _ w.heap.size cs hfl2 rfl (HF1.out.set cs hfl2).1) rfl ⟨⟨m, ?_, ?_, by subst hfc; rfl⟩, below_set hb (Nat.le_refl _) _⟩
      · have := HL.out.1; rwa [List.take_length] at this
      · have := HL.out.2; rwa [List.take_length] at this
theorem field_attr (W : World) (a b : Int) (d : Bool) (s c t p : Int) : (Instr.field 42 (.agg #[.int .u32 a, .int .u32 b, .bool d, .int .u32 s, .int .u64 c, .int .u64 t, .int .u64 p]) 0).run Try.prog W = .ok (.agg #[.int .u32 a, .int .u32 b, .bool d, .int .u32 s, .int .u64 c]) W := by kernel_rfl
theorem field_handle (W : World) (a b : Int) (d : Bool) (s c : Int) : (Instr.field 35 (.agg #[.int .u32 a, .int .u32 b, .bool d, .int .u32 s, .int .u64 c]) 0).run Try.prog W = .ok (.agg #[.int .u32 a, .int .u32 b]) W := by kernel_rfl
/-- What was told first, and no more than one was. -/
theorem oldest_any (w : World) (A : Option Addr) (cap : Nat) (l : List F) (hr : Reads w A l) (hl0 : 0 < l.length) (hn : l.length ≤ 1000) (o : F) (ho : ∀ g ∈ l, g.at_ ≤ o.at_ → g.h = o.h) (hol : o ∈ l) :
    Calls Try.prog 12 #[.slice A l.length cap] w fun r w' => r = .returned (hv o.h) ∧ Below w.heap.size w w' := by
  have hb0 : Below w.heap.size w (w.alloc (.cells #[.int .u32 0, .int .u32 0] 30)) := (Below.refl _ _).alloc (Nat.le_refl _) _
  have hh := heap_alloc_new w (.cells #[.int .u32 0, .int .u32 0] 30)
  have HR := Lib.hid (hr.below hb0); clear hr
  have HO := Lib.hid ho; clear ho
  go_enter Try.func12, Try.ntmps12
  go_wp2_with fail
  generalize w.alloc (.cells #[.int .u32 0, .int .u32 0] 30) = W at hb0 hh HR ⊢
  refine (min_any W A cap l HR.out hl0 hn).mono ?_
  rintro e w1 ⟨⟨f, hf, hle, rfl⟩, hb1⟩
  have hfo := HO.out f hf (hle o hol)
  have HE := Lib.hid hfo; clear hfo
  clear hle HO
  have hH := (hb1.block _ (lt_of_heap hh)).trans hh
  have hth : w1.there w.heap.size 0 2 := by
    intro j hj
    rw [cell_of_row _ _ _ _ _ _ hH, frozen_of_row _ _ _ _ _ hH]
    simp; omega
  have hgr := grownBy_setCells w1 w.heap.size [.int .u32 f.h.1, .int .u32 f.h.2] 0
  have hrg := World.rangeAt_setCells_same w1 w.heap.size 0 [.int .u32 f.h.1, .int .u32 f.h.2] hth
  have hbb := (hb0.trans (hb1.mono hb0.size)).grown hgr (hb0.trans (hb1.mono hb0.size)).size (fun k hk => by simp at hk; omega)
  have HT := Lib.hid hth; clear hth
  have HR := Lib.hid hrg; clear hrg
  clear hgr hh hH
  obtain ⟨⟨a, b⟩, d, s, c, t, p⟩ := f
  unfold fc
  dsimp only at HE HR hbb ⊢
  have hfa := field_attr w1 a b d s c t p
  have hfh := field_handle w1 a b d s c
  go_wp2_with (first
    | (refine wpList_store_mid rfl 30 (.tmp 2) (.tmp 6) rfl w.heap.size 0 #[.int .u32 a, .int .u32 b] (by rfl) (by rfl) HT.out (by kernel_rfl) (by simp [Value.oneCell']) ?_)
    | fail)
  refine bodyPost_ret (results_handle1 rfl _ _ w.heap.size a b rfl HR.out) rfl ⟨by rw [← HE.out]; rfl, hbb⟩
end Go.Proofs.Ytpnhjckjmpkbfaa

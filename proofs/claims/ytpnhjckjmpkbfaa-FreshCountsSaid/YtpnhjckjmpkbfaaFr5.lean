/- fresh: Get and Counts, walked. -/
import Derived.Test.YtpnhjckjmpkbfaaFr4
set_option linter.unusedVariables false
set_option linter.unusedSimpArgs false
namespace Go.Proofs.Ytpnhjckjmpkbfaa
open Go.RowKit Go.Proofs.YtpnhjckjmpkbfaaW.PrintLast

theorem got_some {l : List F} {h : Int × Int} {f : F} (hg : got l h = some f) : l[pos l h]? = some f ∧ f.h = h := by
  unfold got at hg
  cases hx : l[pos l h]? with
  | none => rw [hx] at hg; cases hg
  | some g =>
    rw [hx] at hg
    dsimp only at hg
    split at hg
    · injection hg with hg; subst hg; exact ⟨rfl, by assumption⟩
    · cases hg
theorem zfc_all : zfc.toArray.all (·.oneCell') = true := by simp [zfc, Value.oneCell']
theorem size_zfc : (Try.prog.info? 42).map (·.size) = some zfc.toArray.size := by kernel_rfl
def gotc (o : Option F) : List Value := match o with | some f => fc f | none => zfc
theorem results_fresh {fn : Func} {p u : Tmp} (hr : fn.results = #[.cell p 42, .tmp u]) (tmps : Array Value) (w : World) (c : Nat) (cs : List Value) (hl : cs.length = 7) (hp : tmps.getD p undef = .pointer (some ⟨c, 0, none⟩)) (hc : w.rangeAt c 0 cs) :
    (results fn tmps).run Try.prog w = .ok (.tuple #[.agg cs.toArray, tmps.getD u undef]) w := by
  rw [results_cell_tmp hr, hp]
  simp only [asAddr, Sem.run_pure, Result.andThen, run_loadVar_mid w c 0 42 cs _ hc Try.underlying42 rfl (by rw [hl]; kernel_rfl)]
theorem build_fresh (W : World) : (Instr.build 42 #[]).run Try.prog W = .ok (.agg zfc.toArray) W := by kernel_rfl
theorem wpList_build_told {P : Program} {ops : Array Oper} {rest : List Oper} {o : Oper} {a : Act} {w : World} {Q : Exit → Act → World → Prop} (hg : o.guard = none) (t : TypeId) (parts : Array (Nat × Operand)) (ho : o.op = .build t parts) (vals : Array (Nat × Value)) (hp : parts.map (fun x => (x.1, a.eval x.2)) = vals) (v : Value)
    (hrun : ∀ W : World, (Instr.build t vals).run P W = .ok v W) (h : wpList P ops Q rest (a.put o.dst v) w) : wpList P ops Q (o :: rest) a w :=
  wpList_plain hg fun _ hK => by
    unfold Oper.wp execOp
    have e : (parts.map fun x => match x with | (i, y) => (i, a.eval y)) = vals := hp
    simp only [ho, e, Sem.run_bind, hrun, Result.andThen_ok, Sem.run_pure]
    exact hK _ _ h
/-- A new variable of a call's own of whatever cells. -/
def FBox (w : World) (c : Nat) (cs : List Value) : Prop := w.rangeAt c 0 cs ∧ w.there c 0 7
theorem FBox_new (w : World) (cs : List Value) (hl : cs.length = 7) : FBox (w.alloc (.cells cs.toArray 42)) w.heap.size cs := by
  have hh := heap_alloc_new w (.cells cs.toArray 42)
  constructor
  · intro j v hv
    rw [cell_of_row _ _ _ _ _ _ hh]; simpa using hv
  · intro j hj
    rw [cell_of_row _ _ _ _ _ _ hh, frozen_of_row _ _ _ _ _ hh]
    simp; omega
theorem FBox.below {w w' : World} {c : Nat} {cs : List Value} (h : FBox w c cs) (hg : Below w.heap.size w w') : FBox w' c cs := by
  have hc : c < w.heap.size := by
    obtain ⟨v, hv⟩ := Option.isSome_iff_exists.1 (h.2 0 (by omega)).1
    exact World.block_lt_of_cell? w _ hv
  refine ⟨fun j v hv => (hg.cell (p := ⟨c, _, none⟩) hc).trans (h.1 j v hv), fun j hj => ?_⟩
  obtain ⟨h1, h2⟩ := h.2 j hj
  exact ⟨by rw [hg.cell (p := ⟨c, _, none⟩) hc]; exact h1, by rw [World.frozen?_of_block (w := w) (hg.block c hc)]; exact h2⟩
theorem FBox.set {w : World} {c : Nat} {cs : List Value} (h : FBox w c cs) (ds : List Value) (hl : ds.length = 7) : FBox (w.setCells c 0 ds) c ds :=
  ⟨World.rangeAt_setCells_same w c 0 ds (by rw [hl]; exact h.2), World.there_setCells h.2 c 0 _⟩
theorem below_set {w W : World} {c : Nat} (h : Below w.heap.size w W) (hc : w.heap.size ≤ c) (vs : List Value) : Below w.heap.size w (W.setCells c 0 vs) :=
  h.grown (grownBy_setCells W c vs 0) h.size (fun k hk => by simp at hk; omega)

set_option maxRecDepth 100000 in
set_option maxHeartbeats 2000000 in
theorem get_any (w : World) (A : Option Addr) (cap : Nat) (l : List F) (h : Int × Int) (hr : Reads w A l) (ho : Ok l) :
    Calls Try.prog 10 #[.slice A l.length cap, hv h] w fun r w' => r = .returned (.tuple #[.agg (gotc (got l h)).toArray, .bool (got l h).isSome]) ∧ Below w.heap.size w w' := by
  have hn : l.length ≤ 1000 := by have := ho.most; omega
  have HO := Lib.hid ho; clear ho
  obtain ⟨x, y⟩ := h
  have hs1 : (w.alloc (.cells #[.int .u32 x, .int .u32 y] 30)).heap.size = w.heap.size + 1 := by simp
  obtain ⟨hb0, -, -⟩ := two_boxes w (.cells #[.int .u32 x, .int .u32 y] 30) (.cells zfc.toArray 42)
  have hfb := FBox_new (w.alloc (.cells #[.int .u32 x, .int .u32 y] 30)) zfc rfl
  rw [hs1] at hfb
  have HR := Lib.hid (hr.below hb0); clear hr
  have HF := Lib.hid hfb; clear hfb
  unfold hv
  go_enter Try.func10, Try.ntmps10
  go_wp2_with (first
    | (refine wpList_alloc_told rfl 42 rfl _ alloc_fresh ?_)
    | fail)
  generalize (w.alloc (.cells #[.int .u32 x, .int .u32 y] 30)).alloc (.cells zfc.toArray 42) = W at hb0 HR HF ⊢
  have hc1 : w.heap.size ≤ w.heap.size + 1 := by omega
  generalize w.heap.size + 1 = c at HF hc1 ⊢
  clear hs1
  refine (find_any W A cap l (x, y) HR.out HO.out.sorted hn).mono ?_
  rintro e w1 ⟨rfl, hb1⟩
  have hgs := @got_some l (x, y)
  cases hg : got l (x, y) with
  | none =>
    have hi : (got l (x, y)).isSome = false := by rw [hg]; rfl
    have HF1 := Lib.hid (HF.out.below hb1)
    simp only [hg, Option.isSome_none]
    go_wp2_with (first
      | (refine wpList_build_told rfl 42 #[] rfl #[] rfl _ build_fresh ?_)
      | (refine wpList_store_mid rfl 42 (.tmp 4) (.tmp 23) rfl c 0 zfc.toArray (by rfl) (by rfl) HF1.out.2 size_zfc zfc_all ?_; simp only [List.toList_toArray])
      | fail)
    refine bodyPost_ret (results_fresh rfl _ _ c zfc rfl rfl (HF1.out.set zfc rfl).1) rfl ⟨by rw [hg]; rfl, ?_⟩
    exact below_set (hb0.trans (hb1.mono hb0.size)) hc1 _
  | some f =>
    obtain ⟨hx, -⟩ := hgs hg
    have hi : (got l (x, y)).isSome = true := by rw [hg]; rfl
    have HR1 := HR.out.below hb1
    simp only [hg, Option.isSome_some]
    obtain ⟨b, rfl, hbw, hrg⟩ := HR1 (by have := (List.getElem?_eq_some_iff.1 hx).1; omega)
    have HR1 : Reads w1 (some ⟨b, 0, none⟩) l := fun _ => ⟨b, rfl, hbw, hrg⟩
    have hp1 : ((pos l (x, y) : Nat) : Int) < (l.length : Int) := by have := (List.getElem?_eq_some_iff.1 hx).1; omega
    have hp0 : (0 : Int) ≤ ((pos l (x, y) : Nat) : Int) := by omega
    generalize pos l (x, y) = m at hx hp1 hp0 ⊢
    have HF1 := Lib.hid (HF.out.below hb1)
    have HR2 := Lib.hid HR1; clear HR1 HR
    have HG := Lib.hid hrg; clear hrg
    have HB1 := Lib.hid hb1; clear hb1
    have hfs := size_fresh f
    have hfs' := size_fresh' f
    have hfa := fc_all f
    have hfl : (fc f).toArray.size = 7 := rfl
    have hfl2 : (fc f).length = 7 := rfl
    have hgc : gotc (some f) = fc f := rfl
    generalize hfc : fc f = cs at hfs hfs' hfa hfl hfl2 hgc
    have hg2 : gotc (got l (x, y)) = cs := by rw [hg]; exact hgc
    go_wp2_with fail
    refine (may_true w1 _ cap l HR2.out HO.out).mono ?_
    rintro e w2 ⟨rfl, hb2⟩
    have hld : w2.rangeAt b (m * 7) cs := fun j v hv => (hb2.cell (p := ⟨b, _, none⟩) hbw).trans (HG.out m f hx j v (by rw [hfc]; exact hv))
    have HL := Lib.hid hld; clear hld
    have HF2 := Lib.hid (HF1.out.below hb2)
    go_wp2_with (first
      | (refine wpList_load_mid rfl 42 (.tmp 21) rfl b (m * 7) rfl cs _ HL.out Try.underlying42 rfl hfs ?_)
      | (refine wpList_store_mid rfl 42 (.tmp 4) (.tmp 22) rfl c 0 cs.toArray (by rfl) (by rfl) (by rw [hfl]; exact HF2.out.2) hfs' hfa ?_; simp only [List.toList_toArray])
      | fail)
    refine bodyPost_ret (results_fresh rfl _ _ c cs hfl2 rfl (HF2.out.set cs hfl2).1) rfl ⟨by rw [hg2, hi]; rfl, ?_⟩
    exact below_set ((hb0.trans (HB1.out.mono hb0.size)).trans (hb2.mono (hb0.trans (HB1.out.mono hb0.size)).size)) hc1 _
end Go.Proofs.Ytpnhjckjmpkbfaa

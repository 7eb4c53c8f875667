/- The disk's Sure and Read, walked. -/
import Derived.Test.YtlngflonolhdhaaDk6
import Derived.Laws.ResultCell
set_option linter.unusedVariables false
set_option linter.unusedSimpArgs false
namespace Go.Proofs.Ytlngflonolhdhaa
open Go.RowKit

theorem size_block (b : List Int) (h : b.length = 64) : (Try.prog.info? 23).map (·.size) = some (bc b).length := by
  rw [bc_length, h]; kernel_rfl
theorem size_block' (b : List Int) (h : b.length = 64) : (Try.prog.info? 23).map (·.size) = some (bc b).toArray.size := by
  rw [List.size_toArray]; exact size_block b h
theorem alloc_block (W : World) : (Instr.alloc 23 true (.tuple #[])).run Try.prog W = .ok (.pointer (some ⟨W.heap.size, 0, none⟩)) (W.alloc (.cells (bc zb).toArray 23)) := by kernel_rfl
/-- 'alloc' at a plain list, its cells as they are told. -/
theorem wpList_alloc_told {P : Program} {ops : Array Oper} {rest : List Oper} {o : Oper} {a : Act} {w : World} {Q : Exit → Act → World → Prop} (hg : o.guard = none) (t : TypeId) (ho : o.op = .alloc t) (cells : Array Value)
    (hrun : ∀ W : World, (Instr.alloc t true (.tuple #[])).run P W = .ok (.pointer (some ⟨W.heap.size, 0, none⟩)) (W.alloc (.cells cells t)))
    (h : wpList P ops Q rest (a.put o.dst (.pointer (some ⟨w.heap.size, 0, none⟩))) (w.alloc (.cells cells t))) : wpList P ops Q (o :: rest) a w :=
  wpList_plain hg fun _ hK => by
    unfold Oper.wp execOp
    simp only [ho, Sem.run_bind, hrun, Result.andThen_ok, Sem.run_pure]
    exact hK _ _ h
theorem bc_all (b : List Int) : (bc b).toArray.all (·.oneCell') = true := all_oneCell_toArray (bc_one b)
/-- Results: a block that lies in memory, and a number. -/
theorem results_block {fn : Func} {p u : Tmp} (hr : fn.results = #[.cell p 23, .tmp u]) (tmps : Array Value) (w : World) (c : Nat) (b : List Int) (hb : b.length = 64) (hp : tmps.getD p undef = .pointer (some ⟨c, 0, none⟩)) (hc : w.rangeAt c 0 (bc b)) :
    (results fn tmps).run Try.prog w = .ok (.tuple #[.agg (bc b).toArray, tmps.getD u undef]) w := by
  rw [results_cell_tmp hr, hp]
  simp only [asAddr, Sem.run_pure, Result.andThen, run_loadVar_mid w c 0 23 (bc b) _ hc Try.underlying23 rfl (size_block b hb)]

theorem results_block1 {fn : Func} {p : Tmp} (hr : fn.results = #[.cell p 23]) (tmps : Array Value) (w : World) (c : Nat) (b : List Int) (hb : b.length = 64) (hp : tmps.getD p undef = .pointer (some ⟨c, 0, none⟩)) (hc : w.rangeAt c 0 (bc b)) :
    (results fn tmps).run Try.prog w = .ok (.agg (bc b).toArray) w := by
  have h := run_loadVar_mid (P := Try.prog) w c 0 23 (bc b) _ hc Try.underlying23 rfl (size_block b hb)
  have hp' : tmps[p]?.getD undef = .pointer (some ⟨c, 0, none⟩) := by simpa using hp
  simp only [results, hr]
  simp [hp', asAddr, h, Result.andThen]
/-- A block of a call's own that is a Block. -/
def Box (w : World) (c : Nat) (b : List Int) : Prop := w.rangeAt c 0 (bc b) ∧ w.there c 0 64
theorem Box_new (w : World) (b : List Int) (hb : b.length = 64) : Box (w.alloc (.cells (bc b).toArray 23)) w.heap.size b := by
  have hh := heap_alloc_new w (.cells (bc b).toArray 23)
  constructor
  · intro j v hv
    rw [cell_of_row _ _ _ _ _ _ hh]; simpa using hv
  · intro j hj
    rw [cell_of_row _ _ _ _ _ _ hh, frozen_of_row _ _ _ _ _ hh]
    simp [bc_get]
    omega
theorem Box.grown {w w' : World} {c : Nat} {b : List Int} (h : Box w c b) {row : Option Nat} (hg : w.grownBy w' row) (hc : some c ≠ row) : Box w' c b := by
  refine ⟨fun j v hv => hg.cell (h.1 j v hv) hc, fun j hj => ?_⟩
  obtain ⟨h1, h2⟩ := h.2 j hj
  obtain ⟨v, hv⟩ := Option.isSome_iff_exists.1 h1
  have hlt : c < w.heap.size := World.block_lt_of_cell? w _ hv
  have e : w'.heap[c]? = w.heap[c]? := hg.block c hlt hc
  exact ⟨by rw [World.cell?_of_block (w := w) e]; exact h1, by rw [World.frozen?_of_block (w := w) e]; exact h2⟩
theorem Box.set {w : World} {c : Nat} {b : List Int} (h : Box w c b) (b' : List Int) (hb : b'.length = 64) : Box (w.setCells c 0 (bc b')) c b' :=
  ⟨World.rangeAt_setCells_same w c 0 (bc b') (by rw [bc_length, hb]; exact h.2), World.there_setCells h.2 c 0 _⟩
theorem Box.room {w : World} {c : Nat} {b : List Int} (h : Box w c b) (b' : List Int) (hb : b'.length = 64) : w.there c 0 (bc b').toArray.size := by
  rw [List.size_toArray, bc_length, hb]; exact h.2
theorem grownBy_setCells (w : World) (c : Nat) : ∀ (vs : List Value) (o : Nat) , w.grownBy (w.setCells c o vs) (some c) := by
  intro vs
  induction vs generalizing w with
  | nil => intro o; exact grownBy_refl _ _
  | cons v vs ih => intro o; exact grownBy_trans (grownBy_setCell w c o v) (ih _ (o + 1))
/-- A new block, and what is stored into it again and again. -/
theorem below_box {w W : World} {c : Nat} (h : Below w.heap.size w W) (hc : w.heap.size ≤ c) (vs : List Value) : Below w.heap.size w (W.setCells c 0 vs) :=
  h.grown (grownBy_setCells W c vs 0) h.size (fun k hk => by simp at hk; omega)

theorem laid_some {D : St} {n : Int} (h : inR D n = true) : D.laid[n.toNat]? = some (D.laid.getD n.toNat []) := by
  simp [inR] at h
  have : n.toNat < D.laid.length := by omega
  rw [List.getElem?_eq_getElem this, List.getD_eq_getElem?_getD, List.getElem?_eq_getElem this]; rfl

set_option maxRecDepth 100000 in
theorem sure_any {B : Nat} {w : World} {g : Nat} {D : St} {lb lc : Nat} {qv : Value} {m : Nat} (hd : DAt B w g D lb lc qv m) (n : Int) :
    Calls Try.prog 14 #[.pointer (some ⟨g, 0, none⟩), .int .i64 n] w fun e w' => e = .returned (.tuple #[.agg (bc (sure D n).1).toArray, .int .i64 (sure D n).2]) ∧ Below w.heap.size w w' := by
  have c0 := hd.c0
  have ha := alloc_block
  have h1 : ((D.laid.length : Int) == 0) = false := by have := hd.wf.one; simp; intro e; rw [e] at this; simp at this
  have hz : zb.length = 64 := rfl
  have hlt := hd.lt
  have hd1 : DAt B (w.alloc (.cells (bc zb).toArray 23)) g D lb lc qv m := hd.below ((Below.refl _ _).alloc (Nat.le_refl _) _)
  have hbx := Box_new w zb hz
  have hbl : Below w.heap.size w (w.alloc (.cells (bc zb).toArray 23)) := (Below.refl _ _).alloc (Nat.le_refl _) _
  by_cases hn : inR D n = true
  · have hr : sure D n = (D.laid.getD n.toNat [], 0) := by simp [sure, hn]
    have hb : blk D n 0 = 0 := by simp [blk, hn]
    have hs := laid_some hn
    have hlen : (D.laid.getD n.toNat []).length = 64 := (hd.wf.laid _ (List.mem_of_getElem? hs)).1
    have hrng := hd1.range hs
    have hi0 : 0 ≤ n := by simp [inR] at hn; omega
    have hi1 : n < D.laid.length := by simp [inR] at hn; omega
    rw [hr]; clear hr
    generalize D.laid.getD n.toNat [] = b at hlen hrng
    have HB := Lib.hid hb; clear hb hn hs
    have HR := Lib.hid hrng; clear hrng
    have HX := Lib.hid hbx; clear hbx
    have HL := Lib.hid hlen; clear hlen
    go_enter Try.func14, Try.ntmps14
    go_wp2_with (first
      | (go_at_call 25; refine (blocks_any hd1).mono ?_; rintro e w' ⟨rfl, rfl⟩)
      | (go_at_call 22; refine (block_any hd1 _ _).mono ?_; rintro e w' ⟨rfl, rfl⟩; rw [HB.out])
      | (refine wpList_load_mid rfl 23 _ rfl lb _ rfl (bc b) _ HR.out Try.underlying23 rfl (size_block b HL.out) ?_)
      | (refine wpList_store_mid rfl 23 _ _ rfl w.heap.size 0 (bc b).toArray rfl rfl (HX.out.room b HL.out) (size_block' b HL.out) (bc_all b) ?_; simp only [List.toList_toArray])
      | (refine wpList_load_mid rfl 23 _ rfl w.heap.size 0 rfl (bc b) _ (HX.out.set b HL.out).1 Try.underlying23 rfl (size_block b HL.out) ?_)
      | (refine wpList_store_mid rfl 23 _ _ rfl w.heap.size 0 (bc b).toArray rfl rfl ((HX.out.set b HL.out).room b HL.out) (size_block' b HL.out) (bc_all b) ?_; simp only [List.toList_toArray])
      | fail)
    refine bodyPost_ret (results_block rfl _ _ w.heap.size b HL.out rfl (((HX.out.set b HL.out).set b HL.out).1)) rfl ⟨rfl, ?_⟩
    exact below_box (below_box hbl (Nat.le_refl _) _) (Nat.le_refl _) _
  · have hr : sure D n = (zb, 2) := by simp [sure, hn]
    have hb : blk D n 0 = 2 := by simp [blk, hn]
    rw [hr]; clear hr
    have HB := Lib.hid hb; clear hb hn
    have HX := Lib.hid hbx; clear hbx
    go_enter Try.func14, Try.ntmps14
    go_wp2_with (first
      | (go_at_call 25; refine (blocks_any hd1).mono ?_; rintro e w' ⟨rfl, rfl⟩)
      | (go_at_call 22; refine (block_any hd1 _ _).mono ?_; rintro e w' ⟨rfl, rfl⟩; rw [HB.out])
      | (refine wpList_load_mid rfl 23 _ rfl w.heap.size 0 rfl (bc zb) _ HX.out.1 Try.underlying23 rfl (size_block zb hz) ?_)
      | (refine wpList_store_mid rfl 23 _ _ rfl w.heap.size 0 (bc zb).toArray rfl rfl (HX.out.room zb hz) (size_block' zb hz) (bc_all zb) ?_; simp only [List.toList_toArray])
      | fail)
    refine bodyPost_ret (results_block rfl _ _ w.heap.size zb hz rfl ((HX.out.set zb hz).1)) rfl ⟨rfl, ?_⟩
    exact below_box hbl (Nat.le_refl _) _
end Go.Proofs.Ytlngflonolhdhaa

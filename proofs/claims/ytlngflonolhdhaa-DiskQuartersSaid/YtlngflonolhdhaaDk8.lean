/- The disk's Read, walked. -/
import Derived.Test.YtlngflonolhdhaaDk7
set_option linter.unusedVariables false
set_option linter.unusedSimpArgs false
namespace Go.Proofs.Ytlngflonolhdhaa
open Go.RowKit

theorem zero_block (W : World) : (zeroValue 23).run Try.prog W = .ok (.agg (bc zb).toArray) W := by kernel_rfl

set_option maxRecDepth 100000 in
theorem read_dark {B : Nat} {w : World} {g : Nat} {D : St} {lb lc : Nat} {qv : Value} {m : Nat} (hd : DAt B w g D lb lc qv m) (n e : Int) (he : blk D n (powered D) = e) (he0 : (e != 0) = true) :
    Calls Try.prog 16 #[.pointer (some ⟨g, 0, none⟩), .int .i64 n] w fun r w' => r = .returned (.tuple #[.agg (bc zb).toArray, .int .i64 e]) ∧ Below w.heap.size w w' := by
  have ha := alloc_block
  have hz : zb.length = 64 := rfl
  have hd1 : DAt B (w.alloc (.cells (bc zb).toArray 23)) g D lb lc qv m := hd.below ((Below.refl _ _).alloc (Nat.le_refl _) _)
  have hbx := Box_new w zb hz
  have hbl : Below w.heap.size w (w.alloc (.cells (bc zb).toArray 23)) := (Below.refl _ _).alloc (Nat.le_refl _) _
  have HB := Lib.hid he; clear he
  have HX := Lib.hid hbx; clear hbx
  go_enter Try.func16, Try.ntmps16
  go_wp2_with (first
    | (go_at_call 19; refine (powered_any hd1).mono ?_; rintro e w' ⟨rfl, rfl⟩)
    | (go_at_call 22; refine (block_any hd1 _ _).mono ?_; rintro e w' ⟨rfl, rfl⟩; rw [HB.out])
    | (refine wpList_load_mid rfl 23 _ rfl w.heap.size 0 rfl (bc zb) _ HX.out.1 Try.underlying23 rfl (size_block zb hz) ?_)
    | (refine wpList_store_mid rfl 23 _ _ rfl w.heap.size 0 (bc zb).toArray rfl rfl (HX.out.room zb hz) (size_block' zb hz) (bc_all zb) ?_; simp only [List.toList_toArray])
    | fail)
  refine bodyPost_ret (results_block rfl _ _ w.heap.size zb hz rfl ((HX.out.set zb hz).1)) rfl ⟨rfl, ?_⟩
  exact below_box hbl (Nat.le_refl _) _

set_option maxRecDepth 100000 in
theorem read_young {B : Nat} {w : World} {g : Nat} {D : St} {lb lc : Nat} {qv : Value} {m : Nat} (hd : DAt B w g D lb lc qv m) (n : Int) (he : blk D n (powered D) = 0) (b : List Int) (hy : young D.queue n = some b) :
    Calls Try.prog 16 #[.pointer (some ⟨g, 0, none⟩), .int .i64 n] w fun r w' => r = .returned (.tuple #[.agg (bc b).toArray, .int .i64 0]) ∧ Below w.heap.size w w' := by
  have ha := alloc_block
  have hz : zb.length = 64 := rfl
  have hlen : b.length = 64 := (hd.wf.queue _ (young_mem hy)).1.1
  have hd1 : DAt B (w.alloc (.cells (bc zb).toArray 23)) g D lb lc qv m := hd.below ((Below.refl _ _).alloc (Nat.le_refl _) _)
  have hbx := Box_new w zb hz
  have hbl : Below w.heap.size w (w.alloc (.cells (bc zb).toArray 23)) := (Below.refl _ _).alloc (Nat.le_refl _) _
  have hlook := hd1.map.lookup Try.underlying48 Try.underlying3 (zero_block _) n
  simp only [hy, Option.map_some, Option.getD_some, Option.isSome_some] at hlook
  have c2 := hd1.c2
  have HB := Lib.hid he; clear he
  have HX := Lib.hid hbx; clear hbx
  have HL := Lib.hid hlen; clear hlen
  have HY := Lib.hid hy; clear hy
  go_enter Try.func16, Try.ntmps16
  go_wp2_with (first
    | (go_at_call 19; refine (powered_any hd1).mono ?_; rintro e w' ⟨rfl, rfl⟩)
    | (go_at_call 22; refine (block_any hd1 _ _).mono ?_; rintro e w' ⟨rfl, rfl⟩; rw [HB.out])
    | (refine wpList_store_mid rfl 23 _ _ rfl w.heap.size 0 (bc b).toArray rfl rfl (HX.out.room b HL.out) (size_block' b HL.out) (bc_all b) ?_; simp only [List.toList_toArray])
    | (refine wpList_load_mid rfl 23 _ rfl w.heap.size 0 rfl (bc b) _ (HX.out.set b HL.out).1 Try.underlying23 rfl (size_block b HL.out) ?_)
    | (refine wpList_store_mid rfl 23 _ _ rfl w.heap.size 0 (bc b).toArray rfl rfl ((HX.out.set b HL.out).room b HL.out) (size_block' b HL.out) (bc_all b) ?_; simp only [List.toList_toArray])
    | fail)
  refine bodyPost_ret (results_block rfl _ _ w.heap.size b HL.out rfl (((HX.out.set b HL.out).set b HL.out).1)) rfl ⟨rfl, ?_⟩
  exact below_box (below_box hbl (Nat.le_refl _) _) (Nat.le_refl _) _

set_option maxRecDepth 100000 in
theorem read_laid {B : Nat} {w : World} {g : Nat} {D : St} {lb lc : Nat} {qv : Value} {m : Nat} (hd : DAt B w g D lb lc qv m) (n : Int) (he : blk D n (powered D) = 0) (hn : inR D n = true) (hy : young D.queue n = none) :
    Calls Try.prog 16 #[.pointer (some ⟨g, 0, none⟩), .int .i64 n] w fun r w' => r = .returned (.tuple #[.agg (bc (D.laid.getD n.toNat [])).toArray, .int .i64 0]) ∧ Below w.heap.size w w' := by
  have ha := alloc_block
  have hz : zb.length = 64 := rfl
  have hs := laid_some hn
  have hlen : (D.laid.getD n.toNat []).length = 64 := (hd.wf.laid _ (List.mem_of_getElem? hs)).1
  have hd1 : DAt B (w.alloc (.cells (bc zb).toArray 23)) g D lb lc qv m := hd.below ((Below.refl _ _).alloc (Nat.le_refl _) _)
  have hbx := Box_new w zb hz
  have hbl : Below w.heap.size w (w.alloc (.cells (bc zb).toArray 23)) := (Below.refl _ _).alloc (Nat.le_refl _) _
  have hlook := hd1.map.lookup Try.underlying48 Try.underlying3 (zero_block _) n
  simp only [hy, Option.map_none, Option.getD_none, Option.isSome_none] at hlook
  have c2 := hd1.c2
  have hd2 : DAt B ((w.alloc (.cells (bc zb).toArray 23)).setCells w.heap.size 0 (bc zb)) g D lb lc qv m := hd.below (below_box hbl (Nat.le_refl _) _)
  have hrng := hd2.range hs
  have c0 := hd2.c0
  have hi0 : 0 ≤ n := by simp [inR] at hn; omega
  have hi1 : n < D.laid.length := by simp [inR] at hn; omega
  generalize D.laid.getD n.toNat [] = b at hlen hrng
  have hzs := size_block zb hz
  have hzs' := size_block' zb hz
  have hza := bc_all zb
  generalize zb = z0 at *
  have HB := Lib.hid he; clear he
  have HX := Lib.hid hbx; clear hbx
  have HL := Lib.hid hlen; clear hlen
  have HY := Lib.hid hy; clear hy hn hs
  have HR := Lib.hid hrng; clear hrng
  go_enter Try.func16, Try.ntmps16
  go_wp2_with (first
    | (refine wpList_alloc_told rfl 23 rfl (bc z0).toArray ha ?_)
    | (go_at_call 19; refine (powered_any hd1).mono ?_; rintro e w' ⟨rfl, rfl⟩)
    | (go_at_call 22; refine (block_any hd1 _ _).mono ?_; rintro e w' ⟨rfl, rfl⟩; rw [HB.out])
    | (refine wpList_store_mid rfl 23 (.tmp 4) (.tmp 23) rfl w.heap.size 0 (bc z0).toArray rfl rfl (HX.out.room z0 hz) hzs' hza ?_; simp only [List.toList_toArray])
    | (refine wpList_load_mid rfl 23 (.tmp 32) rfl lb _ rfl (bc b) _ HR.out Try.underlying23 rfl (size_block b HL.out) ?_)
    | (refine wpList_store_mid rfl 23 (.tmp 4) (.tmp 33) rfl w.heap.size 0 (bc b).toArray rfl rfl ((HX.out.set z0 hz).room b HL.out) (size_block' b HL.out) (bc_all b) ?_; simp only [List.toList_toArray])
    | (refine wpList_load_mid rfl 23 (.tmp 4) rfl w.heap.size 0 rfl (bc b) _ ((HX.out.set z0 hz).set b HL.out).1 Try.underlying23 rfl (size_block b HL.out) ?_)
    | (refine wpList_store_mid rfl 23 (.tmp 4) (.tmp 34) rfl w.heap.size 0 (bc b).toArray rfl rfl (((HX.out.set z0 hz).set b HL.out).room b HL.out) (size_block' b HL.out) (bc_all b) ?_; simp only [List.toList_toArray])
    | fail)
  refine bodyPost_ret (results_block rfl _ _ w.heap.size b HL.out rfl ((((HX.out.set z0 hz).set b HL.out).set b HL.out).1)) rfl ⟨rfl, ?_⟩
  exact below_box (below_box (below_box hbl (Nat.le_refl _) _) (Nat.le_refl _) _) (Nat.le_refl _) _

theorem read_any {B : Nat} {w : World} {g : Nat} {D : St} {lb lc : Nat} {qv : Value} {m : Nat} (hd : DAt B w g D lb lc qv m) (n : Int) :
    Calls Try.prog 16 #[.pointer (some ⟨g, 0, none⟩), .int .i64 n] w fun e w' => e = .returned (.tuple #[.agg (bc (read D n).1).toArray, .int .i64 (read D n).2]) ∧ Below w.heap.size w w' := by
  by_cases hg : D.gone = true
  · have hr : read D n = (zb, 9) := by simp [read, hg]
    rw [hr]
    exact read_dark hd n 9 (by simp [blk, powered, hg]) rfl
  · by_cases hn : inR D n = true
    · have hb : blk D n (powered D) = 0 := by simp [blk, powered, hg, hn]
      cases hy : young D.queue n with
      | some b =>
        have hr : read D n = (b, 0) := by simp [read, hg, hn, hy]
        rw [hr]
        exact read_young hd n hb b hy
      | none =>
        have hr : read D n = (D.laid.getD n.toNat [], 0) := by simp [read, hg, hn, hy]
        rw [hr]
        exact read_laid hd n hb hn hy
    · have hr : read D n = (zb, 2) := by simp [read, hg, hn]
      rw [hr]
      exact read_dark hd n 2 (by simp [blk, powered, hg, hn]) rfl
end Go.Proofs.Ytlngflonolhdhaa

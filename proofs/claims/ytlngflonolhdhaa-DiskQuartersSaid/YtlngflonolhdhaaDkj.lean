/- What the statements of this layer share: lives, walked. -/
import Derived.Test.YtlngflonolhdhaaDki
set_option linter.unusedVariables false
set_option linter.unusedSimpArgs false
namespace Go.Proofs.Ytlngflonolhdhaa
open Go.RowKit Go.Proofs.YtlngflonolhdhaaW.PrintLast

theorem new_few (w : World) :
    Calls Try.prog 6 #[.int .i64 63] w fun r w' => r = .returned (.tuple #[.pointer none, .int .i64 2]) ∧ w = w' := by
  go_enter Try.func6, Try.ntmps6
  go_wp2
  go_ret2
  exact ⟨rfl, rfl⟩

def lb1 : List Int := fillTo 1 64
def lb17 : List Int := fillTo 17 64
def L0 : St := fresh 64
def L1 : St := { L0 with left := 2 }
def L2 : St := { L0 with queue := [(0, lb17)], left := 1, work := 1 }
def L3 : St := { L0 with queue := [(0, lb17)], left := 0, gone := true, work := 1 }
def r4 : List Int := mix zb lb17 9
def L4 : St := { L0 with laid := L0.laid.set 0 r4, work := 1 }
theorem okB_lb1 : okB lb1 := ⟨by decide, by decide⟩
theorem okB_lb17 : okB lb17 := ⟨by decide, by decide⟩
theorem e_write1 : write L0 64 lb1 = (L0, 2) := by kernel_rfl
theorem e_arm : arm L0 2 = (L1, 0) := by kernel_rfl
theorem e_write2 : write L1 0 lb17 = (L2, 0) := by kernel_rfl
theorem e_flush : flush L2 = (L3, 9) := by kernel_rfl
theorem e_read1 : read L3 0 = (zb, 9) := by kernel_rfl
theorem e_crash : crash L3 [9] = L4 := by kernel_rfl
theorem e_read2 : read L4 0 = (r4, 0) := by kernel_rfl
theorem e_r4 : r4.length = 64 ∧ r4[0]? = some 17 ∧ r4[16]? = some 0 ∧ r4[32]? = some 0 ∧ r4[48]? = some 17 := by decide +kernel

section
variable {B : Nat} {w : World} {g : Nat}
theorem c_write1 (h : DiskAt B w g L0) : Calls Try.prog 9 #[.pointer (some ⟨g, 0, none⟩), .int .i64 64, .agg (bc lb1).toArray] w fun r w' => r = .returned (.int .i64 2) ∧ Below B w w' ∧ DiskAt B w' g L0 := by
  have := write_any h 64 lb1 okB_lb1 (by decide) (by decide)
  rw [e_write1] at this; exact this
theorem c_arm (h : DiskAt B w g L0) : Calls Try.prog 7 #[.pointer (some ⟨g, 0, none⟩), .int .i64 2] w fun r w' => r = .returned (.int .i64 0) ∧ Below B w w' ∧ DiskAt B w' g L1 := by
  have hl := h.lt
  have := arm_any h 2 (by decide)
  rw [e_arm] at this
  exact this.mono fun e w' ⟨h1, h2, h3⟩ => ⟨h1, below_of_grown h2 hl.1 (by omega), h3⟩
theorem c_write2 (h : DiskAt B w g L1) : Calls Try.prog 9 #[.pointer (some ⟨g, 0, none⟩), .int .i64 0, .agg (bc lb17).toArray] w fun r w' => r = .returned (.int .i64 0) ∧ Below B w w' ∧ DiskAt B w' g L2 := by
  have := write_any h 0 lb17 okB_lb17 (by decide) (by decide)
  rw [e_write2] at this; exact this
theorem c_flush (h : DiskAt B w g L2) : Calls Try.prog 8 #[.pointer (some ⟨g, 0, none⟩)] w fun r w' => r = .returned (.int .i64 9) ∧ Below B w w' ∧ DiskAt B w' g L3 := by
  have := flush_any h (by decide)
  rw [e_flush] at this; exact this
theorem c_steps (h : DiskAt B w g L3) : Calls Try.prog 11 #[.pointer (some ⟨g, 0, none⟩)] w fun r w' => r = .returned (.int .i64 1) ∧ w = w' := by
  obtain ⟨_, _, _, _, h⟩ := h; exact steps_any h
theorem c_loose (h : DiskAt B w g L3) : Calls Try.prog 13 #[.pointer (some ⟨g, 0, none⟩)] w fun r w' => r = .returned (.int .i64 1) ∧ w = w' := by
  obtain ⟨_, _, _, _, h⟩ := h; exact loose_any h
theorem c_read1 (h : DiskAt B w g L3) : Calls Try.prog 16 #[.pointer (some ⟨g, 0, none⟩), .int .i64 0] w fun r w' => r = .returned (.tuple #[.agg (bc zb).toArray, .int .i64 9]) ∧ Below w.heap.size w w' := by
  obtain ⟨_, _, _, _, h⟩ := h
  have := read_any h 0
  rw [e_read1] at this; exact this
theorem c_crash (h : DiskAt B w g L3) (k pc : Nat) (hk : w.heap[k]? = some (.cells #[.int .i64 9] 3 (0, 0))) : Calls Try.prog 15 #[.pointer (some ⟨g, 0, none⟩), .slice (some ⟨k, 0, none⟩) 1 pc] w fun r w' => r = .returned (.int .i64 0) ∧ Below B w w' ∧ DiskAt B w' g L4 := by
  have hp : Ints w (some ⟨k, 0, none⟩) [9] k := ⟨by decide, fun _ => ⟨0, rfl, fun j hj => by
    have : j = 0 := by simpa using hj
    subst this
    rw [cell_of_row _ _ _ _ _ _ hk]; rfl⟩⟩
  have := crash_any h (some ⟨k, 0, none⟩) [9] k pc hp (fun cur _ e => by rw [hk] at e; simp at e)
  rw [e_crash] at this; exact this
theorem c_read2 (h : DiskAt B w g L4) : Calls Try.prog 16 #[.pointer (some ⟨g, 0, none⟩), .int .i64 0] w fun r w' => r = .returned (.tuple #[.agg (bc r4).toArray, .int .i64 0]) ∧ Below w.heap.size w w' := by
  obtain ⟨_, _, _, _, h⟩ := h
  have := read_any h 0
  rw [e_read2] at this; exact this
end

set_option maxRecDepth 100000 in
set_option maxHeartbeats 4000000 in
theorem lives_any (w : World) :
    Calls Try.prog 12 #[] w fun r w' => r = .returned (.bool true) ∧ Below w.heap.size w w' := by
  have ha := alloc_block
  have hz : zb.length = 64 := rfl
  generalize hze : zb = z0 at ha hz
  have HZ := Lib.hid hze; clear hze
  go_enter Try.func12, Try.ntmps12
  go_wp2_with fail
  refine (new_few w).mono ?_
  rintro e w' ⟨rfl, rfl⟩
  go_wp2_with fail
  refine (new_any w.heap.size w 64 (by omega) (by omega) (Nat.le_refl _)).mono ?_
  rintro e w1 ⟨g, rfl, hd1, hb1⟩
  have HD := Lib.hid hd1; clear hd1
  have HB := Lib.hid hb1; clear hb1
  go_wp2_with fail
  refine (full_any _ 1).mono ?_
  rintro e w2 ⟨rfl, hb⟩
  replace HD := Lib.hid (HD.out.below hb)
  replace HB := Lib.hid (HB.out.trans (hb.mono HB.out.size)); clear hb
  go_wp2_with fail
  refine (c_write1 HD.out).mono ?_
  rintro e w3 ⟨rfl, hb, hd⟩
  replace HD := Lib.hid hd; clear hd
  replace HB := Lib.hid (HB.out.trans hb); clear hb
  go_wp2_with fail
  refine (c_arm HD.out).mono ?_
  rintro e w4 ⟨rfl, hb, hd⟩
  replace HD := Lib.hid hd; clear hd
  replace HB := Lib.hid (HB.out.trans hb); clear hb
  go_wp2_with fail
  refine (full_any _ 17).mono ?_
  rintro e w5 ⟨rfl, hb⟩
  replace HD := Lib.hid (HD.out.below hb)
  replace HB := Lib.hid (HB.out.trans (hb.mono HB.out.size)); clear hb
  go_wp2_with fail
  refine (c_write2 HD.out).mono ?_
  rintro e w6 ⟨rfl, hb, hd⟩
  replace HD := Lib.hid hd; clear hd
  replace HB := Lib.hid (HB.out.trans hb); clear hb
  go_wp2_with fail
  refine (c_flush HD.out).mono ?_
  rintro e w7 ⟨rfl, hb, hd⟩
  replace HD := Lib.hid hd; clear hd
  replace HB := Lib.hid (HB.out.trans hb); clear hb
  go_wp2_with fail
  refine (c_steps HD.out).mono ?_
  rintro e w' ⟨rfl, rfl⟩
  go_wp2_with fail
  refine (c_loose HD.out).mono ?_
  rintro e w' ⟨rfl, rfl⟩
  go_wp2_with fail
  refine (c_read1 HD.out).mono ?_
  rintro e w8 ⟨rfl, hb⟩
  replace HD := Lib.hid (HD.out.below hb)
  replace HB := Lib.hid (HB.out.trans (hb.mono HB.out.size)); clear hb
  rw [HZ.out]
  have hx := Box_new w8 z0 hz
  have HX := Lib.hid hx; clear hx
  have hi0 := size_block' z0 hz
  have ho0 := bc_all z0
  go_wp2_with (first
    | (refine wpList_alloc_told rfl 23 rfl (bc z0).toArray ha ?_; simp only [Act.put, List.setIfInBounds_toArray, List.set_cons_zero, List.set_cons_succ])
    | (refine wpList_store_mid rfl 23 (.tmp 11) (.tmp 51) rfl w8.heap.size 0 (bc z0).toArray (by rfl) (by rfl) (HX.out.room z0 hz) hi0 ho0 ?_; simp only [List.toList_toArray])
    | fail)
  have hW : Below w8.heap.size w8 ((w8.alloc (.cells (bc z0).toArray 23)).setCells w8.heap.size 0 (bc z0)) :=
    ((Below.refl _ _).alloc (Nat.le_refl _) _).grown (grownBy_setCells _ _ _ _) (by simp) (fun k hk => by simp at hk; omega)
  replace HD := Lib.hid (HD.out.below hW)
  replace HB := Lib.hid (HB.out.trans (hW.mono HB.out.size)); clear hW
  clear HX
  generalize (w8.alloc (.cells (bc z0).toArray 23)).setCells w8.heap.size 0 (bc z0) = w9 at HD HB ⊢
  have hW : Below w9.heap.size w9 (w9.alloc (.cells #[.int .i64 9] 3)) := (Below.refl _ _).alloc (Nat.le_refl _) _
  replace HD := Lib.hid (HD.out.below hW)
  replace HB := Lib.hid (HB.out.trans (hW.mono HB.out.size)); clear hW
  refine (c_crash HD.out w9.heap.size 1 (heap_alloc_new w9 _)).mono ?_
  rintro e w10 ⟨rfl, hb, hd⟩
  replace HD := Lib.hid hd; clear hd
  replace HB := Lib.hid (HB.out.trans hb); clear hb
  go_wp2_with fail
  refine (c_read2 HD.out).mono ?_
  rintro e w11 ⟨rfl, hb⟩
  replace HD := Lib.hid (HD.out.below hb)
  replace HB := Lib.hid (HB.out.trans (hb.mono HB.out.size)); clear hb
  have hr := e_r4
  generalize r4 = rr at hr ⊢
  obtain ⟨hrl, hr0, hr16, hr32, hr48⟩ := hr
  have hx := Box_new w11 z0 hz
  have HX := Lib.hid hx; clear hx
  have hi1 := size_block' rr hrl
  have ho1 := bc_all rr
  have hrng := (HX.out.set rr hrl).1
  have f0 : ((w11.alloc (.cells (bc z0).toArray 23)).setCells w11.heap.size 0 (bc rr)).cell? ⟨w11.heap.size, 0, none⟩ = some (.int .u8 17) := hrng 0 _ (by rw [bc_get, hr0]; rfl)
  have f1 : ((w11.alloc (.cells (bc z0).toArray 23)).setCells w11.heap.size 0 (bc rr)).cell? ⟨w11.heap.size, 16, none⟩ = some (.int .u8 0) := by have := hrng 16 _ (by rw [bc_get, hr16]; rfl); simpa using this
  have f2 : ((w11.alloc (.cells (bc z0).toArray 23)).setCells w11.heap.size 0 (bc rr)).cell? ⟨w11.heap.size, 32, none⟩ = some (.int .u8 0) := by have := hrng 32 _ (by rw [bc_get, hr32]; rfl); simpa using this
  have f3 : ((w11.alloc (.cells (bc z0).toArray 23)).setCells w11.heap.size 0 (bc rr)).cell? ⟨w11.heap.size, 48, none⟩ = some (.int .u8 17) := by have := hrng 48 _ (by rw [bc_get, hr48]; rfl); simpa using this
  have hW : Below w11.heap.size w11 ((w11.alloc (.cells (bc z0).toArray 23)).setCells w11.heap.size 0 (bc rr)) :=
    ((Below.refl _ _).alloc (Nat.le_refl _) _).grown (grownBy_setCells _ _ _ _) (by simp) (fun k hk => by simp at hk; omega)
  replace HB := Lib.hid (HB.out.trans (hW.mono HB.out.size)); clear hW
  clear hr0 hr16 hr32 hr48 hrng
  go_wp2_with (first
    | (refine wpList_alloc_told rfl 23 rfl (bc z0).toArray ha ?_; simp only [Act.put, List.setIfInBounds_toArray, List.set_cons_zero, List.set_cons_succ])
    | (refine wpList_store_mid rfl 23 (.tmp 14) (.tmp 59) rfl w11.heap.size 0 (bc rr).toArray (by rfl) (by rfl) (HX.out.room rr hrl) hi1 ho1 ?_; simp only [List.toList_toArray])
    | fail)
  go_ret
  exact ⟨rfl, HB.out⟩
end Go.Proofs.Ytlngflonolhdhaa

/- name: lives, walked. -/
import Derived.Test.YtmnfihdbibjijaaDoorNa7
set_option linter.unusedVariables false
set_option linter.unusedSimpArgs false
namespace Go.Proofs.YtmnfihdbibjijaaDoor
open Go.RowKit Go.Proofs.YtmnfihdbibjijaaDoorW.PrintWords Go.Proofs.YtmnfihdbibjijaaDoor.PNamePaths
open Go.Lib (Utf8Tabs decodeGo splitB countB)
open Go.Proofs (Utf8Tabs_below)

/-- What the calls of this layer lean on: two tables, and one variable of the library's. -/
def Laid (w : World) : Prop := Utf8Tabs 0 1 w ∧ ∃ m, w.cell? ⟨2, 0, none⟩ = some (.int .i64 m)
theorem Laid.below {w w' : World} (h : Laid w) (hb : Below w.heap.size w w') : Laid w' := by
  obtain ⟨h1, m, h2⟩ := h
  exact ⟨Utf8Tabs_below h1 hb, m, (hb.cell (p := ⟨2, 0, none⟩) (World.block_lt_of_cell? w _ h2)).trans h2⟩
theorem Path_laid (w : World) (s : ByteArray) (hs : s.size < 4294967281) (h : Laid w) : Calls Tryd.prog 12 #[.string s] w (PathPost s w) := by
  obtain ⟨h1, m, h2⟩ := h
  exact Path_any w s m hs h1 h2
theorem numbers_at {w : World} {b : Nat} {l : List Int} {t : TypeId} (h : w.heap[b]? = some (.cells (l.map (Value.int .u8)).toArray t (0, 0))) (hl : l.length ≤ 9223372036854775807) : Kd.C (Kd.int .u8) w (some ⟨b, 0, none⟩) l.length l := by
  refine ⟨rfl, hl, fun hn => ⟨_, rfl, fun j p hj => ⟨[.int .u8 p], rfl, rfl, fun i u hu => ?_⟩⟩⟩
  have hi : i = 0 := by
    have := (List.getElem?_eq_some_iff.1 hu).1; simpa using this
  subst hi
  simp at hu; subst hu
  show World.cell? _ ((⟨b, 0, none⟩ : Addr).add (j * 1 + 0)) = _
  rw [Addr.add_mid]
  unfold World.cell?
  simp only [h]
  simp [hj]
theorem text_any (w : World) (b : Nat) (l : List Int) (t : TypeId) (h : w.heap[b]? = some (.cells (l.map (Value.int .u8)).toArray t (0, 0))) (hl : l.length ≤ 1000) (r : ByteArray) (hr : strOfNums l = r) :
    Calls Tryd.prog 23 #[.slice (some ⟨b, 0, none⟩) l.length l.length] w fun e w' => e = .returned (.string r) ∧ Below w.heap.size w w' :=
  (wharfagelaw02_text.calls (some ⟨b, 0, none⟩) l.length l r w (numbers_at h (by omega)) (Nat.le_refl _) (by unfold wharfagelaw02_text.f; rw [hr])).mono fun e w' ⟨h1, h2⟩ => ⟨h1, h2.below⟩
theorem textsAt_of {w : World} {b : Nat} {l : List ByteArray} {t : TypeId} (h : w.heap[b]? = some (.cells (l.map Value.string).toArray t (0, 0))) (hl : l.length ≤ 9223372036854775807) : TextsAt w (some ⟨b, 0, none⟩) l := by
  refine ⟨rfl, hl, fun hn => ⟨_, rfl, fun j p hj => ⟨[.string p], rfl, rfl, fun i u hu => ?_⟩⟩⟩
  have hi : i = 0 := by
    have := (List.getElem?_eq_some_iff.1 hu).1; simpa using this
  subst hi
  simp at hu; subst hu
  show World.cell? _ ((⟨b, 0, none⟩ : Addr).add (j * 1 + 0)) = _
  rw [Addr.add_mid]
  unfold World.cell?
  simp only [h]
  simp [hj]
def b0 : ByteArray := ⟨#[195, 169, 97]⟩
theorem c1 : runesP everyP b0 = (2, true) := by decide +kernel
theorem c2 : pathP ⟨#[97, 47, 98]⟩ = ([⟨#[97]⟩, ⟨#[98]⟩], 0) := by decide +kernel
theorem c3 : pathP ⟨#[]⟩ = ([], 0) := by decide +kernel
theorem c4 : pathP ⟨#[97, 47, 47, 98]⟩ = ([], 5) := by decide +kernel
theorem c5 : writeP [⟨#[97]⟩, ⟨#[98]⟩] = (⟨#[97, 47, 98]⟩, 0) := by decide +kernel
theorem c6 : isP ⟨#[97]⟩ = true := by decide +kernel
theorem c7 : isP ⟨#[46, 46]⟩ = false := by decide +kernel
theorem c8 : isP ⟨#[97, 47, 98]⟩ = false := by decide +kernel
theorem c9 : isP ⟨#[195, 169]⟩ = true := by decide +kernel
theorem c10 : isP ⟨#[255]⟩ = false := by decide +kernel
theorem c11 : isP ⟨#[239, 191, 189]⟩ = true := by decide +kernel
theorem c12 : mayP [⟨#[46, 46]⟩] = false := by decide +kernel
set_option maxRecDepth 100000 in
set_option maxHeartbeats 2000000 in
theorem lives_any (w : World) (h : Laid w) : Calls Tryd.prog 11 #[] w fun e w' => e = .returned (.bool true) ∧ Below w.heap.size w w' := by
  have H := Lib.hid h; clear h
  go_enter Tryd.func11, Tryd.ntmps11
  have hB0 : Below w.heap.size w w := Below.refl _ _
  go_wp2_with fail
  have hh1 := heap_alloc_new w (.cells #[.int .u8 195, .int .u8 169, .int .u8 97] 5)
  have hA1 : Below w.heap.size w (w.alloc (.cells #[.int .u8 195, .int .u8 169, .int .u8 97] 5)) := hB0.alloc hB0.size _
  generalize w.alloc (.cells #[.int .u8 195, .int .u8 169, .int .u8 97] 5) = W1 at hh1 hA1 ⊢
  refine (text_any W1 _ [195, 169, 97] _ hh1 (by decide) b0 (by decide +kernel)).mono ?_
  rintro e w2 ⟨rfl, hb2⟩
  have hB2 := hA1.trans (hb2.mono hA1.size)
  clear hb2
  go_wp2_with fail
  refine (Runes_any w2 b0 (by decide) (H.out.below hB2).1).mono ?_
  rw [c1]
  rintro e w3 ⟨rfl, hb3⟩
  have hB3 := hB2.trans (hb3.mono hB2.size)
  clear hb3
  unfold pairR
  go_wp2_with fail
  have hp := Path_laid w3 ⟨#[97, 47, 98]⟩ (by decide) (H.out.below hB3)
  refine hp.mono ?_
  clear hp
  rintro e w4 ⟨A4, c4_, he, hta4, hc4_, hb4⟩
  rw [c2] at he hta4 hc4_
  subst he
  have hB4 := hB3.trans (hb4.mono hB3.size)
  clear hb4
  have HTA := Lib.hid hta4; clear hta4
  have HCA := Lib.hid hc4_; clear hc4_
  have hPz : Below w4.heap.size w4 w4 := Below.refl _ _
  go_wp2_with fail
  have hp := Path_laid w4 ⟨#[]⟩ (by decide) (H.out.below hB4)
  refine hp.mono ?_
  clear hp
  rintro e w5 ⟨A5, c5_, he, hta5, hc5_, hb5⟩
  rw [c3] at he hta5 hc5_
  subst he
  have hB5 := hB4.trans (hb5.mono hB4.size)
  have hP5 := hPz.trans (hb5.mono hPz.size)
  clear hb5
  clear hta5 hc5_
  go_wp2_with fail
  have hp := Path_laid w5 ⟨#[97, 47, 47, 98]⟩ (by decide) (H.out.below hB5)
  refine hp.mono ?_
  clear hp
  rintro e w6 ⟨A6, c6_, he, hta6, hc6_, hb6⟩
  rw [c4] at he hta6 hc6_
  subst he
  have hB6 := hB5.trans (hb6.mono hB5.size)
  have hP6 := hP5.trans (hb6.mono hP5.size)
  clear hb6
  clear hta6 hc6_
  go_wp2_with fail
  have hh7 := heap_alloc_new w6 (.cells #[.string ⟨#[97]⟩, .string ⟨#[98]⟩] 9)
  have hA7 : Below w.heap.size w (w6.alloc (.cells #[.string ⟨#[97]⟩, .string ⟨#[98]⟩] 9)) := hB6.alloc hB6.size _
  have hPA7 : Below w4.heap.size w4 (w6.alloc (.cells #[.string ⟨#[97]⟩, .string ⟨#[98]⟩] 9)) := hP6.alloc hP6.size _
  generalize w6.heap.size = bk7 at hh7 ⊢
  generalize w6.alloc (.cells #[.string ⟨#[97]⟩, .string ⟨#[98]⟩] 9) = W7 at hh7 hA7 hPA7 ⊢
  have hta := textsAt_of (l := [⟨#[97]⟩, ⟨#[98]⟩]) hh7 (by decide)
  refine (Write_any W7 _ 2 [⟨#[97]⟩, ⟨#[98]⟩] hta (Nat.le_refl _) (by intro s hs; simp at hs; rcases hs with rfl | rfl <;> decide) (H.out.below hA7).1).mono ?_
  rw [c5]; clear hta
  rintro e w8 ⟨rfl, hb8⟩
  have hB8 := hA7.trans (hb8.mono hA7.size)
  have hP8 := hPA7.trans (hb8.mono hPA7.size)
  clear hb8
  go_wp2_with fail
  refine (Is_any w8 ⟨#[97]⟩ (by decide) (H.out.below hB8).1).mono ?_
  rw [c6]
  rintro e w9 ⟨rfl, hb9⟩
  have hB9 := hB8.trans (hb9.mono hB8.size)
  have hP9 := hP8.trans (hb9.mono hP8.size)
  clear hb9
  go_wp2_with fail
  refine (Is_any w9 ⟨#[46, 46]⟩ (by decide) (H.out.below hB9).1).mono ?_
  rw [c7]
  rintro e w10 ⟨rfl, hb10⟩
  have hB10 := hB9.trans (hb10.mono hB9.size)
  have hP10 := hP9.trans (hb10.mono hP9.size)
  clear hb10
  go_wp2_with fail
  refine (Is_any w10 ⟨#[97, 47, 98]⟩ (by decide) (H.out.below hB10).1).mono ?_
  rw [c8]
  rintro e w11 ⟨rfl, hb11⟩
  have hB11 := hB10.trans (hb11.mono hB10.size)
  have hP11 := hP10.trans (hb11.mono hP10.size)
  clear hb11
  go_wp2_with fail
  have hh12 := heap_alloc_new w11 (.cells #[.int .u8 195, .int .u8 169] 5)
  have hA12 : Below w.heap.size w (w11.alloc (.cells #[.int .u8 195, .int .u8 169] 5)) := hB11.alloc hB11.size _
  have hPA12 : Below w4.heap.size w4 (w11.alloc (.cells #[.int .u8 195, .int .u8 169] 5)) := hP11.alloc hP11.size _
  generalize w11.heap.size = bk12 at hh12 ⊢
  generalize w11.alloc (.cells #[.int .u8 195, .int .u8 169] 5) = W12 at hh12 hA12 hPA12 ⊢
  refine (text_any W12 _ [195, 169] _ hh12 (by decide) ⟨#[195, 169]⟩ (by decide +kernel)).mono ?_
  rintro e w13 ⟨rfl, hb13⟩
  have hB13 := hA12.trans (hb13.mono hA12.size)
  have hP13 := hPA12.trans (hb13.mono hPA12.size)
  clear hb13
  go_wp2_with fail
  refine (Is_any w13 ⟨#[195, 169]⟩ (by decide) (H.out.below hB13).1).mono ?_
  rw [c9]
  rintro e w14 ⟨rfl, hb14⟩
  have hB14 := hB13.trans (hb14.mono hB13.size)
  have hP14 := hP13.trans (hb14.mono hP13.size)
  clear hb14
  go_wp2_with fail
  have hh15 := heap_alloc_new w14 (.cells #[.int .u8 255] 5)
  have hA15 : Below w.heap.size w (w14.alloc (.cells #[.int .u8 255] 5)) := hB14.alloc hB14.size _
  have hPA15 : Below w4.heap.size w4 (w14.alloc (.cells #[.int .u8 255] 5)) := hP14.alloc hP14.size _
  generalize w14.heap.size = bk15 at hh15 ⊢
  generalize w14.alloc (.cells #[.int .u8 255] 5) = W15 at hh15 hA15 hPA15 ⊢
  refine (text_any W15 _ [255] _ hh15 (by decide) ⟨#[255]⟩ (by decide +kernel)).mono ?_
  rintro e w16 ⟨rfl, hb16⟩
  have hB16 := hA15.trans (hb16.mono hA15.size)
  have hP16 := hPA15.trans (hb16.mono hPA15.size)
  clear hb16
  go_wp2_with fail
  refine (Is_any w16 ⟨#[255]⟩ (by decide) (H.out.below hB16).1).mono ?_
  rw [c10]
  rintro e w17 ⟨rfl, hb17⟩
  have hB17 := hB16.trans (hb17.mono hB16.size)
  have hP17 := hP16.trans (hb17.mono hP16.size)
  clear hb17
  go_wp2_with fail
  have hh18 := heap_alloc_new w17 (.cells #[.int .u8 239, .int .u8 191, .int .u8 189] 5)
  have hA18 : Below w.heap.size w (w17.alloc (.cells #[.int .u8 239, .int .u8 191, .int .u8 189] 5)) := hB17.alloc hB17.size _
  have hPA18 : Below w4.heap.size w4 (w17.alloc (.cells #[.int .u8 239, .int .u8 191, .int .u8 189] 5)) := hP17.alloc hP17.size _
  generalize w17.heap.size = bk18 at hh18 ⊢
  generalize w17.alloc (.cells #[.int .u8 239, .int .u8 191, .int .u8 189] 5) = W18 at hh18 hA18 hPA18 ⊢
  refine (text_any W18 _ [239, 191, 189] _ hh18 (by decide) ⟨#[239, 191, 189]⟩ (by decide +kernel)).mono ?_
  rintro e w19 ⟨rfl, hb19⟩
  have hB19 := hA18.trans (hb19.mono hA18.size)
  have hP19 := hPA18.trans (hb19.mono hPA18.size)
  clear hb19
  go_wp2_with fail
  refine (Is_any w19 ⟨#[239, 191, 189]⟩ (by decide) (H.out.below hB19).1).mono ?_
  rw [c11]
  rintro e w20 ⟨rfl, hb20⟩
  have hB20 := hB19.trans (hb20.mono hB19.size)
  have hP20 := hP19.trans (hb20.mono hP19.size)
  clear hb20
  go_wp2_with fail
  have hh21 := heap_alloc_new w20 (.cells #[.string ⟨#[97]⟩, .string ⟨#[98]⟩] 9)
  have hA21 : Below w.heap.size w (w20.alloc (.cells #[.string ⟨#[97]⟩, .string ⟨#[98]⟩] 9)) := hB20.alloc hB20.size _
  have hPA21 : Below w4.heap.size w4 (w20.alloc (.cells #[.string ⟨#[97]⟩, .string ⟨#[98]⟩] 9)) := hP20.alloc hP20.size _
  generalize w20.heap.size = bk21 at hh21 ⊢
  generalize w20.alloc (.cells #[.string ⟨#[97]⟩, .string ⟨#[98]⟩] 9) = W21 at hh21 hA21 hPA21 ⊢
  have hta := textsAt_of (l := [⟨#[97]⟩, ⟨#[98]⟩]) hh21 (by decide)
  refine (Texts_any W21 _ _ _ 2 [⟨#[97]⟩, ⟨#[98]⟩] [⟨#[97]⟩, ⟨#[98]⟩] (HTA.out.below hPA21) hta HCA.out (Nat.le_refl _) (by decide)).mono ?_
  rw [show sameL [⟨#[97]⟩, ⟨#[98]⟩] [⟨#[97]⟩, ⟨#[98]⟩] = true by decide +kernel]; clear hta
  rintro e w22 ⟨rfl, hb22⟩
  have hB22 := hA21.trans (hb22.mono hA21.size)
  have hP22 := hPA21.trans (hb22.mono hPA21.size)
  clear hb22
  go_wp2_with fail
  have hh23 := heap_alloc_new w22 (.cells #[.string ⟨#[46, 46]⟩] 9)
  have hA23 : Below w.heap.size w (w22.alloc (.cells #[.string ⟨#[46, 46]⟩] 9)) := hB22.alloc hB22.size _
  have hPA23 : Below w4.heap.size w4 (w22.alloc (.cells #[.string ⟨#[46, 46]⟩] 9)) := hP22.alloc hP22.size _
  generalize w22.heap.size = bk23 at hh23 ⊢
  generalize w22.alloc (.cells #[.string ⟨#[46, 46]⟩] 9) = W23 at hh23 hA23 hPA23 ⊢
  have hta := textsAt_of (l := [⟨#[46, 46]⟩]) hh23 (by decide)
  refine (May_any W23 _ 1 [⟨#[46, 46]⟩] hta (by intro s hs; simp at hs; subst hs; decide) (H.out.below hA23).1).mono ?_
  rw [c12]; clear hta
  rintro e w24 ⟨rfl, hb24⟩
  have hB24 := hA23.trans (hb24.mono hA23.size)
  have hP24 := hPA23.trans (hb24.mono hPA23.size)
  clear hb24
  go_wp2_with fail
  go_ret
  exact ⟨rfl, hB24⟩
end Go.Proofs.YtmnfihdbibjijaaDoor

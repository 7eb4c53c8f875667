/- fresh: Tell, walked, where there is none. -/
import Derived.Test.YtpnhjckjmpkbfaaFrf
set_option linter.unusedVariables false
set_option linter.unusedSimpArgs false
namespace Go.Proofs.Ytpnhjckjmpkbfaa
open Go.RowKit Go.Proofs.YtpnhjckjmpkbfaaW.PrintLast

set_option maxRecDepth 100000 in
set_option maxHeartbeats 2000000 in
theorem tell_full {B : Nat} {w : World} {v : Value} {l : List F} (hv0 : Own w B v l) (ho : Ok l) (f : F) (ha0 : 0 ≤ f.at_) (ha : f.at_ ≤ 1099511627776) (hfull : l.length = 64) (hnew : got l f.h = none) (o : F) (hol : o ∈ l) (hfirst : ∀ g ∈ l, g.at_ ≤ o.at_ → g.h = o.h) :
  Calls Try.prog 5 #[v, .agg (ac f).toArray, .int .u64 f.at_] w fun r w' => ∃ v', r = .returned (.tuple #[v', .int .i64 0]) ∧ Below w.heap.size w w' ∧ Own w' w.heap.size v' (insP (dropP l o.h) (newF l f)) := by
  have hn : l.length ≤ 1000 := by have := ho.most; omega
  have HO := Lib.hid ho; clear ho
  have HR := Lib.hid hfull; clear hfull
  have HFI := Lib.hid hfirst; clear hfirst
  have hdn0 : dropP l f.h = l := by unfold dropP; rw [hnew]; rfl
  have HD0 := Lib.hid hdn0; clear hdn0
  have HNW := Lib.hid hnew; clear hnew
  obtain ⟨hb0, hbx⟩ := box_attr w f
  have HV := Lib.hid (hv0.below hb0)
  have HV0 := Lib.hid hv0; clear hv0
  have hdn : decide (1099511627776 < f.at_) = false := by rw [decide_eq_false_iff_not]; omega
  obtain ⟨⟨x, y⟩, dir, sz, chg, now, spn⟩ := f
  dsimp only [ac] at *
  go_enter Try.func5, Try.ntmps5
  go_wp2_with fail
  generalize w.alloc (.cells #[.int .u32 x, .int .u32 y, .bool dir, .int .u32 sz, .int .u64 chg] 35) = W at hb0 hbx HV ⊢
  obtain ⟨A, cap, hve, hrd⟩ := HV.out.form
  subst hve
  have HRd := Lib.hid hrd; clear hrd
  refine (may_true W A cap l HRd.out HO.out).mono ?_
  rintro e w1 ⟨rfl, hb1⟩
  have hB1 := hb0.trans (hb1.mono hb0.size)
  have hcl : w.heap.size < W.heap.size := lt_of_heap hbx
  have hbx1 : w1.heap[w.heap.size]? = _ := (hb1.block _ hcl).trans hbx
  have hfs := attr_cells hbx1
  obtain ⟨k0, k1, k2, k3, k4⟩ := hfs
  have hcl1 : w.heap.size < w1.heap.size := lt_of_heap hbx1
  clear hbx
  have HBX := Lib.hid hbx1; clear hbx1
  go_wp2_with fail
  have hal := heap_alloc_new w1 (.cells #[.int .u32 x, .int .u32 y, .bool dir, .int .u32 sz, .int .u64 chg, .int .u64 now, .int .u64 2] 42)
  have hab : Below w1.heap.size w1 (w1.alloc (.cells #[.int .u32 x, .int .u32 y, .bool dir, .int .u32 sz, .int .u64 chg, .int .u64 now, .int .u64 2] 42)) := (Below.refl _ _).alloc (Nat.le_refl _) _
  generalize w1.alloc (.cells #[.int .u32 x, .int .u32 y, .bool dir, .int .u32 sz, .int .u64 chg, .int .u64 now, .int .u64 2] 42) = W2 at hal hab ⊢
  have HBX2 := Lib.hid ((hab.block _ hcl1).trans HBX.out)
  have HV2 := Lib.hid ((HV.out.below hb1).below hab)
  have HRd2 := Lib.hid ((HRd.out.below hb1).below hab)
  have hB2 := hB1.trans (hab.mono hB1.size)
  have hkf : w.heap.size < w1.heap.size := hcl1
  generalize w1.heap.size = kf at hal hkf ⊢
  clear hcl1 hb1 hab HBX HV HRd hB1 k0 k1 k2 k3 k4 w1 hb0 hcl W
  have HAL := Lib.hid hal
  have hkl := lt_of_heap hal
  have hcl := lt_of_heap HBX2.out
  clear hal
  refine (get_any W2 A cap l (x, y) HRd2.out HO.out).mono ?_
  rintro e w3 ⟨rfl, hb3⟩
  have HBX3 := Lib.hid ((hb3.block _ hcl).trans HBX2.out)
  have HAL3 := Lib.hid ((hb3.block _ hkl).trans HAL.out)
  have HV3 := Lib.hid (HV2.out.below hb3)
  have hB3 := hB2.trans (hb3.mono hB2.size)
  have hkl3 := lt_of_heap HAL3.out
  have hcl3 := lt_of_heap HBX3.out
  obtain ⟨k0, k1, k2, k3, k4⟩ := attr_cells HBX3.out
  clear HBX2 HAL HV2 HRd2 hB2 hkl hcl hb3 W2
  have hg := HNW.out
  simp only [hg, Option.isSome_none, gotc, zfc]
  have hnf : newF l ⟨(x, y), dir, sz, chg, now, spn⟩ = ⟨(x, y), dir, sz, chg, now, 2⟩ := by unfold newF; rw [hg]; rfl
  have HNF := Lib.hid hnf; clear hnf hg
  go_wp2_with fail
  have hab : Below w3.heap.size w3 (w3.alloc (.cells #[.int .u32 0, .int .u32 0, .bool false, .int .u32 0, .int .u64 0, .int .u64 0, .int .u64 0] 42)) := (Below.refl _ _).alloc (Nat.le_refl _) _
  generalize w3.alloc (.cells #[.int .u32 0, .int .u32 0, .bool false, .int .u32 0, .int .u64 0, .int .u64 0, .int .u64 0] 42) = W4 at hab ⊢
  have HAL4 := Lib.hid ((hab.block _ hkl3).trans HAL3.out)
  have HBX4 := Lib.hid ((hab.block _ hcl3).trans HBX3.out)
  have hB4 := hB3.trans (hab.mono hB3.size)
  have HV4 := Lib.hid (HV0.out.below hB4)
  clear HBX3 HAL3 HV3 hB3 hkl3 hcl3 k0 k1 k2 k3 k4 hab
  have hcl4 := lt_of_heap HBX4.out
  have hkl4 := lt_of_heap HAL4.out
  refine (drop_any HV4.out HO.out (x, y)).mono ?_
  rintro e w5 ⟨v5, rfl, hb5, ho5⟩
  have hB5 := hB4.trans (hb5.mono hB4.size)
  have HBX5 := Lib.hid ((hb5.block _ hcl4).trans HBX4.out)
  have HAL5 := Lib.hid ((hb5.block _ hkl4).trans HAL4.out)
  have ho5' := ho5.base hB4.size
  obtain ⟨A5, cap5, rfl, hr5⟩ := ho5.form
  clear ho5
  rw [HD0.out] at ho5' hr5
  have HO5 := Lib.hid ho5'; clear ho5'
  have HR5 := Lib.hid hr5; clear hr5
  have hl0 : 0 < l.length := by have := HR.out; omega
  have hne : ((l.length : Int) == 64) = true := by rw [HR.out]; rfl
  simp only [HD0.out]
  go_wp2_with fail
  refine (oldest_any w5 A5 cap5 l HR5.out hl0 hn o HFI.out hol).mono ?_
  rintro e w6 ⟨rfl, hb6⟩
  have hB6 := hB5.trans (hb6.mono hB5.size)
  have HBX6 := Lib.hid ((hb6.block _ (lt_of_heap HBX5.out)).trans HBX5.out)
  have HAL6 := Lib.hid ((hb6.block _ (lt_of_heap HAL5.out)).trans HAL5.out)
  have HO6 := Lib.hid (HO5.out.below hb6)
  clear HBX4 HAL4 HV4 hcl4 hkl4 hb5 hB4 HBX5 HAL5 HO5 HR5 hb6 hB5
  have hohv : hv o.h = .agg #[.int .u32 o.h.1, .int .u32 o.h.2] := rfl
  go_wp2_with fail
  refine (drop_any HO6.out HO.out o.h).mono ?_
  rintro e w7 ⟨v7, rfl, hb7, ho7⟩
  have hB7 := hB6.trans (hb7.mono hB6.size)
  have HBX7 := Lib.hid ((hb7.block _ (lt_of_heap HBX6.out)).trans HBX6.out)
  have HAL7 := Lib.hid ((hb7.block _ (lt_of_heap HAL6.out)).trans HAL6.out)
  obtain ⟨A7, cap7, rfl, hr7⟩ := ho7.form
  have HO7 := Lib.hid (ho7.base hB6.size); clear ho7
  have HR7 := Lib.hid hr7; clear hr7
  have HOD := Lib.hid (HO.out.dropP o.h)
  have hnd : (dropP l o.h).length ≤ 1000 := by have := HOD.out.most; omega
  have hpl : pos (dropP l o.h) (x, y) ≤ (dropP l o.h).length := pos_le _ _
  generalize hdd : dropP l o.h = d at HO7 HR7 HOD hnd hpl ⊢
  have HDD := Lib.hid hdd; clear hdd hne
  obtain ⟨k0, k1, k2, k3, k4⟩ := attr_cells HBX7.out
  clear HBX6 HAL6 HO6 hb7 hB6
  go_wp2_with fail
  refine (find_any w7 A7 cap7 d (x, y) HR7.out HOD.out.sorted hnd).mono ?_
  clear k0 k1 k2 k3 k4
  rintro e w9 ⟨rfl, hb9⟩
  have hB9 := hB7.trans (hb9.mono hB7.size)
  have HAL9 := Lib.hid ((hb9.block _ (lt_of_heap HAL7.out)).trans HAL7.out)
  have HO9 := Lib.hid (HO7.out.below hb9)
  obtain ⟨k0, k1, k2, k3, k4, k5, k6, k7⟩ := f_cells HAL9.out
  generalize hmm : pos d (x, y) = m at hpl ⊢
  have HMM := Lib.hid hmm; clear hmm
  clear HBX7 HAL7 HO7 HR7 hb9 hB7
  go_wp2_with fail
  have hal := heap_alloc_new w9 (.cells #[.int .u32 x, .int .u32 y, .bool dir, .int .u32 sz, .int .u64 chg, .int .u64 now, .int .u64 2] 42)
  have hab : Below w9.heap.size w9 (w9.alloc (.cells #[.int .u32 x, .int .u32 y, .bool dir, .int .u32 sz, .int .u64 chg, .int .u64 now, .int .u64 2] 42)) := (Below.refl _ _).alloc (Nat.le_refl _) _
  have hBb := hB9.trans (hab.mono hB9.size)
  have HOb := HO9.out.below hab
  have hkv : ∀ c, (Value.slice A7 d.length cap7) ≠ .slice (some ⟨w9.heap.size, 0, none⟩) d.length c := by
    intro c hc
    rcases HO9.out.2 with ⟨e, _⟩ | ⟨g', c', cur, e, _, hB, _⟩
    · rw [e] at hc; cases hc
    · have := lt_of_heap hB
      rw [e] at hc
      simp only [Value.slice.injEq, Option.some.injEq, Addr.mk.injEq] at hc
      omega
  clear k0 k1 k2 k3 k4 k5 k6 k7
  refine (insert_any HOb hBb.size hnd m hpl ⟨(x, y), dir, sz, chg, now, 2⟩ w9.heap.size hal hkv).mono ?_
  rintro e wb ⟨vb, rfl, hbb, hob⟩
  go_wp2_with fail
  go_ret2
  refine ⟨_, rfl, hBb.trans hbb, ?_⟩
  unfold insP
  rw [HNF.out, HDD.out, HMM.out]
  exact hob
end Go.Proofs.Ytpnhjckjmpkbfaa

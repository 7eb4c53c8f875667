/- fresh: Tell, walked, where there is room. -/
import Derived.Test.YtpnhjckjmpkbfaaFre
set_option linter.unusedVariables false
set_option linter.unusedSimpArgs false
namespace Go.Proofs.Ytpnhjckjmpkbfaa
open Go.RowKit Go.Proofs.YtpnhjckjmpkbfaaW.PrintLast

def ac (f : F) : List Value := [.int .u32 f.h.1, .int .u32 f.h.2, .bool f.dir, .int .u32 f.size, .int .u64 f.change]
def spanP (o : Option F) (c : Int) : Int := match o with | some g => if g.change = c then (if 2 * g.span ≤ 16 then 2 * g.span else 16) else 2 | none => 2
def newF (l : List F) (f : F) : F := { f with span := spanP (got l f.h) f.change }
def insP (d : List F) (f : F) : List F := insAt d (pos d f.h) f
theorem box_attr (w : World) (f : F) : Below w.heap.size w (w.alloc (.cells (ac f).toArray 35)) ∧ (w.alloc (.cells (ac f).toArray 35)).heap[w.heap.size]? = some (.cells (ac f).toArray 35 (0, 0)) :=
  ⟨(Below.refl _ _).alloc (Nat.le_refl _) _, heap_alloc_new w _⟩
theorem build_f (W : World) (f : F) (now : Int) : (Instr.build 42 #[(0, .agg (ac f).toArray), (1, .int .u64 now), (2, .int .u64 2)]).run Try.prog W = .ok (.agg (fc { f with at_ := now, span := 2 }).toArray) W := by kernel_rfl
theorem f_cells {w : World} {c : Nat} {x y : Int} {d : Bool} {s g t p : Int} (h : w.heap[c]? = some (.cells #[.int .u32 x, .int .u32 y, .bool d, .int .u32 s, .int .u64 g, .int .u64 t, .int .u64 p] 42 (0, 0))) :
    w.cell? ⟨c, 0, none⟩ = some (.int .u32 x) ∧ w.cell? ⟨c, 1, none⟩ = some (.int .u32 y) ∧ w.cell? ⟨c, 2, none⟩ = some (.bool d) ∧ w.cell? ⟨c, 3, none⟩ = some (.int .u32 s) ∧ w.cell? ⟨c, 4, none⟩ = some (.int .u64 g) ∧ w.cell? ⟨c, 5, none⟩ = some (.int .u64 t) ∧ w.cell? ⟨c, 6, none⟩ = some (.int .u64 p) ∧ w.frozen? ⟨c, 6, none⟩ = false := by
  refine ⟨?_, ?_, ?_, ?_, ?_, ?_, ?_, ?_⟩
  iterate 7 (rw [cell_of_row _ _ _ _ _ _ h]; rfl)
  rw [frozen_of_row _ _ _ _ _ h]
theorem Ok.dropP {l : List F} (h : Ok l) (k : Int × Int) : Ok (dropP l k) := by
  have hsub : (Go.Proofs.Ytpnhjckjmpkbfaa.dropP l k).Sublist l := by
    unfold Go.Proofs.Ytpnhjckjmpkbfaa.dropP
    split
    · have := List.Sublist.append (List.Sublist.refl (l.take (pos l k))) (List.drop_sublist_drop_left l (Nat.le_succ (pos l k)))
      rwa [List.take_append_drop] at this
    · exact List.Sublist.refl _
  exact ⟨h.sorted.sublist hsub, fun f hf => h.fine f (hsub.subset hf), Nat.le_trans hsub.length_le h.most, fun f hf => h.at0 f (hsub.subset hf)⟩
theorem tell_cases (l : List F) (h : Int × Int) (c : Int) : got l h = none ∨ (∃ g, got l h = some g ∧ g.change = c ∧ 2 * g.span ≤ 16) ∨ (∃ g, got l h = some g ∧ g.change = c ∧ ¬ 2 * g.span ≤ 16) ∨ (∃ g, got l h = some g ∧ g.change ≠ c) := by
  cases hg : got l h with
  | none => exact .inl rfl
  | some g =>
    by_cases hc : g.change = c
    · by_cases hs : 2 * g.span ≤ 16
      · exact .inr (.inl ⟨g, rfl, hc, hs⟩)
      · exact .inr (.inr (.inl ⟨g, rfl, hc, hs⟩))
    · exact .inr (.inr (.inr ⟨g, rfl, hc⟩))
theorem attr_cells {w : World} {c : Nat} {x y : Int} {d : Bool} {s g : Int} (h : w.heap[c]? = some (.cells #[.int .u32 x, .int .u32 y, .bool d, .int .u32 s, .int .u64 g] 35 (0, 0))) :
    w.cell? ⟨c, 0, none⟩ = some (.int .u32 x) ∧ w.cell? ⟨c, 1, none⟩ = some (.int .u32 y) ∧ w.cell? ⟨c, 2, none⟩ = some (.bool d) ∧ w.cell? ⟨c, 3, none⟩ = some (.int .u32 s) ∧ w.cell? ⟨c, 4, none⟩ = some (.int .u64 g) := by
  refine ⟨?_, ?_, ?_, ?_, ?_⟩ <;> rw [cell_of_row _ _ _ _ _ _ h] <;> rfl

set_option maxRecDepth 100000 in
set_option maxHeartbeats 2000000 in
theorem tell_any {B : Nat} {w : World} {v : Value} {l : List F} (hv0 : Own w B v l) (ho : Ok l) (f : F) (ha0 : 0 ≤ f.at_) (ha : f.at_ ≤ 1099511627776) (hroom : (dropP l f.h).length < 64) :
    Calls Try.prog 5 #[v, .agg (ac f).toArray, .int .u64 f.at_] w fun r w' => ∃ v', r = .returned (.tuple #[v', .int .i64 0]) ∧ Below w.heap.size w w' ∧ Own w' w.heap.size v' (insP (dropP l f.h) (newF l f)) := by
  have hn : l.length ≤ 1000 := by have := ho.most; omega
  have HO := Lib.hid ho; clear ho
  have HR := Lib.hid hroom; clear hroom
  obtain ⟨hb0, hbx⟩ := box_attr w f
  have HV := Lib.hid (hv0.below hb0)
  have HV0 := Lib.hid hv0; clear hv0
  have hdn : decide (1099511627776 < f.at_) = false := by rw [decide_eq_false_iff_not]; omega
  obtain ⟨⟨x, y⟩, dir, sz, chg, now, spn⟩ := f
  dsimp only [ac] at *
  go_enter Try.func5, Try.ntmps5
  go_wp2_with fail
  generalize w.alloc (.cells #[.int .u32 x, .int .u32 y, .bool dir, .int .u32 sz, .int .u64 chg] 35) = W at hb0 hbx HV ⊢
  obtain ⟨A, cap, hve, hrd⟩ := HV.out.form
  subst hve
  have HRd := Lib.hid hrd; clear hrd
  refine (may_true W A cap l HRd.out HO.out).mono ?_
  rintro e w1 ⟨rfl, hb1⟩
  have hB1 := hb0.trans (hb1.mono hb0.size)
  have hcl : w.heap.size < W.heap.size := lt_of_heap hbx
  have hbx1 : w1.heap[w.heap.size]? = _ := (hb1.block _ hcl).trans hbx
  have hfs := attr_cells hbx1
  obtain ⟨k0, k1, k2, k3, k4⟩ := hfs
  have hcl1 : w.heap.size < w1.heap.size := lt_of_heap hbx1
  clear hbx
  have HBX := Lib.hid hbx1; clear hbx1
  go_wp2_with fail
  have hal := heap_alloc_new w1 (.cells #[.int .u32 x, .int .u32 y, .bool dir, .int .u32 sz, .int .u64 chg, .int .u64 now, .int .u64 2] 42)
  have hab : Below w1.heap.size w1 (w1.alloc (.cells #[.int .u32 x, .int .u32 y, .bool dir, .int .u32 sz, .int .u64 chg, .int .u64 now, .int .u64 2] 42)) := (Below.refl _ _).alloc (Nat.le_refl _) _
  generalize w1.alloc (.cells #[.int .u32 x, .int .u32 y, .bool dir, .int .u32 sz, .int .u64 chg, .int .u64 now, .int .u64 2] 42) = W2 at hal hab ⊢
  have HBX2 := Lib.hid ((hab.block _ hcl1).trans HBX.out)
  have HV2 := Lib.hid ((HV.out.below hb1).below hab)
  have HRd2 := Lib.hid ((HRd.out.below hb1).below hab)
  have hB2 := hB1.trans (hab.mono hB1.size)
  have hkf : w.heap.size < w1.heap.size := hcl1
  generalize w1.heap.size = kf at hal hkf ⊢
  clear hcl1 hb1 hab HBX HV HRd hB1 k0 k1 k2 k3 k4 w1 hb0 hcl W
  have HAL := Lib.hid hal
  have hkl := lt_of_heap hal
  have hcl := lt_of_heap HBX2.out
  clear hal
  refine (get_any W2 A cap l (x, y) HRd2.out HO.out).mono ?_
  rintro e w3 ⟨rfl, hb3⟩
  have HBX3 := Lib.hid ((hb3.block _ hcl).trans HBX2.out)
  have HAL3 := Lib.hid ((hb3.block _ hkl).trans HAL.out)
  have HV3 := Lib.hid (HV2.out.below hb3)
  have hB3 := hB2.trans (hb3.mono hB2.size)
  have hkl3 := lt_of_heap HAL3.out
  have hcl3 := lt_of_heap HBX3.out
  obtain ⟨k0, k1, k2, k3, k4⟩ := attr_cells HBX3.out
  clear HBX2 HAL HV2 HRd2 hB2 hkl hcl hb3 W2
  rcases tell_cases l (x, y) chg with hg | ⟨g, hg, hc, hs⟩ | ⟨g, hg, hc, hs⟩ | ⟨g, hg, hc⟩
  · have tok : True := trivial
    simp only [hg, Option.isSome_none, gotc, zfc]
    have hnf : newF l ⟨(x, y), dir, sz, chg, now, spn⟩ = ⟨(x, y), dir, sz, chg, now, 2⟩ := by unfold newF; rw [hg]; rfl
    have HNF := Lib.hid hnf; clear hnf hg
    go_wp2_with fail
    have hab : Below w3.heap.size w3 (w3.alloc (.cells #[.int .u32 0, .int .u32 0, .bool false, .int .u32 0, .int .u64 0, .int .u64 0, .int .u64 0] 42)) := (Below.refl _ _).alloc (Nat.le_refl _) _
    generalize w3.alloc (.cells #[.int .u32 0, .int .u32 0, .bool false, .int .u32 0, .int .u64 0, .int .u64 0, .int .u64 0] 42) = W4 at hab ⊢
    have HAL4 := Lib.hid ((hab.block _ hkl3).trans HAL3.out)
    have HBX4 := Lib.hid ((hab.block _ hcl3).trans HBX3.out)
    have hB4 := hB3.trans (hab.mono hB3.size)
    have HV4 := Lib.hid (HV0.out.below hB4)
    clear HBX3 HAL3 HV3 hB3 hkl3 hcl3 k0 k1 k2 k3 k4 hab
    have hcl4 := lt_of_heap HBX4.out
    have hkl4 := lt_of_heap HAL4.out
    refine (drop_any HV4.out HO.out (x, y)).mono ?_
    rintro e w5 ⟨v5, rfl, hb5, ho5⟩
    have hB5 := hB4.trans (hb5.mono hB4.size)
    have HBX5 := Lib.hid ((hb5.block _ hcl4).trans HBX4.out)
    have HAL5 := Lib.hid ((hb5.block _ hkl4).trans HAL4.out)
    have ho5' := ho5.base hB4.size
    obtain ⟨A5, cap5, rfl, hr5⟩ := ho5.form
    clear ho5
    have HO5 := Lib.hid ho5'; clear ho5'
    have HR5 := Lib.hid hr5; clear hr5
    have HOD := Lib.hid (HO.out.dropP (x, y))
    have hnd : (dropP l (x, y)).length ≤ 1000 := by have := HOD.out.most; omega
    have hne : (((dropP l (x, y)).length : Int) == 64) = false := by have := HR.out; rw [beq_eq_false_iff_ne]; omega
    have hpl : pos (dropP l (x, y)) (x, y) ≤ (dropP l (x, y)).length := pos_le _ _
    generalize hdd : dropP l (x, y) = d at HO5 HR5 HOD hnd hne hpl HR ⊢
    have HDD := Lib.hid hdd; clear hdd
    obtain ⟨k0, k1, k2, k3, k4⟩ := attr_cells HBX5.out
    clear HBX4 HAL4 HV4 hcl4 hkl4 hb5 hB4
    go_wp2_with fail
    refine (find_any w5 A5 cap5 d (x, y) HR5.out HOD.out.sorted hnd).mono ?_
    clear k0 k1 k2 k3 k4
    rintro e w6 ⟨rfl, hb6⟩
    have hB6 := hB5.trans (hb6.mono hB5.size)
    have HAL6 := Lib.hid ((hb6.block _ (lt_of_heap HAL5.out)).trans HAL5.out)
    have HO6 := Lib.hid (HO5.out.below hb6)
    obtain ⟨k0, k1, k2, k3, k4, k5, k6, k7⟩ := f_cells HAL6.out
    generalize hmm : pos d (x, y) = m at hpl ⊢
    have HMM := Lib.hid hmm; clear hmm
    clear HBX5 HAL5 HO5 HR5 hb6 hB5
    go_wp2_with fail
    have hal := heap_alloc_new w6 (.cells #[.int .u32 x, .int .u32 y, .bool dir, .int .u32 sz, .int .u64 chg, .int .u64 now, .int .u64 2] 42)
    have hab : Below w6.heap.size w6 (w6.alloc (.cells #[.int .u32 x, .int .u32 y, .bool dir, .int .u32 sz, .int .u64 chg, .int .u64 now, .int .u64 2] 42)) := (Below.refl _ _).alloc (Nat.le_refl _) _
    have hB7 := hB6.trans (hab.mono hB6.size)
    have HO7 := HO6.out.below hab
    have hkv : ∀ c, (Value.slice A5 d.length cap5) ≠ .slice (some ⟨w6.heap.size, 0, none⟩) d.length c := by
      intro c hc
      rcases HO6.out.2 with ⟨e, _⟩ | ⟨g', c', cur, e, _, hB, _⟩
      · rw [e] at hc; cases hc
      · have := lt_of_heap hB
        rw [e] at hc
        simp only [Value.slice.injEq, Option.some.injEq, Addr.mk.injEq] at hc
        omega
    clear k0 k1 k2 k3 k4 k5 k6 k7
    refine (insert_any HO7 hB7.size hnd m hpl ⟨(x, y), dir, sz, chg, now, 2⟩ w6.heap.size hal hkv).mono ?_
    rintro e w8 ⟨v8, rfl, hb8, ho8⟩
    go_wp2_with fail
    go_ret2
    refine ⟨_, rfl, hB7.trans hb8, ?_⟩
    unfold insP
    rw [HNF.out, HDD.out, HMM.out]
    exact ho8
  · have tok : True := trivial
    have hgm := (HO.out.fine g (List.mem_of_getElem? (got_some hg).1))
    have hp0 : 2 ≤ g.span ∧ g.span ≤ 16 := by simp [fine] at hgm; omega
    clear hgm
    simp only [hg, Option.isSome_some, gotc]
    have hnf : newF l ⟨(x, y), dir, sz, chg, now, spn⟩ = ⟨(x, y), dir, sz, chg, now, 2 * g.span⟩ := by unfold newF spanP; rw [hg]; dsimp only; rw [if_pos hc, if_pos hs]
    have HNF := Lib.hid hnf; clear hnf hg
    obtain ⟨⟨gx, gy⟩, gd, gs, gc, gt, gp⟩ := g
    dsimp only [fc] at *
    subst hc
    obtain ⟨f0, f1, f2, f3, f4, f5, f6, f7⟩ := f_cells HAL3.out
    clear f0 f1 f2 f3 f4 f5
    go_wp2_with fail
    have hset := heap_setCell_same w3 kf 6 _ _ (.int .u64 (2 * gp)) HAL3.out
    have hot := heap_setCell_other w3 ⟨kf, 6, none⟩ w.heap.size (.int .u64 (2 * gp)) (by show w.heap.size ≠ kf; omega)
    have hsz : (w3.setCell ⟨kf, 6, none⟩ (.int .u64 (2 * gp))).heap.size = w3.heap.size := by simp
    have hbs : Below w.heap.size w (w3.setCell ⟨kf, 6, none⟩ (.int .u64 (2 * gp))) := hB3.setCell (by show w.heap.size ≤ kf; omega) _
    generalize w3.setCell ⟨kf, 6, none⟩ (.int .u64 (2 * gp)) = w3' at hset hot hsz hbs ⊢
    have HBX3' := HBX3.out
    rw [← hot] at HBX3'
    clear HBX3 HAL3 hot
    have HBX3 := Lib.hid HBX3'; clear HBX3'
    rw [← hsz] at hkl3 hcl3
    have hB3 := hbs
    have hab : Below w3'.heap.size w3' (w3'.alloc (.cells #[.int .u32 gx, .int .u32 gy, .bool gd, .int .u32 gs, .int .u64 gc, .int .u64 gt, .int .u64 gp] 42)) := (Below.refl _ _).alloc (Nat.le_refl _) _
    have HSZ := Lib.hid hsz; clear hsz
    generalize w3'.alloc (.cells #[.int .u32 gx, .int .u32 gy, .bool gd, .int .u32 gs, .int .u64 gc, .int .u64 gt, .int .u64 gp] 42) = W4 at hab ⊢
    have HAL4 := Lib.hid ((hab.block _ hkl3).trans hset)
    clear f6 f7 hset HSZ
    have HAL3 := HBX3
    have HBX4 := Lib.hid ((hab.block _ hcl3).trans HBX3.out)
    have hB4 := hB3.trans (hab.mono hB3.size)
    have HV4 := Lib.hid (HV0.out.below hB4)
    clear HBX3 HAL3 HV3 hB3 hkl3 hcl3 k0 k1 k2 k3 k4 hab
    have hcl4 := lt_of_heap HBX4.out
    have hkl4 := lt_of_heap HAL4.out
    refine (drop_any HV4.out HO.out (x, y)).mono ?_
    rintro e w5 ⟨v5, rfl, hb5, ho5⟩
    have hB5 := hB4.trans (hb5.mono hB4.size)
    have HBX5 := Lib.hid ((hb5.block _ hcl4).trans HBX4.out)
    have HAL5 := Lib.hid ((hb5.block _ hkl4).trans HAL4.out)
    have ho5' := ho5.base hB4.size
    obtain ⟨A5, cap5, rfl, hr5⟩ := ho5.form
    clear ho5
    have HO5 := Lib.hid ho5'; clear ho5'
    have HR5 := Lib.hid hr5; clear hr5
    have HOD := Lib.hid (HO.out.dropP (x, y))
    have hnd : (dropP l (x, y)).length ≤ 1000 := by have := HOD.out.most; omega
    have hne : (((dropP l (x, y)).length : Int) == 64) = false := by have := HR.out; rw [beq_eq_false_iff_ne]; omega
    have hpl : pos (dropP l (x, y)) (x, y) ≤ (dropP l (x, y)).length := pos_le _ _
    generalize hdd : dropP l (x, y) = d at HO5 HR5 HOD hnd hne hpl HR ⊢
    have HDD := Lib.hid hdd; clear hdd
    obtain ⟨k0, k1, k2, k3, k4⟩ := attr_cells HBX5.out
    clear HBX4 HAL4 HV4 hcl4 hkl4 hb5 hB4
    go_wp2_with fail
    refine (find_any w5 A5 cap5 d (x, y) HR5.out HOD.out.sorted hnd).mono ?_
    clear k0 k1 k2 k3 k4
    rintro e w6 ⟨rfl, hb6⟩
    have hB6 := hB5.trans (hb6.mono hB5.size)
    have HAL6 := Lib.hid ((hb6.block _ (lt_of_heap HAL5.out)).trans HAL5.out)
    have HO6 := Lib.hid (HO5.out.below hb6)
    obtain ⟨k0, k1, k2, k3, k4, k5, k6, k7⟩ := f_cells HAL6.out
    generalize hmm : pos d (x, y) = m at hpl ⊢
    have HMM := Lib.hid hmm; clear hmm
    clear HBX5 HAL5 HO5 HR5 hb6 hB5
    go_wp2_with fail
    have hal := heap_alloc_new w6 (.cells #[.int .u32 x, .int .u32 y, .bool dir, .int .u32 sz, .int .u64 gc, .int .u64 now, .int .u64 (2 * gp)] 42)
    have hab : Below w6.heap.size w6 (w6.alloc (.cells #[.int .u32 x, .int .u32 y, .bool dir, .int .u32 sz, .int .u64 gc, .int .u64 now, .int .u64 (2 * gp)] 42)) := (Below.refl _ _).alloc (Nat.le_refl _) _
    have hB7 := hB6.trans (hab.mono hB6.size)
    have HO7 := HO6.out.below hab
    have hkv : ∀ c, (Value.slice A5 d.length cap5) ≠ .slice (some ⟨w6.heap.size, 0, none⟩) d.length c := by
      intro c hc
      rcases HO6.out.2 with ⟨e, _⟩ | ⟨g', c', cur, e, _, hB, _⟩
      · rw [e] at hc; cases hc
      · have := lt_of_heap hB
        rw [e] at hc
        simp only [Value.slice.injEq, Option.some.injEq, Addr.mk.injEq] at hc
        omega
    clear k0 k1 k2 k3 k4 k5 k6 k7
    refine (insert_any HO7 hB7.size hnd m hpl ⟨(x, y), dir, sz, gc, now, (2 * gp)⟩ w6.heap.size hal hkv).mono ?_
    rintro e w8 ⟨v8, rfl, hb8, ho8⟩
    go_wp2_with fail
    go_ret2
    refine ⟨_, rfl, hB7.trans hb8, ?_⟩
    unfold insP
    rw [HNF.out, HDD.out, HMM.out]
    exact ho8
  · have tok : True := trivial
    have hgm := (HO.out.fine g (List.mem_of_getElem? (got_some hg).1))
    have hp0 : 2 ≤ g.span ∧ g.span ≤ 16 := by simp [fine] at hgm; omega
    clear hgm
    simp only [hg, Option.isSome_some, gotc]
    have hnf : newF l ⟨(x, y), dir, sz, chg, now, spn⟩ = ⟨(x, y), dir, sz, chg, now, 16⟩ := by unfold newF spanP; rw [hg]; dsimp only; rw [if_pos hc, if_neg hs]
    have HNF := Lib.hid hnf; clear hnf hg
    obtain ⟨⟨gx, gy⟩, gd, gs, gc, gt, gp⟩ := g
    dsimp only [fc] at *
    subst hc
    obtain ⟨f0, f1, f2, f3, f4, f5, f6, f7⟩ := f_cells HAL3.out
    clear f0 f1 f2 f3 f4 f5
    go_wp2_with fail
    have hset := heap_setCell_same w3 kf 6 _ _ (.int .u64 16) HAL3.out
    have hot := heap_setCell_other w3 ⟨kf, 6, none⟩ w.heap.size (.int .u64 16) (by show w.heap.size ≠ kf; omega)
    have hsz : (w3.setCell ⟨kf, 6, none⟩ (.int .u64 16)).heap.size = w3.heap.size := by simp
    have hbs : Below w.heap.size w (w3.setCell ⟨kf, 6, none⟩ (.int .u64 16)) := hB3.setCell (by show w.heap.size ≤ kf; omega) _
    generalize w3.setCell ⟨kf, 6, none⟩ (.int .u64 16) = w3' at hset hot hsz hbs ⊢
    have HBX3' := HBX3.out
    rw [← hot] at HBX3'
    clear HBX3 HAL3 hot
    have HBX3 := Lib.hid HBX3'; clear HBX3'
    rw [← hsz] at hkl3 hcl3
    have hB3 := hbs
    have hab : Below w3'.heap.size w3' (w3'.alloc (.cells #[.int .u32 gx, .int .u32 gy, .bool gd, .int .u32 gs, .int .u64 gc, .int .u64 gt, .int .u64 gp] 42)) := (Below.refl _ _).alloc (Nat.le_refl _) _
    have HSZ := Lib.hid hsz; clear hsz
    generalize w3'.alloc (.cells #[.int .u32 gx, .int .u32 gy, .bool gd, .int .u32 gs, .int .u64 gc, .int .u64 gt, .int .u64 gp] 42) = W4 at hab ⊢
    have HAL4 := Lib.hid ((hab.block _ hkl3).trans hset)
    clear f6 f7 hset HSZ
    have HAL3 := HBX3
    have HBX4 := Lib.hid ((hab.block _ hcl3).trans HBX3.out)
    have hB4 := hB3.trans (hab.mono hB3.size)
    have HV4 := Lib.hid (HV0.out.below hB4)
    clear HBX3 HAL3 HV3 hB3 hkl3 hcl3 k0 k1 k2 k3 k4 hab
    have hcl4 := lt_of_heap HBX4.out
    have hkl4 := lt_of_heap HAL4.out
    refine (drop_any HV4.out HO.out (x, y)).mono ?_
    rintro e w5 ⟨v5, rfl, hb5, ho5⟩
    have hB5 := hB4.trans (hb5.mono hB4.size)
    have HBX5 := Lib.hid ((hb5.block _ hcl4).trans HBX4.out)
    have HAL5 := Lib.hid ((hb5.block _ hkl4).trans HAL4.out)
    have ho5' := ho5.base hB4.size
    obtain ⟨A5, cap5, rfl, hr5⟩ := ho5.form
    clear ho5
    have HO5 := Lib.hid ho5'; clear ho5'
    have HR5 := Lib.hid hr5; clear hr5
    have HOD := Lib.hid (HO.out.dropP (x, y))
    have hnd : (dropP l (x, y)).length ≤ 1000 := by have := HOD.out.most; omega
    have hne : (((dropP l (x, y)).length : Int) == 64) = false := by have := HR.out; rw [beq_eq_false_iff_ne]; omega
    have hpl : pos (dropP l (x, y)) (x, y) ≤ (dropP l (x, y)).length := pos_le _ _
    generalize hdd : dropP l (x, y) = d at HO5 HR5 HOD hnd hne hpl HR ⊢
    have HDD := Lib.hid hdd; clear hdd
    obtain ⟨k0, k1, k2, k3, k4⟩ := attr_cells HBX5.out
    clear HBX4 HAL4 HV4 hcl4 hkl4 hb5 hB4
    go_wp2_with fail
    refine (find_any w5 A5 cap5 d (x, y) HR5.out HOD.out.sorted hnd).mono ?_
    clear k0 k1 k2 k3 k4
    rintro e w6 ⟨rfl, hb6⟩
    have hB6 := hB5.trans (hb6.mono hB5.size)
    have HAL6 := Lib.hid ((hb6.block _ (lt_of_heap HAL5.out)).trans HAL5.out)
    have HO6 := Lib.hid (HO5.out.below hb6)
    obtain ⟨k0, k1, k2, k3, k4, k5, k6, k7⟩ := f_cells HAL6.out
    generalize hmm : pos d (x, y) = m at hpl ⊢
    have HMM := Lib.hid hmm; clear hmm
    clear HBX5 HAL5 HO5 HR5 hb6 hB5
    go_wp2_with fail
    have hal := heap_alloc_new w6 (.cells #[.int .u32 x, .int .u32 y, .bool dir, .int .u32 sz, .int .u64 gc, .int .u64 now, .int .u64 16] 42)
    have hab : Below w6.heap.size w6 (w6.alloc (.cells #[.int .u32 x, .int .u32 y, .bool dir, .int .u32 sz, .int .u64 gc, .int .u64 now, .int .u64 16] 42)) := (Below.refl _ _).alloc (Nat.le_refl _) _
    have hB7 := hB6.trans (hab.mono hB6.size)
    have HO7 := HO6.out.below hab
    have hkv : ∀ c, (Value.slice A5 d.length cap5) ≠ .slice (some ⟨w6.heap.size, 0, none⟩) d.length c := by
      intro c hc
      rcases HO6.out.2 with ⟨e, _⟩ | ⟨g', c', cur, e, _, hB, _⟩
      · rw [e] at hc; cases hc
      · have := lt_of_heap hB
        rw [e] at hc
        simp only [Value.slice.injEq, Option.some.injEq, Addr.mk.injEq] at hc
        omega
    clear k0 k1 k2 k3 k4 k5 k6 k7
    refine (insert_any HO7 hB7.size hnd m hpl ⟨(x, y), dir, sz, gc, now, 16⟩ w6.heap.size hal hkv).mono ?_
    rintro e w8 ⟨v8, rfl, hb8, ho8⟩
    go_wp2_with fail
    go_ret2
    refine ⟨_, rfl, hB7.trans hb8, ?_⟩
    unfold insP
    rw [HNF.out, HDD.out, HMM.out]
    exact ho8
  · have tok : True := trivial
    have hgm := (HO.out.fine g (List.mem_of_getElem? (got_some hg).1))
    have hp0 : 2 ≤ g.span ∧ g.span ≤ 16 := by simp [fine] at hgm; omega
    clear hgm
    simp only [hg, Option.isSome_some, gotc]
    have hnf : newF l ⟨(x, y), dir, sz, chg, now, spn⟩ = ⟨(x, y), dir, sz, chg, now, 2⟩ := by unfold newF spanP; rw [hg]; dsimp only; rw [if_neg hc]
    have HNF := Lib.hid hnf; clear hnf hg
    obtain ⟨⟨gx, gy⟩, gd, gs, gc, gt, gp⟩ := g
    dsimp only [fc] at *
    have hcb : (gc == chg) = false := by rw [beq_eq_false_iff_ne]; exact hc
    clear hc
    obtain ⟨f0, f1, f2, f3, f4, f5, f6, f7⟩ := f_cells HAL3.out
    clear f0 f1 f2 f3 f4 f5
    go_wp2_with fail
    have hab : Below w3.heap.size w3 (w3.alloc (.cells #[.int .u32 gx, .int .u32 gy, .bool gd, .int .u32 gs, .int .u64 gc, .int .u64 gt, .int .u64 gp] 42)) := (Below.refl _ _).alloc (Nat.le_refl _) _
    generalize w3.alloc (.cells #[.int .u32 gx, .int .u32 gy, .bool gd, .int .u32 gs, .int .u64 gc, .int .u64 gt, .int .u64 gp] 42) = W4 at hab ⊢
    have HAL4 := Lib.hid ((hab.block _ hkl3).trans HAL3.out)
    have HBX4 := Lib.hid ((hab.block _ hcl3).trans HBX3.out)
    have hB4 := hB3.trans (hab.mono hB3.size)
    have HV4 := Lib.hid (HV0.out.below hB4)
    clear HBX3 HAL3 HV3 hB3 hkl3 hcl3 k0 k1 k2 k3 k4 hab
    have hcl4 := lt_of_heap HBX4.out
    have hkl4 := lt_of_heap HAL4.out
    refine (drop_any HV4.out HO.out (x, y)).mono ?_
    rintro e w5 ⟨v5, rfl, hb5, ho5⟩
    have hB5 := hB4.trans (hb5.mono hB4.size)
    have HBX5 := Lib.hid ((hb5.block _ hcl4).trans HBX4.out)
    have HAL5 := Lib.hid ((hb5.block _ hkl4).trans HAL4.out)
    have ho5' := ho5.base hB4.size
    obtain ⟨A5, cap5, rfl, hr5⟩ := ho5.form
    clear ho5
    have HO5 := Lib.hid ho5'; clear ho5'
    have HR5 := Lib.hid hr5; clear hr5
    have HOD := Lib.hid (HO.out.dropP (x, y))
    have hnd : (dropP l (x, y)).length ≤ 1000 := by have := HOD.out.most; omega
    have hne : (((dropP l (x, y)).length : Int) == 64) = false := by have := HR.out; rw [beq_eq_false_iff_ne]; omega
    have hpl : pos (dropP l (x, y)) (x, y) ≤ (dropP l (x, y)).length := pos_le _ _
    generalize hdd : dropP l (x, y) = d at HO5 HR5 HOD hnd hne hpl HR ⊢
    have HDD := Lib.hid hdd; clear hdd
    obtain ⟨k0, k1, k2, k3, k4⟩ := attr_cells HBX5.out
    clear HBX4 HAL4 HV4 hcl4 hkl4 hb5 hB4
    go_wp2_with fail
    refine (find_any w5 A5 cap5 d (x, y) HR5.out HOD.out.sorted hnd).mono ?_
    clear k0 k1 k2 k3 k4
    rintro e w6 ⟨rfl, hb6⟩
    have hB6 := hB5.trans (hb6.mono hB5.size)
    have HAL6 := Lib.hid ((hb6.block _ (lt_of_heap HAL5.out)).trans HAL5.out)
    have HO6 := Lib.hid (HO5.out.below hb6)
    obtain ⟨k0, k1, k2, k3, k4, k5, k6, k7⟩ := f_cells HAL6.out
    generalize hmm : pos d (x, y) = m at hpl ⊢
    have HMM := Lib.hid hmm; clear hmm
    clear HBX5 HAL5 HO5 HR5 hb6 hB5
    go_wp2_with fail
    have hal := heap_alloc_new w6 (.cells #[.int .u32 x, .int .u32 y, .bool dir, .int .u32 sz, .int .u64 chg, .int .u64 now, .int .u64 2] 42)
    have hab : Below w6.heap.size w6 (w6.alloc (.cells #[.int .u32 x, .int .u32 y, .bool dir, .int .u32 sz, .int .u64 chg, .int .u64 now, .int .u64 2] 42)) := (Below.refl _ _).alloc (Nat.le_refl _) _
    have hB7 := hB6.trans (hab.mono hB6.size)
    have HO7 := HO6.out.below hab
    have hkv : ∀ c, (Value.slice A5 d.length cap5) ≠ .slice (some ⟨w6.heap.size, 0, none⟩) d.length c := by
      intro c hc
      rcases HO6.out.2 with ⟨e, _⟩ | ⟨g', c', cur, e, _, hB, _⟩
      · rw [e] at hc; cases hc
      · have := lt_of_heap hB
        rw [e] at hc
        simp only [Value.slice.injEq, Option.some.injEq, Addr.mk.injEq] at hc
        omega
    clear k0 k1 k2 k3 k4 k5 k6 k7
    refine (insert_any HO7 hB7.size hnd m hpl ⟨(x, y), dir, sz, chg, now, 2⟩ w6.heap.size hal hkv).mono ?_
    rintro e w8 ⟨v8, rfl, hb8, ho8⟩
    go_wp2_with fail
    go_ret2
    refine ⟨_, rfl, hB7.trans hb8, ?_⟩
    unfold insP
    rw [HNF.out, HDD.out, HMM.out]
    exact ho8
end Go.Proofs.Ytpnhjckjmpkbfaa

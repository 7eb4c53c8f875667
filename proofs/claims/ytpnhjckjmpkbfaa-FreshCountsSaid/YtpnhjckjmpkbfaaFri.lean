/- fresh: lives, walked. -/
import Derived.Test.YtpnhjckjmpkbfaaFrh
set_option linter.unusedVariables false
set_option linter.unusedSimpArgs false
namespace Go.Proofs.Ytpnhjckjmpkbfaa
open Go.RowKit Go.Proofs.YtpnhjckjmpkbfaaW.PrintLast

theorem own_nil (w : World) (B : Nat) : Own w B (.slice none 0 0) [] := World.ownsRow_nil _ _ _ _
theorem ok_nil : Ok [] := ⟨List.Pairwise.nil, fun f hf => absurd hf (by simp), by simp, fun f hf => absurd hf (by simp)⟩
theorem ok_one (f : F) (hf : fine f = true) (h0 : 0 ≤ f.at_) : Ok [f] :=
  ⟨List.pairwise_singleton _ _, fun g hg => by simp at hg; subst hg; exact hf, by simp, fun g hg => by simp at hg; subst hg; exact h0⟩
def lf (c t p : Int) : F := ⟨(2, 2), false, 0, c, t, p⟩
theorem own_one {w : World} {B : Nat} {v : Value} {f : F} (h : Own w B v [f]) : ∃ b cap, v = .slice (some ⟨b, 0, none⟩) 1 cap ∧ b < w.heap.size ∧ w.rangeAt b 0 (fc f) := by
  obtain ⟨A, cap, rfl, hr⟩ := h.form
  obtain ⟨b, rfl, hb, hg⟩ := hr (by simp)
  exact ⟨b, cap, rfl, hb, by have := hg 0 f rfl; rwa [Nat.zero_mul] at this⟩
theorem range_span {w : World} {b : Nat} {f : F} (h : w.rangeAt b 0 (fc f)) : w.cell? ⟨b, 6, none⟩ = some (.int .u64 f.span) := by
  have := h 6 _ rfl; simpa using this
theorem tell_lf {B : Nat} {w : World} {v : Value} {l : List F} (hv0 : Own w B v l) (ho : Ok l) (c t p : Int) (f : F) (ha0 : 0 ≤ t) (ha : t ≤ 1099511627776) (hroom : (dropP l (2, 2)).length < 64) (hq : insP (dropP l (2, 2)) (newF l (lf c t 0)) = [f]) :
    Calls Try.prog 5 #[v, .agg #[.int .u32 2, .int .u32 2, .bool false, .int .u32 0, .int .u64 c], .int .u64 t] w fun r w' => ∃ v', r = .returned (.tuple #[v', .int .i64 0]) ∧ Below w.heap.size w w' ∧ Own w' w.heap.size v' [f] :=
  (tell_any hv0 ho (lf c t 0) ha0 ha hroom).mono fun r w' ⟨v', h1, h2, h3⟩ => ⟨v', h1, h2, by have h4 : Own w' w.heap.size v' (insP (dropP l (2, 2)) (newF l (lf c t 0))) := h3; rw [hq] at h4; exact h4⟩
theorem q1 : insP (dropP [] (2, 2)) (newF [] (lf 5 10 0)) = [lf 5 10 2] := rfl
theorem q2 : insP (dropP [lf 5 10 2] (2, 2)) (newF [lf 5 10 2] (lf 5 12 0)) = [lf 5 12 4] := rfl
theorem q3 : insP (dropP [lf 5 12 4] (2, 2)) (newF [lf 5 12 4] (lf 6 13 0)) = [lf 6 13 2] := rfl

set_option maxRecDepth 100000 in
set_option maxHeartbeats 2000000 in
theorem lives_any (w : World) : Calls Try.prog 9 #[] w fun r w' => r = .returned (.bool true) ∧ Below w.heap.size w w' := by
  obtain ⟨hb0, ha0, hc0⟩ := two_boxes w (.cells #[.int .u32 2, .int .u32 2, .bool false, .int .u32 0, .int .u64 5] 35) (.cells #[.int .u32 2, .int .u32 2, .bool false, .int .u32 0, .int .u64 6] 35)
  go_enter Try.func9, Try.ntmps9
  go_wp2_with fail
  generalize (w.alloc (.cells #[.int .u32 2, .int .u32 2, .bool false, .int .u32 0, .int .u64 5] 35)).alloc (.cells #[.int .u32 2, .int .u32 2, .bool false, .int .u32 0, .int .u64 6] 35) = W at hb0 ha0 hc0 ⊢
  refine (tell_lf (own_nil W W.heap.size) ok_nil 5 10 2 (lf 5 10 2) (by omega) (by omega) (by simp [dropP, got, pos]) q1).mono ?_
  rintro e w1 ⟨v1, rfl, hb1, ho1⟩
  have ha1 := (hb1.block _ (lt_of_heap ha0)).trans ha0
  have hc1 := (hb1.block _ (lt_of_heap hc0)).trans hc0
  have hB1 := hb0.trans (hb1.mono hb0.size)
  obtain ⟨k0, k1, k2, k3, k4⟩ := attr_cells ha1
  clear ha0 hc0 hb0 hb1
  have HA1 := Lib.hid ha1; clear ha1
  have HC1 := Lib.hid hc1; clear hc1
  have HO1 := Lib.hid ho1; clear ho1
  go_wp2_with fail
  refine (tell_lf HO1.out (ok_one _ rfl (by decide)) 5 12 2 (lf 5 12 4) (by omega) (by omega) (by decide) q2).mono ?_
  clear k0 k1 k2 k3 k4
  rintro e w2 ⟨v2, rfl, hb2, ho2⟩
  have HA2 := Lib.hid ((hb2.block _ (lt_of_heap HA1.out)).trans HA1.out)
  have hc2 := (hb2.block _ (lt_of_heap HC1.out)).trans HC1.out
  have HO12 := Lib.hid (HO1.out.below hb2)
  have hB2 := hB1.trans (hb2.mono hB1.size)
  obtain ⟨k0, k1, k2, k3, k4⟩ := attr_cells hc2
  have HC2 := Lib.hid hc2; clear hc2
  have HO2 := Lib.hid ho2; clear ho2
  clear HA1 HC1 HO1 hb2 hB1
  go_wp2_with fail
  refine (tell_lf HO2.out (ok_one _ rfl (by decide)) 6 13 2 (lf 6 13 2) (by omega) (by omega) (by decide) q3).mono ?_
  clear k0 k1 k2 k3 k4
  rintro e w3 ⟨v3, rfl, hb3, ho3⟩
  have ha3 := (hb3.block _ (lt_of_heap HA2.out)).trans HA2.out
  have hB3 := hB2.trans (hb3.mono hB2.size)
  obtain ⟨b1, c1, rfl, hl1, hr1⟩ := own_one (HO12.out.below hb3)
  obtain ⟨b2, c2, rfl, hl2, hr2⟩ := own_one (HO2.out.below hb3)
  obtain ⟨b3, c3, rfl, hl3, hr3⟩ := own_one ho3
  obtain ⟨k0, k1, k2, k3, k4⟩ := attr_cells ha3
  have s1 := range_span hr1
  have HR1 := Lib.hid (show Reads w3 (some ⟨b1, 0, none⟩) [lf 5 10 2] from fun _ => ⟨b1, rfl, hl1, fun i f hf => by
    have : i = 0 := by have := (List.getElem?_eq_some_iff.1 hf).1; simpa using this
    subst this; simp at hf; subst hf; rw [Nat.zero_mul]; exact hr1⟩)
  have HR2 := Lib.hid hr2
  have HR3 := Lib.hid hr3
  have HA3 := Lib.hid ha3
  clear HA2 HC2 HO12 HO2 hb3 hB2 ho3 hr1 hr2 hr3 ha3
  dsimp only [lf] at s1
  go_wp2_with fail
  refine (counts_any w3 _ c1 [lf 5 10 2] (2, 2) 11 (by omega) (by omega) HR1.out (ok_one _ rfl (by decide))).mono ?_
  rw [show counts (got [lf 5 10 2] (2, 2)) 11 = true from rfl]
  clear k0 k1 k2 k3 k4 s1
  rintro e w4 ⟨rfl, hb4⟩
  have hB4 := hB3.trans (hb4.mono hB3.size)
  have HR1' := Lib.hid (HR1.out.below hb4)
  have HA4 := Lib.hid ((hb4.block _ (lt_of_heap HA3.out)).trans HA3.out)
  obtain ⟨k0, k1, k2, k3, k4⟩ := attr_cells HA4.out
  go_wp2_with fail
  refine (counts_any w4 _ c1 [lf 5 10 2] (2, 2) 12 (by omega) (by omega) HR1'.out (ok_one _ rfl (by decide))).mono ?_
  rw [show counts (got [lf 5 10 2] (2, 2)) 12 = false from rfl]
  clear k0 k1 k2 k3 k4
  rintro e w5 ⟨rfl, hb5⟩
  have hB5 := hB4.trans (hb5.mono hB4.size)
  have s2 : w5.cell? ⟨b2, 6, none⟩ = some (.int .u64 4) := (hb5.cell (p := ⟨b2, 6, none⟩) (Nat.lt_of_lt_of_le hl2 hb4.size)).trans ((hb4.cell (p := ⟨b2, 6, none⟩) hl2).trans (range_span HR2.out))
  have s3 : w5.cell? ⟨b3, 6, none⟩ = some (.int .u64 2) := (hb5.cell (p := ⟨b3, 6, none⟩) (Nat.lt_of_lt_of_le hl3 hb4.size)).trans ((hb4.cell (p := ⟨b3, 6, none⟩) hl3).trans (range_span HR3.out))
  clear hb4 hb5
  go_wp2_with fail
  go_ret
  exact ⟨rfl, hB5⟩
end Go.Proofs.Ytpnhjckjmpkbfaa

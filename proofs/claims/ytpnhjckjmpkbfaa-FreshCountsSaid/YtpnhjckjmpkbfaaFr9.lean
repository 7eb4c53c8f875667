/- fresh: Drop, walked. -/
import Derived.Test.YtpnhjckjmpkbfaaFr8
set_option linter.unusedVariables false
set_option linter.unusedSimpArgs false
namespace Go.Proofs.Ytpnhjckjmpkbfaa
open Go.RowKit Go.Proofs.YtpnhjckjmpkbfaaW.PrintLast

def dropP (l : List F) (h : Int × Int) : List F := if (got l h).isSome then l.take (pos l h) ++ l.drop (pos l h + 1) else l
theorem Own.base {w : World} {B B' : Nat} {v : Value} {l : List F} (h : Own w B v l) (hb : B' ≤ B) : Own w B' v l := by
  refine ⟨h.1, ?_⟩
  rcases h.2 with hn | ⟨g, cap, cur, rfl, h1, h2⟩
  · exact .inl hn
  · exact .inr ⟨g, cap, cur, rfl, by omega, h2⟩

set_option maxRecDepth 100000 in
set_option maxHeartbeats 2000000 in
theorem drop_any {B : Nat} {w : World} {v : Value} {l : List F} (hv0 : Own w B v l) (ho : Ok l) (h : Int × Int) :
    Calls Try.prog 8 #[v, hv h] w fun r w' => ∃ v', r = .returned v' ∧ Below w.heap.size w w' ∧ Own w' w.heap.size v' (dropP l h) := by
  have hn : l.length ≤ 1000 := by have := ho.most; omega
  have HO := Lib.hid ho; clear ho
  obtain ⟨x, y⟩ := h
  have hb0 : Below w.heap.size w (w.alloc (.cells #[.int .u32 x, .int .u32 y] 30)) := (Below.refl _ _).alloc (Nat.le_refl _) _
  have hbx := heap_alloc_new w (.cells #[.int .u32 x, .int .u32 y] 30)
  have HV := Lib.hid (hv0.below hb0); clear hv0
  have hlt : w.heap.size < (w.alloc (.cells #[.int .u32 x, .int .u32 y] 30)).heap.size := by simp
  unfold hv
  go_enter Try.func8, Try.ntmps8
  go_wp2_with fail
  generalize w.alloc (.cells #[.int .u32 x, .int .u32 y] 30) = W at hb0 hbx HV hlt ⊢
  refine (clone_own HV.out hn).mono ?_
  rintro e w1 ⟨v1, rfl, hb1, ho1⟩
  have HV1 := Lib.hid (HV.out.below hb1)
  have HO1 := Lib.hid (ho1.base (Nat.le_of_lt hlt)); clear ho1 HV
  obtain ⟨A, cap, hve, hrd⟩ := HV1.out.form
  subst hve
  have HR := Lib.hid hrd; clear hrd
  have hbx1 := (hb1.block _ hlt).trans hbx
  have k0 : w1.cell? ⟨w.heap.size, 0, none⟩ = some (.int .u32 x) := by rw [cell_of_row _ _ 0 _ _ _ hbx1]; rfl
  have k1 : w1.cell? ⟨w.heap.size, 1, none⟩ = some (.int .u32 y) := by rw [cell_of_row _ _ 1 _ _ _ hbx1]; rfl
  have hB1 := hb0.trans (hb1.mono hb0.size)
  go_wp2_with fail
  refine (find_any w1 A cap l (x, y) HR.out HO.out.sorted hn).mono ?_
  rintro e w2 ⟨rfl, hb2⟩
  have hB2 := hB1.trans (hb2.mono hB1.size)
  have HO2 := Lib.hid (HO1.out.below hb2)
  have HR2 := Lib.hid (HR.out.below hb2)
  cases hg : (got l (x, y)).isSome with
  | false =>
    go_wp2_with fail
    go_ret
    exact ⟨_, rfl, hB2, by unfold dropP; rw [hg]; exact HO2.out⟩
  | true =>
    have hp : pos l (x, y) < l.length := by
      obtain ⟨f, hf⟩ := Option.isSome_iff_exists.1 hg
      exact (List.getElem?_eq_some_iff.1 (got_some hf).1).1
    go_wp2_with fail
    refine (may_true w2 A cap l HR2.out HO.out).mono ?_
    rintro e w3 ⟨rfl, hb3⟩
    have hB3 := hB2.trans (hb3.mono hB2.size)
    go_wp2_with fail
    refine (delete_any (HO2.out.below hb3) hB3.size (pos l (x, y)) hp hn).mono ?_
    rintro e w4 ⟨v4, rfl, hb4, ho4⟩
    go_wp2_with fail
    go_ret
    exact ⟨_, rfl, hB3.trans hb4, by unfold dropP; rw [hg]; exact ho4⟩
end Go.Proofs.Ytpnhjckjmpkbfaa

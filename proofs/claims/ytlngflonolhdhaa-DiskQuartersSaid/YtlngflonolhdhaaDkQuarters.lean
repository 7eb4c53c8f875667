/- The statement DiskQuarters: whatever the arguments, the law answers true, and the arguments read as before. -/
import Derived.Test.YtlngflonolhdhaaRows
import Derived.Test.YtlngflonolhdhaaDkt
import Derived.WalkKit
import Derived.ProofKit
import Derived.OpenShut
import Derived.ShutString
import Derived.ChangeOld
import Derived.Below
import Derived.SizedLaws
import Derived.Test.YtlngflonolhdhaaWSized
set_option linter.unusedVariables false
set_option linter.unusedSimpArgs false
namespace Go.Proofs.Ytlngflonolhdhaa.diskQuarters
open Go.ChangeShapes Go.WideShapes Go.ChangeAt Go.RowKit
open Go.ChangeMaps (open_string shut_string)

theorem own : ownKnob Try.prog.godebug = none := by kernel_rfl
theorem laidOut : laidOutB Try.prog = true := by kernel_rfl
set_option maxRecDepth 100000 in
theorem lifted (os : Os) (started : os.Started) (H : Type) (enc : TypeId × Value → H) :
    ReturnsInHanded {} Try.checked os 4 .any (Rows.diskQuartersSpec.pre6 enc Try.prog Try.f4 Rows.diskQuartersRow.domain false) (Rows.diskQuartersSpec.post enc Try.prog Try.f4 false true false false) := by
  refine returnsInHanded_of_change_sized (C := Try.checked) own started (by kernel_rfl) Try.func4
    (ChangeSpec.witness6 (enc := enc) (C := Try.checked) false ⟨#[], #[.slice none 0 0, .slice none 0 0, .slice none 0 0], []⟩ 8 (by kernel_rfl) (by kernel_rfl) (by kernel_rfl) (by kernel_rfl)) ?_
  intro W base args ds gs before hval0 hW hcnd hsz0 _
  have hsz : (DataW.weightsEach Try.prog (Try.f4.params.toList ++ Rows.diskQuartersSpec.plain.varTypes Try.prog) (ds ++ gs)).all (· ≤ reachBytes) = true := hsz0
  have hval : ∀ (j : Nat) t v, Try.f4.params[j]? = some t → args[j]? = some v → Value.okWide Try.prog W .any base t v := hval0
  have hW' := hW
  obtain ⟨p, q, hA0, hV, rfl, hfz, hnd⟩ := hW
  have hA : DataW.TrodAll enc Try.prog W 0 (fun _ => true) true Try.f4.params.toList args.toList ds p := hA0
  rw [Try.params4] at hA hval hsz
  obtain ⟨v0, vs0, d0, ds0, p0, q0, hargs, rfl, rfl, h0, r0⟩ := trodAll_cons hA
  obtain ⟨v1, vs1, d1, ds1, p1, q1, rfl, rfl, rfl, h1, r1⟩ := trodAll_cons r0
  obtain ⟨v2, vs2, d2, ds2, p2, q2, rfl, rfl, rfl, h2, r2⟩ := trodAll_cons r1
  obtain ⟨rfl, rfl, rfl⟩ := trodAll_nil r2
  obtain rfl : args = #[v0, v1, v2] := by cases args; simp_all
  obtain ⟨rfl, rfl⟩ := trodVars_none hV
  have lt0 : ∀ x ∈ p0, x.block < W.heap.size := by obtain ⟨m, hm⟩ := h0; exact DataW.trod_lt m _ _ _ hm
  have lt1 : ∀ x ∈ p1, x.block < W.heap.size := by obtain ⟨m, hm⟩ := h1; exact DataW.trod_lt m _ _ _ hm
  have lt2 : ∀ x ∈ p2, x.block < W.heap.size := by obtain ⟨m, hm⟩ := h2; exact DataW.trod_lt m _ _ _ hm
  have hv0 : Value.okWide Try.prog W .any base 34 v0 := hval 0 34 v0 rfl rfl
  have hv1 : Value.okWide Try.prog W .any base 34 v1 := hval 1 34 v1 rfl rfl
  have hv2 : Value.okWide Try.prog W .any base 35 v2 := hval 2 35 v2 rfl rfl
  obtain ⟨l1, hl1⟩ := open_deeds hv0 h0
  obtain ⟨l2, hl2⟩ := open_deeds hv1 h1
  obtain ⟨A1, cap1, hve1, hf1⟩ := hl1.form
  obtain ⟨A2, cap2, hve2, hf2⟩ := hl2.form
  subst hve1
  subst hve2
  have hlen : ∀ A n c, v2 = .slice A n c → n ≤ 4611686018427387904 := by
    rintro A n c rfl
    have := Go.Proofs.YtlngflonolhdhaaW.PrintWords.sized_ints (B := 8) hsz (j := 2) (t := 35) rfl rfl Try.underlying35 Try.underlying3 (by kernel_rfl) (by kernel_rfl) h2
    omega
  obtain ⟨P0, ps, pc, gp, rfl, hints, hgp⟩ := open_picks hv2 hlen h2
  clear hA0 hval0 hsz0 hsz
  refine (quarters_any W A1 l1 cap1 A2 l2 cap2 P0 ps pc gp hf1 hf2 hints hgp).mono fun e W' ⟨he, bel⟩ => ?_
  subst he
  exact ⟨_, rfl, _, _, _, [], _, [], hW', trodAll_mk1 (shut_bool Try.underlying4 _), (trodAll_cons_mk (Below.trod laidOut (by kernel_rfl) (of_decide_eq_true (by kernel_rfl)) h0 bel lt0) (trodAll_cons_mk (Below.trod laidOut (by kernel_rfl) (of_decide_eq_true (by kernel_rfl)) h1 bel lt1) (trodAll_cons_mk (Below.trod laidOut (by kernel_rfl) (of_decide_eq_true (by kernel_rfl)) h2 bel lt2) trodAll_mk0))), rfl, bel.frame _, fun h => by cases h⟩
theorem over : Rows.diskQuartersRow.holds Try.pinned (OpenSpec.ofChange Rows.diskQuartersSpec) :=
  OpenClaim.holds_of_wide 4 Try.f4 rfl rfl rfl rfl rfl rfl rfl ⟨rfl, rfl, rfl, rfl, rfl⟩ rfl rfl rfl rfl rfl (by kernel_rfl) Try.func4 (by kernel_rfl)
    (of_decide_eq_true (by kernel_rfl)) (by unfold Func.isWrapper; first | (rw [if_pos (by decide +kernel)]; kernel_rfl) | (rw [if_neg (by decide +kernel)]; exact ⟨rfl, rfl⟩))
    (fun os started H enc _ => lifted os started H enc)
end Go.Proofs.Ytlngflonolhdhaa.diskQuarters
namespace Go.Proofs.Ytlngflonolhdhaa
theorem diskQuarters_holds : Rows.DiskQuartersSaid := diskQuarters.over
#print axioms diskQuarters_holds
end Go.Proofs.Ytlngflonolhdhaa

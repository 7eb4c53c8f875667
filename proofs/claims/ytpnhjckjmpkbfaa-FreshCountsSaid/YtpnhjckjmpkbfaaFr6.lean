/- fresh: Counts, walked. -/
import Derived.Test.YtpnhjckjmpkbfaaFr5
set_option linter.unusedVariables false
set_option linter.unusedSimpArgs false
namespace Go.Proofs.Ytpnhjckjmpkbfaa
open Go.RowKit Go.Proofs.YtpnhjckjmpkbfaaW.PrintLast

def counts (o : Option F) (now : Int) : Bool := match o with | some f => decide (now < f.at_) || decide (now - f.at_ < f.span) | none => false
theorem fset (w : World) (cs : List Value) (hl : cs.length = 7) :
    FBox ((w.alloc (.cells zfc.toArray 42)).setCells w.heap.size 0 cs) w.heap.size cs ∧ Below w.heap.size w ((w.alloc (.cells zfc.toArray 42)).setCells w.heap.size 0 cs) ∧ (w.alloc (.cells zfc.toArray 42)).there w.heap.size 0 7 :=
  ⟨(FBox_new w zfc rfl).set cs hl, below_set ((Below.refl _ _).alloc (Nat.le_refl _) _) (Nat.le_refl _) _, (FBox_new w zfc rfl).2⟩

set_option maxRecDepth 100000 in
set_option maxHeartbeats 2000000 in
theorem counts_any (w : World) (A : Option Addr) (cap : Nat) (l : List F) (h : Int × Int) (now : Int) (h0 : 0 ≤ now) (h1 : now < 9223372036854775808) (hr : Reads w A l) (ho : Ok l) :
    Calls Try.prog 7 #[.slice A l.length cap, hv h, .int .u64 now] w fun r w' => r = .returned (.bool (counts (got l h) now)) ∧ Below w.heap.size w w' := by
  have HO := Lib.hid ho; clear ho
  obtain ⟨x, y⟩ := h
  have hb0 : Below w.heap.size w (w.alloc (.cells #[.int .u32 x, .int .u32 y] 30)) := (Below.refl _ _).alloc (Nat.le_refl _) _
  have HR := Lib.hid (hr.below hb0); clear hr
  unfold hv
  go_enter Try.func7, Try.ntmps7
  go_wp2_with fail
  generalize w.alloc (.cells #[.int .u32 x, .int .u32 y] 30) = W at hb0 HR ⊢
  refine (get_any W A cap l (x, y) HR.out HO.out).mono ?_
  rintro e w1 ⟨rfl, hb1⟩
  have hbw := hb0.trans (hb1.mono hb0.size)
  cases hg : got l (x, y) with
  | none =>
    obtain ⟨f1, f2, f3⟩ := fset w1 zfc rfl
    have HF := Lib.hid f3; clear f3
    simp only [hg, Option.isSome_none, gotc]
    go_wp2_with (first
      | (refine wpList_alloc_told rfl 42 rfl _ alloc_fresh ?_)
      | (refine wpList_store_mid rfl 42 (.tmp 7) (.tmp 13) rfl w1.heap.size 0 zfc.toArray (by rfl) (by rfl) HF.out size_zfc zfc_all ?_; simp only [List.toList_toArray])
      | fail)
    go_ret
    exact ⟨by rw [hg]; rfl, hbw.trans (f2.mono hbw.size)⟩
  | some f =>
    obtain ⟨f1, f2, f3⟩ := fset w1 (fc f) rfl
    have HF := Lib.hid f3; clear f3
    have hx := (got_some hg).1
    have hat := HO.out.at0 f (List.mem_of_getElem? hx)
    have hfine := HO.out.fine f (List.mem_of_getElem? hx)
    have hat2 : f.at_ ≤ 1099511627776 := by simp [fine] at hfine; omega
    have c5 : ((w1.alloc (.cells zfc.toArray 42)).setCells w1.heap.size 0 (fc f)).cell? ⟨w1.heap.size, 5, none⟩ = some (.int .u64 f.at_) := by have := f1.1 5 _ rfl; simpa using this
    have c6 : ((w1.alloc (.cells zfc.toArray 42)).setCells w1.heap.size 0 (fc f)).cell? ⟨w1.heap.size, 6, none⟩ = some (.int .u64 f.span) := by have := f1.1 6 _ rfl; simpa using this
    have hfs' := size_fresh' f
    have hfa := fc_all f
    have hfl : (fc f).toArray.size = 7 := rfl
    have hres : counts (got l (x, y)) now = (decide (now < f.at_) || decide (now - f.at_ < f.span)) := by rw [hg]; rfl
    clear f1 hfine
    simp only [hg, Option.isSome_some, gotc]
    generalize hfc : fc f = cs at HF hfs' hfa hfl c5 c6 f2 ⊢
    by_cases hlt : now < f.at_
    · go_wp2_with (first
        | (refine wpList_alloc_told rfl 42 rfl _ alloc_fresh ?_)
        | (refine wpList_store_mid rfl 42 (.tmp 7) (.tmp 13) rfl w1.heap.size 0 cs.toArray (by rfl) (by rfl) (by rw [hfl]; exact HF.out) hfs' hfa ?_; simp only [List.toList_toArray])
        | fail)
      go_ret
      exact ⟨by show Ending.returned (Value.bool true) = _; simp [counts, hg, hlt], hbw.trans (f2.mono hbw.size)⟩
    · by_cases hlt2 : now - f.at_ < f.span
      · go_wp2_with (first
          | (refine wpList_alloc_told rfl 42 rfl _ alloc_fresh ?_)
          | (refine wpList_store_mid rfl 42 (.tmp 7) (.tmp 13) rfl w1.heap.size 0 cs.toArray (by rfl) (by rfl) (by rw [hfl]; exact HF.out) hfs' hfa ?_; simp only [List.toList_toArray])
          | fail)
        go_ret
        exact ⟨by show Ending.returned (Value.bool true) = _; simp [counts, hg, hlt2], hbw.trans (f2.mono hbw.size)⟩
      · go_wp2_with (first
          | (refine wpList_alloc_told rfl 42 rfl _ alloc_fresh ?_)
          | (refine wpList_store_mid rfl 42 (.tmp 7) (.tmp 13) rfl w1.heap.size 0 cs.toArray (by rfl) (by rfl) (by rw [hfl]; exact HF.out) hfs' hfa ?_; simp only [List.toList_toArray])
          | fail)
        go_ret
        exact ⟨by show Ending.returned (Value.bool false) = _; simp [counts, hg, hlt, hlt2], hbw.trans (f2.mono hbw.size)⟩
end Go.Proofs.Ytpnhjckjmpkbfaa

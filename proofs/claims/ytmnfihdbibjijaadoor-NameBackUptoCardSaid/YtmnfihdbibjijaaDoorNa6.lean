/- name: Write, walked. -/
import Derived.Test.YtmnfihdbibjijaaDoorNa5
set_option linter.unusedVariables false
set_option linter.unusedSimpArgs false
namespace Go.Proofs.YtmnfihdbibjijaaDoor
open Go.RowKit Go.Proofs.YtmnfihdbibjijaaDoorW.PrintWords
open Go.Lib (Utf8Tabs decodeGo splitB countB)
open Go.Proofs (Utf8Tabs_below)

def joinP (l : List ByteArray) : ByteArray := ⟨(Lib.join (l.map (·.data.toList)) [47]).toArray⟩
def writeP (l : List ByteArray) : ByteArray × Int := if mayP l then (joinP l, 0) else (⟨#[]⟩, 2)
theorem isP_size {s : ByteArray} (h : isP s = true) : s.size ≤ 32 := by
  unfold isP at h
  simp only [Bool.and_eq_true, decide_eq_true_eq] at h
  omega
theorem lens_le : ∀ (l : List ByteArray), (∀ s ∈ l, s.size ≤ 32) → Lib.lens (l.map (·.data.toList)) ≤ 32 * l.length
  | [], _ => by simp [Lib.lens]
  | s :: l, h => by
    have h1 := lens_le l (fun t ht => h t (List.mem_cons_of_mem _ ht))
    have h2 := h s (List.mem_cons_self ..)
    have h3 : s.data.toList.length = s.size := Array.length_toList
    simp only [List.map_cons, Lib.lens, List.length_cons, List.sum_cons] at *
    omega
theorem join_le (l : List ByteArray) (h4 : l.length ≤ 4) (h : ∀ s ∈ l, s.size ≤ 32) : (Lib.join (l.map (·.data.toList)) [47]).length ≤ 140 := by
  cases l with
  | nil => simp [Lib.join_nil]
  | cons s l =>
    have := lens_le (s :: l) h
    rw [List.map_cons] at *
    rw [Lib.join_length]
    simp at *
    omega
set_option maxHeartbeats 1000000 in
theorem Write_any (w : World) (A : Option Addr) (c : Nat) (l : List ByteArray) (hl : TextsAt w A l) (hc : l.length ≤ c) (hs : okS l) (hT : Utf8Tabs 0 1 w) :
    Calls Tryd.prog 14 #[.slice A l.length c] w fun e w' => e = .returned (.tuple #[.string (writeP l).1, .int .i64 (writeP l).2]) ∧ Below w.heap.size w w' := by
  have hm := May_any w A c l hl hs hT
  have HL := Lib.hid hl; clear hl
  cases ha : mayP l with
  | false =>
    have hw : writeP l = (⟨#[]⟩, 2) := by unfold writeP; rw [ha]; rfl
    rw [ha] at hm
    have HM := Lib.hid hm; clear hm
    rw [hw]
    clear ha hw
    go_enter Tryd.func14, Tryd.ntmps14
    go_wp2_with fail
    refine HM.out.mono ?_
    rintro e w1 ⟨rfl, hb⟩
    go_wp2_with fail
    go_ret2
    exact ⟨rfl, hb⟩
  | true =>
    have hw : writeP l = (joinP l, 0) := by unfold writeP; rw [ha]; rfl
    rw [ha] at hm
    have HM := Lib.hid hm; clear hm
    rw [hw]
    have hml : l.length ≤ 4 ∧ ∀ s ∈ l, s.size ≤ 32 := by
      unfold mayP at ha
      simp only [Bool.and_eq_true, decide_eq_true_eq, List.all_eq_true] at ha
      exact ⟨ha.1, fun s hs => isP_size (ha.2 s hs)⟩
    have hj : ∀ W, Below w.heap.size w W → Calls Tryd.prog 27 #[.slice A l.length c, .string sl] W fun e w' => e = .returned (.string (joinP l)) ∧ Below W.heap.size W w' := by
      intro W hb
      cases l with
      | nil =>
        exact (Tryd.strings_Join_none A c sl W).mono fun e w' ⟨h1, h2⟩ => ⟨by rw [h1]; rfl, by rw [h2]; exact Below.refl _ _⟩
      | cons s l =>
        have hl2 := HL.out.below hb
        obtain ⟨b, o, rfl, h0⟩ := hl2.get (i := 0) (s := s) rfl
        exact Tryd.strings_Join b o c (s :: l) sl W (fun j x hx => by
          obtain ⟨b', o', e, h⟩ := hl2.get hx
          injection e with e; injection e with e1 e2 e3; subst e1; subst e2; exact h) (World.block_lt_of_cell? W _ h0) (by omega) hc (by have := join_le (s :: l) hml.1 hml.2; show (Lib.join _ [47]).length ≤ _; omega)
    have HJ := Lib.hid hj; clear hj
    clear ha hw
    go_enter Tryd.func14, Tryd.ntmps14
    go_wp2_with fail
    refine HM.out.mono ?_
    rintro e w1 ⟨rfl, hb⟩
    go_wp2_with fail
    refine (HJ.out w1 hb).mono ?_
    rintro e w2 ⟨rfl, hb2⟩
    go_wp2_with fail
    go_ret2
    exact ⟨rfl, hb.trans (hb2.mono hb.size)⟩
end Go.Proofs.YtmnfihdbibjijaaDoor

/- name: all, May, Path, Write, walked. -/
import Derived.Test.YtmnfihdbibjijaaDoorNa3
import Derived.Test.YtmnfihdbibjijaaDoorWWords
set_option linter.unusedVariables false
set_option linter.unusedSimpArgs false
namespace Go.Proofs.YtmnfihdbibjijaaDoor
open Go.RowKit Go.Proofs.YtmnfihdbibjijaaDoorW.PrintWords
open Go.Lib (Utf8Tabs decodeGo splitB countB)
open Go.Proofs (Utf8Tabs_below)

def okS (l : List ByteArray) : Prop := ∀ s ∈ l, s.size ≤ 4611686018427387904
def TextsAt (w : World) (A : Option Addr) (l : List ByteArray) : Prop := Kd.C Kd.string w A l.length l
theorem TextsAt.below {w w' : World} {A : Option Addr} {l : List ByteArray} (h : TextsAt w A l) (hb : Below w.heap.size w w') : TextsAt w' A l := Kd.C_below h hb
theorem TextsAt.get {w : World} {A : Option Addr} {l : List ByteArray} (h : TextsAt w A l) {i : Nat} {s : ByteArray} (hs : l[i]? = some s) : ∃ b o, A = some ⟨b, o, none⟩ ∧ w.cell? ⟨b, o + i, none⟩ = some (.string s) := by
  have hi : i < l.length := (List.getElem?_eq_some_iff.1 hs).1
  obtain ⟨ad, e, hc⟩ := Kd.at_string h (i : Int) (by omega) (by omega)
  obtain ⟨ad0, e0, hc0⟩ := Kd.at_string h 0 (by omega) (by omega)
  obtain rfl : ad0 = ad := by rw [e] at e0; exact (Option.some.inj e0).symm
  have he : rdOf ByteArray.empty l (i : Int) = s := by simp [rdOf, hs]
  rw [he, Int.toNat_natCast] at hc
  have hz : ad0.add (Int.toNat 0) = ad0 := rfl
  rw [hz] at hc0
  obtain ⟨b, o, sp⟩ := ad0
  cases sp with
  | none => exact ⟨b, o, e, by rw [Addr.add_mid] at hc; exact hc⟩
  | some x => exfalso; simp [World.cell?] at hc0; split at hc0 <;> simp at hc0
theorem TextsAt.len {w : World} {A : Option Addr} {l : List ByteArray} (h : TextsAt w A l) : l.length ≤ 9223372036854775807 := h.2.1
set_option maxHeartbeats 1000000 in
theorem all_any (w : World) (A : Option Addr) (c : Nat) (l : List ByteArray) (hl : TextsAt w A l) (hs : okS l) (hT : Utf8Tabs 0 1 w) :
    Calls Tryd.prog 25 #[.slice A l.length c] w fun e w' => e = .returned (.bool (l.all isP)) ∧ Below w.heap.size w w' := by
  have hn := hl.len
  have HT := Lib.hid hT; clear hT
  have HL := Lib.hid hl; clear hl
  have HS := Lib.hid hs; clear hs
  go_enter Tryd.func25, Tryd.ntmps25
  go_wp2_with fail
  go_loopw [7] (fun vi wr => ∃ i : Nat, i ≤ l.length ∧ vi = .int .i64 i ∧ Hid ((l.take i).all isP = true) ∧ Below w.heap.size w wr) (fun vi _ => ((l.length : Int) - intOf vi).toNat)
  case atStart => exact ⟨0, Nat.zero_le _, rfl, Lib.hid (by simp), Below.refl _ _⟩
  case round =>
    obtain ⟨i, hin, rfl, HA, hb⟩ := hrel
    have hk0 : (0 : Int) ≤ (i : Int) := by omega
    by_cases hlt : (i : Int) < (l.length : Int)
    · have hx : l[i]? = some l[i] := List.getElem?_eq_getElem (by omega)
      obtain ⟨b, o, rfl, hc⟩ := (HL.out.below hb).get hx
      have hsx := HS.out l[i] (List.getElem_mem _)
      generalize l[i] = s at hx hc hsx
      have HX := Lib.hid hx; clear hx
      go_wp2_with fail
      have hi := Is_any wr s hsx (Utf8Tabs_below HT.out hb)
      cases h : isP s with
      | true =>
        rw [h] at hi
        have HI := Lib.hid hi; clear hi
        have HH := Lib.hid h; clear h
        refine HI.out.mono ?_
        rintro e w1 ⟨rfl, hb1⟩
        go_wp2_with fail
        go_roundw
        case rel => exact ⟨i + 1, by omega, by go_num, Lib.hid (by rw [List.take_add_one, HX.out, List.all_append, HA.out]; simp [HH.out]), hb.trans (hb1.mono hb.size)⟩
        case measure => simp only [intOf]; omega
      | false =>
        rw [h] at hi
        have HI := Lib.hid hi; clear hi
        have HH := Lib.hid h; clear h
        refine HI.out.mono ?_
        rintro e w1 ⟨rfl, hb1⟩
        go_wp2_with fail
        go_ret
        refine ⟨?_, hb.trans (hb1.mono hb.size)⟩
        have : l.all isP = false := by
          rw [List.all_eq_false]
          exact ⟨s, List.mem_of_getElem? HX.out, by rw [HH.out]; simp⟩
        rw [this]; rfl
    · obtain rfl : i = l.length := by omega
      go_wp2_with fail
      go_ret
      have := HA.out
      rw [List.take_length] at this
      exact ⟨by rw [this]; rfl, hb⟩
def mayP (l : List ByteArray) : Bool := decide (l.length ≤ 4) && l.all isP
theorem May_any (w : World) (A : Option Addr) (c : Nat) (l : List ByteArray) (hl : TextsAt w A l) (hs : okS l) (hT : Utf8Tabs 0 1 w) :
    Calls Tryd.prog 17 #[.slice A l.length c] w fun e w' => e = .returned (.bool (mayP l)) ∧ Below w.heap.size w w' := by
  have hn := hl.len
  have HT := Lib.hid hT; clear hT
  have HL := Lib.hid hl; clear hl
  have HS := Lib.hid hs; clear hs
  by_cases h : (l.length : Int) ≤ 4
  · have hm : mayP l = l.all isP := by unfold mayP; rw [decide_eq_true (by omega)]; rfl
    have HM := Lib.hid hm; clear hm
    go_enter Tryd.func17, Tryd.ntmps17
    go_wp2_with fail
    refine (all_any w A c l HL.out HS.out HT.out).mono ?_
    rw [← HM.out]
    rintro e w1 ⟨rfl, hb⟩
    go_wp2_with fail
    go_ret
    exact ⟨rfl, hb⟩
  · have hm : mayP l = false := by unfold mayP; rw [decide_eq_false (by omega)]; rfl
    have h' : decide ((l.length : Int) ≤ 4) = false := decide_eq_false h
    rw [hm]
    clear hm h
    go_enter Tryd.func17, Tryd.ntmps17
    go_wp2_with fail
    go_ret
    exact ⟨rfl, Below.refl _ _⟩
end Go.Proofs.YtmnfihdbibjijaaDoor

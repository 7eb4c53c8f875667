/- NamePieces, walked. -/
import Derived.Test.YtmnfihdbibjijaaDoorNae
import Derived.Test.YtmnfihdbibjijaaDoorNac
set_option linter.unusedVariables false
set_option linter.unusedSimpArgs false
namespace Go.Proofs.YtmnfihdbibjijaaDoor
open Go.RowKit Go.Proofs.YtmnfihdbibjijaaDoorW.PrintWords Go.Proofs.YtmnfihdbibjijaaDoor.PNamePaths
open Go.Lib (Utf8Tabs decodeGo splitB countB decodeN decode_at width_pos)

theorem runesP_le (s : ByteArray) : (runesP everyP s).1 ≤ s.size := by
  have := runesAt_le everyP s s.size 0 0 (by omega)
  rw [Nat.zero_add] at this
  exact this
set_option maxHeartbeats 1000000 in
theorem pieces_any (w : World) (a b : ByteArray) (ha : a.size ≤ 140737488351232) (hb : b.size ≤ 140737488351232) (h : Laid w) : Calls Tryd.prog 6 #[.string a, .string b] w fun e w' => e = .returned (.bool true) ∧ Below w.heap.size w w' := by
  have H := Lib.hid h; clear h
  have hp := pieces a b
  have hna := runesP_le a
  have hnb := runesP_le b
  have hsz : (a ++ b).size = a.size + b.size := size_append a b
  have hra := Runes_any w a (by omega) H.out.1
  have hrb := fun w1 (hh : Below w.heap.size w w1) => Runes_any w1 b (by omega) (H.out.below hh).1
  have hrc := fun w1 (hh : Below w.heap.size w w1) => Runes_any w1 (a ++ b) (by omega) (H.out.below hh).1
  unfold pairR at hra hrb hrc
  generalize runesP everyP a = ra at *
  generalize runesP everyP b = rb at *
  generalize runesP everyP (a ++ b) = rc at *
  obtain ⟨n, x⟩ := ra
  obtain ⟨m, y⟩ := rb
  obtain ⟨k, z⟩ := rc
  dsimp only at *
  have HA := Lib.hid hra; clear hra
  have HB := Lib.hid hrb; clear hrb
  have HC := Lib.hid hrc; clear hrc
  have HS := Lib.hid hsz; clear hsz
  have n0 : (0 : Int) ≤ n ∧ (n : Int) ≤ 140737488351232 := by omega
  have m0 : (0 : Int) ≤ m ∧ (m : Int) ≤ 140737488351232 := by omega
  have fin : ∀ wl, Below w.heap.size w wl → Calls Tryd.prog 11 #[] wl fun e w' => e = .returned (.bool true) ∧ Below wl.heap.size wl w' := fun wl hl => lives_any wl (H.out.below hl)
  have HF := Lib.hid fin; clear fin
  have hsA : a.size + b.size ≤ 281474976710656 := by omega
  cases x <;> cases y
  case true.true =>
    simp only [if_true, Prod.mk.injEq] at hp
    obtain ⟨hk, rfl⟩ := hp
    have hkk : ((k : Int) == (n : Int) + (m : Int)) = true := by rw [beq_iff_eq]; omega
    have HK := Lib.hid hk; clear hk
    go_enter Tryd.func6, Tryd.ntmps6
    go_wp2_with fail
    refine HA.out.mono ?_
    rintro e w1 ⟨rfl, hb1⟩
    go_wp2_with fail
    refine (HB.out w1 hb1).mono ?_
    rintro e w2 ⟨rfl, hb2⟩
    have hB2 := hb1.trans (hb2.mono hb1.size)
    go_wp2_with fail
    refine (HC.out w2 hB2).mono ?_
    rintro e w3 ⟨rfl, hb3⟩
    have hB3 := hB2.trans (hb3.mono hB2.size)
    go_wp2_with fail
    refine (HF.out w3 hB3).mono ?_
    rintro e w4 ⟨rfl, hb4⟩
    go_wp2_with fail
    go_ret
    exact ⟨rfl, hB3.trans (hb4.mono hB3.size)⟩
  case true.false =>
    simp only [if_true, Bool.false_eq_true, if_false, Prod.mk.injEq] at hp
    obtain ⟨rfl, rfl⟩ := hp
    go_enter Tryd.func6, Tryd.ntmps6
    go_wp2_with fail
    refine HA.out.mono ?_
    rintro e w1 ⟨rfl, hb1⟩
    go_wp2_with fail
    refine (HB.out w1 hb1).mono ?_
    rintro e w2 ⟨rfl, hb2⟩
    have hB2 := hb1.trans (hb2.mono hb1.size)
    go_wp2_with fail
    refine (HC.out w2 hB2).mono ?_
    rintro e w3 ⟨rfl, hb3⟩
    have hB3 := hB2.trans (hb3.mono hB2.size)
    go_wp2_with fail
    refine (HF.out w3 hB3).mono ?_
    rintro e w4 ⟨rfl, hb4⟩
    go_wp2_with fail
    go_ret
    exact ⟨rfl, hB3.trans (hb4.mono hB3.size)⟩
  case false.true =>
    simp only [if_true, Bool.false_eq_true, if_false, Prod.mk.injEq] at hp
    obtain ⟨rfl, rfl⟩ := hp
    go_enter Tryd.func6, Tryd.ntmps6
    go_wp2_with fail
    refine HA.out.mono ?_
    rintro e w1 ⟨rfl, hb1⟩
    go_wp2_with fail
    refine (HB.out w1 hb1).mono ?_
    rintro e w2 ⟨rfl, hb2⟩
    have hB2 := hb1.trans (hb2.mono hb1.size)
    go_wp2_with fail
    refine (HC.out w2 hB2).mono ?_
    rintro e w3 ⟨rfl, hb3⟩
    have hB3 := hB2.trans (hb3.mono hB2.size)
    go_wp2_with fail
    refine (HF.out w3 hB3).mono ?_
    rintro e w4 ⟨rfl, hb4⟩
    go_wp2_with fail
    go_ret
    exact ⟨rfl, hB3.trans (hb4.mono hB3.size)⟩
  case false.false =>
    clear hp
    go_enter Tryd.func6, Tryd.ntmps6
    go_wp2_with fail
    refine HA.out.mono ?_
    rintro e w1 ⟨rfl, hb1⟩
    go_wp2_with fail
    refine (HB.out w1 hb1).mono ?_
    rintro e w2 ⟨rfl, hb2⟩
    have hB2 := hb1.trans (hb2.mono hb1.size)
    go_wp2_with fail
    refine (HC.out w2 hB2).mono ?_
    rintro e w3 ⟨rfl, hb3⟩
    have hB3 := hB2.trans (hb3.mono hB2.size)
    go_wp2_with fail
    refine (HF.out w3 hB3).mono ?_
    rintro e w4 ⟨rfl, hb4⟩
    go_wp2_with fail
    go_ret
    exact ⟨rfl, hB3.trans (hb4.mono hB3.size)⟩
end Go.Proofs.YtmnfihdbibjijaaDoor

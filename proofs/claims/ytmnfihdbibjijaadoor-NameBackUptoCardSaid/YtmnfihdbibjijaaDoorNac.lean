/- NameTells, walked. -/
import Derived.Test.YtmnfihdbibjijaaDoorNab
set_option linter.unusedVariables false
set_option linter.unusedSimpArgs false
namespace Go.Proofs.YtmnfihdbibjijaaDoor
open Go.RowKit Go.Proofs.YtmnfihdbibjijaaDoorW.PrintWords Go.Proofs.YtmnfihdbibjijaaDoor.PNamePaths
open Go.Lib (Utf8Tabs decodeGo splitB countB decodeN decode_at width_pos)

set_option maxHeartbeats 1000000 in
theorem tells_any (w : World) (s : ByteArray) (hs : s.size ≤ 4611686018427387904) (h : Laid w) : Calls Tryd.prog 3 #[.string s] w fun e w' => e = .returned (.bool true) ∧ Below w.heap.size w w' := by
  have H := Lib.hid h; clear h
  go_enter Tryd.func3, Tryd.ntmps3
  go_wp2_with fail
  refine (Runes_any w s hs H.out.1).mono ?_
  unfold pairR
  rintro e w1 ⟨rfl, hb1⟩
  go_wp2_with fail
  refine (Runes_ref w1 s hs).mono ?_
  unfold pairR
  rintro e w2 ⟨rfl, hb2⟩
  have hB2 := hb1.trans (hb2.mono hb1.size)
  go_wp2_with fail
  refine (Is_any w2 s hs (H.out.below hB2).1).mono ?_
  rintro e w3 ⟨rfl, hb3⟩
  have hB3 := hB2.trans (hb3.mono hB2.size)
  go_wp2_with fail
  refine (Is_ref w3 s hs).mono ?_
  rintro e w4 ⟨rfl, hb4⟩
  have hB4 := hB3.trans (hb4.mono hB3.size)
  go_wp2_with fail
  refine (lives_any w4 (H.out.below hB4)).mono ?_
  rintro e w5 ⟨rfl, hb5⟩
  go_wp2_with fail
  go_ret
  exact ⟨rfl, hB4.trans (hb5.mono hB4.size)⟩
end Go.Proofs.YtmnfihdbibjijaaDoor

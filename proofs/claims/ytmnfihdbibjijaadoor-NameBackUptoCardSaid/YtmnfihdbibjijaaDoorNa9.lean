/- name: the document's point is the rune at a place. -/
import Derived.Test.YtmnfihdbibjijaaDoorNa8
set_option linter.unusedVariables false
set_option linter.unusedSimpArgs false
namespace Go.Proofs.YtmnfihdbibjijaaDoor
open Go.RowKit Go.Proofs.YtmnfihdbibjijaaDoorW.PrintWords Go.Proofs.YtmnfihdbibjijaaDoor.PNamePaths
open Go.Lib (Utf8Tabs decodeGo splitB countB decodeN decode_at width_pos)

def ptN (n b0 b1 b2 b3 : Nat) : Int × Int := if (decodeN n b0 b1 b2 b3).1 = 65533 ∧ (decodeN n b0 b1 b2 b3).2 = 1 then (0, 0) else (((decodeN n b0 b1 b2 b3).1 : Int), ((decodeN n b0 b1 b2 b3).2 : Int))
theorem ptN_bad {n b0 b1 b2 b3 : Nat} (h : decodeN n b0 b1 b2 b3 = (65533, 1)) : ptN n b0 b1 b2 b3 = (0, 0) := by unfold ptN; rw [h]; rfl
theorem ptN_ok {n b0 b1 b2 b3 r m : Nat} (h : decodeN n b0 b1 b2 b3 = (r, m)) (h2 : ¬ (r = 65533 ∧ m = 1)) : ptN n b0 b1 b2 b3 = ((r : Int), (m : Int)) := by unfold ptN; rw [h, if_neg h2]
theorem ptN_1 {n b0 b1 b2 b3 : Nat} (h : b0 < 128) : ptN n b0 b1 b2 b3 = ((b0 : Int), 1) := ptN_ok (by unfold decodeN; rw [if_pos h]) (by omega)
theorem ptN_0 {n b0 b1 b2 b3 : Nat} (h : 128 ≤ b0) (h2 : b0 < 192 ∨ 248 ≤ b0) (h3 : b0 < 256) : ptN n b0 b1 b2 b3 = (0, 0) := ptN_bad (by unfold decodeN; rw [if_neg (by omega), if_neg (by omega), if_neg (by omega), if_neg (by omega)])
theorem ptN_2 {n b0 b1 b2 b3 : Nat} (h : 192 ≤ b0 ∧ b0 < 224) (hb : b1 < 256) : ptN n b0 b1 b2 b3 = if n < 2 then (0, 0) else if b1 < 128 then (0, 0) else if 192 ≤ b1 then (0, 0) else if 64 * (b0 - 192) + b1 - 128 < 128 then (0, 0) else (((64 * (b0 - 192) + b1 - 128 : Nat) : Int), 2) := by
  by_cases c : n < 2 ∨ b1 < 128 ∨ 192 ≤ b1 ∨ 64 * (b0 - 192) + b1 - 128 < 128
  · have : decodeN n b0 b1 b2 b3 = (65533, 1) := by
      unfold decodeN
      rw [if_neg (by omega)]
      by_cases d : b0 / 32 = 6 ∧ 1 < n ∧ b1 / 64 = 2
      · rw [if_pos d, if_neg (by omega)]
      · rw [if_neg d, if_neg (by omega), if_neg (by omega)]
    rw [ptN_bad this]
    repeat' split
    all_goals first | (exfalso; omega) | rfl
  · rw [if_neg (by omega), if_neg (by omega), if_neg (by omega), if_neg (by omega)]
    refine ptN_ok (m := 2) ?_ (fun h => absurd h.2 (by decide))
    have e : b0 % 32 * 64 + b1 % 64 = 64 * (b0 - 192) + b1 - 128 := by omega
    unfold decodeN
    rw [e, if_neg (show ¬ b0 < 128 by omega), if_pos (show b0 / 32 = 6 ∧ (1 < n ∧ b1 / 64 = 2) by omega), if_pos (show _ ≥ 128 by omega)]
theorem ptN_3 {n b0 b1 b2 b3 : Nat} (h : 224 ≤ b0 ∧ b0 < 240) (hb : b1 < 256) (hb2 : b2 < 256) : ptN n b0 b1 b2 b3 = if n < 3 then (0, 0) else if b1 < 128 then (0, 0) else if 192 ≤ b1 then (0, 0) else if b2 < 128 then (0, 0) else if 192 ≤ b2 then (0, 0) else
    if 4096 * (b0 - 224) + 64 * (b1 - 128) + (b2 - 128) < 2048 ∨ (55296 ≤ 4096 * (b0 - 224) + 64 * (b1 - 128) + (b2 - 128) ∧ 4096 * (b0 - 224) + 64 * (b1 - 128) + (b2 - 128) ≤ 57343) then (0, 0) else (((4096 * (b0 - 224) + 64 * (b1 - 128) + (b2 - 128) : Nat) : Int), 3) := by
  by_cases c : n < 3 ∨ b1 < 128 ∨ 192 ≤ b1 ∨ b2 < 128 ∨ 192 ≤ b2
  · have : decodeN n b0 b1 b2 b3 = (65533, 1) := by
      unfold decodeN
      rw [if_neg (by omega), if_neg (by omega), if_neg (by omega), if_neg (by omega)]
    rw [ptN_bad this]
    repeat' split
    all_goals first | (exfalso; omega) | rfl
  · rw [if_neg (by omega), if_neg (by omega), if_neg (by omega), if_neg (by omega), if_neg (by omega)]
    have e : b0 % 16 * 4096 + b1 % 64 * 64 + b2 % 64 = 4096 * (b0 - 224) + 64 * (b1 - 128) + (b2 - 128) := by omega
    by_cases d : 4096 * (b0 - 224) + 64 * (b1 - 128) + (b2 - 128) < 2048 ∨ (55296 ≤ 4096 * (b0 - 224) + 64 * (b1 - 128) + (b2 - 128) ∧ 4096 * (b0 - 224) + 64 * (b1 - 128) + (b2 - 128) ≤ 57343)
    · rw [if_pos d]
      refine ptN_bad ?_
      unfold decodeN
      rw [e, if_neg (show ¬ b0 < 128 by omega), if_neg (show ¬ (b0 / 32 = 6 ∧ (1 < n ∧ b1 / 64 = 2)) by omega), if_pos (show b0 / 16 = 14 ∧ (1 < n ∧ b1 / 64 = 2) ∧ (2 < n ∧ b2 / 64 = 2) by omega), if_neg (by omega)]
    · rw [if_neg d]
      refine ptN_ok (m := 3) ?_ (fun h => absurd h.2 (by decide))
      unfold decodeN
      rw [e, if_neg (show ¬ b0 < 128 by omega), if_neg (show ¬ (b0 / 32 = 6 ∧ (1 < n ∧ b1 / 64 = 2)) by omega), if_pos (show b0 / 16 = 14 ∧ (1 < n ∧ b1 / 64 = 2) ∧ (2 < n ∧ b2 / 64 = 2) by omega), if_pos (by omega)]
theorem ptN_4 {n b0 b1 b2 b3 : Nat} (h : 240 ≤ b0 ∧ b0 < 248) (hb : b1 < 256) (hb2 : b2 < 256) (hb3 : b3 < 256) : ptN n b0 b1 b2 b3 = if n < 4 then (0, 0) else if b1 < 128 then (0, 0) else if 192 ≤ b1 then (0, 0) else if b2 < 128 then (0, 0) else if 192 ≤ b2 then (0, 0) else if b3 < 128 then (0, 0) else if 192 ≤ b3 then (0, 0) else
    if 262144 * (b0 - 240) + 4096 * (b1 - 128) + 64 * (b2 - 128) + (b3 - 128) < 65536 ∨ 1114111 < 262144 * (b0 - 240) + 4096 * (b1 - 128) + 64 * (b2 - 128) + (b3 - 128) then (0, 0) else (((262144 * (b0 - 240) + 4096 * (b1 - 128) + 64 * (b2 - 128) + (b3 - 128) : Nat) : Int), 4) := by
  by_cases c : n < 4 ∨ b1 < 128 ∨ 192 ≤ b1 ∨ b2 < 128 ∨ 192 ≤ b2 ∨ b3 < 128 ∨ 192 ≤ b3
  · have : decodeN n b0 b1 b2 b3 = (65533, 1) := by
      unfold decodeN
      rw [if_neg (by omega), if_neg (by omega), if_neg (by omega), if_neg (by omega)]
    rw [ptN_bad this]
    repeat' split
    all_goals first | (exfalso; omega) | rfl
  · rw [if_neg (by omega), if_neg (by omega), if_neg (by omega), if_neg (by omega), if_neg (by omega), if_neg (by omega), if_neg (by omega)]
    have e : b0 % 8 * 262144 + b1 % 64 * 4096 + b2 % 64 * 64 + b3 % 64 = 262144 * (b0 - 240) + 4096 * (b1 - 128) + 64 * (b2 - 128) + (b3 - 128) := by omega
    by_cases d : 262144 * (b0 - 240) + 4096 * (b1 - 128) + 64 * (b2 - 128) + (b3 - 128) < 65536 ∨ 1114111 < 262144 * (b0 - 240) + 4096 * (b1 - 128) + 64 * (b2 - 128) + (b3 - 128)
    · rw [if_pos d]
      refine ptN_bad ?_
      unfold decodeN
      rw [e, if_neg (show ¬ b0 < 128 by omega), if_neg (show ¬ (b0 / 32 = 6 ∧ (1 < n ∧ b1 / 64 = 2)) by omega), if_neg (show ¬ (b0 / 16 = 14 ∧ (1 < n ∧ b1 / 64 = 2) ∧ (2 < n ∧ b2 / 64 = 2)) by omega), if_pos (show b0 / 8 = 30 ∧ (1 < n ∧ b1 / 64 = 2) ∧ (2 < n ∧ b2 / 64 = 2) ∧ (3 < n ∧ b3 / 64 = 2) by omega), if_neg (by omega)]
    · rw [if_neg d]
      refine ptN_ok (m := 4) ?_ (fun h => absurd h.2 (by decide))
      unfold decodeN
      rw [e, if_neg (show ¬ b0 < 128 by omega), if_neg (show ¬ (b0 / 32 = 6 ∧ (1 < n ∧ b1 / 64 = 2)) by omega), if_neg (show ¬ (b0 / 16 = 14 ∧ (1 < n ∧ b1 / 64 = 2) ∧ (2 < n ∧ b2 / 64 = 2)) by omega), if_pos (show b0 / 8 = 30 ∧ (1 < n ∧ b1 / 64 = 2) ∧ (2 < n ∧ b2 / 64 = 2) ∧ (3 < n ∧ b3 / 64 = 2) by omega), if_pos (by omega)]
end Go.Proofs.YtmnfihdbibjijaaDoor

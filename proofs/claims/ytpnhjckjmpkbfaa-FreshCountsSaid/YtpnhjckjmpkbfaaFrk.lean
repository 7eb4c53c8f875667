/- fresh: FreshRoom, walked. -/
import Derived.Test.YtpnhjckjmpkbfaaFrj
set_option linter.unusedVariables false
set_option linter.unusedSimpArgs false
namespace Go.Proofs.Ytpnhjckjmpkbfaa
open Go.RowKit Go.Proofs.YtpnhjckjmpkbfaaW.PrintLast

def RoomAt (w : World) (sw : Bool) (n : Nat) (vh vi : Value) (wr : World) : Prop := ∃ (i : Nat) (l : List F), i ≤ n ∧ vi = .int .i64 i ∧ Room sw i l ∧ Own wr w.heap.size vh l ∧ Below w.heap.size w wr
theorem tell_room {B : Nat} {w : World} {v : Value} {sw : Bool} {i : Nat} {l : List F} (hv0 : Own w B v l) (hr : Room sw i l) (hi : i ≤ 200) :
    Calls Try.prog 5 #[v, .agg #[.int .u32 (ino sw i), .int .u32 3, .bool false, .int .u32 0, .int .u64 0], .int .u64 i] w fun r w' => ∃ v' l', r = .returned (.tuple #[v', .int .i64 0]) ∧ Below w.heap.size w w' ∧ Own w' w.heap.size v' l' ∧ Room sw (i + 1) l' := by
  rcases Nat.lt_or_ge i 64 with h | h
  · obtain ⟨h1, h2⟩ := hr.less h
    exact (tell_any hv0 hr.ok (rf sw i) (by simp [rf]) (by simp [rf]; omega) h1).mono fun r w' ⟨v', e, b, o⟩ => ⟨v', _, e, b, o, h2⟩
  · obtain ⟨h1, o, h2, h3, h4⟩ := hr.full h (by omega)
    exact (tell_full hv0 hr.ok (rf sw i) (by simp [rf]) (by simp [rf]; omega) h1 hr.new o h2 h3).mono fun r w' ⟨v', e, b, o⟩ => ⟨v', _, e, b, o, h4⟩

set_option maxRecDepth 100000 in
set_option maxHeartbeats 2000000 in
theorem room0 (w : World) (m : Int) (h0 : 0 ≤ m) (h1 : m ≤ 255) : Calls Try.prog 4 #[.int .u8 m, .bool false] w fun r w' => r = .returned (.bool true) ∧ Below w.heap.size w w' := by
  go_enter Try.func4, Try.ntmps4
  go_wp2_with fail
  obtain ⟨n, hn, hn1, hn2⟩ : ∃ n : Nat, 64 + m % 60 = (n : Int) ∧ 64 ≤ n ∧ n ≤ 123 := ⟨(64 + m % 60).toNat, by omega, by omega, by omega⟩
  simp only [hn]
  clear hn
  go_loopw [5, 7] (fun vh vi wr => RoomAt w false n vh vi wr) (fun vh vi _ => ((n : Int) - intOf vi).toNat)
  case atStart => exact ⟨0, [], Nat.zero_le _, rfl, Room.zero _, own_nil _ _, Below.refl _ _⟩
  case round =>
    obtain ⟨i, l, hin, rfl, hr, ho, hb⟩ := hrel
    have HR := Lib.hid hr; clear hr
    have HO := Lib.hid ho; clear ho
    have hk0 : (0 : Int) ≤ (i : Int) := by omega
    have hk1 : (i : Int) ≤ 200 := by omega
    by_cases hlt : (i : Int) < (n : Int)
    · have hino : ino false i = (i : Int) + 1 := rfl
      have ht := tell_room HO.out HR.out (by omega)
      rw [hino] at ht
      clear hino
      have HT := Lib.hid ht; clear ht
      go_wp2_with fail
      refine HT.out.mono ?_
      rintro e w1 ⟨v1, l1, rfl, hb1, ho1, hr1⟩
      have HR1 := Lib.hid hr1; clear hr1
      go_wp2_with fail
      go_roundw
      case rel => exact ⟨i + 1, l1, by omega, by go_num, HR1.out, ho1.base hb.size, hb.trans (hb1.mono hb.size)⟩
      case measure => simp only [intOf]; omega
    · obtain rfl : i = n := by omega
      obtain ⟨wo, rfl⟩ : ∃ wo : World, wo = wr := ⟨_, rfl⟩
      have hlen : l.length = 64 := by have := HR.out.len; omega
      obtain ⟨A, cap, rfl, hrd⟩ := HO.out.form
      have HRd := Lib.hid hrd; clear hrd
      simp only [hlen]
      have HLEN := Lib.hid hlen; clear hlen
      go_wp2_with fail
      go_loopw [11] (fun vi wr => ∃ j : Nat, j ≤ i ∧ vi = .int .i64 j ∧ Below wo.heap.size wo wr) (fun vi _ => ((i : Int) - intOf vi).toNat)
      case atStart => exact ⟨0, Nat.zero_le _, rfl, Below.refl _ _⟩
      case round =>
        obtain ⟨j, hjn, rfl, hb2⟩ := hrel
        have hj0 : (0 : Int) ≤ (j : Int) := by omega
        have hj1 : (j : Int) ≤ 200 := by omega
        by_cases hlt2 : (j : Int) < (i : Int)
        · have hino : ino false j = (j : Int) + 1 := rfl
          have hg := get_any wr A cap l (ino false j, 3) (HRd.out.below hb2) HR.out.ok
          have hgd := HR.out.got (j := j) (by omega)
          rw [HLEN.out] at hg
          dsimp only [hv] at hg
          rw [hino] at hg hgd
          clear hino
          have HG := Lib.hid hg; clear hg
          go_wp2_with fail
          refine HG.out.mono ?_
          clear HG
          cases hgo : got l ((j : Int) + 1, 3) with
          | none =>
            rw [hgo] at hgd
            simp only [Option.isSome_none, gotc, zfc] at hgd ⊢
            rintro e w2 ⟨rfl, hb3⟩
            have hba : Below wo.heap.size wo (w2.alloc (.cells #[.int .u32 0, .int .u32 0, .bool false, .int .u32 0, .int .u64 0, .int .u64 0, .int .u64 0] 42)) := (hb2.trans (hb3.mono hb2.size)).alloc (hb2.trans (hb3.mono hb2.size)).size _
            have hgd' := hgd.symm
            clear hgd hgo
            go_wp2_with fail
            exact ⟨⟨j + 1, by omega, by go_num, hba⟩, by simp only [intOf]; omega⟩
          | some f =>
            rw [hgo] at hgd
            simp only [Option.isSome_some, gotc] at hgd ⊢
            rintro e w2 ⟨rfl, hb3⟩
            have hba : Below wo.heap.size wo (w2.alloc (.cells (fc f).toArray 42)) := (hb2.trans (hb3.mono hb2.size)).alloc (hb2.trans (hb3.mono hb2.size)).size _
            have hgd' := hgd.symm
            clear hgd hgo
            obtain ⟨⟨gx, gy⟩, gd, gs, gc, gt, gp⟩ := f
            dsimp only [fc] at *
            go_wp2_with fail
            exact ⟨⟨j + 1, by omega, by go_num, hba⟩, by simp only [intOf]; omega⟩
        · go_wp2_with fail
          refine (lives_any wr).mono ?_
          rintro e w2 ⟨rfl, hb3⟩
          go_wp2_with fail
          go_ret
          have hb4 := hb.trans (hb2.mono hb.size)
          exact ⟨rfl, hb4.trans (hb3.mono hb4.size)⟩
set_option maxRecDepth 100000 in
set_option maxHeartbeats 2000000 in
theorem room1 (w : World) (m : Int) (h0 : 0 ≤ m) (h1 : m ≤ 255) : Calls Try.prog 4 #[.int .u8 m, .bool true] w fun r w' => r = .returned (.bool true) ∧ Below w.heap.size w w' := by
  go_enter Try.func4, Try.ntmps4
  go_wp2_with fail
  obtain ⟨n, hn, hn1, hn2⟩ : ∃ n : Nat, 64 + m % 60 = (n : Int) ∧ 64 ≤ n ∧ n ≤ 123 := ⟨(64 + m % 60).toNat, by omega, by omega, by omega⟩
  simp only [hn]
  clear hn
  go_loopw [5, 7] (fun vh vi wr => RoomAt w true n vh vi wr) (fun vh vi _ => ((n : Int) - intOf vi).toNat)
  case atStart => exact ⟨0, [], Nat.zero_le _, rfl, Room.zero _, own_nil _ _, Below.refl _ _⟩
  case round =>
    obtain ⟨i, l, hin, rfl, hr, ho, hb⟩ := hrel
    have HR := Lib.hid hr; clear hr
    have HO := Lib.hid ho; clear ho
    have hk0 : (0 : Int) ≤ (i : Int) := by omega
    have hk1 : (i : Int) ≤ 200 := by omega
    by_cases hlt : (i : Int) < (n : Int)
    · have hino : ino true i = 1000 - (i : Int) := rfl
      have ht := tell_room HO.out HR.out (by omega)
      rw [hino] at ht
      clear hino
      have HT := Lib.hid ht; clear ht
      go_wp2_with fail
      refine HT.out.mono ?_
      rintro e w1 ⟨v1, l1, rfl, hb1, ho1, hr1⟩
      have HR1 := Lib.hid hr1; clear hr1
      go_wp2_with fail
      go_roundw
      case rel => exact ⟨i + 1, l1, by omega, by go_num, HR1.out, ho1.base hb.size, hb.trans (hb1.mono hb.size)⟩
      case measure => simp only [intOf]; omega
    · obtain rfl : i = n := by omega
      obtain ⟨wo, rfl⟩ : ∃ wo : World, wo = wr := ⟨_, rfl⟩
      have hlen : l.length = 64 := by have := HR.out.len; omega
      obtain ⟨A, cap, rfl, hrd⟩ := HO.out.form
      have HRd := Lib.hid hrd; clear hrd
      simp only [hlen]
      have HLEN := Lib.hid hlen; clear hlen
      go_wp2_with fail
      go_loopw [11] (fun vi wr => ∃ j : Nat, j ≤ i ∧ vi = .int .i64 j ∧ Below wo.heap.size wo wr) (fun vi _ => ((i : Int) - intOf vi).toNat)
      case atStart => exact ⟨0, Nat.zero_le _, rfl, Below.refl _ _⟩
      case round =>
        obtain ⟨j, hjn, rfl, hb2⟩ := hrel
        have hj0 : (0 : Int) ≤ (j : Int) := by omega
        have hj1 : (j : Int) ≤ 200 := by omega
        by_cases hlt2 : (j : Int) < (i : Int)
        · have hino : ino true j = 1000 - (j : Int) := rfl
          have hg := get_any wr A cap l (ino true j, 3) (HRd.out.below hb2) HR.out.ok
          have hgd := HR.out.got (j := j) (by omega)
          rw [HLEN.out] at hg
          dsimp only [hv] at hg
          rw [hino] at hg hgd
          clear hino
          have HG := Lib.hid hg; clear hg
          go_wp2_with fail
          refine HG.out.mono ?_
          clear HG
          cases hgo : got l (1000 - (j : Int), 3) with
          | none =>
            rw [hgo] at hgd
            simp only [Option.isSome_none, gotc, zfc] at hgd ⊢
            rintro e w2 ⟨rfl, hb3⟩
            have hba : Below wo.heap.size wo (w2.alloc (.cells #[.int .u32 0, .int .u32 0, .bool false, .int .u32 0, .int .u64 0, .int .u64 0, .int .u64 0] 42)) := (hb2.trans (hb3.mono hb2.size)).alloc (hb2.trans (hb3.mono hb2.size)).size _
            have hgd' := hgd.symm
            clear hgd hgo
            go_wp2_with fail
            exact ⟨⟨j + 1, by omega, by go_num, hba⟩, by simp only [intOf]; omega⟩
          | some f =>
            rw [hgo] at hgd
            simp only [Option.isSome_some, gotc] at hgd ⊢
            rintro e w2 ⟨rfl, hb3⟩
            have hba : Below wo.heap.size wo (w2.alloc (.cells (fc f).toArray 42)) := (hb2.trans (hb3.mono hb2.size)).alloc (hb2.trans (hb3.mono hb2.size)).size _
            have hgd' := hgd.symm
            clear hgd hgo
            obtain ⟨⟨gx, gy⟩, gd, gs, gc, gt, gp⟩ := f
            dsimp only [fc] at *
            go_wp2_with fail
            exact ⟨⟨j + 1, by omega, by go_num, hba⟩, by simp only [intOf]; omega⟩
        · go_wp2_with fail
          refine (lives_any wr).mono ?_
          rintro e w2 ⟨rfl, hb3⟩
          go_wp2_with fail
          go_ret
          have hb4 := hb.trans (hb2.mono hb.size)
          exact ⟨rfl, hb4.trans (hb3.mono hb4.size)⟩
theorem room_any (w : World) (m : Int) (sw : Bool) (h0 : 0 ≤ m) (h1 : m ≤ 255) : Calls Try.prog 4 #[.int .u8 m, .bool sw] w fun r w' => r = .returned (.bool true) ∧ Below w.heap.size w w' := by
  cases sw
  · exact room0 w m h0 h1
  · exact room1 w m h0 h1
end Go.Proofs.Ytpnhjckjmpkbfaa

/- NameBack, walked. -/
import Derived.Test.YtmnfihdbibjijaaDoorNaj
set_option linter.unusedVariables false
set_option linter.unusedSimpArgs false
namespace Go.Proofs.YtmnfihdbibjijaaDoor
open Go.RowKit Go.Proofs.YtmnfihdbibjijaaDoorW.PrintWords Go.Proofs.YtmnfihdbibjijaaDoor.PNamePaths
open Go.Lib (splitB countB splitK count index Utf8Tabs join joinTail)

theorem joinP_size {l : List ByteArray} (h : mayP l = true) : (joinP l).size < 4294967281 := by
  obtain ⟨h4, hall⟩ := may_parts h
  have := join_le l h4 (fun s hs => isP_size (hall s hs))
  rw [← size_data, data_joinP]; omega
theorem pathP_cases (s : ByteArray) : ((pathP s).2 = 0 ∧ ((pathP s).2 != 0) = false) ∨ ((pathP s).2 ≠ 0 ∧ ((pathP s).2 != 0) = true) := by
  by_cases h : (pathP s).2 = 0
  · exact .inl ⟨h, by rw [h]; rfl⟩
  · exact .inr ⟨h, by simpa using h⟩
theorem pathP_ok (s : ByteArray) (hs : s.size < 4294967281) : okS (pathP s).1 := by
  intro p hp
  unfold pathP at hp
  split at hp
  · simp at hp
  · split at hp
    · split at hp
      · have := splitB_size sl 0 _ s p hp; omega
      · simp at hp
    · simp at hp
set_option maxRecDepth 100000 in
set_option maxHeartbeats 4000000 in
theorem back_any (w : World) (s : ByteArray) (A : Option Addr) (c : Nat) (l : List ByteArray) (hs : s.size < 4294967281) (hl : TextsAt w A l) (hc : l.length ≤ c) (hos : okS l) (h : Laid w) :
    Calls Tryd.prog 5 #[.string s, .slice A l.length c] w fun e w' => e = .returned (.bool true) ∧ Below w.heap.size w w' := by
  have hn := hl.len
  have H := Lib.hid h; clear h
  have HL := Lib.hid hl; clear hl
  have HOS := Lib.hid hos; clear hos
  have hpok := pathP_ok s hs
  have hplen := pathP_len s
  by_cases h100 : (l.length : Int) > 100
  · go_enter Tryd.func5, Tryd.ntmps5
    go_wp2_with fail
    refine (lives_any w H.out).mono ?_
    rintro e w1 ⟨rfl, hb1⟩
    go_wp2_with fail
    go_ret
    exact ⟨rfl, hb1⟩
  · have hpath := fun w1 (hh : Below w.heap.size w w1) => Path_laid w1 s hs (H.out.below hh)
    unfold PathPost at hpath
    have hwm : (pathP s).2 = 0 → writeP (pathP s).1 = (s, 0) ∧ mayP (pathP s).1 = true := fun h => by
      obtain ⟨a, b⟩ := write_path h
      refine ⟨?_, a⟩
      unfold writeP; rw [a, b]; rfl
    have herr := @path_err s
    have hpc := pathP_cases s
    have hwr := Write_any w A c l HL.out hc HOS.out H.out.1
    have hmay := fun w1 (hh : Below w.heap.size w w1) => May_any w1 A c l (HL.out.below hh) HOS.out (H.out.below hh).1
    generalize hpp : pathP s = pp at *
    obtain ⟨m, f⟩ := pp
    dsimp only at *
    have HPATH := Lib.hid hpath; clear hpath
    have HWM := Lib.hid hwm; clear hwm
    have HERR := Lib.hid herr; clear herr
    have HPOK := Lib.hid hpok; clear hpok
    clear hpp
    have hss : (s.toList == s.toList) = true := by simp
    cases hm : mayP l
    · have tokp : True := trivial
      rw [hm] at hmay
      have HMAY := Lib.hid hmay; clear hmay
      have hw : writeP l = (⟨#[]⟩, 2) := by unfold writeP; rw [hm]; rfl
      rw [hw] at hwr
      have HWR := Lib.hid hwr; clear hwr
      clear hw hm
      rcases hpc with ⟨hf, hfb⟩ | ⟨hf, hfb⟩
      · have tokq : True := trivial
        subst hf
        obtain ⟨hw2, hm2⟩ := HWM.out rfl
        have HW2 := Lib.hid hw2; clear hw2
        have HM2 := Lib.hid hm2; clear hm2
        go_enter Tryd.func5, Tryd.ntmps5
        go_wp2_with fail
        refine HWR.out.mono ?_
        rintro e w1 ⟨rfl, hB1⟩
        go_wp2_with fail
        refine (HMAY.out w1 hB1).mono ?_
        rintro e w2 ⟨rfl, hb2⟩
        have hB2 := hB1.trans (hb2.mono hB1.size)
        go_wp2_with fail
        obtain ⟨w4, rfl⟩ : ∃ w4 : World, w4 = w2 := ⟨_, rfl⟩
        have hB4 := hB2
        refine (HPATH.out w4 hB4).mono ?_
        rintro e w5 ⟨A5, c5, rfl, ht5, hc5, hb5⟩
        have hB5 := hB4.trans (hb5.mono hB4.size)
        have HT5 := Lib.hid ht5; clear ht5
        have HC5 := Lib.hid hc5; clear hc5
        go_wp2_with fail
        refine (Write_any w5 A5 c5 m HT5.out HC5.out HPOK.out (H.out.below hB5).1).mono ?_
        rw [HW2.out]
        rintro e w6 ⟨rfl, hb6⟩
        have hB6 := hB5.trans (hb6.mono hB5.size)
        go_wp2_with fail
        refine (May_any w6 A5 c5 m (HT5.out.below hb6) HPOK.out (H.out.below hB6).1).mono ?_
        rw [HM2.out]
        rintro e w7 ⟨rfl, hb7⟩
        have hB7 := hB6.trans (hb7.mono hB6.size)
        go_wp2_with fail
        refine (lives_any w7 (H.out.below hB7)).mono ?_
        rintro e w8 ⟨rfl, hb8⟩
        go_wp2_with fail
        go_ret
        exact ⟨rfl, hB7.trans (hb8.mono hB7.size)⟩
      · have tokq : True := trivial
        have hme := HERR.out hf
        subst hme
        clear hf
        go_enter Tryd.func5, Tryd.ntmps5
        go_wp2_with fail
        refine HWR.out.mono ?_
        rintro e w1 ⟨rfl, hB1⟩
        go_wp2_with fail
        refine (HMAY.out w1 hB1).mono ?_
        rintro e w2 ⟨rfl, hb2⟩
        have hB2 := hB1.trans (hb2.mono hB1.size)
        go_wp2_with fail
        obtain ⟨w4, rfl⟩ : ∃ w4 : World, w4 = w2 := ⟨_, rfl⟩
        have hB4 := hB2
        refine (HPATH.out w4 hB4).mono ?_
        rintro e w5 ⟨A5, c5, rfl, ht5, hc5, hb5⟩
        have hB5 := hB4.trans (hb5.mono hB4.size)
        have HT5 := Lib.hid ht5; clear ht5
        have HC5 := Lib.hid hc5; clear hc5
        go_wp2_with fail
        obtain ⟨w7, rfl⟩ : ∃ w7 : World, w7 = w5 := ⟨_, rfl⟩
        have hB7 := hB5
        refine (lives_any w7 (H.out.below hB7)).mono ?_
        rintro e w8 ⟨rfl, hb8⟩
        go_wp2_with fail
        go_ret
        exact ⟨rfl, hB7.trans (hb8.mono hB7.size)⟩
    · have tokp : True := trivial
      rw [hm] at hmay
      have HMAY := Lib.hid hmay; clear hmay
      have hw : writeP l = (joinP l, 0) := by unfold writeP; rw [hm]; rfl
      have hpw := fun w1 (hh : Below w.heap.size w w1) => Path_laid w1 (joinP l) (joinP_size hm) (H.out.below hh)
      unfold PathPost at hpw
      rw [path_write hm] at hpw
      have HPW := Lib.hid hpw; clear hpw
      rw [hw] at hwr
      have HWR := Lib.hid hwr; clear hwr
      clear hw hm
      rcases hpc with ⟨hf, hfb⟩ | ⟨hf, hfb⟩
      · have tokq : True := trivial
        subst hf
        obtain ⟨hw2, hm2⟩ := HWM.out rfl
        have HW2 := Lib.hid hw2; clear hw2
        have HM2 := Lib.hid hm2; clear hm2
        go_enter Tryd.func5, Tryd.ntmps5
        go_wp2_with fail
        refine HWR.out.mono ?_
        rintro e w1 ⟨rfl, hB1⟩
        go_wp2_with fail
        refine (HMAY.out w1 hB1).mono ?_
        rintro e w2 ⟨rfl, hb2⟩
        have hB2 := hB1.trans (hb2.mono hB1.size)
        go_wp2_with fail
        refine (HPW.out w2 hB2).mono ?_
        rintro e w3 ⟨A3, c3, rfl, ht3, hc3, hb3⟩
        have hB3 := hB2.trans (hb3.mono hB2.size)
        have HT3 := Lib.hid ht3; clear ht3
        have HC3 := Lib.hid hc3; clear hc3
        go_wp2_with fail
        refine (Texts_any w3 A A3 c c3 l l (HL.out.below hB3) HT3.out hc HC3.out (by omega)).mono ?_
        rw [sameL_self]
        rintro e w4 ⟨rfl, hb4⟩
        have hB4 := hB3.trans (hb4.mono hB3.size)
        go_wp2_with fail
        refine (HPATH.out w4 hB4).mono ?_
        rintro e w5 ⟨A5, c5, rfl, ht5, hc5, hb5⟩
        have hB5 := hB4.trans (hb5.mono hB4.size)
        have HT5 := Lib.hid ht5; clear ht5
        have HC5 := Lib.hid hc5; clear hc5
        go_wp2_with fail
        refine (Write_any w5 A5 c5 m HT5.out HC5.out HPOK.out (H.out.below hB5).1).mono ?_
        rw [HW2.out]
        rintro e w6 ⟨rfl, hb6⟩
        have hB6 := hB5.trans (hb6.mono hB5.size)
        go_wp2_with fail
        refine (May_any w6 A5 c5 m (HT5.out.below hb6) HPOK.out (H.out.below hB6).1).mono ?_
        rw [HM2.out]
        rintro e w7 ⟨rfl, hb7⟩
        have hB7 := hB6.trans (hb7.mono hB6.size)
        go_wp2_with fail
        refine (lives_any w7 (H.out.below hB7)).mono ?_
        rintro e w8 ⟨rfl, hb8⟩
        go_wp2_with fail
        go_ret
        exact ⟨rfl, hB7.trans (hb8.mono hB7.size)⟩
      · have tokq : True := trivial
        have hme := HERR.out hf
        subst hme
        clear hf
        go_enter Tryd.func5, Tryd.ntmps5
        go_wp2_with fail
        refine HWR.out.mono ?_
        rintro e w1 ⟨rfl, hB1⟩
        go_wp2_with fail
        refine (HMAY.out w1 hB1).mono ?_
        rintro e w2 ⟨rfl, hb2⟩
        have hB2 := hB1.trans (hb2.mono hB1.size)
        go_wp2_with fail
        refine (HPW.out w2 hB2).mono ?_
        rintro e w3 ⟨A3, c3, rfl, ht3, hc3, hb3⟩
        have hB3 := hB2.trans (hb3.mono hB2.size)
        have HT3 := Lib.hid ht3; clear ht3
        have HC3 := Lib.hid hc3; clear hc3
        go_wp2_with fail
        refine (Texts_any w3 A A3 c c3 l l (HL.out.below hB3) HT3.out hc HC3.out (by omega)).mono ?_
        rw [sameL_self]
        rintro e w4 ⟨rfl, hb4⟩
        have hB4 := hB3.trans (hb4.mono hB3.size)
        go_wp2_with fail
        refine (HPATH.out w4 hB4).mono ?_
        rintro e w5 ⟨A5, c5, rfl, ht5, hc5, hb5⟩
        have hB5 := hB4.trans (hb5.mono hB4.size)
        have HT5 := Lib.hid ht5; clear ht5
        have HC5 := Lib.hid hc5; clear hc5
        go_wp2_with fail
        obtain ⟨w7, rfl⟩ : ∃ w7 : World, w7 = w5 := ⟨_, rfl⟩
        have hB7 := hB5
        refine (lives_any w7 (H.out.below hB7)).mono ?_
        rintro e w8 ⟨rfl, hb8⟩
        go_wp2_with fail
        go_ret
        exact ⟨rfl, hB7.trans (hb8.mono hB7.size)⟩
end Go.Proofs.YtmnfihdbibjijaaDoor

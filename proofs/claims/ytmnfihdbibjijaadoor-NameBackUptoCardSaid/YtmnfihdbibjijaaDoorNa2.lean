/- name: runes, walked: for each of its two function values. -/
import Derived.Test.YtmnfihdbibjijaaDoorNa1
set_option linter.unusedVariables false
set_option linter.unusedSimpArgs false
namespace Go.Proofs.YtmnfihdbibjijaaDoor
open Go.RowKit Go.Lib

theorem width_fits (s : ByteArray) (pos : Nat) (h : pos < s.size) : pos + (Utf8.decode s pos).2 ≤ s.size := by
  rw [decode_at]
  unfold decodeN
  repeat' split
  all_goals (simp only; omega)
theorem lt_of_heap {w : World} {a : Nat} {o : Obj} (h : w.heap[a]? = some o) : a < w.heap.size := (Array.getElem?_eq_some_iff.1 h).1
def pairR (r : Nat × Bool) : Ending := .returned (.tuple #[.int .i64 (r.1 : Int), .bool r.2])
set_option maxRecDepth 100000 in
set_option maxHeartbeats 2000000 in
theorem runesEvery (w : World) (s : ByteArray) (hs : s.size ≤ 4611686018427387904) (hT : Utf8Tabs 0 1 w) :
    Calls Tryd.prog 19 #[.string s, .func (.func 20) #[] #[]] w fun e w' => e = pairR (runesP everyP s) ∧ Below w.heap.size w w' := by
  have HT := Lib.hid hT; clear hT
  go_enter Tryd.func19, Tryd.ntmps19
  go_wp2_with fail
  go_loopw [4] (fun vn wr => ∃ pos n : Nat, wr.heap[w.heap.size]? = some (.stringIter s pos) ∧ Below w.heap.size w wr ∧ vn = .int .i64 n ∧ runesAt everyP s pos n = runesP everyP s ∧ n ≤ pos ∧ pos ≤ s.size) (fun _ wr => s.size - wr.iterPos w.heap.size)
  case atStart =>
    refine ⟨0, 0, World.iter_heap w s 0, (Below.refl _ w).alloc (Nat.le_refl _) _, rfl, rfl, Nat.le_refl _, Nat.zero_le _⟩
  case round =>
    obtain ⟨pos, n, hit, hb, rfl, hrun, hn1, hn2⟩ := hrel
    have hsz : w.heap.size < wr.heap.size := (Array.getElem?_eq_some_iff.1 hit).1
    have hip : wr.iterPos w.heap.size = pos := by simp only [World.iterPos, hit]
    have HIP := Lib.hid hip; clear hip
    rw [runesAt_step] at hrun
    by_cases hp : pos < s.size
    · rw [if_pos hp] at hrun
      have hnx : ∀ ty, (Instr.next (.pointer (some ⟨w.heap.size, 0, none⟩)) true ty).run Tryd.prog wr = _ := fun ty => Lib.run_next_any_at wr w.heap.size s pos ty hit hp
      have hwd := width_pos s pos
      have hw4 := width_fits s pos hp
      have hrl := Lib.rune_le s pos
      have hdg := decodeGo_at s pos hp
      have hA : (Utf8.decode s pos).1 = 65533 → (Utf8.decode s pos).2 = 1 → (0, false) = runesP everyP s := fun a b => by rw [if_pos (show bad s pos from ⟨a, b⟩)] at hrun; exact hrun
      have hB : ¬ ((Utf8.decode s pos).1 = 65533 ∧ (Utf8.decode s pos).2 = 1) → everyP (Utf8.decode s pos).1 = true → runesAt everyP s (pos + (Utf8.decode s pos).2) (n + 1) = runesP everyP s := fun a b => by rw [if_neg (show ¬ bad s pos from a), if_pos b] at hrun; exact hrun
      have hC : ¬ ((Utf8.decode s pos).1 = 65533 ∧ (Utf8.decode s pos).2 = 1) → everyP (Utf8.decode s pos).1 = false → (0, false) = runesP everyP s := fun a b => by rw [if_neg (show ¬ bad s pos from a), if_neg (by rw [b]; simp)] at hrun; exact hrun
      clear hrun
      have HIT := Lib.hid (Lib.iterAt_heap wr w.heap.size s pos (pos + (Utf8.decode s pos).2) hit)
      have hbw := Lib.below_iterAt hb (k := w.heap.size) (Nat.le_refl _) s (pos + (Utf8.decode s pos).2)
      have hsz2 : w.heap.size ≤ (wr.iterAt w.heap.size s (pos + (Utf8.decode s pos).2)).heap.size := by rw [Lib.iterAt_size]; omega
      generalize Utf8.decode s pos = d at *
      obtain ⟨r, wd⟩ := d
      dsimp only at *
      generalize wr.iterAt w.heap.size s (pos + wd) = W at *
      have HA := Lib.hid hA; clear hA
      have HB := Lib.hid hB; clear hB
      have HC := Lib.hid hC; clear hC
      have HD := Lib.hid hdg; clear hdg
      clear hit
      have hr0 : (0 : Int) ≤ (r : Int) := by omega
      have hp0 : (0 : Int) ≤ (pos : Int) := by omega
      have hp1 : (pos : Int) ≤ (s.size : Int) := by omega
      by_cases hre : r = 65533
      · have hb1 : ((r : Int) == 65533) = true := by rw [hre]; rfl
        have HRE := Lib.hid hre; clear hre
        go_wp2_with fail
        refine (Tryd.utf8_DecodeRuneInString _ W (Utf8Tabs_below HT.out hbw)).mono ?_
        rw [HD.out]
        rintro e w2 ⟨rfl, hb2⟩
        have HIT2 := Lib.hid ((hb2.block _ (lt_of_heap HIT.out)).trans HIT.out)
        have hbw2 := hbw.trans (hb2.mono hbw.size)
        by_cases hw1 : wd = 1
        · have HA1 := Lib.hid (HA.out HRE.out hw1)
          subst hw1
          clear HA HB HC
          go_wp2_with fail
          go_ret2
          exact ⟨by rw [← HA1.out]; rfl, hbw2⟩
        · have hw2 : ¬ ((wd : Int) < 2) := by omega
          have hnb : ¬ (r = 65533 ∧ wd = 1) := fun h => hw1 h.2
          go_wp2_with fail
          refine (every_any _ _).mono ?_
          rintro e w9 ⟨rfl, rfl⟩
          go_wp2_with fail
          go_roundw
          case rel => exact ⟨pos + wd, n + 1, HIT2.out, hbw2, by go_num, HB.out hnb rfl, by omega, hw4⟩
          case measure =>
            have h1 := iterPos_of (HIT2.out)
            have h2 := HIP.out
            simp only [h1, h2]
            omega
      · have hb1 : ((r : Int) == 65533) = false := by rw [beq_eq_false_iff_ne]; omega
        have HRE := Lib.hid hre; clear hre
        have hnb : ¬ (r = 65533 ∧ wd = 1) := fun h => HRE.out h.1
        go_wp2_with fail
        refine (every_any _ _).mono ?_
        rintro e w9 ⟨rfl, rfl⟩
        go_wp2_with fail
        go_roundw
        case rel => exact ⟨pos + wd, n + 1, HIT.out, hbw, by go_num, HB.out hnb rfl, by omega, hw4⟩
        case measure =>
          have h1 := iterPos_of (HIT.out)
          have h2 := HIP.out
          simp only [h1, h2]
          omega
    · rw [if_neg hp] at hrun
      have hnx : ∀ ty, (Instr.next (.pointer (some ⟨w.heap.size, 0, none⟩)) true ty).run Tryd.prog wr = _ := fun ty => Lib.run_next_end_at wr w.heap.size s pos ty hit hp
      have HR := Lib.hid hrun; clear hrun
      go_wp2_with fail
      go_ret2
      exact ⟨by rw [← HR.out]; rfl, hb⟩
set_option maxRecDepth 100000 in
set_option maxHeartbeats 2000000 in
theorem runesNamed (w : World) (s : ByteArray) (hs : s.size ≤ 4611686018427387904) (hT : Utf8Tabs 0 1 w) :
    Calls Tryd.prog 19 #[.string s, .func (.func 22) #[] #[]] w fun e w' => e = pairR (runesP namedP s) ∧ Below w.heap.size w w' := by
  have HT := Lib.hid hT; clear hT
  go_enter Tryd.func19, Tryd.ntmps19
  go_wp2_with fail
  go_loopw [4] (fun vn wr => ∃ pos n : Nat, wr.heap[w.heap.size]? = some (.stringIter s pos) ∧ Below w.heap.size w wr ∧ vn = .int .i64 n ∧ runesAt namedP s pos n = runesP namedP s ∧ n ≤ pos ∧ pos ≤ s.size) (fun _ wr => s.size - wr.iterPos w.heap.size)
  case atStart =>
    refine ⟨0, 0, World.iter_heap w s 0, (Below.refl _ w).alloc (Nat.le_refl _) _, rfl, rfl, Nat.le_refl _, Nat.zero_le _⟩
  case round =>
    obtain ⟨pos, n, hit, hb, rfl, hrun, hn1, hn2⟩ := hrel
    have hsz : w.heap.size < wr.heap.size := (Array.getElem?_eq_some_iff.1 hit).1
    have hip : wr.iterPos w.heap.size = pos := by simp only [World.iterPos, hit]
    have HIP := Lib.hid hip; clear hip
    rw [runesAt_step] at hrun
    by_cases hp : pos < s.size
    · rw [if_pos hp] at hrun
      have hnx : ∀ ty, (Instr.next (.pointer (some ⟨w.heap.size, 0, none⟩)) true ty).run Tryd.prog wr = _ := fun ty => Lib.run_next_any_at wr w.heap.size s pos ty hit hp
      have hwd := width_pos s pos
      have hw4 := width_fits s pos hp
      have hrl := Lib.rune_le s pos
      have hdg := decodeGo_at s pos hp
      have hA : (Utf8.decode s pos).1 = 65533 → (Utf8.decode s pos).2 = 1 → (0, false) = runesP namedP s := fun a b => by rw [if_pos (show bad s pos from ⟨a, b⟩)] at hrun; exact hrun
      have hB : ¬ ((Utf8.decode s pos).1 = 65533 ∧ (Utf8.decode s pos).2 = 1) → namedP (Utf8.decode s pos).1 = true → runesAt namedP s (pos + (Utf8.decode s pos).2) (n + 1) = runesP namedP s := fun a b => by rw [if_neg (show ¬ bad s pos from a), if_pos b] at hrun; exact hrun
      have hC : ¬ ((Utf8.decode s pos).1 = 65533 ∧ (Utf8.decode s pos).2 = 1) → namedP (Utf8.decode s pos).1 = false → (0, false) = runesP namedP s := fun a b => by rw [if_neg (show ¬ bad s pos from a), if_neg (by rw [b]; simp)] at hrun; exact hrun
      clear hrun
      have HIT := Lib.hid (Lib.iterAt_heap wr w.heap.size s pos (pos + (Utf8.decode s pos).2) hit)
      have hbw := Lib.below_iterAt hb (k := w.heap.size) (Nat.le_refl _) s (pos + (Utf8.decode s pos).2)
      have hsz2 : w.heap.size ≤ (wr.iterAt w.heap.size s (pos + (Utf8.decode s pos).2)).heap.size := by rw [Lib.iterAt_size]; omega
      generalize Utf8.decode s pos = d at *
      obtain ⟨r, wd⟩ := d
      dsimp only at *
      generalize wr.iterAt w.heap.size s (pos + wd) = W at *
      have HA := Lib.hid hA; clear hA
      have HB := Lib.hid hB; clear hB
      have HC := Lib.hid hC; clear hC
      have HD := Lib.hid hdg; clear hdg
      clear hit
      have hr0 : (0 : Int) ≤ (r : Int) := by omega
      have hp0 : (0 : Int) ≤ (pos : Int) := by omega
      have hp1 : (pos : Int) ≤ (s.size : Int) := by omega
      by_cases hre : r = 65533
      · have hb1 : ((r : Int) == 65533) = true := by rw [hre]; rfl
        have HRE := Lib.hid hre; clear hre
        go_wp2_with fail
        refine (Tryd.utf8_DecodeRuneInString _ W (Utf8Tabs_below HT.out hbw)).mono ?_
        rw [HD.out]
        rintro e w2 ⟨rfl, hb2⟩
        have HIT2 := Lib.hid ((hb2.block _ (lt_of_heap HIT.out)).trans HIT.out)
        have hbw2 := hbw.trans (hb2.mono hbw.size)
        by_cases hw1 : wd = 1
        · have HA1 := Lib.hid (HA.out HRE.out hw1)
          subst hw1
          clear HA HB HC
          go_wp2_with fail
          go_ret2
          exact ⟨by rw [← HA1.out]; rfl, hbw2⟩
        · have hw2 : ¬ ((wd : Int) < 2) := by omega
          have hnb : ¬ (r = 65533 ∧ wd = 1) := fun h => hw1 h.2
          go_wp2_with fail
          cases hf : namedP r with
          | true =>
            have hna := named_any w2 r
            rw [hf] at hna
            refine hna.mono ?_
            clear hna
            rintro e w9 ⟨rfl, rfl⟩
            have HF := Lib.hid hf; clear hf
            go_wp2_with fail
            go_roundw
            case rel => exact ⟨pos + wd, n + 1, HIT2.out, hbw2, by go_num, HB.out hnb HF.out, by omega, hw4⟩
            case measure =>
              have h1 := iterPos_of (HIT2.out)
              have h2 := HIP.out
              simp only [h1, h2]
              omega
          | false =>
            have hna := named_any w2 r
            rw [hf] at hna
            refine hna.mono ?_
            clear hna
            rintro e w9 ⟨rfl, rfl⟩
            have HF := Lib.hid hf; clear hf
            go_wp2_with fail
            go_ret2
            exact ⟨by rw [← HC.out hnb HF.out]; rfl, hbw2⟩
      · have hb1 : ((r : Int) == 65533) = false := by rw [beq_eq_false_iff_ne]; omega
        have HRE := Lib.hid hre; clear hre
        have hnb : ¬ (r = 65533 ∧ wd = 1) := fun h => HRE.out h.1
        go_wp2_with fail
        cases hf : namedP r with
        | true =>
          have hna := named_any W r
          rw [hf] at hna
          refine hna.mono ?_
          clear hna
          rintro e w9 ⟨rfl, rfl⟩
          have HF := Lib.hid hf; clear hf
          go_wp2_with fail
          go_roundw
          case rel => exact ⟨pos + wd, n + 1, HIT.out, hbw, by go_num, HB.out hnb HF.out, by omega, hw4⟩
          case measure =>
            have h1 := iterPos_of (HIT.out)
            have h2 := HIP.out
            simp only [h1, h2]
            omega
        | false =>
          have hna := named_any W r
          rw [hf] at hna
          refine hna.mono ?_
          clear hna
          rintro e w9 ⟨rfl, rfl⟩
          have HF := Lib.hid hf; clear hf
          go_wp2_with fail
          go_ret2
          exact ⟨by rw [← HC.out hnb HF.out]; rfl, hbw⟩
    · rw [if_neg hp] at hrun
      have hnx : ∀ ty, (Instr.next (.pointer (some ⟨w.heap.size, 0, none⟩)) true ty).run Tryd.prog wr = _ := fun ty => Lib.run_next_end_at wr w.heap.size s pos ty hit hp
      have HR := Lib.hid hrun; clear hrun
      go_wp2_with fail
      go_ret2
      exact ⟨by rw [← HR.out]; rfl, hb⟩
end Go.Proofs.YtmnfihdbibjijaaDoor

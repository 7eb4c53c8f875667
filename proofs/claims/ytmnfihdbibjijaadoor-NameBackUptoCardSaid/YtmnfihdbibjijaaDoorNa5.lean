/- name: Path, Write, walked. -/
import Derived.Test.YtmnfihdbibjijaaDoorNa4
import Derived.Lib.SplitLaws
import Derived.Lib.Join
set_option linter.unusedVariables false
set_option linter.unusedSimpArgs false
namespace Go.Proofs.YtmnfihdbibjijaaDoor
open Go.RowKit Go.Proofs.YtmnfihdbibjijaaDoorW.PrintWords
open Go.Lib (Utf8Tabs decodeGo splitB countB)
open Go.Proofs (Utf8Tabs_below)

def sl : ByteArray := ⟨#[47]⟩
def partsP (s : ByteArray) : List ByteArray := splitB sl 0 (countB s sl) s
def pathP (s : ByteArray) : List ByteArray × Int := if s.toList.isEmpty then ([], 0) else if (partsP s).all isP then (if (partsP s).length ≤ 4 then (partsP s, 0) else ([], 3)) else ([], 5)
theorem splitB_size (sep : ByteArray) (save : Nat) : ∀ (k : Nat) (s : ByteArray), ∀ p ∈ splitB sep save k s, p.size ≤ s.size
  | 0, s, p, hp => by rw [Lib.splitB_zero] at hp; simp at hp; subst hp; exact Nat.le_refl _
  | k + 1, s, p, hp => by
    unfold splitB at hp
    split at hp
    · simp at hp; subst hp; exact Nat.le_refl _
    · rcases List.mem_cons.1 hp with rfl | hp
      · simp; omega
      · have := splitB_size sep save k _ p hp
        simp at this; omega
theorem partsP_len (s : ByteArray) : (partsP s).length = countB s sl + 1 := Lib.splitB_all sl (by decide) 0 _ s rfl
theorem textsAt_new (w : World) (l : List ByteArray) (t : TypeId) (hl : l.length ≤ 9223372036854775807) : TextsAt (w.alloc (.cells (l.map Value.string).toArray t)) (some ⟨w.heap.size, 0, none⟩) l := by
  refine ⟨rfl, hl, fun hn => ⟨_, rfl, fun j p hj => ⟨[.string p], rfl, rfl, fun i u hu => ?_⟩⟩⟩
  have hi : i = 0 := by
    have := (List.getElem?_eq_some_iff.1 hu).1; simpa using this
  subst hi
  simp at hu; subst hu
  have hh := heap_alloc_new w (.cells (l.map Value.string).toArray t)
  show World.cell? _ ((⟨w.heap.size, 0, none⟩ : Addr).add (j * 1 + 0)) = _
  rw [Addr.add_mid]
  unfold World.cell?
  simp only [hh]
  simp [hj]
def PathPost (s : ByteArray) (w : World) (e : Ending) (w' : World) : Prop := ∃ A c, e = .returned (.tuple #[.slice A (pathP s).1.length c, .int .i64 (pathP s).2]) ∧ TextsAt w' A (pathP s).1 ∧ (pathP s).1.length ≤ c ∧ Below w.heap.size w w'
theorem textsAt_nil (w : World) : TextsAt w none [] := ⟨rfl, by simp, fun h => absurd h (by simp)⟩
set_option maxHeartbeats 1000000 in
theorem Path_any (w : World) (s : ByteArray) (m : Int) (hs : s.size < 4294967281) (hT : Utf8Tabs 0 1 w) (hm : w.cell? ⟨2, 0, none⟩ = some (.int .i64 m)) :
    Calls Tryd.prog 12 #[.string s] w (PathPost s w) := by
  have HT := Lib.hid hT; clear hT
  have HM := Lib.hid hm; clear hm
  cases h1 : s.toList.isEmpty with
  | true =>
    have hp : pathP s = ([], 0) := by unfold pathP; rw [h1]; rfl
    have HP := Lib.hid hp; clear hp
    go_enter Tryd.func12, Tryd.ntmps12
    go_wp2_with fail
    go_ret2
    refine ⟨none, 0, by rw [HP.out]; rfl, by rw [HP.out]; exact textsAt_nil _, by rw [HP.out]; simp, Below.refl _ _⟩
  | false =>
    have hal : Below w.heap.size w (w.alloc (.cells ((partsP s).map Value.string).toArray 9)) := (Below.refl _ _).alloc (Nat.le_refl _) _
    have hlen := partsP_len s
    have hcl : countB s sl ≤ s.size := Lib.countB_le sl (by decide) _ s (Nat.le_refl _)
    have hta := textsAt_new w (partsP s) 9 (by omega)
    have hos : okS (partsP s) := fun p hp => by have := splitB_size sl 0 _ s p hp; omega
    have hsplit := Tryd.strings_Split s sl m w hs HM.out (by decide)
    rw [← hlen] at hsplit
    have hpp : pathP s = if (partsP s).all isP then (if (partsP s).length ≤ 4 then (partsP s, 0) else ([], 3)) else ([], 5) := by unfold pathP; rw [h1]; rfl
    have hcap : (partsP s).length ≤ 4294967282 := by omega
    have HS : Hid (Calls Tryd.prog 24 #[.string s, .string sl] w fun e w' => e = .returned (.slice (some ⟨w.heap.size, 0, none⟩) (partsP s).length (partsP s).length) ∧ w' = w.alloc (.cells ((partsP s).map Value.string).toArray 9)) := Lib.hid hsplit
    have HPP := Lib.hid hpp; clear hpp
    clear hsplit hlen hcl
    generalize partsP s = l at *
    have HTA := Lib.hid hta; clear hta
    have HOS := Lib.hid hos; clear hos
    go_enter Tryd.func12, Tryd.ntmps12
    go_wp2_with fail
    refine HS.out.mono ?_
    rintro e w1 ⟨rfl, rfl⟩
    clear HS
    generalize w.alloc (.cells (l.map Value.string).toArray 9) = W at *
    have HT2 := Lib.hid (Utf8Tabs_below HT.out hal)
    have hall := all_any W (some ⟨w.heap.size, 0, none⟩) l.length l HTA.out HOS.out HT2.out
    cases ha : l.all isP with
    | true =>
      rw [ha] at hall
      by_cases h4 : l.length ≤ 4
      · have hp : pathP s = (l, 0) := by rw [HPP.out, ha, if_pos rfl, if_pos h4]
        have HP := Lib.hid hp; clear hp
        have h4' : ¬ ((l.length : Int) > 4) := by omega
        have HALL := Lib.hid hall; clear hall
        clear ha
        go_wp2_with fail
        refine HALL.out.mono ?_
        rintro e w2 ⟨rfl, hb⟩
        go_wp2_with fail
        go_ret2
        exact ⟨_, l.length, by rw [HP.out]; rfl, by rw [HP.out]; exact HTA.out.below hb, by rw [HP.out]; exact Nat.le_refl _, hal.trans (hb.mono hal.size)⟩
      · have hp : pathP s = ([], 3) := by rw [HPP.out, ha, if_pos rfl, if_neg h4]
        have HP := Lib.hid hp; clear hp
        have h4' : (l.length : Int) > 4 := by omega
        have HALL := Lib.hid hall; clear hall
        clear ha
        go_wp2_with fail
        refine HALL.out.mono ?_
        rintro e w2 ⟨rfl, hb⟩
        go_wp2_with fail
        go_ret2
        exact ⟨none, 0, by rw [HP.out]; rfl, by rw [HP.out]; exact textsAt_nil _, by rw [HP.out]; simp, hal.trans (hb.mono hal.size)⟩
    | false =>
      rw [ha] at hall
      have hp : pathP s = ([], 5) := by rw [HPP.out, ha]; rfl
      have HP := Lib.hid hp; clear hp
      have HALL := Lib.hid hall; clear hall
      clear ha
      go_wp2_with fail
      refine HALL.out.mono ?_
      rintro e w2 ⟨rfl, hb⟩
      go_wp2_with fail
      go_ret2
      exact ⟨none, 0, by rw [HP.out]; rfl, by rw [HP.out]; exact textsAt_nil _, by rw [HP.out]; simp, hal.trans (hb.mono hal.size)⟩
end Go.Proofs.YtmnfihdbibjijaaDoor

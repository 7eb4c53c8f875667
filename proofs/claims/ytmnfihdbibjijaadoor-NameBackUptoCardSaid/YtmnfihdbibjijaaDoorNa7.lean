/- name: Texts, as printed, answers whether two lists are the same. -/
import Derived.Test.YtmnfihdbibjijaaDoorNa6
import Derived.Test.YtmnfihdbibjijaaDoorNaP
set_option linter.unusedVariables false
set_option linter.unusedSimpArgs false
namespace Go.Proofs.YtmnfihdbibjijaaDoor
open Go.RowKit Go.Proofs.YtmnfihdbibjijaaDoorW.PrintWords Go.Proofs.YtmnfihdbibjijaaDoor.PNamePaths
open Go.Lib (Utf8Tabs decodeGo splitB countB)
open Go.Proofs (Utf8Tabs_below)

def sameL (a b : List ByteArray) : Bool := decide (a.map ByteArray.toList = b.map ByteArray.toList)
theorem texts_l0 (a b : List ByteArray) (hl : a.length = b.length) (hb : a.length ≤ 9223372036854775806) : ∀ (d i : Nat) (k : Nat), a.length = i + d → d < k → (a.take i).map ByteArray.toList = (b.take i).map ByteArray.toList →
    wharfageref00_Texts.l0 k a b (i : Int) = some (sameL a b)
  | 0, i, k, hd, hk, he => by
    obtain ⟨k, rfl⟩ : ∃ m, k = m + 1 := ⟨k - 1, by omega⟩
    simp only [wharfageref00_Texts.l0]
    rw [if_neg (by omega)]
    rw [List.take_of_length_le (by omega), List.take_of_length_le (by omega)] at he
    unfold sameL
    rw [decide_eq_true he]
  | d + 1, i, k, hd, hk, he => by
    obtain ⟨k, rfl⟩ : ∃ m, k = m + 1 := ⟨k - 1, by omega⟩
    have hx : a[i]? = some a[i] := List.getElem?_eq_getElem (by omega)
    have hy : b[i]? = some b[i] := List.getElem?_eq_getElem (by omega)
    simp only [wharfageref00_Texts.l0]
    rw [if_pos (by omega), if_pos (by omega), if_pos (by omega)]
    have e1 : rdOf ByteArray.empty a (i : Int) = a[i] := by simp [rdOf, hx]
    have e2 : rdOf ByteArray.empty b (i : Int) = b[i] := by simp [rdOf, hy]
    rw [e1, e2]
    by_cases h : a[i].toList = b[i].toList
    · rw [if_pos h]
      have hw : wrap64 ((i : Int) + 1) = ((i + 1 : Nat) : Int) := by unfold wrap64; omega
      rw [hw]
      refine texts_l0 a b hl hb d (i + 1) k (by omega) (by omega) ?_
      rw [List.take_add_one, List.take_add_one, hx, hy, List.map_append, List.map_append, he]
      simp [h]
    · rw [if_neg h]
      unfold sameL
      rw [decide_eq_false]
      intro e
      apply h
      have := congrArg (fun l => l[i]?) e
      simpa [hx, hy] using this
theorem texts_f (a b : List ByteArray) (hb : a.length ≤ 9223372036854775806) : ∃ k, wharfageref00_Texts.f k a b = some (sameL a b) := by
  by_cases h : a.length = b.length
  · refine ⟨a.length + 1, ?_⟩
    unfold wharfageref00_Texts.f
    rw [if_pos (by omega)]
    exact texts_l0 a b h hb a.length 0 _ (by omega) (by omega) (by simp)
  · refine ⟨0, ?_⟩
    unfold wharfageref00_Texts.f
    rw [if_neg (by omega)]
    unfold sameL
    rw [decide_eq_false]
    intro e
    exact h (by have := congrArg List.length e; simpa using this)
theorem Texts_any (w : World) (A A' : Option Addr) (c c' : Nat) (a b : List ByteArray) (ha : TextsAt w A a) (hb : TextsAt w A' b) (hc : a.length ≤ c) (hc' : b.length ≤ c') (hn : a.length ≤ 9223372036854775806) :
    Calls Tryd.prog 16 #[.slice A a.length c, .slice A' b.length c'] w fun e w' => e = .returned (.bool (sameL a b)) ∧ Below w.heap.size w w' := by
  obtain ⟨k, hk⟩ := texts_f a b hn
  exact (wharfageref00_Texts.calls k A c a A' c' b (sameL a b) w ha hc hb hc' hk).mono fun e w' ⟨h1, h2⟩ => ⟨h1, h2.below⟩
end Go.Proofs.YtmnfihdbibjijaaDoor

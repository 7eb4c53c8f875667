/- name: a text cut at its slashes, plain. -/
import Derived.Test.YtmnfihdbibjijaaDoorNac
set_option linter.unusedVariables false
set_option linter.unusedSimpArgs false
namespace Go.Proofs.YtmnfihdbibjijaaDoor
open Go.RowKit Go.Proofs.YtmnfihdbibjijaaDoorW.PrintWords Go.Proofs.YtmnfihdbibjijaaDoor.PNamePaths
open Go.Lib (splitB countB splitK count index)

/-- What stands between slashes. -/
def pcs : List UInt8 → List (List UInt8)
  | [] => [[]]
  | c :: l => if c = 47 then [] :: pcs l else match pcs l with
    | p :: ps => (c :: p) :: ps
    | [] => [[c]]
theorem pcs_ne (l : List UInt8) : pcs l ≠ [] := by
  cases l with
  | nil => simp [pcs]
  | cons c l =>
    unfold pcs
    split
    · simp
    · split <;> simp
theorem split_pcs : ∀ l : List UInt8, splitK [47] 0 (count l [47]) l = pcs l
  | [] => by
    have h : index [] [47] = -1 := rfl
    rw [Lib.count_miss h]; rfl
  | c :: l => by
    have ih := split_pcs l
    by_cases h : c = 47
    · subst h
      have hi : index (47 :: l) [47] = 0 := by unfold index; rw [if_pos (by simp)]
      rw [Lib.count_cons_eq, Nat.add_comm]
      unfold splitK pcs
      rw [if_neg (by rw [hi]; decide), if_pos rfl, hi]
      simp only [Int.toNat_zero, List.length_cons, List.length_nil, List.take_zero, Nat.zero_add, List.drop_succ_cons, List.drop_zero]
      rw [ih]
    · have hix : index (c :: l) [47] = if index l [47] == -1 then -1 else index l [47] + 1 := by
        conv => lhs; unfold index
        rw [if_neg (by simp; exact fun e => h e.symm)]
      rw [Lib.count_cons_ne _ _ _ h]
      unfold pcs
      rw [if_neg h, ← ih]
      cases hc : count l [47] with
      | zero => rfl
      | succ k =>
        have hne : ¬ (index l [47] == -1) = true := fun e => by rw [Lib.count_miss (beq_iff_eq.1 e)] at hc; cases hc
        have hge := Lib.index_ge l [47]
        have hpos : 0 ≤ index l [47] := by
          have : index l [47] ≠ -1 := fun e => hne (by rw [e]; rfl)
          omega
        unfold splitK
        rw [if_neg (by rw [hix, if_neg hne, beq_iff_eq]; omega), if_neg hne, hix, if_neg hne]
        have e1 : (index l [47] + 1).toNat = (index l [47]).toNat + 1 := by omega
        rw [e1]
        simp [Nat.add_assoc, Nat.add_comm 1]
theorem parts_pcs (s : ByteArray) : (partsP s).map (·.data.toList) = pcs s.data.toList := by
  unfold partsP
  rw [Lib.splitB_data]
  exact split_pcs s.data.toList
theorem map_inj {l l' : List ByteArray} (h : l.map (·.data.toList) = l'.map (·.data.toList)) : l = l' := by
  induction l generalizing l' with
  | nil => cases l' with
    | nil => rfl
    | cons a l' => simp at h
  | cons a l ih =>
    cases l' with
    | nil => simp at h
    | cons b l' =>
      simp only [List.map_cons, List.cons.injEq] at h
      rw [ih h.2, Go.WideShapes.bytes_inj h.1]
end Go.Proofs.YtmnfihdbibjijaaDoor

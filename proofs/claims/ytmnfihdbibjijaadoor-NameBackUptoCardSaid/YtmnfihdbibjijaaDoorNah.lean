/- name: the document's parts, Path, May, Write, as printed. -/
import Derived.Test.YtmnfihdbibjijaaDoorNag
set_option linter.unusedVariables false
set_option linter.unusedSimpArgs false
namespace Go.Proofs.YtmnfihdbibjijaaDoor
open Go.RowKit Go.Proofs.YtmnfihdbibjijaaDoorW.PrintWords Go.Proofs.YtmnfihdbibjijaaDoor.PNamePaths
open Go.Lib (splitB countB splitK count index Utf8Tabs)

/-- The first piece, begun already. -/
def onto (x : List UInt8) : List (List UInt8) → List (List UInt8)
  | p :: ps => (x ++ p) :: ps
  | [] => [x]
theorem onto_nil (l : List UInt8) : onto [] (pcs l) = pcs l := by
  cases h : pcs l with
  | nil => exact absurd h (pcs_ne l)
  | cons p ps => rfl
theorem onto_slash (x l : List UInt8) : onto x (pcs (47 :: l)) = x :: pcs l := by
  have e : pcs (47 :: l) = [] :: pcs l := by rw [pcs]; exact if_pos rfl
  rw [e]; simp [onto]
theorem onto_other (x : List UInt8) {c : UInt8} (h : c ≠ 47) (l : List UInt8) : onto x (pcs (c :: l)) = onto (x ++ [c]) (pcs l) := by
  conv => lhs; unfold pcs
  rw [if_neg h]
  cases hp : pcs l with
  | nil => exact absurd hp (pcs_ne l)
  | cons p ps => simp [onto]
theorem size_data (s : ByteArray) : s.data.toList.length = s.size := Array.length_toList
theorem extract_mid (s : ByteArray) (a b : Nat) : (s.extract a b).data.toList = (s.data.toList.take b).drop a := by
  rw [ByteArray.data_extract]
  simp [List.drop_take]
theorem byte_at (s : ByteArray) (i : Nat) (h : i < s.size) : ∃ c, s.data.toList.drop i = c :: s.data.toList.drop (i + 1) ∧ bt s (i : Int) = (c.toNat : Int) ∧ s.data.toList[i]? = some c := by
  have hl : i < s.data.toList.length := by rw [size_data]; exact h
  refine ⟨s.data.toList[i], List.drop_eq_getElem_cons hl, ?_, List.getElem?_eq_getElem hl⟩
  unfold bt
  rw [dif_pos (by simpa using h)]
  rfl
theorem u8_47 (c : UInt8) : (c.toNat : Int) = 47 ↔ c = 47 := by
  constructor
  · intro h
    apply UInt8.toNat_inj.1
    have : c.toNat = 47 := by omega
    rw [this]; rfl
  · intro h; subst h; rfl
theorem parts_l0 (s : ByteArray) (hs : s.size ≤ 4294967296) : ∀ (d i from_ : Nat) (acc : List ByteArray) (k : Nat), s.size = i + d → d < k → from_ ≤ i → acc.length ≤ i →
    ∃ r, wharfageref02_parts.l0 k s acc (from_ : Int) (i : Int) = some r ∧ r.map (·.data.toList) = acc.map (·.data.toList) ++ onto ((s.data.toList.take i).drop from_) (pcs (s.data.toList.drop i))
  | 0, i, from_, acc, k, hd, hk, hf, hac => by
    obtain ⟨k, rfl⟩ : ∃ m, k = m + 1 := ⟨k - 1, by omega⟩
    rw [wharfageref02_parts.l0, if_neg (by omega), if_pos (by omega), if_pos (by omega), if_pos (by omega)]
    refine ⟨_, rfl, ?_⟩
    have e1 : s.data.toList.drop i = [] := List.drop_of_length_le (by rw [size_data]; omega)
    have e2 : s.data.toList.take i = s.data.toList.take s.size := by rw [show i = s.size by omega]
    rw [e1, List.map_append, List.map_cons, List.map_nil, Int.toNat_natCast, extract_mid, e2]
    simp [pcs, onto]
  | d + 1, i, from_, acc, k, hd, hk, hf, hac => by
    obtain ⟨k, rfl⟩ : ∃ m, k = m + 1 := ⟨k - 1, by omega⟩
    obtain ⟨c, hc1, hc2, hc3⟩ := byte_at s i (by omega)
    have hw : wrap64 ((i : Int) + 1) = ((i + 1 : Nat) : Int) := by rw [w64 _ (by omega)]; omega
    have ht : s.data.toList.take (i + 1) = s.data.toList.take i ++ [c] := by rw [List.take_add_one, hc3]; rfl
    have hlen : (s.data.toList.take i).length = i := by rw [List.length_take, size_data]; omega
    rw [wharfageref02_parts.l0, if_pos (by omega), if_pos (by omega), hc2, hw]
    by_cases h : (c.toNat : Int) = 47
    · have hcc := (u8_47 c).1 h
      rw [if_pos h, if_pos (by omega), if_pos (by omega), if_pos (by omega), if_pos (by omega), Int.toNat_natCast, Int.toNat_natCast]
      obtain ⟨r, h1, h2⟩ := parts_l0 s hs d (i + 1) (i + 1) (acc ++ [s.extract from_ i]) k (by omega) (by omega) (Nat.le_refl _) (by simp; omega)
      refine ⟨r, h1, ?_⟩
      rw [h2, hc1, hcc, onto_slash]
      have e : ((s.data.toList.take (i + 1)).drop (i + 1)) = [] := List.drop_of_length_le (by rw [List.length_take]; omega)
      rw [e, onto_nil, List.map_append, List.map_cons, List.map_nil, extract_mid, List.append_assoc]
      rfl
    · rw [if_neg h]
      obtain ⟨r, h1, h2⟩ := parts_l0 s hs d (i + 1) from_ acc k (by omega) (by omega) (by omega) (by omega)
      refine ⟨r, h1, ?_⟩
      rw [h2, hc1, onto_other _ (fun e => h ((u8_47 c).2 e)), ht, List.drop_append_of_le_length (by omega)]
theorem parts_f (s : ByteArray) (hs : s.size ≤ 4294967296) (k : Nat) (hk : s.size < k) : wharfageref02_parts.f k s = some (if s.toList.isEmpty then [] else partsP s) := by
  unfold wharfageref02_parts.f
  cases h : s.toList.isEmpty with
  | true => rw [if_pos (by simpa using h)]; rfl
  | false =>
    rw [if_neg (by intro e; rw [e] at h; cases h)]
    obtain ⟨r, h1, h2⟩ := parts_l0 s hs s.size 0 0 [] k (by omega) hk (Nat.le_refl _) (by simp)
    rw [show ((0 : Int)) = ((0 : Nat) : Int) from rfl, h1]
    have : r = partsP s := map_inj (by
      rw [h2, parts_pcs]
      simp only [List.take_zero, List.drop_nil, List.drop_zero, List.map_nil, List.nil_append]
      exact onto_nil _)
    rw [this]; rfl
theorem rd_at (l : List ByteArray) (i : Nat) {s : ByteArray} (h : l[i]? = some s) : rdOf ByteArray.empty l (i : Int) = s := by simp [rdOf, h]
theorem Path_l0 (l : List ByteArray) (hs : okS l) (hn : l.length ≤ 4294967297) : ∀ (d i k : Nat), l.length = i + d → d + 101 ≤ k → (l.take i).all isP = true →
    wharfageref02_Path.l0 k l (i : Int) = some (if l.all isP then (if l.length ≤ 4 then (l, 0) else ([], 3)) else ([], 5))
  | 0, i, k, hd, hk, ha => by
    obtain ⟨k, rfl⟩ : ∃ m, k = m + 1 := ⟨k - 1, by omega⟩
    rw [List.take_of_length_le (by omega)] at ha
    rw [wharfageref02_Path.l0, if_neg (by omega), ha, if_pos rfl]
    by_cases h : l.length ≤ 4
    · rw [if_neg (by omega), if_pos h]
    · rw [if_pos (by omega), if_neg h]
  | d + 1, i, k, hd, hk, ha => by
    obtain ⟨k, rfl⟩ : ∃ m, k = m + 1 := ⟨k - 1, by omega⟩
    have hx : l[i]? = some l[i] := List.getElem?_eq_getElem (by omega)
    rw [wharfageref02_Path.l0, if_pos (by omega), if_pos (by omega), rd_at l i hx, Is_f _ (hs _ (List.getElem_mem _)) k (by omega)]
    simp only [Option.bind_some]
    cases h : isP l[i] with
    | true =>
      rw [if_pos rfl, w64 _ (by omega), show (i : Int) + 1 = ((i + 1 : Nat) : Int) by omega]
      exact Path_l0 l hs hn d (i + 1) k (by omega) (by omega) (by rw [List.take_add_one, hx, List.all_append, ha]; simp [h])
    | false =>
      have : l.all isP = false := by rw [List.all_eq_false]; exact ⟨l[i], List.getElem_mem _, by rw [h]; simp⟩
      rw [this]; rfl
theorem Path_f (s : ByteArray) (hs : s.size < 4294967281) (k : Nat) (hk : s.size + 200 ≤ k) : wharfageref02_Path.f k s = some (pathP s) := by
  unfold wharfageref02_Path.f
  rw [parts_f s (by omega) k (by omega)]
  simp only [Option.bind_some]
  have hlen := partsP_len s
  have hcl : countB s sl ≤ s.size := Lib.countB_le sl (by decide) _ s (Nat.le_refl _)
  unfold pathP
  cases h : s.toList.isEmpty with
  | true =>
    rw [if_pos rfl, if_pos rfl]
    exact Path_l0 [] (fun s hs => absurd hs (by simp)) (by simp) 0 0 k (by simp) (by omega) (by simp)
  | false =>
    rw [if_neg (by simp), if_neg (by simp)]
    exact Path_l0 (partsP s) (fun p hp => by have := splitB_size sl 0 _ s p hp; omega) (by omega) (partsP s).length 0 k (by omega) (by omega) (by simp)
theorem May_l0 (l : List ByteArray) (hs : okS l) (hn : l.length ≤ 4294967297) : ∀ (d i k : Nat), l.length = i + d → d + 101 ≤ k → (l.take i).all isP = true → wharfageref02_May.l0 k l (i : Int) = some (mayP l)
  | 0, i, k, hd, hk, ha => by
    obtain ⟨k, rfl⟩ : ∃ m, k = m + 1 := ⟨k - 1, by omega⟩
    rw [List.take_of_length_le (by omega)] at ha
    rw [wharfageref02_May.l0, if_neg (by omega)]
    unfold mayP
    rw [ha, Bool.and_true]
    congr 1
    rw [Bool.eq_iff_iff, decide_eq_true_iff, decide_eq_true_iff]; omega
  | d + 1, i, k, hd, hk, ha => by
    obtain ⟨k, rfl⟩ : ∃ m, k = m + 1 := ⟨k - 1, by omega⟩
    have hx : l[i]? = some l[i] := List.getElem?_eq_getElem (by omega)
    rw [wharfageref02_May.l0, if_pos (by omega), if_pos (by omega), rd_at l i hx, Is_f _ (hs _ (List.getElem_mem _)) k (by omega)]
    simp only [Option.bind_some]
    cases h : isP l[i] with
    | true =>
      rw [if_pos rfl, w64 _ (by omega), show (i : Int) + 1 = ((i + 1 : Nat) : Int) by omega]
      exact May_l0 l hs hn d (i + 1) k (by omega) (by omega) (by rw [List.take_add_one, hx, List.all_append, ha]; simp [h])
    | false =>
      have : l.all isP = false := by rw [List.all_eq_false]; exact ⟨l[i], List.getElem_mem _, by rw [h]; simp⟩
      unfold mayP
      rw [this, Bool.and_false]; rfl
theorem May_f (l : List ByteArray) (hs : okS l) (hn : l.length ≤ 1000) (k : Nat) (hk : 1200 ≤ k) : wharfageref02_May.f k l = some (mayP l) := by
  unfold wharfageref02_May.f
  exact May_l0 l hs (by omega) l.length 0 k (by omega) (by omega) (by simp)
end Go.Proofs.YtmnfihdbibjijaaDoor

/- name: texts joined and cut, plain; the document's Write, as printed. -/
import Derived.Test.YtmnfihdbibjijaaDoorNah
set_option linter.unusedVariables false
set_option linter.unusedSimpArgs false
namespace Go.Proofs.YtmnfihdbibjijaaDoor
open Go.RowKit Go.Proofs.YtmnfihdbibjijaaDoorW.PrintWords Go.Proofs.YtmnfihdbibjijaaDoor.PNamePaths
open Go.Lib (splitB countB splitK count index Utf8Tabs join joinTail)

theorem joinTail_cons (p : List UInt8) (ps : List (List UInt8)) : joinTail [47] (p :: ps) = 47 :: (p ++ joinTail [47] ps) := by
  unfold joinTail; simp
theorem join_pcs : ∀ l : List UInt8, join (pcs l) [47] = l
  | [] => by unfold pcs; rw [Lib.join_one]
  | c :: l => by
    have ih := join_pcs l
    obtain ⟨p, ps, hp⟩ : ∃ p ps, pcs l = p :: ps := by
      cases h : pcs l with
      | nil => exact absurd h (pcs_ne l)
      | cons p ps => exact ⟨p, ps, rfl⟩
    rw [hp, Lib.join_cons] at ih
    unfold pcs
    split
    · rename_i hc
      rw [hp, Lib.join_cons, joinTail_cons, ih, hc]; rfl
    · rw [hp, Lib.join_cons]
      show c :: p ++ _ = _
      rw [List.cons_append, ih]
theorem pcs_app (t : List UInt8) : ∀ x : List UInt8, (∀ c ∈ x, c ≠ 47) → pcs (x ++ t) = onto x (pcs t)
  | [], _ => (onto_nil t).symm
  | c :: x, h => by
    have ih := pcs_app t x (fun d hd => h d (List.mem_cons_of_mem _ hd))
    have hc := h c (List.mem_cons_self ..)
    show pcs (c :: (x ++ t)) = _
    obtain ⟨p, ps, hp⟩ : ∃ p ps, pcs t = p :: ps := by
      cases h : pcs t with
      | nil => exact absurd h (pcs_ne t)
      | cons p ps => exact ⟨p, ps, rfl⟩
    rw [hp] at ih ⊢
    rw [pcs, if_neg hc, ih]
    rfl
theorem pcs_join : ∀ (r : List (List UInt8)) (x : List UInt8), (∀ y ∈ x :: r, ∀ c ∈ y, c ≠ 47) → pcs (join (x :: r) [47]) = x :: r
  | [], x, h => by
    rw [Lib.join_one]
    have := pcs_app [] x (h x (List.mem_cons_self ..))
    rw [List.append_nil] at this
    rw [this]; simp [pcs, onto]
  | p :: r, x, h => by
    have ih := pcs_join r p (fun y hy => h y (List.mem_cons_of_mem _ hy))
    rw [Lib.join_cons, joinTail_cons, pcs_app _ x (h x (List.mem_cons_self ..)), onto_slash]
    rw [Lib.join_cons] at ih
    rw [ih]
theorem no_slash {s : ByteArray} (h : isP s = true) : ∀ c ∈ s.data.toList, c ≠ 47 := by
  intro c hc e
  unfold isP at h
  simp only [Bool.and_eq_true] at h
  have hn := ((named_iff s s.size 0 0 0 (by omega)).1 h.2).2
  obtain ⟨i, hi⟩ := List.mem_iff_getElem?.1 hc
  have hlt : i < s.size := by have := (List.getElem?_eq_some_iff.1 hi).1; rwa [size_data] at this
  have h1 := hn i (Nat.zero_le _) hlt
  have h2 : s.get! i = c := by
    have := get_at s i hlt
    rw [Nat.add_zero] at this
    rw [this]
    have := (List.getElem?_eq_some_iff.1 hi).2
    rw [← this]; rfl
  rw [h2, e] at h1
  revert h1; decide
theorem data_joinP (l : List ByteArray) : (joinP l).data.toList = join (l.map (·.data.toList)) [47] := by unfold joinP; simp
theorem may_parts {l : List ByteArray} (h : mayP l = true) : l.length ≤ 4 ∧ ∀ s ∈ l, isP s = true := by
  unfold mayP at h
  simp only [Bool.and_eq_true, decide_eq_true_eq, List.all_eq_true] at h
  exact h
theorem isP_pos {s : ByteArray} (h : isP s = true) : 1 ≤ s.size := by
  unfold isP at h
  simp only [Bool.and_eq_true] at h
  have := h.1.1.1.1
  rw [empty_toList] at this
  simp only [Bool.not_eq_true', decide_eq_false_iff_not] at this
  omega
/-- What is written is told. -/
theorem path_write {l : List ByteArray} (h : mayP l = true) : pathP (joinP l) = (l, 0) := by
  obtain ⟨h4, hall⟩ := may_parts h
  unfold pathP
  rw [empty_toList]
  cases l with
  | nil =>
    have : (joinP []).size = 0 := by rw [← size_data, data_joinP]; rfl
    rw [this]; rfl
  | cons x r =>
    have hx := isP_pos (hall x (List.mem_cons_self ..))
    have hz : ¬ (joinP (x :: r)).size = 0 := by
      rw [← size_data, data_joinP, List.map_cons, Lib.join_cons, List.length_append, size_data]; omega
    have hp : partsP (joinP (x :: r)) = x :: r := map_inj (by
      rw [parts_pcs, data_joinP, List.map_cons]
      refine pcs_join _ _ (fun y hy c hc => ?_)
      have hy' : y ∈ (x :: r).map (·.data.toList) := hy
      obtain ⟨s, hs, rfl⟩ := List.mem_map.1 hy'
      exact no_slash (hall s hs) c hc)
    rw [decide_eq_false hz, hp]
    have ha : (x :: r).all isP = true := List.all_eq_true.2 hall
    rw [ha, if_neg (by simp), if_pos rfl, if_pos h4]
/-- What is told is written as the same text. -/
theorem write_path {s : ByteArray} (h : (pathP s).2 = 0) : mayP (pathP s).1 = true ∧ joinP (pathP s).1 = s := by
  unfold pathP at h ⊢
  rw [empty_toList] at h ⊢
  by_cases hz : s.size = 0
  · rw [decide_eq_true hz, if_pos rfl]
    refine ⟨rfl, Go.WideShapes.bytes_inj ?_⟩
    rw [data_joinP]
    have : s.data.toList = [] := List.eq_nil_of_length_eq_zero (by rw [size_data]; exact hz)
    rw [this]; rfl
  · rw [decide_eq_false hz, if_neg (by simp)] at h ⊢
    cases ha : (partsP s).all isP with
    | false => rw [ha, if_neg (by simp)] at h; cases h
    | true =>
      rw [ha, if_pos rfl] at h
      rw [if_pos rfl]
      by_cases h4 : (partsP s).length ≤ 4
      · rw [if_pos h4] at h ⊢
        refine ⟨by unfold mayP; rw [ha, decide_eq_true h4]; rfl, Go.WideShapes.bytes_inj ?_⟩
        rw [data_joinP, parts_pcs, join_pcs]
      · rw [if_neg h4] at h; cases h
theorem path_err {s : ByteArray} (h : (pathP s).2 ≠ 0) : (pathP s).1 = [] := by
  unfold pathP at h ⊢
  split
  · rfl
  · rename_i h1
    rw [if_neg h1] at h
    split
    · rename_i h2
      rw [if_pos h2] at h
      split
      · rename_i h3; rw [if_pos h3] at h; exact absurd rfl h
      · rfl
    · rfl
/-! ### the document's Write -/
theorem joinTail_snoc (r : List (List UInt8)) (y : List UInt8) : joinTail [47] (r ++ [y]) = joinTail [47] r ++ [47] ++ y := by
  unfold joinTail; simp
theorem join_snoc {r : List (List UInt8)} (h : r ≠ []) (y : List UInt8) : join (r ++ [y]) [47] = join r [47] ++ [47] ++ y := by
  cases r with
  | nil => exact absurd rfl h
  | cons x r =>
    rw [List.cons_append, Lib.join_cons, Lib.join_cons, joinTail_snoc]
    simp
theorem data_append (a b : ByteArray) : (a ++ b).data.toList = a.data.toList ++ b.data.toList := by rw [ByteArray.data_append]; simp
theorem Write_l0 (l : List ByteArray) (h4 : l.length ≤ 4) (h32 : ∀ s ∈ l, s.size ≤ 32) : ∀ (d i k : Nat) (x : ByteArray), l.length = i + d → d < k → x.data.toList = join ((l.take i).map (·.data.toList)) [47] →
    wharfageref02_Write.l0 k l x (i : Int) = some (joinP l, 0)
  | 0, i, k, x, hd, hk, hx => by
    obtain ⟨k, rfl⟩ : ∃ m, k = m + 1 := ⟨k - 1, by omega⟩
    rw [List.take_of_length_le (by omega)] at hx
    rw [wharfageref02_Write.l0, if_neg (by omega)]
    have : x = joinP l := Go.WideShapes.bytes_inj (by rw [data_joinP]; exact hx)
    rw [this]
  | d + 1, i, k, x, hd, hk, hx => by
    obtain ⟨k, rfl⟩ : ∃ m, k = m + 1 := ⟨k - 1, by omega⟩
    have hg : l[i]? = some l[i] := List.getElem?_eq_getElem (by omega)
    have hs := h32 l[i] (List.getElem_mem _)
    have hxs : x.size ≤ 140 := by
      rw [← size_data, hx]
      exact join_le (l.take i) (by rw [List.length_take]; omega) (fun s hs => h32 s (List.mem_of_mem_take hs))
    have ht : (l.take (i + 1)).map (·.data.toList) = (l.take i).map (·.data.toList) ++ [l[i].data.toList] := by rw [List.take_add_one, hg, List.map_append]; rfl
    have hw : wrap64 ((i : Int) + 1) = ((i + 1 : Nat) : Int) := by rw [w64 _ (by omega)]; omega
    rw [wharfageref02_Write.l0, if_pos (by omega), rd_at l i hg, hw]
    by_cases hi : (i : Int) > 0
    · have hsz : (x ++ (⟨#[47]⟩ : ByteArray)).size = x.size + 1 := ByteArray.size_append
      rw [if_pos hi, if_pos (by omega), if_pos (by omega), if_pos (by omega)]
      refine Write_l0 l h4 h32 d (i + 1) k _ (by omega) (by omega) ?_
      rw [ht, join_snoc (fun e => by
        have h1 := congrArg List.length e
        rw [List.length_map, List.length_take, List.length_nil] at h1
        omega), data_append, data_append, hx]
    · rw [if_neg hi, if_pos (by omega), if_pos (by omega)]
      refine Write_l0 l h4 h32 d (i + 1) k _ (by omega) (by omega) ?_
      have h0 : i = 0 := by omega
      subst h0
      rw [ht, data_append, hx]
      simp [Lib.join_nil, Lib.join_one]
theorem Write_f (l : List ByteArray) (hs : okS l) (hn : l.length ≤ 1000) (k : Nat) (hk : 1300 ≤ k) : wharfageref02_Write.f k l = some (writeP l) := by
  unfold wharfageref02_Write.f writeP
  rw [May_f l hs hn k (by omega)]
  simp only [Option.bind_some]
  cases h : mayP l with
  | false => rw [if_neg (by simp), if_neg (by simp)]
  | true =>
    obtain ⟨h4, hall⟩ := may_parts h
    rw [if_pos rfl, if_pos rfl]
    exact Write_l0 l h4 (fun s hs => isP_size (hall s hs)) l.length 0 k _ (by omega) (by omega) (by simp [Lib.join_nil])
theorem Write_ref (w : World) (A : Option Addr) (c : Nat) (l : List ByteArray) (hl : TextsAt w A l) (hc : l.length ≤ c) (hs : okS l) (hn : l.length ≤ 1000) :
    Calls Tryd.prog 15 #[.slice A l.length c] w fun e w' => e = .returned (.tuple #[.string (writeP l).1, .int .i64 (writeP l).2]) ∧ Below w.heap.size w w' :=
  (wharfageref02_Write.calls 1300 A c l _ _ w hl hc (Write_f l hs hn 1300 (Nat.le_refl _))).mono fun e w' ⟨h1, h2⟩ => ⟨h1, h2.below⟩
theorem May_ref (w : World) (A : Option Addr) (c : Nat) (l : List ByteArray) (hl : TextsAt w A l) (hc : l.length ≤ c) (hs : okS l) (hn : l.length ≤ 1000) :
    Calls Tryd.prog 18 #[.slice A l.length c] w fun e w' => e = .returned (.bool (mayP l)) ∧ Below w.heap.size w w' :=
  (wharfageref02_May.calls 1300 A c l _ w hl hc (May_f l hs hn 1300 (by omega))).mono fun e w' ⟨h1, h2⟩ => ⟨h1, h2.below⟩
end Go.Proofs.YtmnfihdbibjijaaDoor

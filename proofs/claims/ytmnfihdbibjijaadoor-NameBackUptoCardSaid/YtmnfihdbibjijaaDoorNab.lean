/- name: the document's Runes, Is, as printed. -/
import Derived.Test.YtmnfihdbibjijaaDoorNaa
set_option linter.unusedVariables false
set_option linter.unusedSimpArgs false
namespace Go.Proofs.YtmnfihdbibjijaaDoor
open Go.RowKit Go.Proofs.YtmnfihdbibjijaaDoorW.PrintWords Go.Proofs.YtmnfihdbibjijaaDoor.PNamePaths
open Go.Lib (Utf8Tabs decodeGo splitB countB decodeN decode_at width_pos)

theorem bad_iff_pt (s : ByteArray) (pos : Nat) : (pt s pos).2 = 0 ↔ bad s pos := by
  unfold pt
  have := width_pos s pos
  by_cases h : bad s pos
  · rw [if_pos h]; exact ⟨fun _ => h, fun _ => rfl⟩
  · rw [if_neg h]
    refine ⟨fun e => ?_, fun e => absurd e h⟩
    dsimp only at e; omega
theorem Runes_l0 (s : ByteArray) (hs : s.size ≤ 4611686018427387904) : ∀ (d : Nat) (k pos n : Nat), s.size - pos ≤ d → d + 13 ≤ k → pos ≤ s.size → n ≤ pos →
    wharfageref02_Runes.l0 k s (n : Int) (pos : Int) = some (((runesAt everyP s pos n).1 : Int), (runesAt everyP s pos n).2)
  | d, k, pos, n, hd, hk, hp, hn => by
    obtain ⟨k, rfl⟩ : ∃ m, k = m + 1 := ⟨k - 1, by omega⟩
    rw [wharfageref02_Runes.l0, runesAt_step]
    by_cases h : pos < s.size
    · rw [if_pos (by omega), if_pos h]
      obtain ⟨m, rfl⟩ : ∃ m, k = m + 12 := ⟨k - 12, by omega⟩
      rw [point_f s pos hs m h]
      simp only [Option.bind_some]
      by_cases hb : bad s pos
      · rw [if_pos ((bad_iff_pt s pos).2 hb), if_pos hb]; rfl
      · have hw := width_pos s pos
        have hf := width_fits s pos h
        rw [if_neg (fun e => hb ((bad_iff_pt s pos).1 e)), if_neg hb]
        have e2 : (pt s pos).2 = ((Utf8.decode s pos).2 : Int) := by unfold pt; rw [if_neg hb]
        rw [e2, if_pos (show everyP _ = true from rfl), w64 _ (by omega), w64 _ (by omega)]
        have a1 : (n : Int) + 1 = ((n + 1 : Nat) : Int) := by omega
        have a2 : (pos : Int) + ((Utf8.decode s pos).2 : Int) = ((pos + (Utf8.decode s pos).2 : Nat) : Int) := by omega
        rw [a1, a2]
        cases d with
        | zero => omega
        | succ d => exact Runes_l0 s hs d (m + 12) _ _ (by omega) (by omega) (by omega) (by omega)
    · rw [if_neg (by omega), if_neg h]
theorem Runes_f (s : ByteArray) (hs : s.size ≤ 4611686018427387904) (k : Nat) (hk : s.size + 13 ≤ k) : wharfageref02_Runes.f k s = some (((runesP everyP s).1 : Int), (runesP everyP s).2) := by
  unfold wharfageref02_Runes.f
  exact Runes_l0 s hs s.size k 0 0 (by omega) hk (by omega) (by omega)
theorem high_window (s : ByteArray) (pos : Nat) (h : ¬ bad s pos) (h0 : 128 ≤ (s.get! pos).toNat) : ∀ j, j < (Utf8.decode s pos).2 → 128 ≤ (s.get! (pos + j)).toNat := by
  unfold bad at h
  intro j hj
  rw [decode_at] at h hj
  unfold decodeN at h hj
  rw [if_neg (by omega)] at h hj
  have e0 : s.get! (pos + 0) = s.get! pos := rfl
  rcases (show j = 0 ∨ j = 1 ∨ j = 2 ∨ j = 3 ∨ 4 ≤ j by omega) with rfl | rfl | rfl | rfl | h4
  · rw [e0]; exact h0
  · split at hj
    · omega
    · split at hj
      · omega
      · split at hj
        · omega
        · simp at hj
  · split at hj
    · split at hj <;> simp at hj
    · split at hj
      · omega
      · split at hj
        · omega
        · simp at hj
  · split at hj
    · split at hj <;> simp at hj
    · split at hj
      · split at hj <;> simp at hj
      · split at hj
        · omega
        · simp at hj
  · exfalso
    repeat' split at hj
    all_goals (simp only at hj; omega)
theorem named_high {r : Nat} (h : 128 ≤ r) : namedP r = true := by
  unfold namedP
  rw [decide_eq_true (by omega : 32 ≤ r), decide_eq_false (by omega : ¬ r = 127), decide_eq_false (by omega : ¬ r = 47)]; rfl
theorem low_decode (s : ByteArray) (pos : Nat) (h : (s.get! pos).toNat < 128) : Utf8.decode s pos = ((s.get! pos).toNat, 1) := by
  rw [decode_at]; unfold decodeN; rw [if_pos h]
theorem high_rune (s : ByteArray) (pos : Nat) (hp : pos < s.size) (h : 128 ≤ (s.get! pos).toNat) : 128 ≤ (Utf8.decode s pos).1 := by
  have e := get_at s pos hp
  rw [Nat.add_zero] at e
  exact (decode_high s pos hp (by rw [← e]; exact h)).1
/-- A text's runes are such as a name may have, if it is well formed and its bytes are. -/
theorem named_iff (s : ByteArray) : ∀ (d pos n m : Nat), s.size - pos ≤ d → ((runesAt namedP s pos n).2 = true ↔ ((runesAt everyP s pos m).2 = true ∧ ∀ i, pos ≤ i → i < s.size → namedP (s.get! i).toNat = true))
  | d, pos, n, m, hd => by
    rw [runesAt_step namedP, runesAt_step everyP]
    by_cases h : pos < s.size
    · rw [if_pos h, if_pos h]
      by_cases hb : bad s pos
      · rw [if_pos hb, if_pos hb]; simp
      · rw [if_neg hb, if_neg hb]
        have hw := width_pos s pos
        have hf := width_fits s pos h
        cases d with
        | zero => omega
        | succ d =>
        have ih := named_iff s d (pos + (Utf8.decode s pos).2) (n + 1) (m + 1) (by omega)
        rw [if_pos (show everyP _ = true from rfl)]
        by_cases hlow : (s.get! pos).toNat < 128
        · rw [low_decode s pos hlow] at ih ⊢
          dsimp only at ih ⊢
          by_cases hna : namedP (s.get! pos).toNat = true
          · rw [if_pos hna, ih]
            refine ⟨fun ⟨a, b⟩ => ⟨a, fun i hi hi2 => ?_⟩, fun ⟨a, b⟩ => ⟨a, fun i hi hi2 => b i (by omega) hi2⟩⟩
            rcases Nat.lt_or_eq_of_le hi with hlt | rfl
            · exact b i (by omega) hi2
            · exact hna
          · rw [if_neg hna]
            exact ⟨fun e => absurd e (by simp), fun ⟨a, b⟩ => absurd (b pos (Nat.le_refl _) h) hna⟩
        · have hhi := high_rune s pos h (by omega)
          have hwin := high_window s pos hb (by omega)
          rw [if_pos (named_high hhi), ih]
          refine ⟨fun ⟨a, b⟩ => ⟨a, fun i hi hi2 => ?_⟩, fun ⟨a, b⟩ => ⟨a, fun i hi hi2 => b i (by omega) hi2⟩⟩
          by_cases hlt : i < pos + (Utf8.decode s pos).2
          · have := hwin (i - pos) (by omega)
            rw [show pos + (i - pos) = i by omega] at this
            exact named_high this
          · exact b i (by omega) hi2
    · rw [if_neg h, if_neg h]
      exact ⟨fun _ => ⟨rfl, fun i h1 h2 => by omega⟩, fun _ => rfl⟩
theorem bytes_b (s : ByteArray) (i : Nat) (h : i < s.size) : (bt s (i : Int) < 32 ∨ bt s (i : Int) = 127 ∨ bt s (i : Int) = 47) ↔ namedP (s.get! i).toNat = false := by
  rw [bt_get s i h]
  unfold namedP
  by_cases a : 32 ≤ (s.get! i).toNat
  · by_cases b : (s.get! i).toNat = 127
    · rw [decide_eq_true a, decide_eq_true b]; simp; omega
    · by_cases c : (s.get! i).toNat = 47
      · rw [decide_eq_true a, decide_eq_false b, decide_eq_true c]; simp; omega
      · rw [decide_eq_true a, decide_eq_false b, decide_eq_false c]; simp; omega
  · rw [decide_eq_false a]; simp; omega
def allB (s : ByteArray) : Prop := ∀ i, i < s.size → namedP (s.get! i).toNat = true
theorem Is_l0 (s : ByteArray) (hs : s.size ≤ 32) : ∀ (d i k : Nat), s.size = i + d → s.size + d + 20 ≤ k → (∀ j, j < i → namedP (s.get! j).toNat = true) →
    ∃ r, wharfageref02_Is.l0 k s (i : Int) = some r ∧ (r = true ↔ allB s ∧ (runesP everyP s).2 = true)
  | 0, i, k, hd, hk, ha => by
    obtain ⟨k, rfl⟩ : ∃ m, k = m + 1 := ⟨k - 1, by omega⟩
    rw [wharfageref02_Is.l0, if_neg (by omega), Runes_f s (by omega) k (by omega)]
    exact ⟨_, rfl, ⟨fun h => ⟨fun j hj => ha j (by omega), h⟩, fun h => h.2⟩⟩
  | d + 1, i, k, hd, hk, ha => by
    obtain ⟨k, rfl⟩ : ∃ m, k = m + 1 := ⟨k - 1, by omega⟩
    have hb := bytes_b s i (by omega)
    rw [wharfageref02_Is.l0, if_pos (by omega), if_pos (by omega)]
    have no : namedP (s.get! i).toNat = false → (false = true ↔ allB s ∧ (runesP everyP s).2 = true) := fun e => ⟨fun h => absurd h (by simp), fun h => by rw [h.1 i (by omega)] at e; cases e⟩
    by_cases c1 : bt s (i : Int) < 32
    · rw [if_pos c1]; exact ⟨false, rfl, no (hb.1 (.inl c1))⟩
    by_cases c2 : bt s (i : Int) = 127
    · rw [if_neg c1, if_pos c2]; exact ⟨false, rfl, no (hb.1 (.inr (.inl c2)))⟩
    by_cases c3 : bt s (i : Int) = 47
    · rw [if_neg c1, if_neg c2, if_pos c3]; exact ⟨false, rfl, no (hb.1 (.inr (.inr c3)))⟩
    rw [if_neg c1, if_neg c2, if_neg c3, w64 _ (by omega), show (i : Int) + 1 = ((i + 1 : Nat) : Int) by omega]
    refine Is_l0 s hs d (i + 1) k (by omega) (by omega) (fun j hj => ?_)
    rcases Nat.lt_or_eq_of_le (Nat.le_of_lt_succ hj) with hlt | rfl
    · exact ha j hlt
    · cases h : namedP (s.get! j).toNat with
      | true => rfl
      | false => have := hb.2 h; omega
theorem empty_toList (s : ByteArray) : s.toList.isEmpty = decide (s.size = 0) := by
  have e : s.data.toList.length = s.size := Array.length_toList
  rw [ByteArray.toList_eq, Bool.eq_iff_iff, List.isEmpty_iff_length_eq_zero, e, decide_eq_true_iff]
theorem Is_f (s : ByteArray) (hs : s.size ≤ 4611686018427387904) (k : Nat) (hk : 100 ≤ k) : wharfageref02_Is.f k s = some (isP s) := by
  obtain ⟨k, rfl⟩ : ∃ m, k = m + 1 := ⟨k - 1, by omega⟩
  unfold wharfageref02_Is.f isP
  rw [empty_toList]
  by_cases h1 : (s.size : Int) < 1
  · rw [if_pos h1, wharfageref02_Is.j0, if_pos rfl, decide_eq_true (by omega : s.size = 0)]; rfl
  rw [if_neg h1, decide_eq_false (by omega : ¬ s.size = 0)]
  by_cases h2 : (s.size : Int) > 32
  · rw [if_pos h2, wharfageref02_Is.j0, if_pos rfl, decide_eq_false (by omega : ¬ (s.size : Int) ≤ 32)]; rfl
  rw [if_neg h2, decide_eq_true (by omega : (s.size : Int) ≤ 32)]
  by_cases h3 : s.toList = [46]
  · rw [if_pos h3, wharfageref02_Is.j0, if_pos rfl, h3]; rfl
  rw [if_neg h3, wharfageref02_Is.j0, show (s.toList == [46]) = false from by simpa using h3]
  cases h4 : (s.toList == [46, 46]) with
  | true => rw [if_pos rfl]; rfl
  | false =>
    rw [if_neg (by simp)]
    obtain ⟨r, h5, h6⟩ := Is_l0 s (by omega) s.size 0 k (by omega) (by omega) (fun j hj => by omega)
    rw [show ((0 : Int)) = ((0 : Nat) : Int) from rfl, h5]
    have h7 := named_iff s s.size 0 0 0 (by omega)
    have h8 : r = (runesP namedP s).2 := by
      rw [Bool.eq_iff_iff, h6]
      refine ⟨fun ⟨a, b⟩ => h7.2 ⟨b, fun i _ hi => a i hi⟩, fun a => ⟨fun i hi => (h7.1 a).2 i (Nat.zero_le _) hi, (h7.1 a).1⟩⟩
    rw [h8]; simp
theorem Is_ref (w : World) (s : ByteArray) (hs : s.size ≤ 4611686018427387904) : Calls Tryd.prog 10 #[.string s] w fun e w' => e = .returned (.bool (isP s)) ∧ Below w.heap.size w w' :=
  (wharfageref02_Is.calls 100 s (isP s) w (Is_f s hs 100 (Nat.le_refl _))).mono fun e w' ⟨h1, h2⟩ => ⟨h1, h2.below⟩
theorem Runes_ref (w : World) (s : ByteArray) (hs : s.size ≤ 4611686018427387904) : Calls Tryd.prog 8 #[.string s] w fun e w' => e = pairR (runesP everyP s) ∧ Below w.heap.size w w' :=
  (wharfageref02_Runes.calls (s.size + 13) s _ _ w (Runes_f s hs _ (Nat.le_refl _))).mono fun e w' ⟨h1, h2⟩ => ⟨h1, h2.below⟩
end Go.Proofs.YtmnfihdbibjijaaDoor

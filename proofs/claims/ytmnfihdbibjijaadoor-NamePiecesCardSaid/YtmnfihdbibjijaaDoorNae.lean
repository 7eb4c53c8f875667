/- NamePieces, plain: runes of two texts, one behind the other. -/
import Derived.Test.YtmnfihdbibjijaaDoorNa2
set_option linter.unusedVariables false
set_option linter.unusedSimpArgs false
namespace Go.Proofs.YtmnfihdbibjijaaDoor
open Go.Lib

theorem decodeN_ext {n n' b0 b1 b2 b3 c1 c2 c3 : Nat} (hn : n ≤ n') (h1 : 1 < n → c1 = b1) (h2 : 2 < n → c2 = b2) (h3 : 3 < n → c3 = b3) (hb : ¬ ((decodeN n b0 b1 b2 b3).1 = 65533 ∧ (decodeN n b0 b1 b2 b3).2 = 1)) :
    decodeN n' b0 c1 c2 c3 = decodeN n b0 b1 b2 b3 := by
  unfold decodeN at hb ⊢
  by_cases a0 : b0 < 128
  · rw [if_pos a0, if_pos a0]
  rw [if_neg a0] at hb
  rw [if_neg a0, if_neg a0]
  by_cases a1 : b0 / 32 = 6 ∧ (1 < n ∧ b1 / 64 = 2)
  · obtain rfl := h1 a1.2.1
    rw [if_pos a1, if_pos ⟨a1.1, by omega, a1.2.2⟩]
  rw [if_neg a1] at hb
  rw [if_neg a1]
  by_cases a2 : b0 / 16 = 14 ∧ (1 < n ∧ b1 / 64 = 2) ∧ (2 < n ∧ b2 / 64 = 2)
  · obtain rfl := h1 a2.2.1.1
    obtain rfl := h2 a2.2.2.1
    rw [if_pos a2, if_neg (by omega), if_pos ⟨a2.1, ⟨by omega, a2.2.1.2⟩, by omega, a2.2.2.2⟩]
  rw [if_neg a2] at hb
  rw [if_neg a2]
  by_cases a3 : b0 / 8 = 30 ∧ (1 < n ∧ b1 / 64 = 2) ∧ (2 < n ∧ b2 / 64 = 2) ∧ (3 < n ∧ b3 / 64 = 2)
  · obtain rfl := h1 a3.2.1.1
    obtain rfl := h2 a3.2.2.1.1
    obtain rfl := h3 a3.2.2.2.1
    rw [if_pos a3, if_neg (by omega), if_neg (by omega), if_pos ⟨a3.1, ⟨by omega, a3.2.1.2⟩, ⟨by omega, a3.2.2.1.2⟩, by omega, a3.2.2.2.2⟩]
  · rw [if_neg a3] at hb
    exact absurd ⟨rfl, rfl⟩ hb
theorem decodeN_bad {n n' b0 b1 b2 b3 c1 c2 c3 : Nat} (h0 : 1 ≤ n) (hn : n ≤ n') (h1 : 1 < n → c1 = b1) (h2 : 2 < n → c2 = b2) (h3 : 3 < n → c3 = b3) (k1 : n = 1 → n < n' → ¬ c1 / 64 = 2) (k2 : n = 2 → n < n' → ¬ c2 / 64 = 2) (k3 : n = 3 → n < n' → ¬ c3 / 64 = 2)
    (hb : (decodeN n b0 b1 b2 b3).1 = 65533 ∧ (decodeN n b0 b1 b2 b3).2 = 1) : decodeN n' b0 c1 c2 c3 = (65533, 1) := by
  unfold decodeN at hb ⊢
  by_cases a0 : b0 < 128
  · rw [if_pos a0] at hb; omega
  rw [if_neg a0] at hb
  rw [if_neg a0]
  have e1 : (1 < n' ∧ c1 / 64 = 2) → 1 < n := fun h => by
    rcases Nat.lt_or_ge 1 n with h' | h'
    · exact h'
    · exact absurd h.2 (k1 (by omega) (by omega))
  have e2 : (1 < n' ∧ c1 / 64 = 2) → (2 < n' ∧ c2 / 64 = 2) → 2 < n := fun h h' => by
    have := e1 h
    rcases Nat.lt_or_ge 2 n with h'' | h''
    · exact h''
    · exact absurd h'.2 (k2 (by omega) (by omega))
  have e3 : (1 < n' ∧ c1 / 64 = 2) → (2 < n' ∧ c2 / 64 = 2) → (3 < n' ∧ c3 / 64 = 2) → 3 < n := fun h h' h'' => by
    have := e2 h h'
    rcases Nat.lt_or_ge 3 n with g | g
    · exact g
    · exact absurd h''.2 (k3 (by omega) (by omega))
  by_cases a1 : b0 / 32 = 6 ∧ (1 < n' ∧ c1 / 64 = 2)
  · have := e1 a1.2
    obtain rfl := h1 this
    rw [if_pos ⟨a1.1, this, a1.2.2⟩] at hb
    rw [if_pos a1]
    by_cases d : b0 % 32 * 64 + c1 % 64 ≥ 128
    · rw [if_pos d] at hb; exact absurd (show (2 : Nat) = 1 from hb.2) (by decide)
    · rw [if_neg d]
  rw [if_neg a1]
  by_cases a2 : b0 / 16 = 14 ∧ (1 < n' ∧ c1 / 64 = 2) ∧ (2 < n' ∧ c2 / 64 = 2)
  · have g1 := e1 a2.2.1
    have g2 := e2 a2.2.1 a2.2.2
    obtain rfl := h1 g1
    obtain rfl := h2 g2
    rw [if_neg (by omega), if_pos ⟨a2.1, ⟨g1, a2.2.1.2⟩, g2, a2.2.2.2⟩] at hb
    rw [if_pos a2]
    split at hb
    · exact absurd (show (3 : Nat) = 1 from hb.2) (by decide)
    · rename_i d; rw [if_neg d]
  rw [if_neg a2]
  by_cases a3 : b0 / 8 = 30 ∧ (1 < n' ∧ c1 / 64 = 2) ∧ (2 < n' ∧ c2 / 64 = 2) ∧ (3 < n' ∧ c3 / 64 = 2)
  · have g1 := e1 a3.2.1
    have g2 := e2 a3.2.1 a3.2.2.1
    have g3 := e3 a3.2.1 a3.2.2.1 a3.2.2.2
    obtain rfl := h1 g1
    obtain rfl := h2 g2
    obtain rfl := h3 g3
    rw [if_neg (by omega), if_neg (by omega), if_pos ⟨a3.1, ⟨g1, a3.2.1.2⟩, ⟨g2, a3.2.2.1.2⟩, g3, a3.2.2.2.2⟩] at hb
    rw [if_pos a3]
    split at hb
    · exact absurd (show (4 : Nat) = 1 from hb.2) (by decide)
    · rename_i d; rw [if_neg d]
  · rw [if_neg a3]
theorem cont_bad {n b0 b1 b2 b3 : Nat} (h : b0 / 64 = 2) : decodeN n b0 b1 b2 b3 = (65533, 1) := by
  unfold decodeN
  rw [if_neg (by omega), if_neg (by omega), if_neg (by omega), if_neg (by omega)]
theorem get_left (a b : ByteArray) (i : Nat) (h : i < a.size) : (a ++ b).get! i = a.get! i := by
  have e : (a ++ b).data = a.data ++ b.data := ByteArray.data_append
  have h' : i < a.data.size := h
  show (a ++ b).data[i]! = a.data[i]!
  rw [e]
  simp only [getElem!_def, Array.getElem?_append_left h']
theorem get_right (a b : ByteArray) (i : Nat) : (a ++ b).get! (a.size + i) = b.get! i := by
  have e : (a ++ b).data = a.data ++ b.data := ByteArray.data_append
  show (a ++ b).data[a.data.size + i]! = b.data[i]!
  rw [e]
  simp only [getElem!_def]
  rw [Array.getElem?_append_right (by omega), Nat.add_sub_cancel_left]
theorem size_append (a b : ByteArray) : (a ++ b).size = a.size + b.size := ByteArray.size_append
section
variable (a b : ByteArray)
theorem decode_right (pos : Nat) : Utf8.decode (a ++ b) (a.size + pos) = Utf8.decode b pos := by
  rw [decode_at, decode_at, size_append, get_right]
  rw [show a.size + pos + 1 = a.size + (pos + 1) by omega, show a.size + pos + 2 = a.size + (pos + 2) by omega, show a.size + pos + 3 = a.size + (pos + 3) by omega, get_right, get_right, get_right]
  rw [show a.size + b.size - (a.size + pos) = b.size - pos by omega]
theorem decode_left {pos : Nat} (h : pos < a.size) (hb : ¬ bad a pos) : Utf8.decode (a ++ b) pos = Utf8.decode a pos := by
  unfold bad at hb
  rw [decode_at] at hb
  rw [decode_at, decode_at, size_append, get_left a b pos h]
  exact decodeN_ext (by omega) (fun g => by rw [get_left a b _ (by omega)]) (fun g => by rw [get_left a b _ (by omega)]) (fun g => by rw [get_left a b _ (by omega)]) hb
theorem bad_left {pos : Nat} (h : pos < a.size) (hb : bad a pos) (hn : 0 < b.size → ¬ bad b 0) : bad (a ++ b) pos := by
  unfold bad at hb
  rw [decode_at] at hb
  have hc : 0 < b.size → ¬ (b.get! 0).toNat / 64 = 2 := fun g e => hn g (by
    unfold bad
    rw [decode_at, cont_bad e]
    exact ⟨rfl, rfl⟩)
  have nx : ∀ k, a.size - pos = k → a.size - pos < (a ++ b).size - pos → ¬ ((a ++ b).get! (pos + k)).toNat / 64 = 2 := fun k hk hlt => by
    rw [size_append] at hlt
    rw [show pos + k = a.size + 0 by omega, get_right]
    exact hc (by omega)
  have : Utf8.decode (a ++ b) pos = (65533, 1) := by
    rw [decode_at, get_left a b pos h]
    exact decodeN_bad (by omega) (by rw [size_append]; omega) (fun g => by rw [get_left a b _ (by omega)]) (fun g => by rw [get_left a b _ (by omega)]) (fun g => by rw [get_left a b _ (by omega)]) (nx 1) (nx 2) (nx 3) hb
  unfold bad
  rw [this]
  exact ⟨rfl, rfl⟩
theorem runes_right : ∀ (d pos n : Nat), b.size - pos ≤ d → runesAt everyP (a ++ b) (a.size + pos) n = runesAt everyP b pos n
  | d, pos, n, hd => by
    rw [runesAt_step, runesAt_step everyP b, decode_right, size_append]
    have hbb : bad (a ++ b) (a.size + pos) ↔ bad b pos := by unfold bad; rw [decode_right]
    by_cases h : pos < b.size
    · rw [if_pos (by omega), if_pos h]
      by_cases hb : bad b pos
      · rw [if_pos (hbb.2 hb), if_pos hb]
      · have hw := width_pos b pos
        rw [if_neg (fun e => hb (hbb.1 e)), if_neg hb, if_pos (show everyP _ = true from rfl), if_pos (show everyP _ = true from rfl)]
        cases d with
        | zero => omega
        | succ d =>
          rw [Nat.add_assoc]
          exact runes_right d _ _ (by omega)
    · rw [if_neg (by omega), if_neg h]
theorem runes_left_ok : ∀ (d pos n : Nat), a.size - pos ≤ d → pos ≤ a.size → (runesAt everyP a pos n).2 = true → runesAt everyP (a ++ b) pos n = runesAt everyP (a ++ b) a.size (runesAt everyP a pos n).1
  | d, pos, n, hd, hp, hok => by
    rw [runesAt_step] at hok
    by_cases h : pos < a.size
    · rw [if_pos h] at hok
      by_cases hb : bad a pos
      · rw [if_pos hb] at hok; cases hok
      · have hw := width_pos a pos
        have hf := width_fits a pos h
        rw [if_neg hb, if_pos (show everyP _ = true from rfl)] at hok
        have hdl := decode_left a b h hb
        have hnb : ¬ bad (a ++ b) pos := by unfold bad at hb ⊢; rw [hdl]; exact hb
        rw [runesAt_step everyP (a ++ b) pos, if_pos (by rw [size_append]; omega), if_neg hnb, if_pos (show everyP _ = true from rfl), hdl]
        rw [runesAt_step everyP a pos, if_pos h, if_neg hb, if_pos (show everyP _ = true from rfl)]
        cases d with
        | zero => omega
        | succ d => exact runes_left_ok d _ _ (by omega) hf hok
    · obtain rfl : pos = a.size := by omega
      rw [runesAt_step everyP a, if_neg h]
theorem runes_left_no (hb0 : (runesAt everyP b 0 0).2 = true) : ∀ (d pos n : Nat), a.size - pos ≤ d → pos ≤ a.size → (runesAt everyP a pos n).2 = false → runesAt everyP (a ++ b) pos n = (0, false)
  | d, pos, n, hd, hp, hno => by
    rw [runesAt_step] at hno
    by_cases h : pos < a.size
    · rw [if_pos h] at hno
      rw [runesAt_step everyP (a ++ b) pos, if_pos (by rw [size_append]; omega)]
      by_cases hb : bad a pos
      · rw [if_pos]
        exact bad_left a b h hb (fun g e => by rw [runesAt_step, if_pos g, if_pos e] at hb0; cases hb0)
      · have hw := width_pos a pos
        have hf := width_fits a pos h
        rw [if_neg hb, if_pos (show everyP _ = true from rfl)] at hno
        have hdl := decode_left a b h hb
        have hnb : ¬ bad (a ++ b) pos := by unfold bad at hb ⊢; rw [hdl]; exact hb
        rw [if_neg hnb, if_pos (show everyP _ = true from rfl), hdl]
        cases d with
        | zero => omega
        | succ d => exact runes_left_no hb0 d _ _ (by omega) hf hno
    · rw [if_neg h] at hno; cases hno
end
theorem runes_shift (s : ByteArray) : ∀ (d pos n m : Nat), s.size - pos ≤ d → runesAt everyP s pos (n + m) = if (runesAt everyP s pos n).2 then ((runesAt everyP s pos n).1 + m, true) else (0, false)
  | d, pos, n, m, hd => by
    rw [runesAt_step, runesAt_step everyP s pos n]
    by_cases h : pos < s.size
    · rw [if_pos h, if_pos h]
      by_cases hb : bad s pos
      · rw [if_pos hb, if_pos hb]; rfl
      · have hw := width_pos s pos
        rw [if_neg hb, if_neg hb, if_pos (show everyP _ = true from rfl), if_pos (show everyP _ = true from rfl)]
        cases d with
        | zero => omega
        | succ d =>
          have := runes_shift s d (pos + (Utf8.decode s pos).2) (n + 1) m (by omega)
          rw [show n + m + 1 = n + 1 + m by omega, this]
    · rw [if_neg h, if_neg h]; rfl
theorem runes_no {s : ByteArray} : ∀ (d pos n : Nat), s.size - pos ≤ d → (runesAt everyP s pos n).2 = false → runesAt everyP s pos n = (0, false)
  | d, pos, n, hd, hno => by
    rw [runesAt_step] at hno ⊢
    by_cases h : pos < s.size
    · rw [if_pos h] at hno ⊢
      by_cases hb : bad s pos
      · rw [if_pos hb]
      · have hw := width_pos s pos
        rw [if_neg hb, if_pos (show everyP _ = true from rfl)] at hno ⊢
        cases d with
        | zero => omega
        | succ d => exact runes_no d _ _ (by omega) hno
    · rw [if_neg h] at hno; cases hno
theorem runesP_at (s : ByteArray) : runesP everyP s = runesAt everyP s 0 0 := by unfold runesP runesAt; rfl
theorem pieces (a b : ByteArray) : runesP everyP (a ++ b) = if (runesP everyP a).2 then (if (runesP everyP b).2 then ((runesP everyP a).1 + (runesP everyP b).1, true) else (0, false)) else (if (runesP everyP b).2 then (0, false) else runesP everyP (a ++ b)) := by
  rw [runesP_at, runesP_at, runesP_at]
  cases ha : (runesAt everyP a 0 0).2 with
  | true =>
    rw [if_pos rfl, runes_left_ok a b a.size 0 0 (by omega) (by omega) ha]
    have := runes_right a b b.size 0 (runesAt everyP a 0 0).1 (by omega)
    rw [Nat.add_zero] at this
    rw [this]
    have h2 := runes_shift b b.size 0 0 (runesAt everyP a 0 0).1 (by omega)
    rw [Nat.zero_add] at h2
    rw [h2]
    cases (runesAt everyP b 0 0).2 with
    | true => rw [if_pos rfl, if_pos rfl, Nat.add_comm]
    | false => rw [if_neg (by simp), if_neg (by simp)]
  | false =>
    rw [if_neg (by simp)]
    cases hb : (runesAt everyP b 0 0).2 with
    | true => rw [if_pos rfl]; exact runes_left_no a b hb a.size 0 0 (by omega) (by omega) ha
    | false => rw [if_neg (by simp)]
end Go.Proofs.YtmnfihdbibjijaaDoor

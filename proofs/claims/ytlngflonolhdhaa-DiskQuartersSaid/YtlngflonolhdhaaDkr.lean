/- The quarters of a block, behind a crash: plain data. -/
import Derived.Test.YtlngflonolhdhaaDkqa
import Derived.Laws.BytesArg
set_option linter.unusedVariables false
set_option linter.unusedSimpArgs false
namespace Go.Proofs.Ytlngflonolhdhaa
open Go.RowKit

def qt (b : List Int) (j : Nat) : List Int := (b.drop (16 * j)).take 16
theorem qt_get (b : List Int) (j i : Nat) : (qt b j)[i]? = if i < 16 then b[16 * j + i]? else none := by
  unfold qt; rw [List.getElem?_take, List.getElem?_drop]
theorem mixQ_qt {a b : List Int} (ha : a.length = 64) (hb : b.length = 64) (p : Int) (q j : Nat) (hq : q < 4) (hj : j < 4) : qt (mixQ a b p q) j = qt a j ∨ qt (mixQ a b p q) j = qt b j := by
  cases hp : (bits .and .i64 p (2 ^ q) != 0) with
  | false => left; unfold mixQ; rw [if_neg (by rw [hp]; decide)]
  | true =>
    obtain ⟨-, h⟩ := mixQ_get ha hb p q hq hp
    by_cases e : q = j
    · right; subst e
      apply List.ext_getElem?; intro i
      rw [qt_get, qt_get]
      by_cases hi : i < 16
      · rw [if_pos hi, if_pos hi, h, if_pos (by omega)]
      · rw [if_neg hi, if_neg hi]
    · left
      apply List.ext_getElem?; intro i
      rw [qt_get, qt_get]
      by_cases hi : i < 16
      · rw [if_pos hi, if_pos hi, h, if_neg (by omega)]
      · rw [if_neg hi, if_neg hi]
theorem mixQ_len {a b : List Int} (ha : a.length = 64) (hb : b.length = 64) (p : Int) (q : Nat) (hq : q < 4) : (mixQ a b p q).length = 64 := by
  unfold mixQ; split
  · simp [ha, hb]; omega
  · exact ha
theorem mix_qt {a b : List Int} (ha : a.length = 64) (hb : b.length = 64) (p : Int) (j : Nat) (hj : j < 4) : qt (mix a b p) j = qt a j ∨ qt (mix a b p) j = qt b j := by
  unfold mix
  have l0 := mixQ_len ha hb p 0 (by decide)
  have l1 := mixQ_len l0 hb p 1 (by decide)
  have l2 := mixQ_len l1 hb p 2 (by decide)
  rcases mixQ_qt l2 hb p 3 j (by decide) hj with h | h
  · rw [h]
    rcases mixQ_qt l1 hb p 2 j (by decide) hj with h | h
    · rw [h]
      rcases mixQ_qt l0 hb p 1 j (by decide) hj with h | h
      · rw [h]; exact mixQ_qt ha hb p 0 j (by decide) hj
      · exact .inr h
    · exact .inr h
  · exact .inr h
theorem mix_len {a b : List Int} (ha : a.length = 64) (hb : b.length = 64) (p : Int) : (mix a b p).length = 64 :=
  mixQ_len (mixQ_len (mixQ_len (mixQ_len ha hb p 0 (by decide)) hb p 1 (by decide)) hb p 2 (by decide)) hb p 3 (by decide)
theorem crashed_qt (n j : Nat) (hj : j < 4) : ∀ (q : List (Int × List Int)) (ps : List Int) (laid : List (List Int)), (∀ b ∈ laid, b.length = 64) → (∀ x ∈ q, x.2.length = 64 ∧ 0 ≤ x.1 ∧ x.1 < laid.length) → n < laid.length →
    qt ((crashed laid q ps).getD n []) j = qt (laid.getD n []) j ∨ ∃ x ∈ q, x.1 = n ∧ qt ((crashed laid q ps).getD n []) j = qt x.2 j
  | [], ps, laid, _, _, _ => by left; rw [crashed_nil]
  | (m, b) :: q, [], laid, _, _, _ => by left; rw [crashed_none]
  | (m, b) :: q, p :: ps, laid, hl, hq, hn => by
    obtain ⟨hb, h0, h1⟩ := hq (m, b) (by simp)
    dsimp only at hb h0 h1
    have hlm : (laid.getD m.toNat []).length = 64 := by
      have hlt : m.toNat < laid.length := by omega
      rw [List.getD_eq_getElem?_getD, List.getElem?_eq_getElem hlt]
      exact hl _ (List.getElem_mem hlt)
    have ih := crashed_qt n j hj q ps (laid.set m.toNat (mix (laid.getD m.toNat []) b p)) (fun x hx => by
      rcases List.mem_or_eq_of_mem_set hx with hx | rfl
      · exact hl x hx
      · exact mix_len hlm hb p) (fun x hx => by rw [List.length_set]; exact hq x (by simp [hx])) (by simpa using hn)
    rw [crashed]
    rcases ih with ih | ⟨x, hx, hxn, ih⟩
    · rw [ih]
      by_cases e : m.toNat = n
      · subst e
        have : (laid.set m.toNat (mix (laid.getD m.toNat []) b p)).getD m.toNat [] = mix (laid.getD m.toNat []) b p := by
          rw [List.getD_eq_getElem?_getD, List.getElem?_set, if_pos rfl, if_pos hn]; rfl
        rw [this]
        rcases mix_qt hlm hb p j hj with h | h
        · exact .inl h
        · exact .inr ⟨(m, b), by simp, by dsimp only; omega, h⟩
      · left
        rw [List.getD_eq_getElem?_getD, List.getElem?_set, if_neg e, ← List.getD_eq_getElem?_getD]
    · exact .inr ⟨x, by simp [hx], hxn, ih⟩

/-- What the innermost loop has found. -/
def isAt (L : List Int) (l : List (Int × List Int)) (n : Nat) (b : List Int) (j i : Nat) : Bool := (qt b j == qt L j) || (l.take i).any (fun x => x.1 % 64 == (n : Int) && qt b j == qt x.2 j)
theorem isAt_zero (L : List Int) (l : List (Int × List Int)) (n : Nat) (b : List Int) (j : Nat) : isAt L l n b j 0 = (qt b j == qt L j) := by simp [isAt]
theorem isAt_succ {L : List Int} {l : List (Int × List Int)} {n : Nat} {b : List Int} {j i : Nat} (h : isAt L l n b j i = false) {x : Int × List Int} (hx : l[i]? = some x) :
    isAt L l n b j (i + 1) = (x.1 % 64 == (n : Int) && qt b j == qt x.2 j) := by
  unfold isAt at h ⊢
  have ht : l.take (i + 1) = l.take i ++ [x] := by rw [List.take_add_one, hx]; rfl
  rw [ht, List.any_append, ← Bool.or_assoc, h]
  simp
theorem isAt_all (L : List Int) (l : List (Int × List Int)) (n : Nat) (b : List Int) (j : Nat) (h : qt b j = qt L j ∨ ∃ x ∈ (l.take 40).map (fun x => (x.1 % 64, x.2)), x.1 = (n : Int) ∧ qt b j = qt x.2 j) (i : Nat) (hi : 40 ≤ i ∨ l.length ≤ i) : isAt L l n b j i = true := by
  unfold isAt
  rcases h with h | ⟨x, hx, h1, h2⟩
  · simp [h]
  · obtain ⟨y, hy, rfl⟩ := List.mem_map.1 hx
    rw [Bool.or_eq_true]; right
    rw [List.any_eq_true]
    refine ⟨y, ?_, by simp at h1 h2; simp [h1, h2]⟩
    rcases hi with hi | hi
    · have : l.take 40 = (l.take i).take 40 := by rw [List.take_take]; congr 1; omega
      rw [this] at hy; exact List.mem_of_mem_take hy
    · rw [List.take_of_length_le hi]; exact List.mem_of_mem_take hy
theorem strOfNums_inj {xs ys : List Int} (hx : ∀ x ∈ xs, 0 ≤ x ∧ x < 256) (hy : ∀ y ∈ ys, 0 ≤ y ∧ y < 256) (h : strOfNums xs = strOfNums ys) : xs = ys := by
  have h2 : xs.map (fun n => UInt8.ofNat n.toNat) = ys.map (fun n => UInt8.ofNat n.toNat) := by
    have := congrArg (fun s : ByteArray => s.data.toList) h
    simpa [strOfNums_data] using this
  clear h
  induction xs generalizing ys with
  | nil => cases ys with
    | nil => rfl
    | cons y ys => simp at h2
  | cons x xs ih => cases ys with
    | nil => simp at h2
    | cons y ys =>
      simp only [List.map_cons, List.cons.injEq] at h2
      have h1 := hx x (by simp)
      have h3 := hy y (by simp)
      have e : x = y := by
        have := congrArg UInt8.toNat h2.1
        simp only [UInt8.toNat_ofNat'] at this
        omega
      rw [e, ih (fun z hz => hx z (by simp [hz])) (fun z hz => hy z (by simp [hz])) h2.2]
theorem okB_qt {b : List Int} (h : okB b) (j : Nat) : ∀ x ∈ qt b j, 0 ≤ x ∧ x < 256 := fun x hx => h.2 x (List.mem_of_mem_drop (List.mem_of_mem_take hx))
theorem qt_length {b : List Int} (h : b.length = 64) (j : Nat) (hj : j < 4) : (qt b j).length = 16 := by simp [qt, h]; omega
theorem str_qt {a b : List Int} (ha : okB a) (hb : okB b) (j : Nat) : decide (strOfNums (qt a j) = strOfNums (qt b j)) = (qt a j == qt b j) := by
  by_cases h : qt a j = qt b j
  · simp [h]
  · have : ¬ strOfNums (qt a j) = strOfNums (qt b j) := fun e => h (strOfNums_inj (okB_qt ha j) (okB_qt hb j) e)
    simp [h, this]
theorem str_beq {a b : List Int} (ha : okB a) (hb : okB b) (j : Nat) : ((strOfNums (qt a j)).toList == (strOfNums (qt b j)).toList) = (qt a j == qt b j) := by
  rw [ByteArray.toList_eq, ByteArray.toList_eq, ← str_qt ha hb j]
  by_cases h : strOfNums (qt a j) = strOfNums (qt b j)
  · simp [h]
  · have : (strOfNums (qt a j)).data.toList ≠ (strOfNums (qt b j)).data.toList := fun e => h (ByteArray.ext (Array.toList_inj.1 e))
    rw [decide_eq_false h]
    simpa using this
end Go.Proofs.Ytlngflonolhdhaa

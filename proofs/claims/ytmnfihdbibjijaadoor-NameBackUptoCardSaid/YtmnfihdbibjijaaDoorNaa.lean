/- name: the document's point, as printed, is the rune at a place; its Runes are runes. -/
import Derived.Test.YtmnfihdbibjijaaDoorNa9
set_option linter.unusedVariables false
set_option linter.unusedSimpArgs false
namespace Go.Proofs.YtmnfihdbibjijaaDoor
open Go.RowKit Go.Proofs.YtmnfihdbibjijaaDoorW.PrintWords Go.Proofs.YtmnfihdbibjijaaDoor.PNamePaths
open Go.Lib (Utf8Tabs decodeGo splitB countB decodeN decode_at width_pos)

theorem bt_get (s : ByteArray) (i : Nat) (h : i < s.size) : bt s (i : Int) = ((s.get! i).toNat : Int) := by
  unfold bt
  rw [dif_pos (by simpa using h)]
  have := get_at s i h
  rw [Nat.add_zero] at this
  rw [this]
  simp
theorem w64 (n : Int) (h : -1000000 ≤ n ∧ n ≤ 4611686018427387904 + 1000) : wrap64 n = n := by unfold wrap64; omega
theorem get_lt (s : ByteArray) (i : Nat) : (s.get! i).toNat < 256 := UInt8.toNat_lt _
section
variable (s : ByteArray) (pos : Nat) (hs : s.size ≤ 4611686018427387904)
include hs
theorem l0_step (k : Nat) (m v least : Int) (i : Nat) (hi : (i : Int) < m) (hm : m ≤ 4) (hp : pos + i < s.size) (hv : 0 ≤ v ∧ v ≤ 100000) (hl : 0 ≤ least) :
    wharfageref02_point.l0 (k + 1) s (pos : Int) m v least (i : Int) = if ((s.get! (pos + i)).toNat : Int) < 128 then some (0, 0) else if ((s.get! (pos + i)).toNat : Int) ≥ 192 then some (0, 0) else wharfageref02_point.l0 k s (pos : Int) m (64 * v + ((s.get! (pos + i)).toNat : Int) - 128) least ((i + 1 : Nat) : Int) := by
  have hb := get_lt s (pos + i)
  have e1 : wrap64 ((pos : Int) + (i : Int)) = ((pos + i : Nat) : Int) := by rw [w64 _ (by omega)]; omega
  rw [wharfageref02_point.l0]
  rw [if_pos hi, e1, if_pos (by omega), if_pos (by omega), bt_get s (pos + i) hp]
  generalize hx : ((s.get! (pos + i)).toNat : Int) = x
  have hx0 : 0 ≤ x ∧ x < 256 := by omega
  rw [w64 x (by omega), w64 (64 * v) (by omega), w64 (64 * v + x) (by omega)]
  split
  · rfl
  · split
    · rfl
    · rw [w64 _ (by omega), w64 _ (by omega)]
      congr 1
omit hs in
theorem l0_end (k : Nat) (m v least : Int) (i : Int) (hi : ¬ i < m) : wharfageref02_point.l0 (k + 1) s (pos : Int) m v least i = if v < least then some (0, 0) else if v > 1114111 then some (0, 0) else if v ≥ 55296 then (if v ≤ 57343 then some (0, 0) else some (v, m)) else some (v, m) := by
  rw [wharfageref02_point.l0]
  rw [if_neg hi]
def pt (s : ByteArray) (pos : Nat) : Int × Int := if bad s pos then (0, 0) else (((Utf8.decode s pos).1 : Int), ((Utf8.decode s pos).2 : Int))
omit hs in
theorem pt_eq : pt s pos = ptN (s.size - pos) (s.get! pos).toNat (s.get! (pos + 1)).toNat (s.get! (pos + 2)).toNat (s.get! (pos + 3)).toNat := by
  unfold pt ptN
  by_cases h : bad s pos
  · have h2 := h
    unfold bad at h2
    rw [decode_at] at h2
    rw [if_pos h, if_pos h2]
  · have h2 := h
    unfold bad at h2
    rw [decode_at] at h2
    rw [if_neg h, if_neg h2, decode_at]
theorem j3_all (k : Nat) (m v least : Int) (hm : 0 < m ∧ m ≤ 4) (hp : pos < s.size) : wharfageref02_point.j2 (k + 2) s (pos : Int) m v least = if (s.size - pos : Int) < m then some (0, 0) else wharfageref02_point.l0 k s (pos : Int) m v least 1 := by
  rw [wharfageref02_point.j2, if_neg (by omega), w64 _ (by omega), wharfageref02_point.j3]
  by_cases h : (s.size - pos : Int) < m
  · rw [if_pos h, if_pos (by rw [decide_eq_true_iff]; omega)]
  · rw [if_neg h, if_neg (by rw [decide_eq_true_iff]; omega)]
theorem point_f (k : Nat) (h : pos < s.size) : wharfageref02_point.f (k + 12) s (pos : Int) = some (pt s pos) := by
  have h0 := get_lt s pos
  have h1 := get_lt s (pos + 1)
  have h2 := get_lt s (pos + 2)
  have h3 := get_lt s (pos + 3)
  rw [pt_eq]
  unfold wharfageref02_point.f
  rw [if_pos (by omega), if_pos (by omega), bt_get s pos h, w64 _ (by omega)]
  by_cases c1 : (s.get! pos).toNat < 128
  · rw [if_pos (by omega), ptN_1 c1]
  rw [if_neg (by omega)]
  by_cases c2 : (s.get! pos).toNat < 192
  · rw [if_neg (by omega), ptN_0 (by omega) (.inl c2) h0]
    rw [wharfageref02_point.j0, if_neg (by simp), if_neg (by omega), wharfageref02_point.j1, if_neg (by simp), if_neg (by omega), wharfageref02_point.j2, if_pos rfl, wharfageref02_point.j3, if_pos rfl]
  rw [if_pos (by omega)]
  by_cases c3 : (s.get! pos).toNat < 224
  · rw [wharfageref02_point.j0, if_pos (by rw [decide_eq_true_iff]; omega), w64 _ (by omega), j3_all s pos hs _ 2 _ _ (by omega) h, ptN_2 (by omega) h1]
    by_cases n2 : s.size - pos < 2
    · rw [if_pos (by omega), if_pos n2]
    · rw [if_neg (by omega), if_neg n2]
      rw [show (1 : Int) = ((1 : Nat) : Int) from rfl, l0_step s pos hs _ 2 _ _ 1 (by omega) (by omega) (by omega) (by omega) (by omega)]
      by_cases d1 : (s.get! (pos + 1)).toNat < 128
      · rw [if_pos (by omega), if_pos d1]
      · rw [if_neg (by omega), if_neg d1]
        by_cases d2 : 192 ≤ (s.get! (pos + 1)).toNat
        · rw [if_pos (by omega), if_pos d2]
        · rw [if_neg (by omega), if_neg d2, l0_end s pos _ _ _ _ _ (by omega)]
          by_cases d3 : 64 * ((s.get! pos).toNat - 192) + (s.get! (pos + 1)).toNat - 128 < 128
          · rw [if_pos (by omega), if_pos d3]
          · rw [if_neg (by omega), if_neg (by omega), if_neg (by omega), if_neg d3]
            congr 2; omega
  rw [wharfageref02_point.j0, if_neg (by rw [decide_eq_true_iff]; omega), if_pos (by omega)]
  by_cases c4 : (s.get! pos).toNat < 240
  · rw [wharfageref02_point.j1, if_pos (by rw [decide_eq_true_iff]; omega), w64 _ (by omega), j3_all s pos hs _ 3 _ _ (by omega) h, ptN_3 (by omega) h1 h2]
    by_cases n2 : s.size - pos < 3
    · rw [if_pos (by omega), if_pos n2]
    · rw [if_neg (by omega), if_neg n2]
      rw [show (1 : Int) = ((1 : Nat) : Int) from rfl]
      rw [l0_step s pos hs _ 3 _ _ 1 (by omega) (by omega) (by omega) (by omega) (by omega)]
      by_cases d1 : (s.get! (pos + 1)).toNat < 128
      · rw [if_pos (by omega), if_pos d1]
      · rw [if_neg (by omega), if_neg d1]
        by_cases e1 : 192 ≤ (s.get! (pos + 1)).toNat
        · rw [if_pos (by omega), if_pos e1]
        · rw [if_neg (by omega), if_neg e1]
          rw [l0_step s pos hs _ 3 _ _ 2 (by omega) (by omega) (by omega) (by omega) (by omega)]
          by_cases d2 : (s.get! (pos + 2)).toNat < 128
          · rw [if_pos (by omega), if_pos d2]
          · rw [if_neg (by omega), if_neg d2]
            by_cases e2 : 192 ≤ (s.get! (pos + 2)).toNat
            · rw [if_pos (by omega), if_pos e2]
            · rw [if_neg (by omega), if_neg e2]
              rw [l0_end s pos _ _ _ _ _ (by omega)]
              by_cases f1 : 4096 * ((s.get! pos).toNat - 224) + 64 * ((s.get! (pos + 1)).toNat - 128) + ((s.get! (pos + 2)).toNat - 128) < 2048
              · rw [if_pos (by omega), if_pos (.inl f1)]
              · by_cases f2 : 55296 ≤ 4096 * ((s.get! pos).toNat - 224) + 64 * ((s.get! (pos + 1)).toNat - 128) + ((s.get! (pos + 2)).toNat - 128)
                · by_cases f3 : 4096 * ((s.get! pos).toNat - 224) + 64 * ((s.get! (pos + 1)).toNat - 128) + ((s.get! (pos + 2)).toNat - 128) ≤ 57343
                  · rw [if_neg (by omega), if_neg (by omega), if_pos (by omega), if_pos (by omega), if_pos (.inr ⟨f2, f3⟩)]
                  · rw [if_neg (by omega), if_neg (by omega), if_pos (by omega), if_neg (by omega), if_neg (by omega)]
                    congr 2; omega
                · rw [if_neg (by omega), if_neg (by omega), if_neg (by omega), if_neg (by omega)]
                  congr 2; omega
  rw [wharfageref02_point.j1, if_neg (by rw [decide_eq_true_iff]; omega), if_pos (by omega)]
  by_cases c5 : (s.get! pos).toNat < 248
  · rw [if_pos (by omega), w64 _ (by omega), j3_all s pos hs _ 4 _ _ (by omega) h, ptN_4 (by omega) h1 h2 h3]
    by_cases n2 : s.size - pos < 4
    · rw [if_pos (by omega), if_pos n2]
    · rw [if_neg (by omega), if_neg n2]
      rw [show (1 : Int) = ((1 : Nat) : Int) from rfl]
      rw [l0_step s pos hs _ 4 _ _ 1 (by omega) (by omega) (by omega) (by omega) (by omega)]
      by_cases d1 : (s.get! (pos + 1)).toNat < 128
      · rw [if_pos (by omega), if_pos d1]
      · rw [if_neg (by omega), if_neg d1]
        by_cases e1 : 192 ≤ (s.get! (pos + 1)).toNat
        · rw [if_pos (by omega), if_pos e1]
        · rw [if_neg (by omega), if_neg e1]
          rw [l0_step s pos hs _ 4 _ _ 2 (by omega) (by omega) (by omega) (by omega) (by omega)]
          by_cases d2 : (s.get! (pos + 2)).toNat < 128
          · rw [if_pos (by omega), if_pos d2]
          · rw [if_neg (by omega), if_neg d2]
            by_cases e2 : 192 ≤ (s.get! (pos + 2)).toNat
            · rw [if_pos (by omega), if_pos e2]
            · rw [if_neg (by omega), if_neg e2]
              rw [l0_step s pos hs _ 4 _ _ 3 (by omega) (by omega) (by omega) (by omega) (by omega)]
              by_cases d3 : (s.get! (pos + 3)).toNat < 128
              · rw [if_pos (by omega), if_pos d3]
              · rw [if_neg (by omega), if_neg d3]
                by_cases e3 : 192 ≤ (s.get! (pos + 3)).toNat
                · rw [if_pos (by omega), if_pos e3]
                · rw [if_neg (by omega), if_neg e3]
                  rw [l0_end s pos _ _ _ _ _ (by omega)]
                  by_cases f1 : 262144 * ((s.get! pos).toNat - 240) + 4096 * ((s.get! (pos + 1)).toNat - 128) + 64 * ((s.get! (pos + 2)).toNat - 128) + ((s.get! (pos + 3)).toNat - 128) < 65536
                  · rw [if_pos (by omega), if_pos (.inl f1)]
                  · by_cases f2 : 1114111 < 262144 * ((s.get! pos).toNat - 240) + 4096 * ((s.get! (pos + 1)).toNat - 128) + 64 * ((s.get! (pos + 2)).toNat - 128) + ((s.get! (pos + 3)).toNat - 128)
                    · rw [if_neg (by omega), if_pos (by omega), if_pos (.inr f2)]
                    · rw [if_neg (by omega), if_neg (by omega), if_pos (by omega), if_neg (by omega), if_neg (by omega)]
                      congr 2; omega
  rw [if_neg (by omega), ptN_0 (by omega) (.inr (by omega)) h0]
  rw [wharfageref02_point.j2, if_pos rfl, wharfageref02_point.j3, if_pos rfl]
end
end Go.Proofs.YtmnfihdbibjijaaDoor

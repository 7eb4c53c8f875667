/- fresh: slices.Insert of one, whole; the oldest. -/
import Derived.Test.YtpnhjckjmpkbfaaFrc
set_option linter.unusedVariables false
set_option linter.unusedSimpArgs false
namespace Go.Proofs.Ytpnhjckjmpkbfaa
open Go.RowKit Go.Proofs.YtpnhjckjmpkbfaaW.PrintLast

def insAt (l : List F) (i : Nat) (f : F) : List F := l.take i ++ f :: l.drop i
theorem insert_any {B : Nat} {w : World} {v : Value} {l : List F} (ho : Own w B v l) (hB : B ≤ w.heap.size) (hn : l.length ≤ 1000) (i : Nat) (hi : i ≤ l.length) (f : F) (k : Nat) (hk : w.heap[k]? = some (.cells (fc f).toArray 42 (0, 0)))
    (hkl : ∀ c, v ≠ .slice (some ⟨k, 0, none⟩) l.length c) :
    Calls Try.prog 14 #[v, .int .i64 (i : Int), .slice (some ⟨k, 0, none⟩) 1 1] w fun r w' => ∃ v', r = .returned v' ∧ Below B w w' ∧ Own w' B v' (insAt l i f) := by
  rcases Nat.lt_or_eq_of_le hi with hlt | rfl
  · have ho2 := ho
    rcases ho.2 with ⟨_, h0⟩ | ⟨b, cap, cur, rfl, hb1, hb2, hb3, hb4, hb5, hb6⟩
    · omega
    · by_cases hc : l.length + 1 ≤ cap
      · refine insert_room ho2 hB hn i hlt hc f k hk ?_
        rintro rfl
        exact hkl cap rfl
      · refine (insert_grow ho2 hB hn i hlt (by omega) f k hk).mono fun r w' ⟨v', h1, h2, h3⟩ => ⟨v', h1, ?_, h3.base hB⟩
        exact h2.mono hB
  · refine (insert_end ho hB hn f k hk).mono fun r w' ⟨v', h1, h2, h3⟩ => ⟨v', h1, h2, ?_⟩
    unfold insAt
    rw [List.take_length, List.drop_length]
    exact h3

theorem oldest1_any (w : World) (f g : F) : Calls Try.prog 19 #[.agg (fc f).toArray, .agg (fc g).toArray] w fun r w' => r = .returned (.int .i64 (cmpI f.at_ g.at_)) ∧ Below w.heap.size w w' := by
  obtain ⟨⟨a, b⟩, d, s, c, t, p⟩ := f
  obtain ⟨⟨a', b'⟩, d', s', c', t', p'⟩ := g
  unfold fc
  dsimp only
  obtain ⟨hb, hh0, hh1⟩ := two_boxes w (.cells #[.int .u32 a, .int .u32 b, .bool d, .int .u32 s, .int .u64 c, .int .u64 t, .int .u64 p] 42) (.cells #[.int .u32 a', .int .u32 b', .bool d', .int .u32 s', .int .u64 c', .int .u64 t', .int .u64 p'] 42)
  go_enter Try.func19, Try.ntmps19
  go_wp2_with fail
  refine (compare64 _ _ _).mono ?_
  rintro e w' ⟨rfl, rfl⟩
  go_wp2_with fail
  go_ret
  exact ⟨rfl, hb⟩
end Go.Proofs.Ytpnhjckjmpkbfaa

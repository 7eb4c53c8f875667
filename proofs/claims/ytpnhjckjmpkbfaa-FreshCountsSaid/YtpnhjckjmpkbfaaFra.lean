/- fresh: slices.Insert of one: its parts. -/
import Derived.Test.YtpnhjckjmpkbfaaFr9
import Derived.Test.YtpnhjckjmpkbfaaWZeros
import Derived.Laws.CopyRow
import Derived.Lib.Overlaps
set_option linter.unusedVariables false
set_option linter.unusedSimpArgs false
namespace Go.Proofs.Ytpnhjckjmpkbfaa
open Go.RowKit Go.Proofs.YtpnhjckjmpkbfaaW.PrintLast

theorem run_copyK {P : Program} (w : World) (dT sT ty elem : TypeId) (s : Nat) (g o dLen dCap : Nat) (a : Addr) (sLen sCap : Nat) (cur : Array Value) (t : TypeId) (cs : List Value) (n : Nat)
    (hu : P.underlying dT = some (.slice elem)) (hs : (P.info? elem).map (·.size) = some s)
    (hg : w.heap[g]? = some (.cells cur t (0, 0))) (hn : Nat.min sLen dLen = n) (hc : cs.length = n * s)
    (hsrc : ∀ j v, cs[j]? = some v → w.cell? (a.add j) = some v) (hfit : o + cs.length ≤ cur.size) (h1 : ∀ v ∈ cs, v.oneCell' = true) :
    (Builtin.copy_ #[dT, sT] ty #[.slice (some ⟨g, o, none⟩) dLen dCap, .slice (some a) sLen sCap]).run P w =
      .ok (goInt n) (w.setRow g (cur.toList.take o ++ cs ++ cur.toList.drop (o + cs.length)).toArray) := by
  have hl := run_loadCells_list (P := P) w a cs hsrc
  have hst := run_storeCells_at P g o t cs 0 cur w hg (by simpa using hfit) h1
  cases hq : P.info? elem with
  | none => simp [hq] at hs
  | some i =>
    have hi : i.size = s := by simpa [hq] using hs
    rw [hc] at hl
    simp [Builtin.copy_, run_underlying hu, Builtin.lenOf, Builtin.firstCells, sizeOf, typeInfo, hq, hi, hn, hl, hst]

theorem flat_fc_len (l : List F) : (flat fc l).length = l.length * 7 := flat_length (s := 7) (fun p hp => rfl)
set_option maxRecDepth 100000 in
set_option maxHeartbeats 2000000 in
/-- At the end. -/
theorem insert_end {B : Nat} {w : World} {v : Value} {l : List F} (ho : Own w B v l) (hB : B ≤ w.heap.size) (hn : l.length ≤ 1000) (f : F) (k : Nat) (hk : w.heap[k]? = some (.cells (fc f).toArray 42 (0, 0))) :
    Calls Try.prog 14 #[v, .int .i64 (l.length : Int), .slice (some ⟨k, 0, none⟩) 1 1] w fun r w' => ∃ v', r = .returned v' ∧ Below B w w' ∧ Own w' B v' (l ++ [f]) := by
  obtain ⟨i0, hi0, hz0, hz1, hz2⟩ := info_parts info_fresh
  have hnews := World.news_of_block hk
  have HN := Lib.hid hnews; clear hnews
  have hq := fun k hk => (ho.lt k hk).1
  have HQ := Lib.hid hq; clear hq
  have HV := Lib.hid ho
  obtain ⟨A, cap, hve, -⟩ := ho.form
  subst hve
  have hcap : l.length ≤ cap := by
    rcases ho.2 with ⟨e, h0⟩ | ⟨b, c, cur, e, h1, h2, h3, _⟩
    · simp at e; omega
    · simp at e; omega
  clear ho
  go_enter Try.func14, Try.ntmps14
  go_wp2_with (first
    | (refine wpList_append_own rfl (.tmp 23) (.tmp 24) _ rfl B 42 i0 _ 7 40 Try.underlying23 hi0 hz0 hz1 hz2 rfl (by decide) _ l.length _ rfl HV.out ⟨k, 0, none⟩ 1 1 (fc f) (by rfl) rfl HN.out (fc_one f) (by unfold maxLen; omega) (by omega) hB ?_
       intro v' w1 h2 h3 h4)
    | fail)
  all_goals
    go_ret
    refine ⟨_, rfl, (Below.refl B w).grown h3 hB HQ.out, ?_⟩
    unfold Own
    rw [flat_append, List.length_append]
    simpa [flat] using h2
end Go.Proofs.Ytpnhjckjmpkbfaa

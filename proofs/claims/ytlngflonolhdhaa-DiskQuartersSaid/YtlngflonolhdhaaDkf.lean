/- Parts of blocks laid down: what a crash leaves, as data and in memory. -/
import Derived.Test.YtlngflonolhdhaaDke
set_option linter.unusedVariables false
set_option linter.unusedSimpArgs false
namespace Go.Proofs.Ytlngflonolhdhaa
open Go.RowKit

theorem crashed_nil (laid : List (List Int)) (ps : List Int) : crashed laid [] ps = laid := by cases ps <;> rfl
theorem crashed_none (laid : List (List Int)) (q : List (Int × List Int)) : crashed laid q [] = laid := by cases q <;> rfl
theorem crashed_snoc (q : List (Int × List Int)) : ∀ (laid : List (List Int)) (ps : List Int) (k : Nat) (n : Int) (b : List Int) (p : Int), q[k]? = some (n, b) → ps[k]? = some p →
    crashed laid (q.take (k + 1)) ps = (crashed laid (q.take k) ps).set n.toNat (mix ((crashed laid (q.take k) ps).getD n.toNat []) b p) := by
  induction q with
  | nil => intro laid ps k n b p h; simp at h
  | cons x q ih =>
    intro laid ps k n b p hq hp
    cases ps with
    | nil => simp at hp
    | cons p0 ps =>
      cases k with
      | zero =>
        simp at hq hp
        subst hq; subst hp
        simp only [Nat.zero_add, List.take_succ_cons, List.take_zero, crashed]
      | succ k =>
        simp at hq hp
        obtain ⟨n0, b0⟩ := x
        simp only [List.take_succ_cons, crashed]
        exact ih _ ps k n b p hq hp
theorem crashed_short (q : List (Int × List Int)) : ∀ (laid : List (List Int)) (ps : List Int), crashed laid (q.take ps.length) ps = crashed laid q ps := by
  induction q with
  | nil => intro laid ps; simp
  | cons x q ih =>
    intro laid ps
    cases ps with
    | nil => simp [crashed]
    | cons p ps =>
      obtain ⟨n, b⟩ := x
      simp only [List.length_cons, List.take_succ_cons, crashed]
      exact ih _ ps
theorem crashed_length (q : List (Int × List Int)) : ∀ (laid : List (List Int)) (ps : List Int), (crashed laid q ps).length = laid.length := by
  induction q with
  | nil => intro laid ps; rw [crashed_nil]
  | cons x q ih =>
    intro laid ps
    cases ps with
    | nil => rfl
    | cons p ps => obtain ⟨n, b⟩ := x; simp only [crashed]; rw [ih]; simp
theorem mixQ_ok {a b : List Int} (ha : okB a) (hb : okB b) (p : Int) (q : Nat) (hq : q < 4) : okB (mixQ a b p q) := by
  unfold mixQ
  split
  · refine ⟨by simp [ha.1, hb.1]; omega, ?_⟩
    intro x hx
    simp only [List.mem_append] at hx
    rcases hx with (hx | hx) | hx
    · exact ha.2 x (List.mem_of_mem_take hx)
    · exact hb.2 x (List.mem_of_mem_drop (List.mem_of_mem_take hx))
    · exact ha.2 x (List.mem_of_mem_drop hx)
  · exact ha
theorem mix_ok {a b : List Int} (ha : okB a) (hb : okB b) (p : Int) : okB (mix a b p) :=
  mixQ_ok (mixQ_ok (mixQ_ok (mixQ_ok ha hb p 0 (by omega)) hb p 1 (by omega)) hb p 2 (by omega)) hb p 3 (by omega)
/-- The first j quarters. -/
def mixTo (a b : List Int) (p : Int) : Nat → List Int
  | 0 => a
  | j + 1 => mixQ (mixTo a b p j) b p j
theorem mixTo_ok {a b : List Int} (ha : okB a) (hb : okB b) (p : Int) : ∀ j, j ≤ 4 → okB (mixTo a b p j)
  | 0, _ => ha
  | j + 1, h => mixQ_ok (mixTo_ok ha hb p j (by omega)) hb p j (by omega)
theorem mixTo_four (a b : List Int) (p : Int) : mixTo a b p 4 = mix a b p := rfl

/-- The row of those that are laid down is written: the cells behind it are told. -/
theorem DAt.setRows {B : Nat} {w : World} {g : Nat} {D : St} {lb lc : Nat} {qv : Value} {m : Nat} (h : DAt B w g D lb lc qv m) {w' : World} (hg : w.grownBy w' (some lb)) {cur : Array Value} (hc : w'.heap[lb]? = some (.cells cur 23 (0, 0))) (hs : cur.size = lc * 64)
    (laid' : List (List Int)) (hl : laid'.length = D.laid.length) (hok : ∀ b ∈ laid', okB b) (ht : cur.toList.take (D.laid.length * 64) = flat bc laid') : DAt B w' g { D with laid := laid' } lb lc qv m := by
  obtain ⟨cur0, e1, e2, e3, e4, e5, e6⟩ := h.lb_form
  obtain ⟨es, mc, hmb, _⟩ := h.map
  refine ⟨h.hB, ?_, ?_, h.queue.kept hg ?_, h.map.grown hg ?_, h.hm, ?_⟩
  · rw [hl]
    exact (hg.block g h.lt (by simp; exact ne_of_cells h.hg e1 (by decide))).trans h.hg
  · rw [hl]
    refine ⟨?_, .inr ⟨lb, lc, cur, rfl, e2, hc, e3, e4, hs, ht⟩⟩
    rw [flat_length (s := 64), hl]
    intro p hp; rw [bc_length]; exact (hok p hp).1
  · rcases h.qv_own with e | ⟨q, c, e, hq⟩
    · exact .inl e
    · rw [e]; exact .inr (by simp; exact ne_of_cells hq e1 (by decide))
  · simp; exact (ne_of_map e1 hmb).symm
  · exact ⟨by rw [hl]; exact h.wf.one, by rw [hl]; exact h.wf.most, hok, by rw [hl]; exact h.wf.queue, h.wf.left, h.wf.work⟩
/-- Some cells of block n are written. -/
theorem flat_cells {laid : List (List Int)} (hok : ∀ b ∈ laid, okB b) {n : Nat} {a b : List Int} (hn : laid[n]? = some a) (o k : Nat) (hk : o + k ≤ 64) (hb : b.length = 64) :
    (flat bc laid).take (n * 64 + o) ++ ((bc b).drop o).take k ++ (flat bc laid).drop (n * 64 + o + k) = flat bc (laid.set n (a.take o ++ (b.drop o).take k ++ a.drop (o + k))) := by
  have hlen : ∀ p ∈ laid, (bc p).length = 64 := fun p hp => by rw [bc_length]; exact (hok p hp).1
  have hnl : n < laid.length := (List.getElem?_eq_some_iff.1 hn).1
  have ha := (hok a (List.mem_of_getElem? hn)).1
  have hfl := flat_length hlen
  have hx : (bc (a.take o ++ (b.drop o).take k ++ a.drop (o + k))).length = 64 := by rw [bc_length]; simp; omega
  rw [← flat_set hlen n _ hx hnl]
  have hseg : ∀ j, j < 64 → (flat bc laid)[n * 64 + j]? = (bc a)[j]? := fun j hj => flat_get hlen n j hj a hn
  have hmul : n * 64 + 64 ≤ laid.length * 64 := by omega
  apply List.ext_getElem?
  intro i
  simp only [List.getElem?_append, List.getElem?_take, List.getElem?_drop, List.length_append, List.length_take, List.length_drop, hx, hfl, bc_length]
  have e1 : min (n * 64 + o) (laid.length * 64) = n * 64 + o := by omega
  have e2 : min (n * 64) (laid.length * 64) = n * 64 := by omega
  have e3 : min k (b.length - o) = k := by omega
  rw [e1, e2, e3]
  by_cases h1 : i < n * 64
  · rw [if_pos (by omega), if_pos (by omega), if_pos (by omega), if_pos (by omega), if_pos (by omega), if_pos (by omega)]
  · by_cases h2 : i < n * 64 + 64
    · obtain ⟨j, rfl⟩ : ∃ j, i = n * 64 + j := ⟨i - n * 64, by omega⟩
      have hj : j < 64 := by omega
      rw [if_pos (show n * 64 + j < n * 64 + 64 by omega), if_neg (show ¬ n * 64 + j < n * 64 by omega)]
      rw [show n * 64 + j - n * 64 = j from by omega]
      have hr : (bc (a.take o ++ (b.drop o).take k ++ a.drop (o + k)))[j]? = if j < o then (bc a)[j]? else if j < o + k then (bc b)[j]? else (bc a)[j]? := by
        simp only [bc_get, List.getElem?_append, List.getElem?_take, List.getElem?_drop, List.length_append, List.length_take, List.length_drop, ha, hb]
        have e4 : min o 64 = o := by omega
        have e5 : min k (64 - o) = k := by omega
        rw [e4, e5]
        by_cases a1 : j < o
        · rw [if_pos (by omega), if_pos a1, if_pos a1, if_pos a1]
        · by_cases a2 : j < o + k
          · rw [if_pos a2, if_neg a1, if_pos (by omega), if_neg a1, if_pos a2]; congr 2; omega
          · rw [if_neg a2, if_neg a1, if_neg a2]; congr 2; omega
      rw [hr]
      by_cases a1 : j < o
      · rw [if_pos (by omega), if_pos (by omega), if_pos (by omega), if_pos a1, hseg j hj]
      · by_cases a2 : j < o + k
        · rw [if_pos (by omega), if_neg (by omega), if_pos (by omega), if_neg a1, if_pos a2]; congr 1; omega
        · rw [if_neg (by omega), if_neg a1, if_neg a2, ← hseg j hj]; congr 1; omega
    · rw [if_neg (by omega), if_neg (by omega)]; congr 1; omega
theorem grownBy_setRow (w : World) (g : Nat) (cs : Array Value) : w.grownBy (w.setRow g cs) (some g) :=
  ⟨rfl, rfl, rfl, by simp, fun k _ hk => setRow_other w g k _ (fun e => hk (by rw [e]))⟩
/-- 'copy' of a quarter into block n. -/
theorem DAt.copy {B : Nat} {w : World} {g : Nat} {D : St} {lb lc : Nat} {qv : Value} {m : Nat} (h : DAt B w g D lb lc qv m) {n : Nat} {a b : List Int} (hn : D.laid[n]? = some a) (hb : okB b) (o : Nat) (ho : o + 16 ≤ 64) (k c : Nat) (hsrc : w.rangeAt k c (bc b)) (dl dcap sc : Nat) (hdl : 16 ≤ dl) :
    ∃ w', (Builtin.copy_ #[42, 42] 3 #[.slice (some ⟨lb, n * 64 + o, none⟩) dl dcap, .slice (some ⟨k, c + o, none⟩) 16 sc]).run Try.prog w = .ok (.int .i64 16) w' ∧ w.grownBy w' (some lb) ∧
      DAt B w' g { D with laid := D.laid.set n (a.take o ++ (b.drop o).take 16 ++ a.drop (o + 16)) } lb lc qv m := by
  obtain ⟨cur, e1, e2, e3, e4, e5, e6⟩ := h.lb_form
  have hnl : n < D.laid.length := (List.getElem?_eq_some_iff.1 hn).1
  have hlen : (((bc b).drop o).take 16).length = 16 := by simp [bc_length, hb.1]; omega
  have hmin : (((bc b).drop o).take 16).length = Nat.min 16 dl := by rw [hlen]; exact (Nat.min_eq_left hdl).symm
  have hfit : n * 64 + o + (((bc b).drop o).take 16).length ≤ cur.size := by rw [hlen, e5]; omega
  have hr := run_copy_row (P := Try.prog) w 42 42 3 5 lb (n * 64 + o) dl dcap ⟨k, c + o, none⟩ 16 sc cur _ (((bc b).drop o).take 16) Try.underlying42 (by kernel_rfl) e1 hmin (fun j v hv => by
    rw [Addr.add_mid]
    rw [List.getElem?_take] at hv
    split at hv
    · rw [List.getElem?_drop] at hv
      have := hsrc (o + j) v hv
      rw [Nat.add_assoc]; exact this
    · cases hv) hfit (fun v hv => bc_one b v (List.mem_of_mem_drop (List.mem_of_mem_take hv)))
  rw [hlen] at hr
  refine ⟨_, hr, grownBy_setRow w lb _, ?_⟩
  have hg := grownBy_setRow w lb (cur.toList.take (n * 64 + o) ++ ((bc b).drop o).take 16 ++ cur.toList.drop (n * 64 + o + 16)).toArray
  refine h.setRows hg (setRow_heap w lb cur _ _ _ e1) ?_ _ (by simp) ?_ ?_
  · simp [bc_length, hb.1]; omega
  · intro p hp
    rcases List.mem_or_eq_of_mem_set hp with hp | rfl
    · exact h.wf.laid p hp
    · have ha := h.wf.laid a (List.mem_of_getElem? hn)
      refine ⟨by simp [ha.1, hb.1]; omega, ?_⟩
      intro x hx
      simp only [List.mem_append] at hx
      rcases hx with (hx | hx) | hx
      · exact ha.2 x (List.mem_of_mem_take hx)
      · exact hb.2 x (List.mem_of_mem_drop (List.mem_of_mem_take hx))
      · exact ha.2 x (List.mem_of_mem_drop hx)
  · rw [← flat_cells h.wf.laid hn o 16 ho hb.1, ← e6]
    apply List.ext_getElem?
    intro j
    simp only [List.getElem?_append, List.getElem?_take, List.getElem?_drop, List.length_append, List.length_take, List.length_drop, bc_length, hb.1, Array.length_toList]
    have h1 : min (n * 64 + o) cur.size = n * 64 + o := by omega
    have h2 : min (n * 64 + o) (min (D.laid.length * 64) cur.size) = n * 64 + o := by omega
    have h3 : min 16 (64 - o) = 16 := by omega
    rw [h1, h2, h3]
    by_cases hj : j < D.laid.length * 64
    · rw [if_pos hj]
      by_cases hj1 : j < n * 64 + o + 16
      · rw [if_pos hj1, if_pos hj1]
        by_cases hj2 : j < n * 64 + o
        · rw [if_pos hj2, if_pos hj2, if_pos hj2, if_pos hj2, if_pos hj]
        · rw [if_neg hj2, if_neg hj2]
      · rw [if_neg hj1, if_neg hj1, if_pos (by omega)]
    · rw [if_neg hj, if_neg (by omega), if_neg (by omega)]
end Go.Proofs.Ytlngflonolhdhaa

/- fresh: slices.Clone, walked. -/
import Derived.Test.YtpnhjckjmpkbfaaFr6
set_option linter.unusedVariables false
set_option linter.unusedSimpArgs false
namespace Go.Proofs.Ytpnhjckjmpkbfaa
open Go.RowKit Go.Proofs.YtpnhjckjmpkbfaaW.PrintLast

section
variable {P : Program}
/-- Append of a row that may be empty, in a plain region. -/
theorem wpList_append_own {ops : Array Oper} {rest : List Oper} {o : Oper} {a : Act} {w : World} {Q : Exit → Act → World → Prop} (hgd : o.guard = none) (s x : Operand) (t : TypeId)
    (ho : o.op = .call { callee := .builtin .append, args := #[s, x], argTypes := #[t, t] })
    (base : Nat) (e : TypeId) (i : TypeInfo) (z : Value) (size bytes : Nat) (ht : P.underlying t = some (.slice e)) (hi : P.info? e = some i) (hz : i.zero = some z)
    (hsize : i.size = size) (hby : i.bytes = bytes) (hzs : z.cells.size = size) (hsz : 0 < size)
    (v : Value) (n : Nat) (xs : List Value) (hs : a.eval s = v) (hown : w.ownsRow base e size v n xs)
    (ad : Addr) (m c : Nat) (news : List Value) (hx : a.eval x = .slice (some ad) m c) (hl : news.length = m * size) (hnews : ∀ j u, news[j]? = some u → w.cell? (ad.add j) = some u) (h1 : ∀ u ∈ news, u.oneCell' = true)
    (h63 : n + m ≤ maxLen) (hbytes : (n + m) * bytes ≤ 140737488355328) (hbase : base ≤ w.heap.size)
    (h : ∀ v' w', w'.ownsRow base e size v' (n + m) (xs ++ news) → w.grownBy w' v.ownBlock → (v' = .slice none 0 0 ↔ v = .slice none 0 0 ∧ m = 0) → wpList P ops Q rest (a.put o.dst v') w') : wpList P ops Q (o :: rest) a w := by
  refine wpList_plain hgd fun K hK => ?_
  obtain ⟨v', w', hr, h2, h3, h4, h5⟩ := run_append_own_at (P := P) (w := w) base t o.type e i z size bytes ht hi hz hsize hby hzs hsz v n xs hown ad m c news hl hnews h1 h63 hbytes hbase
  unfold Oper.wp execOp
  simp only [ho, resolve, invoke, builtin]
  simp [hs, hx, hr, Result.andThen]
  exact hK _ _ (h v' w' h2 h3 h4)
/-- '[]T{}': a new block of nothing. -/
theorem run_build_empty {t e : TypeId} {s : Nat} {z : Value} (ht : P.underlying t = some (.slice e)) (hs : ∀ W : World, (sizeOf e).run P W = .ok s W) (hs0 : 0 < s) (hz : ∀ W : World, (zeroValue e).run P W = .ok z W) (W : World) :
    (Instr.buildSlice t 0 #[]).run P W = .ok (.slice (some ⟨W.heap.size, 0, none⟩) 0 0) (W.alloc (.cells #[] e)) := by
  unfold Instr.buildSlice
  simp only [Sem.run_bind, run_underlying ht, Result.andThen_ok, hs, Nat.zero_mul, if_neg (show ¬ (0 : Nat) > 2 ^ 24 by decide), if_neg (show ¬ s = 0 by omega), hz, Sem.run_pure]
  simp [Instr.fill, newRow, Result.andThen, show Array.range 0 = #[] from rfl]
theorem wpList_build_empty {ops : Array Oper} {rest : List Oper} {o : Oper} {a : Act} {w : World} {Q : Exit → Act → World → Prop} (hgd : o.guard = none) {t e : TypeId} {s : Nat} {z : Value} (ho : o.op = .buildSlice t 0 #[])
    (ht : P.underlying t = some (.slice e)) (hs : ∀ W : World, (sizeOf e).run P W = .ok s W) (hs0 : 0 < s) (hz : ∀ W : World, (zeroValue e).run P W = .ok z W)
    (h : wpList P ops Q rest (a.put o.dst (.slice (some ⟨w.heap.size, 0, none⟩) 0 0)) (w.alloc (.cells #[] e))) : wpList P ops Q (o :: rest) a w := by
  refine wpList_plain hgd fun K hK => ?_
  unfold Oper.wp
  rw [exec_buildSlice t 0 #[] ho #[] (by simp) (run_build_empty ht hs hs0 hz w)]
  exact hK _ _ h
end

theorem flat_one {α : Type} {enc : α → List Value} (h : ∀ p, ∀ v ∈ enc p, v.oneCell' = true) (ps : List α) : ∀ v ∈ flat enc ps, v.oneCell' = true := by
  intro v hv
  unfold flat at hv
  obtain ⟨p, _, hp⟩ := List.mem_flatMap.1 hv
  exact h p v hp

theorem eqlF_none (w : World) : (binOp .eql 23 (.slice none 0 0) (.slice none 0 0)).run Try.prog w = .ok (.bool true) w := by kernel_rfl
theorem eqlF_some (w : World) (x : Addr) (n c : Nat) : (binOp .eql 23 (.slice (some x) n c) (.slice none 0 0)).run Try.prog w = .ok (.bool false) w := by kernel_rfl
attribute [local go_sem] eqlF_none eqlF_some
theorem fc_one (f : F) : ∀ v ∈ fc f, v.oneCell' = true := by intro v hv; simp [fc] at hv; rcases hv with rfl | rfl | rfl | rfl | rfl | rfl | rfl <;> rfl
theorem info_fresh : (Try.prog.info? 42).map (fun i => (i.zero, i.size, i.bytes)) = some (some (.agg zfc.toArray), 7, 40) := by kernel_rfl
theorem info_parts {P : Program} {t : TypeId} {z : Value} {s b : Nat} (h : (P.info? t).map (fun i => (i.zero, i.size, i.bytes)) = some (some z, s, b)) : ∃ i, P.info? t = some i ∧ i.zero = some z ∧ i.size = s ∧ i.bytes = b := by
  cases hi : P.info? t with
  | none => rw [hi] at h; simp at h
  | some i => rw [hi] at h; simp at h; exact ⟨i, rfl, h.1, h.2.1, h.2.2⟩
/-- A row of a call's own. -/
def Own (w : World) (B : Nat) (v : Value) (l : List F) : Prop := w.ownsRow B 42 7 v l.length (flat fc l)
theorem Own.form {w : World} {B : Nat} {v : Value} {l : List F} (h : Own w B v l) : ∃ A cap, v = .slice A l.length cap ∧ Reads w A l := by
  have hlen : ∀ p ∈ l, (fc p).length = 7 := fun p _ => rfl
  rcases h.2 with ⟨rfl, h0⟩ | ⟨b, c, cur, rfl, h1, h2, h3, h4, h5, h6⟩
  · exact ⟨none, 0, by rw [h0], fun hp => by omega⟩
  · refine ⟨_, c, rfl, fun _ => ⟨b, rfl, lt_of_heap h2, fun i f hf j v hv => ?_⟩⟩
    have hj : j < 7 := (List.getElem?_eq_some_iff.1 hv).1
    have hi : i < l.length := (List.getElem?_eq_some_iff.1 hf).1
    rw [cell_of_row _ _ _ _ _ _ h2]
    have := flat_get hlen i j hj f hf
    rw [← h6, List.getElem?_take, if_pos (by omega), hv] at this
    simpa using this
theorem Own.below {w w' : World} {B : Nat} {v : Value} {l : List F} (h : Own w B v l) (hb : Below w.heap.size w w') : Own w' B v l := by
  refine ⟨h.1, ?_⟩
  rcases h.2 with hn | ⟨g, cap, cur, rfl, h1, h2, h3⟩
  · exact .inl hn
  · exact .inr ⟨g, cap, cur, rfl, h1, (hb.block g (lt_of_heap h2)).trans h2, h3⟩
set_option maxRecDepth 100000 in
set_option maxHeartbeats 1600000 in
theorem clone_fresh {B : Nat} {w : World} {v : Value} {n : Nat} {xs : List Value} (hown : w.ownsRow B 42 7 v n xs) (h1 : ∀ u ∈ xs, u.oneCell' = true) (hn : n ≤ 1000000000) :
    Calls Try.prog 11 #[v] w fun r w' => ∃ v', r = .returned v' ∧ Below w.heap.size w w' ∧ w'.ownsRow w.heap.size 42 7 v' n xs ∧ (v' = .slice none 0 0 ↔ v = .slice none 0 0) := by
  obtain ⟨i0, hi0, hz0, hz1, hz2⟩ := info_parts info_fresh
  have hN := Lib.hid h1; clear h1
  have HO := Lib.hid hown
  have hx0 := hown.1
  rcases hown.2 with ⟨rfl, rfl⟩ | ⟨g, c, cur, rfl, hb1, hb2, hb3, hb4, hb5, hb6⟩
  · obtain rfl : xs = [] := List.eq_nil_of_length_eq_zero (by simpa using hx0)
    go_enter Try.func11, Try.ntmps11
    go_wp2_with fail
    go_ret
    exact ⟨_, rfl, Below.refl _ _, World.ownsRow_nil _ _ _ _, fun _ => trivial, fun _ => rfl⟩
  · have hcell := HO.out.cells (g := g) rfl
    have HC := Lib.hid hcell; clear hcell
    have hlt := lt_of_heap hb2
    clear hown hb6 hb5
    go_enter Try.func11, Try.ntmps11
    go_wp2_with (first
      | (refine wpList_build_empty rfl rfl Try.underlying23 (s := 7) (fun _ => by kernel_rfl) (by decide) (z := .agg zfc.toArray) (fun _ => by kernel_rfl) ?_)
      | (refine wpList_append_own rfl _ _ _ rfl w.heap.size 42 i0 _ 7 40 Try.underlying23 hi0 hz0 hz1 hz2 rfl (by decide) _ 0 [] rfl (World.ownsRow_made w #[] 0 (Nat.le_refl _) (Nat.zero_le _) rfl) ⟨g, 0, none⟩ n c xs rfl hx0 (fun j u hu => ((World.grownBy_alloc w _ none).cell (HC.out j u hu) (by simp))) hN.out (by unfold maxLen; omega) (by omega) (by simp) ?_
         intro v' w' hv hgr hnil))
    go_ret
    refine ⟨_, rfl, ?_, by simpa using hv, ?_⟩
    · exact ((Below.refl w.heap.size w).alloc (Nat.le_refl _) _).grown hgr (by simp) (fun k hk => Nat.le_of_eq (Option.some.inj hk))
    · constructor
      · intro e; exact absurd (hnil.1 e).1 (by intro e2; cases e2)
      · intro e; cases e
theorem clone_own {B : Nat} {w : World} {v : Value} {l : List F} (h : Own w B v l) (hn : l.length ≤ 1000) :
    Calls Try.prog 11 #[v] w fun r w' => ∃ v', r = .returned v' ∧ Below w.heap.size w w' ∧ Own w' w.heap.size v' l :=
  (clone_fresh h (flat_one fc_one l) (by omega)).mono fun r w' ⟨v', h1, h2, h3, _⟩ => ⟨v', h1, h2, h3⟩
end Go.Proofs.Ytpnhjckjmpkbfaa

/- A disk's copy, walked: the rows and the map, cloned. -/
import Derived.Test.YtlngflonolhdhaaDkm
set_option linter.unusedVariables false
set_option linter.unusedSimpArgs false
namespace Go.Proofs.Ytlngflonolhdhaa
open Go.RowKit Go.Proofs.YtlngflonolhdhaaW.PrintLast

section
variable {P : Program}
/-- Append of a row that may be empty, in a plain region. -/
theorem wpList_append_own {ops : Array Oper} {rest : List Oper} {o : Oper} {a : Act} {w : World} {Q : Exit → Act → World → Prop} (hgd : o.guard = none) (s x : Operand) (t : TypeId)
    (ho : o.op = .call { callee := .builtin .append, args := #[s, x], argTypes := #[t, t] })
    (base : Nat) (e : TypeId) (i : TypeInfo) (z : Value) (size bytes : Nat) (ht : P.underlying t = some (.slice e)) (hi : P.info? e = some i) (hz : i.zero = some z)
    (hsize : i.size = size) (hby : i.bytes = bytes) (hzs : z.cells.size = size) (hsz : 0 < size)
    (v : Value) (n : Nat) (xs : List Value) (hs : a.eval s = v) (hown : w.ownsRow base e size v n xs)
    (ad : Addr) (m c : Nat) (news : List Value) (hx : a.eval x = .slice (some ad) m c) (hl : news.length = m * size) (hnews : ∀ j u, news[j]? = some u → w.cell? (ad.add j) = some u) (h1 : ∀ u ∈ news, u.oneCell' = true)
    (h63 : n + m ≤ maxLen) (hbytes : (n + m) * bytes ≤ 140737488355328) (hbase : base ≤ w.heap.size)
    (h : ∀ v' w', w'.ownsRow base e size v' (n + m) (xs ++ news) → w.grownBy w' v.ownBlock → (v' = .slice none 0 0 ↔ v = .slice none 0 0 ∧ m = 0) → wpList P ops Q rest (a.put o.dst v') w') : wpList P ops Q (o :: rest) a w := by
  refine wpList_plain hgd fun K hK => ?_
  obtain ⟨v', w', hr, h2, h3, h4, h5⟩ := run_append_own_at (P := P) (w := w) base t o.type e i z size bytes ht hi hz hsize hby hzs hsz v n xs hown ad m c news hl hnews h1 h63 hbytes hbase
  unfold Oper.wp execOp
  simp only [ho, resolve, invoke, builtin]
  simp [hs, hx, hr, Result.andThen]
  exact hK _ _ (h v' w' h2 h3 h4)
/-- '[]T{}': a new block of nothing. -/
theorem run_build_empty {t e : TypeId} {s : Nat} {z : Value} (ht : P.underlying t = some (.slice e)) (hs : ∀ W : World, (sizeOf e).run P W = .ok s W) (hs0 : 0 < s) (hz : ∀ W : World, (zeroValue e).run P W = .ok z W) (W : World) :
    (Instr.buildSlice t 0 #[]).run P W = .ok (.slice (some ⟨W.heap.size, 0, none⟩) 0 0) (W.alloc (.cells #[] e)) := by
  unfold Instr.buildSlice
  simp only [Sem.run_bind, run_underlying ht, Result.andThen_ok, hs, Nat.zero_mul, if_neg (show ¬ (0 : Nat) > 2 ^ 24 by decide), if_neg (show ¬ s = 0 by omega), hz, Sem.run_pure]
  simp [Instr.fill, newRow, Result.andThen, show Array.range 0 = #[] from rfl]
theorem wpList_build_empty {ops : Array Oper} {rest : List Oper} {o : Oper} {a : Act} {w : World} {Q : Exit → Act → World → Prop} (hgd : o.guard = none) {t e : TypeId} {s : Nat} {z : Value} (ho : o.op = .buildSlice t 0 #[])
    (ht : P.underlying t = some (.slice e)) (hs : ∀ W : World, (sizeOf e).run P W = .ok s W) (hs0 : 0 < s) (hz : ∀ W : World, (zeroValue e).run P W = .ok z W)
    (h : wpList P ops Q rest (a.put o.dst (.slice (some ⟨w.heap.size, 0, none⟩) 0 0)) (w.alloc (.cells #[] e))) : wpList P ops Q (o :: rest) a w := by
  refine wpList_plain hgd fun K hK => ?_
  unfold Oper.wp
  rw [exec_buildSlice t 0 #[] ho #[] (by simp) (run_build_empty ht hs hs0 hz w)]
  exact hK _ _ h
end

/-- 'x.(M)' where x's dynamic type is the map type M. -/
theorem run_typeAssert_map {P : Program} (w : World) (t xT k e : TypeId) (v : Value) (h : P.underlying t = some (.map k e)) : (Instr.typeAssert (.iface t v) xT t false).run P w = .ok v w := by
  simp [Instr.typeAssert, run_underlying h, go_sem, Result.andThen]
theorem eqlB_none (w : World) : (binOp .eql 46 (.slice none 0 0) (.slice none 0 0)).run Try.prog w = .ok (.bool true) w := by kernel_rfl
theorem eqlB_some (w : World) (x : Addr) (n c : Nat) : (binOp .eql 46 (.slice (some x) n c) (.slice none 0 0)).run Try.prog w = .ok (.bool false) w := by kernel_rfl
theorem eqlW_none (w : World) : (binOp .eql 47 (.slice none 0 0) (.slice none 0 0)).run Try.prog w = .ok (.bool true) w := by kernel_rfl
theorem eqlW_some (w : World) (x : Addr) (n c : Nat) : (binOp .eql 47 (.slice (some x) n c) (.slice none 0 0)).run Try.prog w = .ok (.bool false) w := by kernel_rfl
theorem eqlM_some (w : World) (m : Nat) : (binOp .eql 48 (.map (some m)) (.map none)).run Try.prog w = .ok (.bool false) w := by kernel_rfl
attribute [local go_sem] eqlB_none eqlB_some eqlW_none eqlW_some eqlM_some

set_option maxRecDepth 100000 in
set_option maxHeartbeats 1600000 in
theorem clone_blocks {B : Nat} {w : World} {v : Value} {n : Nat} {xs : List Value} (hown : w.ownsRow B 23 64 v n xs) (h1 : ∀ u ∈ xs, u.oneCell' = true) (hn : n ≤ 1000000000) :
    Calls Try.prog 26 #[v] w fun r w' => ∃ v', r = .returned v' ∧ Below w.heap.size w w' ∧ w'.ownsRow w.heap.size 23 64 v' n xs ∧ (v' = .slice none 0 0 ↔ v = .slice none 0 0) := by
  obtain ⟨i0, hi0, hz0, hz1, hz2⟩ := info_parts info_block
  have hN := Lib.hid h1; clear h1
  have HO := Lib.hid hown
  have hx0 := hown.1
  rcases hown.2 with ⟨rfl, rfl⟩ | ⟨g, c, cur, rfl, hb1, hb2, hb3, hb4, hb5, hb6⟩
  · obtain rfl : xs = [] := List.eq_nil_of_length_eq_zero (by simpa using hx0)
    go_enter Try.func26, Try.ntmps26
    go_wp2_with fail
    go_ret
    exact ⟨_, rfl, Below.refl _ _, World.ownsRow_nil _ _ _ _, fun _ => trivial, fun _ => rfl⟩
  · have hcell := HO.out.cells (g := g) rfl
    have HC := Lib.hid hcell; clear hcell
    have hlt := lt_of_heap hb2
    clear hown hb6 hb5
    go_enter Try.func26, Try.ntmps26
    go_wp2_with (first
      | (refine wpList_build_empty rfl rfl Try.underlying46 (s := 64) (fun _ => by kernel_rfl) (by decide) (z := .agg (bc zb).toArray) (fun _ => by kernel_rfl) ?_)
      | (refine wpList_append_own rfl _ _ _ rfl w.heap.size 23 i0 _ 64 64 Try.underlying46 hi0 hz0 hz1 hz2 rfl (by decide) _ 0 [] rfl (World.ownsRow_made w #[] 0 (Nat.le_refl _) (Nat.zero_le _) rfl) ⟨g, 0, none⟩ n c xs rfl hx0 (fun j u hu => ((World.grownBy_alloc w _ none).cell (HC.out j u hu) (by simp))) hN.out (by unfold maxLen; omega) (by omega) (by simp) ?_
         intro v' w' hv hgr hnil))
    go_ret
    refine ⟨_, rfl, ?_, by simpa using hv, ?_⟩
    · exact ((Below.refl w.heap.size w).alloc (Nat.le_refl _) _).grown hgr (by simp) (fun k hk => Nat.le_of_eq (Option.some.inj hk))
    · constructor
      · intro e; exact absurd (hnil.1 e).1 (by intro e2; cases e2)
      · intro e; cases e
set_option maxRecDepth 100000 in
set_option maxHeartbeats 1600000 in
theorem clone_waits {B : Nat} {w : World} {v : Value} {n : Nat} {xs : List Value} (hown : w.ownsRow B 54 65 v n xs) (h1 : ∀ u ∈ xs, u.oneCell' = true) (hn : n ≤ 1000000000) :
    Calls Try.prog 27 #[v] w fun r w' => ∃ v', r = .returned v' ∧ Below w.heap.size w w' ∧ w'.ownsRow w.heap.size 54 65 v' n xs ∧ (v' = .slice none 0 0 ↔ v = .slice none 0 0) := by
  obtain ⟨i0, hi0, hz0, hz1, hz2⟩ := info_parts info_waits
  have hN := Lib.hid h1; clear h1
  have HO := Lib.hid hown
  have hx0 := hown.1
  rcases hown.2 with ⟨rfl, rfl⟩ | ⟨g, c, cur, rfl, hb1, hb2, hb3, hb4, hb5, hb6⟩
  · obtain rfl : xs = [] := List.eq_nil_of_length_eq_zero (by simpa using hx0)
    go_enter Try.func27, Try.ntmps27
    go_wp2_with fail
    go_ret
    exact ⟨_, rfl, Below.refl _ _, World.ownsRow_nil _ _ _ _, fun _ => trivial, fun _ => rfl⟩
  · have hcell := HO.out.cells (g := g) rfl
    have HC := Lib.hid hcell; clear hcell
    have hlt := lt_of_heap hb2
    clear hown hb6 hb5
    go_enter Try.func27, Try.ntmps27
    go_wp2_with (first
      | (refine wpList_build_empty rfl rfl Try.underlying47 (s := 65) (fun _ => by kernel_rfl) (by decide) (z := .agg (wc (0, zb)).toArray) (fun _ => by kernel_rfl) ?_)
      | (refine wpList_append_own rfl _ _ _ rfl w.heap.size 54 i0 _ 65 72 Try.underlying47 hi0 hz0 hz1 hz2 rfl (by decide) _ 0 [] rfl (World.ownsRow_made w #[] 0 (Nat.le_refl _) (Nat.zero_le _) rfl) ⟨g, 0, none⟩ n c xs rfl hx0 (fun j u hu => ((World.grownBy_alloc w _ none).cell (HC.out j u hu) (by simp))) hN.out (by unfold maxLen; omega) (by omega) (by simp) ?_
         intro v' w' hv hgr hnil))
    go_ret
    refine ⟨_, rfl, ?_, by simpa using hv, ?_⟩
    · exact ((Below.refl w.heap.size w).alloc (Nat.le_refl _) _).grown hgr (by simp) (fun k hk => Nat.le_of_eq (Option.some.inj hk))
    · constructor
      · intro e; exact absurd (hnil.1 e).1 (by intro e2; cases e2)
      · intro e; cases e

set_option maxRecDepth 100000 in
set_option maxHeartbeats 1600000 in
theorem clone_map {w : World} {m : Nat} {f : Int → Option Value} (hm : MapI w m f) :
    Calls Try.prog 28 #[.map (some m)] w fun r w' => ∃ m', r = .returned (.map (some m')) ∧ Below w.heap.size w w' ∧ MapI w' m' f ∧ w.heap.size ≤ m' := by
  have HM := Lib.hid hm; clear hm
  go_enter Try.func28, Try.ntmps28
  go_wp2_with fail
  obtain ⟨o, hrun, hm2⟩ := HM.out.clone (P := Try.prog) 48
  rw [run_callFunc_extern Try.func29 (by kernel_rfl) (by kernel_rfl) (by kernel_rfl) (e := Extern.MapsClone.clone) (by kernel_rfl), hrun]
  simp only [Result.andThen]
  rw [Oper.upon_value]
  go_wp2_with fail
  rw [run_typeAssert_map _ 48 20 3 23 _ Try.underlying48]
  simp only [Result.andThen]
  rw [Oper.upon_value]
  go_wp2_with fail
  go_ret
  exact ⟨_, rfl, (Below.refl _ _).alloc (Nat.le_refl _) _, hm2, Nat.le_refl _⟩
end Go.Proofs.Ytlngflonolhdhaa

/- fresh: slices.Insert of one, where there is no room. -/
import Derived.Test.YtpnhjckjmpkbfaaFrb
import Derived.Lib.AppendZerosOnto
import Derived.Deep.DeepAppendWide
set_option linter.unusedVariables false
set_option linter.unusedSimpArgs false
namespace Go.Proofs.Ytpnhjckjmpkbfaa
open Go.RowKit Go.Proofs.YtpnhjckjmpkbfaaW.PrintLast

theorem exec_appendN {P : Program} {op : Oper} {a : Act} {w w1 : World} {v : Value} (t tn ty : TypeId) (x y : Operand) (ho : op.op = .call { callee := .builtin .append, args := #[x, y], argTypes := #[t, tn] }) (hty : op.type = ty) (vx vy : Value) (hx : a.eval x = vx) (hy : a.eval y = vy)
    (hrun : (Builtin.append_ #[t, tn] ty #[vx, vy]).run P w = .ok v w1) : (execOp a.eval op).run P w = .ok (.value v) w1 := by
  unfold execOp
  simp [ho, hty, resolve, invoke, builtin, hx, hy, hrun, Result.andThen]

theorem zeros_len (k : Nat) : (Builtin.zeroCells (Value.agg zfc.toArray).cells k).size = k * 7 := by
  simp [Builtin.zeroCells, Value.cells, zfc]
/-- append(s[:i], make(S, n + 1 - i)...) where there is no room: a new row. -/
theorem grow_row {B : Nat} {w : World} {b cap : Nat} {l : List F} (ho : Own w B (.slice (some ⟨b, 0, none⟩) l.length cap) l) (hn : l.length ≤ 1000) (i : Nat) (hi : i < l.length) (hcap : cap = l.length) (ty : TypeId) :
    ∃ G c0 w1, (Builtin.append_ #[23, 3] ty #[.slice (some ⟨b, 0, none⟩) i cap, .int .i64 ((l.length + 1 - i : Nat) : Int)]).run Try.prog w = .ok (.slice (some ⟨w.heap.size, 0, none⟩) (l.length + 1) G) w1 ∧
      w1.heap[w.heap.size]? = some (.cells c0 42 (0, 0)) ∧ c0.size = G * 7 ∧ l.length + 1 ≤ G ∧ G ≤ maxLen ∧ c0.toList.take (i * 7) = flat fc (l.take i) ∧ Below w.heap.size w w1 := by
  obtain ⟨i0, hi0, hz0, hz1, hz2⟩ := info_parts info_fresh
  obtain ⟨cur, e1, e2, e3, e4, e5, hBb⟩ : ∃ cur, w.heap[b]? = some (.cells cur 42 (0, 0)) ∧ l.length ≤ cap ∧ cap ≤ maxLen ∧ cur.size = cap * 7 ∧ cur.toList.take (l.length * 7) = flat fc l ∧ B ≤ b := by
    rcases ho.2 with ⟨e, _⟩ | ⟨g', c', cur1, e, f0, f1, f2, f3, f4, f5⟩
    · simp at e
    · simp at e; obtain ⟨rfl, rfl⟩ := e; exact ⟨cur1, f1, f2, f3, f4, f5, f0⟩
  have hti : (flat fc (l.take i)).length = i * 7 := by rw [flat_fc_len, List.length_take]; congr 1; omega
  have hold : (Builtin.firstCells i0.size i (.slice (some ⟨b, 0, none⟩) i cap)).run Try.prog w.drew = .ok (flat fc (l.take i)).toArray w.drew :=
    run_firstCells_some (P := Try.prog) w.drew i0.size i ⟨b, 0, none⟩ i cap (flat fc (l.take i)) (by rw [hz1, hti]) (fun j v hj => by
      rw [Addr.add_mid, Nat.zero_add]
      show w.cell? _ = _
      rw [cell_of_row _ _ _ _ _ _ e1]
      have hjl : j < i * 7 := by have := (List.getElem?_eq_some_iff.1 hj).1; omega
      have e : l = l.take i ++ l.drop i := (List.take_append_drop i l).symm
      have h2 : (flat fc l)[j]? = some v := by rw [e, flat_append, List.getElem?_append_left (by omega)]; exact hj
      rw [← e5, List.getElem?_take, if_pos (by omega)] at h2
      simpa using h2)
  have hnl : i + (l.length + 1 - i) = l.length + 1 := by omega
  have hr := Lib.run_append_grow_zeros (P := Try.prog) w 23 3 ty 42 i0 _ .i64 .i64 Try.underlying23 Try.underlying3 hi0 hz0 (some ⟨b, 0, none⟩) i cap (flat fc (l.take i)) hold (l.length + 1 - i) (by omega) (by omega) (by omega) (by omega) (by rw [hz2]; omega)
    (growslice_fits_wide (by omega) (by rw [hz2]; omega))
  rw [hnl] at hr
  have hG := grownCap_ge w (l.length + 1) cap 42
  have hG2 := grownCap_le_maxLen w (l.length + 1) cap 42 (by unfold maxLen; omega)
  refine ⟨_, _, _, hr, heap_alloc_new w.drew _, ?_, hG, hG2, ?_, ((Below.refl _ _).drew.alloc (Nat.le_refl _) _)⟩
  · simp only [Array.size_append, zeros_len, List.size_toArray, hti]
    omega
  · simp only [Array.toList_append, List.append_assoc]
    rw [List.take_append_of_le_length (by rw [hti]; exact Nat.le_refl _), List.take_of_length_le (by omega)]

set_option maxRecDepth 100000 in
set_option maxHeartbeats 2000000 in
theorem insert_grow {B : Nat} {w : World} {b cap : Nat} {l : List F} (ho : Own w B (.slice (some ⟨b, 0, none⟩) l.length cap) l) (hB : B ≤ w.heap.size) (hn : l.length ≤ 1000) (i : Nat) (hi : i < l.length) (hcap : cap = l.length)
    (f : F) (k : Nat) (hk : w.heap[k]? = some (.cells (fc f).toArray 42 (0, 0))) :
    Calls Try.prog 14 #[.slice (some ⟨b, 0, none⟩) l.length cap, .int .i64 (i : Int), .slice (some ⟨k, 0, none⟩) 1 1] w fun r w' => ∃ v', r = .returned v' ∧ Below w.heap.size w w' ∧ Own w' w.heap.size v' (l.take i ++ f :: l.drop i) := by
  obtain ⟨G, c0, w1, hap, a1, a2, a3, a4, a5, a6⟩ := grow_row ho hn i hi hcap 23
  have hB2 := hB
  subst hcap
  have hkl := lt_of_heap hk
  have hk1 := (a6.block k hkl).trans hk
  have hkH : k ≠ w.heap.size := by omega
  have hcp1 := run_copyK (P := Try.prog) w1 23 23 3 42 7 w.heap.size (i * 7) (l.length + 1 - i) (G - i) ⟨k, 0, none⟩ 1 1 c0 42 (fc f) 1 Try.underlying23 (by kernel_rfl) a1 (by show min _ _ = _; omega) rfl (World.news_of_block hk1) (by rw [fc_length, a2]; omega) (fc_one f)
  have HAP := Lib.hid hap; clear hap
  have HC1 := Lib.hid hcp1; clear hcp1
  have q0 : (0 : Int) ≤ (i : Int) := by omega
  have q1 : (i : Int) < (l.length : Int) := by omega
  have q2 : ((i : Int) == (l.length : Int)) = false := by rw [beq_eq_false_iff_ne]; omega
  have q3 : (l.length : Int) + 1 > (l.length : Int) := by omega
  have q4 : (i : Int) ≤ (l.length : Int) := by omega
  have q5 : i ≤ l.length := by omega
  have q6 : ¬ l.length = i := by omega
  have q7 : ¬ G = i := by omega
  have q8 : ¬ G = i + 1 := by omega
  have q9 : (i : Int) ≤ (l.length : Int) := by omega
  have q10 : (i : Int) ≤ (l.length : Int) + 1 := by omega
  have q11 : 0 ≤ (i : Int) + 1 ∧ (i : Int) + 1 ≤ (l.length : Int) + 1 := by omega
  have hw1 : IntKind.i64.wrap ((i : Int) + 1) = (i : Int) + 1 := by rw [i64_w]; unfold wrap64; omega
  have hsub : (l.length : Int) + 1 - (i : Int) = ((l.length + 1 - i : Nat) : Int) := by omega
  go_enter Try.func14, Try.ntmps14
  go_wp2_with (first
    | (refine wpList_value rfl (exec_appendN 23 3 23 (.tmp 34) (.tmp 39) rfl rfl (.slice (some ⟨b, 0, none⟩) i l.length) (.int .i64 ((l.length + 1 - i : Nat) : Int)) (by rfl) (by rfl) HAP.out) ?_)
    | (refine wpList_value rfl (exec_copy 23 23 3 (.tmp 43) (.tmp 44) rfl rfl (.slice (some ⟨w.heap.size, i * 7, none⟩) (l.length + 1 - i) (G - i)) (.slice (some ⟨k, 0, none⟩) 1 1) (by rfl) (by rfl) HC1.out) ?_)
    | fail)
  have hfl : (fc f).length = 7 := rfl
  obtain ⟨cur, e1, e4, e5⟩ : ∃ cur, w.heap[b]? = some (.cells cur 42 (0, 0)) ∧ cur.size = l.length * 7 ∧ cur.toList.take (l.length * 7) = flat fc l := by
    rcases ho.2 with ⟨e, _⟩ | ⟨g', c', cur1, e, f0, f1, f2, f3, f4, f5⟩
    · simp at e
    · simp at e; obtain ⟨rfl, rfl⟩ := e; exact ⟨cur1, f1, f4, f5⟩
  have hbl := lt_of_heap e1
  have hbH : b ≠ w.heap.size := by omega
  have h1 := setRow_heap w1 w.heap.size c0 (c0.toList.take (i * 7) ++ fc f ++ c0.toList.drop (i * 7 + (fc f).length)).toArray _ _ a1
  have e1' : (w1.setRow w.heap.size (c0.toList.take (i * 7) ++ fc f ++ c0.toList.drop (i * 7 + (fc f).length)).toArray).heap[b]? = some (.cells cur 42 (0, 0)) := (setRow_other w1 w.heap.size b _ hbH).trans ((a6.block b hbl).trans e1)
  have hg1 := grownBy_setRow w1 w.heap.size (c0.toList.take (i * 7) ++ fc f ++ c0.toList.drop (i * 7 + (fc f).length)).toArray
  have hsz1 : (c0.toList.take (i * 7) ++ fc f ++ c0.toList.drop (i * 7 + (fc f).length)).toArray.size = G * 7 := by simp [hfl]; omega
  have ht1 : (c0.toList.take (i * 7) ++ fc f ++ c0.toList.drop (i * 7 + (fc f).length)).take ((i + 1) * 7) = flat fc (l.take i) ++ fc f := by
    rw [a5]
    have hti : (flat fc (l.take i)).length = i * 7 := by rw [flat_fc_len, List.length_take]; congr 1; omega
    rw [List.take_append_of_le_length (by rw [List.length_append, hti, hfl]; omega), List.take_of_length_le (by rw [List.length_append, hti, hfl]; omega)]
  have hb1 := (Below.refl w.heap.size w).trans a6
  have hb2 := a6.grown hg1 a6.size (fun k hk => by simp at hk; omega)
  generalize hc1 : (c0.toList.take (i * 7) ++ fc f ++ c0.toList.drop (i * 7 + (fc f).length)) = c1 at h1 e1' hg1 hsz1 ht1 hb2 ⊢
  generalize w1.setRow w.heap.size c1.toArray = w2 at h1 e1' hg1 hb2 ⊢
  have hsz2 : c1.length = G * 7 := by simpa using hsz1
  clear HAP HC1
  go_wp2_with fail
  refine start_ (n := 9) (S := (fun w' => True)) (ds := [8]) #[false, false, false, false, false, false, false, false, false] (by kernel_rfl) rfl rfl trivial (fun hHeld => ?_)
  refine pure_ (i := 0) (N := (some 46)) (v := ?_) (a' := ?_) #[true, false, false, false, false, false, false, false, false] rfl rfl (by kernel_rfl) (fun _ _ _ h => h) (Or.inl ⟨by rfl, ?_⟩) ?_ ?_
  rotate_left
  · (intro w'; go_simp; with_reducible rfl)
  rotate_left
  · (simp only [Act.put, List.setIfInBounds_toArray, List.set_cons_zero, List.set_cons_succ]; rfl)
  refine pure_ (i := 1) (N := (some 47)) (v := ?_) (a' := ?_) #[true, true, false, false, false, false, false, false, false] rfl rfl (by kernel_rfl) (fun _ _ _ h => h) (Or.inl ⟨by rfl, ?_⟩) ?_ ?_
  rotate_left
  · (intro w'; go_simp; with_reducible rfl)
  rotate_left
  · (simp only [Act.put, List.setIfInBounds_toArray, List.set_cons_zero, List.set_cons_succ]; rfl)
  refine pure_ (i := 2) (N := (some 48)) (v := ?_) (a' := ?_) #[true, true, true, false, false, false, false, false, false] rfl rfl (by kernel_rfl) (fun _ _ _ h => h) (Or.inl ⟨by rfl, ?_⟩) ?_ ?_
  rotate_left
  · (intro w'; go_simp; with_reducible rfl)
  rotate_left
  · (simp only [Act.put, List.setIfInBounds_toArray, List.set_cons_zero, List.set_cons_succ]; rfl)
  refine pure_ (i := 3) (N := (some 49)) (v := ?_) (a' := ?_) #[true, true, true, true, false, false, false, false, false] rfl rfl (by kernel_rfl) (fun _ _ _ h => h) (Or.inl ⟨by rfl, ?_⟩) ?_ ?_
  rotate_left
  · (intro w'; go_simp; with_reducible rfl)
  rotate_left
  · (simp only [Act.put, List.setIfInBounds_toArray, List.set_cons_zero, List.set_cons_succ]; rfl)
  refine pure_ (i := 4) (N := (some 50)) (v := ?_) (a' := ?_) #[true, true, true, true, true, false, false, false, false] rfl rfl (by kernel_rfl) (fun _ _ _ h => h) (Or.inl ⟨by rfl, ?_⟩) ?_ ?_
  rotate_left
  · (intro w'; go_simp; with_reducible rfl)
  rotate_left
  · (simp only [Act.put, List.setIfInBounds_toArray, List.set_cons_zero, List.set_cons_succ]; rfl)
  refine pure_ (i := 5) (N := (some 51)) (v := ?_) (a' := ?_) #[true, true, true, true, true, true, false, false, false] rfl rfl (by kernel_rfl) (fun _ _ _ h => h) (Or.inl ⟨by rfl, ?_⟩) ?_ ?_
  rotate_left
  · (intro w'; go_simp; with_reducible rfl)
  rotate_left
  · (simp only [Act.put, List.setIfInBounds_toArray, List.set_cons_zero, List.set_cons_succ]; rfl)
  refine pure_ (i := 6) (N := (some 52)) (v := ?_) (a' := ?_) #[true, true, true, true, true, true, true, false, false] rfl rfl (by kernel_rfl) (fun _ _ _ h => h) (Or.inl ⟨by rfl, ?_⟩) ?_ ?_
  rotate_left
  · (intro w'; go_simp; with_reducible rfl)
  rotate_left
  · (simp only [Act.put, List.setIfInBounds_toArray, List.set_cons_zero, List.set_cons_succ]; rfl)
  refine pure_ (i := 7) (N := (some 53)) (v := ?_) (a' := ?_) #[true, true, true, true, true, true, true, true, false] rfl rfl (by kernel_rfl) (fun _ _ _ h => h) (Or.inl ⟨by rfl, ?_⟩) ?_ ?_
  rotate_left
  · (intro w'; go_simp; with_reducible rfl)
  rotate_left
  · (simp only [Act.put, List.setIfInBounds_toArray, List.set_cons_zero, List.set_cons_succ]; rfl)
  refine last_ (i := 8) (N := (some 54)) #[true, true, true, true, true, true, true, true, true] rfl rfl (by kernel_rfl) (by decide) (fun K hK => ?_)
  have hsrc : ∀ j u, (flat fc (l.drop i))[j]? = some u → w2.drew.cell? ((⟨b, i * 7, none⟩ : Addr).add j) = some u := fun j u hj => by
    rw [Addr.add_mid]
    show w2.cell? _ = _
    rw [cell_of_row _ _ _ _ _ _ e1']
    have e : l = l.take i ++ l.drop i := (List.take_append_drop i l).symm
    have hl : (flat fc (l.take i)).length = i * 7 := by rw [flat_fc_len, List.length_take]; congr 1; omega
    have h2 : (flat fc l)[i * 7 + j]? = some u := by
      rw [e, flat_append, List.getElem?_append_right (by omega), hl, Nat.add_sub_cancel_left]; exact hj
    rw [← e5, List.getElem?_take] at h2
    split at h2
    · simpa using h2
    · cases h2
  have hld : (flat fc (l.drop i)).length = (l.length - i) * 7 := by rw [flat_fc_len, List.length_drop]
  have hcp := run_copyK (P := Try.prog) w2.drew 23 23 3 42 7 w.heap.size ((i + 1) * 7) (l.length - i) (G - (i + 1)) ⟨b, i * 7, none⟩ (l.length - i) (l.length - i) c1.toArray 42 (flat fc (l.drop i)) (l.length - i) Try.underlying23 (by kernel_rfl) h1 (by show min _ _ = _; omega) hld hsrc (by rw [hld, hsz1]; omega) (flat_one fc_one _)
  refine value_ (by rfl) rfl (exec_copy 23 23 3 (.tmp 50) (.tmp 53) (by rfl) (by rfl) (.slice (some ⟨w.heap.size, (i + 1) * 7, none⟩) (l.length - i) (G - (i + 1))) (.slice (some ⟨b, i * 7, none⟩) (l.length - i) (l.length - i)) (by rfl) (by rfl) hcp) ?_
  refine hK.out _ _ ?_
  clear hK K
  refine norm_ (a' := ?_) ?_ ?_
  rotate_left
  · (show Act.put _ (some 54) _ = _; simp only [Act.put, List.setIfInBounds_toArray, List.set_cons_zero, List.set_cons_succ]; rfl)
  refine done_ (by kernel_rfl) ?_
  have hld : (flat fc (l.drop i)).length = (l.length - i) * 7 := by rw [flat_fc_len, List.length_drop]
  have h3 := setRow_heap w2.drew w.heap.size c1.toArray ((c1.take ((i + 1) * 7) ++ flat fc (l.drop i) ++ c1.drop ((i + 1) * 7 + (flat fc (l.drop i)).length)).toArray) _ _ h1
  have hg3 := grownBy_setRow w2.drew w.heap.size (c1.take ((i + 1) * 7) ++ flat fc (l.drop i) ++ c1.drop ((i + 1) * 7 + (flat fc (l.drop i)).length)).toArray
  have hb3 := hb2.drew.grown hg3 hb2.drew.size (fun k hk => by simp at hk; omega)
  have hsz3 : (c1.take ((i + 1) * 7) ++ flat fc (l.drop i) ++ c1.drop ((i + 1) * 7 + (flat fc (l.drop i)).length)).toArray.size = G * 7 := by simp [hld]; omega
  have ht3 : (c1.take ((i + 1) * 7) ++ flat fc (l.drop i) ++ c1.drop ((i + 1) * 7 + (flat fc (l.drop i)).length)).take ((l.length + 1) * 7) = flat fc (l.take i ++ f :: l.drop i) := by
    have hsplit : flat fc (l.take i ++ f :: l.drop i) = flat fc (l.take i) ++ fc f ++ flat fc (l.drop i) := by rw [flat_append, flat_cons, List.append_assoc]
    have hti : (flat fc (l.take i)).length = i * 7 := by rw [flat_fc_len, List.length_take]; congr 1; omega
    rw [hsplit, ht1]
    have hlen : (flat fc (l.take i) ++ fc f ++ flat fc (l.drop i)).length = (l.length + 1) * 7 := by simp only [List.length_append, hti, hfl, hld]; omega
    rw [List.take_append_of_le_length (by rw [hlen]; exact Nat.le_refl _), List.take_of_length_le (by rw [hlen]; exact Nat.le_refl _)]
  simp only [List.toList_toArray]
  generalize (c1.take ((i + 1) * 7) ++ flat fc (l.drop i) ++ c1.drop ((i + 1) * 7 + (flat fc (l.drop i)).length)) = c3 at h3 hg3 hb3 hsz3 ht3 ⊢
  generalize w2.drew.setRow w.heap.size c3.toArray = w3 at h3 hg3 hb3 ⊢
  go_wp2_with fail
  go_ret
  have hll : (l.take i ++ f :: l.drop i).length = l.length + 1 := by simp; omega
  refine ⟨_, rfl, hb3, ?_⟩
  unfold Own
  rw [hll]
  exact ⟨by rw [flat_fc_len, hll], .inr ⟨_, G, _, rfl, Nat.le_refl _, h3, a3, a4, hsz3, by simpa using ht3⟩⟩
end Go.Proofs.Ytpnhjckjmpkbfaa

/- fresh: slices.Insert of one, in place. -/
import Derived.Test.YtpnhjckjmpkbfaaFra
set_option linter.unusedVariables false
set_option linter.unusedSimpArgs false
namespace Go.Proofs.Ytpnhjckjmpkbfaa
open Go.RowKit Go.Proofs.YtpnhjckjmpkbfaaW.PrintLast

theorem exec_copy {P : Program} {op : Oper} {a : Act} {w w1 : World} {v : Value} (dT sT ty : TypeId) (x y : Operand) (ho : op.op = .call { callee := .builtin .copy, args := #[x, y], argTypes := #[dT, sT] }) (hty : op.type = ty) (vx vy : Value) (hx : a.eval x = vx) (hy : a.eval y = vy)
    (hrun : (Builtin.copy_ #[dT, sT] ty #[vx, vy]).run P w = .ok v w1) : (execOp a.eval op).run P w = .ok (.value v) w1 := by
  unfold execOp
  simp [ho, hty, resolve, invoke, builtin, hx, hy, hrun, Result.andThen]
theorem grownBy_setRow (w : World) (g : Nat) (cs : Array Value) : w.grownBy (w.setRow g cs) (some g) :=
  ⟨rfl, rfl, rfl, by simp, fun k _ hk => setRow_other w g k _ (fun e => hk (by rw [e]))⟩
theorem wpList_value {P : Program} {ops : Array Oper} {rest : List Oper} {op : Oper} {a : Act} {w w1 : World} {Q : Exit → Act → World → Prop} {v : Value} (hg : op.guard = none) (hrun : (execOp a.eval op).run P w = .ok (.value v) w1)
    (h : wpList P ops Q rest (a.put op.dst v) w1) : wpList P ops Q (op :: rest) a w :=
  wpList_plain hg fun K hK => by
    unfold Oper.wp
    rw [hrun]
    exact hK _ _ h

set_option maxRecDepth 100000 in
set_option maxHeartbeats 2000000 in
theorem insert_room {B : Nat} {w : World} {b cap : Nat} {l : List F} (ho : Own w B (.slice (some ⟨b, 0, none⟩) l.length cap) l) (hB : B ≤ w.heap.size) (hn : l.length ≤ 1000) (i : Nat) (hi : i < l.length) (hcap : l.length + 1 ≤ cap)
    (f : F) (k : Nat) (hk : w.heap[k]? = some (.cells (fc f).toArray 42 (0, 0))) (hkb : k ≠ b) :
    Calls Try.prog 14 #[.slice (some ⟨b, 0, none⟩) l.length cap, .int .i64 (i : Int), .slice (some ⟨k, 0, none⟩) 1 1] w fun r w' => ∃ v', r = .returned v' ∧ Below B w w' ∧ Own w' B v' (l.take i ++ f :: l.drop i) := by
  obtain ⟨cur, e1, e2, e3, e4, e5, hBb⟩ : ∃ cur, w.heap[b]? = some (.cells cur 42 (0, 0)) ∧ l.length ≤ cap ∧ cap ≤ maxLen ∧ cur.size = cap * 7 ∧ cur.toList.take (l.length * 7) = flat fc l ∧ B ≤ b := by
    rcases ho.2 with ⟨e, _⟩ | ⟨g', c', cur1, e, f0, f1, f2, f3, f4, f5⟩
    · simp at e
    · simp at e; obtain ⟨rfl, rfl⟩ := e; exact ⟨cur1, f1, f2, f3, f4, f5, f0⟩
  have hk0 : (0 : Int) ≤ (i : Int) := by omega
  have hk1 : (i : Int) < (l.length : Int) := by omega
  have hne : ((i : Int) == (l.length : Int)) = false := by rw [beq_eq_false_iff_ne]; omega
  have hc1 : ¬ ((l.length : Int) + 1 > (cap : Int)) := by omega
  have hc2 : (l.length : Int) + 1 ≤ (cap : Int) := by omega
  have hc3 : ¬ cap = i := by omega
  have hc4 : ¬ cap = i + 1 := by omega
  have hc5 : (i : Int) ≤ (l.length : Int) := by omega
  have hc6 : (i : Int) ≤ (l.length : Int) + 1 := by omega
  have hc7 : 0 ≤ (i : Int) + 1 ∧ (i : Int) + 1 ≤ (l.length : Int) + 1 := by omega
  have hw1 : IntKind.i64.wrap ((i : Int) + 1) = (i : Int) + 1 := by rw [i64_w]; unfold wrap64; omega
  go_enter Try.func14, Try.ntmps14
  go_wp2_with fail
  rw [run_callFunc_extern Try.func23 (by kernel_rfl) (by kernel_rfl) (by kernel_rfl) (e := Extern.SlicesOverlaps.overlaps #[23, 23] #[4]) (by kernel_rfl),
    Lib.run_overlaps_apart w 23 4 42 Try.underlying23 7 (fun _ => by kernel_rfl) ⟨k, 0, none⟩ ⟨b, (i + 1) * 7, none⟩ 1 1 _ _ hkb 42 42 7 cur.size (by simp [World.shape?, hk, fc]) (by simp [World.shape?, e1]) (by omega) (frozen_of_row _ _ _ _ _ hk) (frozen_of_row _ _ _ _ _ hk)]
  simp only [Result.andThen]
  rw [Oper.upon_value]
  go_wp2_with fail
  refine start_ (n := 9) (S := (fun w' => True)) (ds := [8]) #[false, false, false, false, false, false, false, false, false] (by kernel_rfl) rfl rfl trivial (fun hHeld => ?_)
  refine pure_ (i := 0) (N := (some 69)) (v := ?_) (a' := ?_) #[true, false, false, false, false, false, false, false, false] rfl rfl (by kernel_rfl) (fun _ _ _ h => h) (Or.inl ⟨by rfl, ?_⟩) ?_ ?_
  rotate_left
  · (intro w'; go_simp; with_reducible rfl)
  rotate_left
  · (simp only [Act.put, List.setIfInBounds_toArray, List.set_cons_zero, List.set_cons_succ]; rfl)
  refine pure_ (i := 1) (N := (some 70)) (v := ?_) (a' := ?_) #[true, true, false, false, false, false, false, false, false] rfl rfl (by kernel_rfl) (fun _ _ _ h => h) (Or.inl ⟨by rfl, ?_⟩) ?_ ?_
  rotate_left
  · (intro w'; go_simp; with_reducible rfl)
  rotate_left
  · (simp only [Act.put, List.setIfInBounds_toArray, List.set_cons_zero, List.set_cons_succ]; rfl)
  refine pure_ (i := 2) (N := (some 71)) (v := ?_) (a' := ?_) #[true, true, true, false, false, false, false, false, false] rfl rfl (by kernel_rfl) (fun _ _ _ h => h) (Or.inl ⟨by rfl, ?_⟩) ?_ ?_
  rotate_left
  · (intro w'; go_simp; with_reducible rfl)
  rotate_left
  · (simp only [Act.put, List.setIfInBounds_toArray, List.set_cons_zero, List.set_cons_succ]; rfl)
  refine pure_ (i := 3) (N := (some 72)) (v := ?_) (a' := ?_) #[true, true, true, true, false, false, false, false, false] rfl rfl (by kernel_rfl) (fun _ _ _ h => h) (Or.inl ⟨by rfl, ?_⟩) ?_ ?_
  rotate_left
  · (intro w'; go_simp; with_reducible rfl)
  rotate_left
  · (simp only [Act.put, List.setIfInBounds_toArray, List.set_cons_zero, List.set_cons_succ]; rfl)
  refine pure_ (i := 4) (N := (some 73)) (v := ?_) (a' := ?_) #[true, true, true, true, true, false, false, false, false] rfl rfl (by kernel_rfl) (fun _ _ _ h => h) (Or.inl ⟨by rfl, ?_⟩) ?_ ?_
  rotate_left
  · (intro w'; go_simp; with_reducible rfl)
  rotate_left
  · (simp only [Act.put, List.setIfInBounds_toArray, List.set_cons_zero, List.set_cons_succ]; rfl)
  refine pure_ (i := 5) (N := (some 74)) (v := ?_) (a' := ?_) #[true, true, true, true, true, true, false, false, false] rfl rfl (by kernel_rfl) (fun _ _ _ h => h) (Or.inl ⟨by rfl, ?_⟩) ?_ ?_
  rotate_left
  · (intro w'; go_simp; with_reducible rfl)
  rotate_left
  · (simp only [Act.put, List.setIfInBounds_toArray, List.set_cons_zero, List.set_cons_succ]; rfl)
  refine pure_ (i := 6) (N := (some 75)) (v := ?_) (a' := ?_) #[true, true, true, true, true, true, true, false, false] rfl rfl (by kernel_rfl) (fun _ _ _ h => h) (Or.inl ⟨by rfl, ?_⟩) ?_ ?_
  rotate_left
  · (intro w'; go_simp; with_reducible rfl)
  rotate_left
  · (simp only [Act.put, List.setIfInBounds_toArray, List.set_cons_zero, List.set_cons_succ]; rfl)
  refine pure_ (i := 7) (N := (some 76)) (v := ?_) (a' := ?_) #[true, true, true, true, true, true, true, true, false] rfl rfl (by kernel_rfl) (fun _ _ _ h => h) (Or.inl ⟨by rfl, ?_⟩) ?_ ?_
  rotate_left
  · (intro w'; go_simp; with_reducible rfl)
  rotate_left
  · (simp only [Act.put, List.setIfInBounds_toArray, List.set_cons_zero, List.set_cons_succ]; rfl)
  refine last_ (i := 8) (N := (some 77)) #[true, true, true, true, true, true, true, true, true] rfl rfl (by kernel_rfl) (by decide) (fun K hK => ?_)
  have hsrc : ∀ j u, (flat fc (l.drop i))[j]? = some u → w.drew.cell? ((⟨b, i * 7, none⟩ : Addr).add j) = some u := fun j u hj => by
    rw [Addr.add_mid]
    show w.cell? _ = _
    rw [cell_of_row _ _ _ _ _ _ e1]
    have e : l = l.take i ++ l.drop i := (List.take_append_drop i l).symm
    have hl : (flat fc (l.take i)).length = i * 7 := by rw [flat_fc_len, List.length_take]; congr 1; omega
    have h2 : (flat fc l)[i * 7 + j]? = some u := by
      rw [e, flat_append, List.getElem?_append_right (by omega), hl, Nat.add_sub_cancel_left]; exact hj
    rw [← e5, List.getElem?_take] at h2
    split at h2
    · simpa using h2
    · cases h2
  have hld : (flat fc (l.drop i)).length = (l.length - i) * 7 := by rw [flat_fc_len, List.length_drop]
  have hcp := run_copyK (P := Try.prog) w.drew 23 23 3 42 7 b ((i + 1) * 7) (l.length - i) (cap - (i + 1)) ⟨b, i * 7, none⟩ (l.length + 1 - i) (cap - i) cur 42 (flat fc (l.drop i)) (l.length - i) Try.underlying23 (by kernel_rfl) e1 (by show min _ _ = _; omega) hld hsrc (by rw [hld, e4]; omega) (flat_one fc_one _)
  refine value_ (by rfl) rfl (exec_copy 23 23 3 (.tmp 73) (.tmp 76) (by rfl) (by rfl) (.slice (some ⟨b, (i + 1) * 7, none⟩) (l.length - i) (cap - (i + 1))) (.slice (some ⟨b, i * 7, none⟩) (l.length + 1 - i) (cap - i)) (by rfl) (by rfl) hcp) ?_
  refine hK.out _ _ ?_
  clear hK K
  refine norm_ (a' := ?_) ?_ ?_
  rotate_left
  · (show Act.put _ (some 77) _ = _; simp only [Act.put, List.setIfInBounds_toArray, List.set_cons_zero, List.set_cons_succ]; rfl)
  refine done_ (by kernel_rfl) ?_
  have hld : (flat fc (l.drop i)).length = (l.length - i) * 7 := by rw [flat_fc_len, List.length_drop]
  have h1 := setRow_heap w.drew b cur ((cur.toList.take ((i + 1) * 7) ++ flat fc (l.drop i) ++ cur.toList.drop ((i + 1) * 7 + (flat fc (l.drop i)).length)).toArray) _ _ e1
  have hk1' : (w.drew.setRow b (cur.toList.take ((i + 1) * 7) ++ flat fc (l.drop i) ++ cur.toList.drop ((i + 1) * 7 + (flat fc (l.drop i)).length)).toArray).heap[k]? = some (.cells (fc f).toArray 42 (0, 0)) := (setRow_other w.drew b k _ hkb).trans hk
  have hg1 := grownBy_setRow w.drew b (cur.toList.take ((i + 1) * 7) ++ flat fc (l.drop i) ++ cur.toList.drop ((i + 1) * 7 + (flat fc (l.drop i)).length)).toArray
  have hsz1 : (cur.toList.take ((i + 1) * 7) ++ flat fc (l.drop i) ++ cur.toList.drop ((i + 1) * 7 + (flat fc (l.drop i)).length)).toArray.size = cap * 7 := by simp [hld]; omega
  generalize hc2 : (cur.toList.take ((i + 1) * 7) ++ flat fc (l.drop i) ++ cur.toList.drop ((i + 1) * 7 + (flat fc (l.drop i)).length)).toArray = c2 at h1 hk1' hg1 hsz1 ⊢
  generalize w.drew.setRow b c2 = w1 at h1 hk1' hg1 ⊢
  have hcp := run_copyK (P := Try.prog) w1 23 23 3 42 7 b (i * 7) (l.length + 1 - i) (cap - i) ⟨k, 0, none⟩ 1 1 c2 42 (fc f) 1 Try.underlying23 (by kernel_rfl) h1 (by show min _ _ = _; omega) rfl (World.news_of_block hk1') (by rw [fc_length, hsz1]; omega) (fc_one f)
  have HCP := Lib.hid hcp; clear hcp
  go_wp2_with (first
    | (refine wpList_value rfl (exec_copy 23 23 3 (.tmp 80) (.tmp 81) rfl rfl (.slice (some ⟨b, i * 7, none⟩) (l.length + 1 - i) (cap - i)) (.slice (some ⟨k, 0, none⟩) 1 1) (by rfl) (by rfl) HCP.out) ?_)
    | fail)
  go_ret
  have hfl : (fc f).length = 7 := rfl
  have hll : (l.take i ++ f :: l.drop i).length = l.length + 1 := by simp; omega
  have hg2 := grownBy_trans hg1 (grownBy_setRow w1 b (c2.toList.take (i * 7) ++ (fc f ++ c2.toList.drop (i * 7 + (fc f).length))).toArray)
  have h2 := setRow_heap w1 b c2 (c2.toList.take (i * 7) ++ (fc f ++ c2.toList.drop (i * 7 + (fc f).length))).toArray _ _ h1
  refine ⟨_, rfl, (Below.refl B w).drew.grown hg2 hB (fun k hk => by simp at hk; omega), ?_⟩
  unfold Own
  rw [hll]
  refine ⟨by rw [flat_fc_len, hll], .inr ⟨b, cap, _, rfl, hBb, h2, by omega, e3, ?_, ?_⟩⟩
  · simp [hfl, hsz1]; omega
  · have hti : (flat fc (l.take i)).length = i * 7 := by rw [flat_fc_len, List.length_take]; congr 1; omega
    have hct : cur.toList.take (i * 7) = flat fc (l.take i) := by
      have e : l = l.take i ++ l.drop i := (List.take_append_drop i l).symm
      have : cur.toList.take (i * 7) = (flat fc l).take (i * 7) := by rw [← e5, List.take_take]; congr 1; omega
      rw [this]
      conv => lhs; rw [e, flat_append]
      rw [List.take_append_of_le_length (by omega), List.take_of_length_le (by omega)]
    have hsplit : flat fc (l.take i ++ f :: l.drop i) = flat fc (l.take i) ++ fc f ++ flat fc (l.drop i) := by rw [flat_append, flat_cons, List.append_assoc]
    rw [hsplit, ← hct, ← hc2, ← List.append_assoc]
    apply List.ext_getElem?
    intro j
    simp only [List.toList_toArray, List.getElem?_take, List.getElem?_append, List.getElem?_drop, List.length_append, List.length_take, List.length_drop, Array.length_toList, hld, hfl, e4]
    have m1 : min (i * 7) (cap * 7) = i * 7 := by omega
    have m2 : min ((i + 1) * 7) (cap * 7) = (i + 1) * 7 := by omega
    have m3 : min (i * 7) ((i + 1) * 7 + (l.length - i) * 7 + (cap * 7 - ((i + 1) * 7 + (l.length - i) * 7))) = i * 7 := by omega
    rw [m1, m2, m3]
    by_cases j1 : j < i * 7
    · rw [if_pos (by omega), if_pos (by omega), if_pos j1, if_pos j1, if_pos (by omega), if_pos (by omega), if_pos (by omega), if_pos (by omega), if_pos j1, if_pos j1]
    · by_cases j2 : j < i * 7 + 7
      · rw [if_pos (by omega), if_pos (by omega), if_neg j1, if_pos (by omega), if_neg j1]
      · by_cases j3 : j < (l.length + 1) * 7
        · rw [if_pos j3, if_neg (by omega), if_pos (by omega), if_neg (by omega), if_neg (by omega)]
          congr 1; omega
        · rw [if_neg j3, if_neg (by omega)]
          rw [List.getElem?_eq_none (by rw [hld]; omega)]
end Go.Proofs.Ytpnhjckjmpkbfaa

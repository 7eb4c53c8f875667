/- fresh: slices.Delete of one, walked. -/
import Derived.Test.YtpnhjckjmpkbfaaFr7
set_option linter.unusedVariables false
set_option linter.unusedSimpArgs false
namespace Go.Proofs.Ytpnhjckjmpkbfaa
open Go.RowKit Go.Proofs.YtpnhjckjmpkbfaaW.PrintLast

theorem run_clear7 (w : World) (ty : TypeId) (b o c : Nat) (ht : w.there b o 7) :
    (Builtin.clear_ #[23] ty #[.slice (some ⟨b, o, none⟩) 1 c]).run Try.prog w = .ok (.tuple #[]) (w.setCells b o zfc) := by
  have hzv : ∀ w, (zeroValue 42).run Try.prog w = .ok (.agg zfc.toArray) w := fun _ => by kernel_rfl
  have hzc : (Builtin.zeroCells zfc.toArray 1).toList = zfc := by kernel_rfl
  have hst := run_storeCells_cells (P := Try.prog) b o zfc 0 w (fun j hj => (ht j hj).1) (fun j hj => (ht j hj).2) (by intro v hv; simp [zfc] at hv; rcases hv with rfl | rfl | rfl | rfl <;> rfl)
  simp only [Nat.add_zero] at hst
  have hvc : (Value.agg zfc.toArray).cells = zfc.toArray := rfl
  simp [Builtin.clear_, run_underlying Try.underlying23, hzv, hvc, hzc, hst]
theorem step_append_fits {P : Program} {ops : Array Oper} {o : Oper} {a : Act} {w : World} {K : Act → World → Prop} {Q : Exit → Act → World → Prop} {E : Prop} (hgd : o.guard = none) (s x : Operand) (t : TypeId)
    (ho : o.op = .call { callee := .builtin .append, args := #[s, x], argTypes := #[t, t] })
    (base : Nat) (e : TypeId) (i : TypeInfo) (size : Nat) (ht : P.underlying t = some (.slice e)) (hi : P.info? e = some i) (hsize : i.size = size)
    (g n cap : Nat) (xs : List Value) (hs : a.eval s = .slice (some ⟨g, 0, none⟩) n cap) (hown : w.ownsRow base e size (.slice (some ⟨g, 0, none⟩) n cap) n xs)
    (ad : Addr) (m c : Nat) (news : List Value) (hx : a.eval x = .slice (some ad) m c) (hl : news.length = m * size) (hnews : ∀ j u, news[j]? = some u → w.cell? (ad.add j) = some u) (h1 : ∀ u ∈ news, u.oneCell' = true) (hroom : n + m ≤ cap)
    (h : ∀ w', w'.ownsRow base e size (.slice (some ⟨g, 0, none⟩) (n + m) cap) (n + m) (xs ++ news) → w.grownBy w' (some g) → K (a.put o.dst (.slice (some ⟨g, 0, none⟩) (n + m) cap)) w') :
    if Region.wanted o (yielded ops a.tmps) = true then Oper.wp P o a w K Q else E := by
  have hw : Region.wanted o (yielded ops a.tmps) = true := by simp [Region.wanted, hgd]
  rw [if_pos hw]
  obtain ⟨w', hr, h2, h3⟩ := run_append_fits (P := P) (w := w) base t o.type e i size ht hi hsize g n cap xs hown ad m c news hl hnews h1 hroom
  unfold Oper.wp execOp
  simp only [ho, resolve, invoke, builtin]
  simp [hs, hx, hr, Result.andThen]
  exact h w' h2 h3
theorem exec_clear {P : Program} {op : Oper} {a : Act} {w w1 : World} {v : Value} (t ty : TypeId) (x : Operand) (ho : op.op = .call { callee := .builtin .clear, args := #[x], argTypes := #[t] }) (hty : op.type = ty) (vx : Value) (hx : a.eval x = vx)
    (hrun : (Builtin.clear_ #[t] ty #[vx]).run P w = .ok v w1) : (execOp a.eval op).run P w = .ok (.value v) w1 := by
  unfold execOp
  simp [ho, hty, resolve, invoke, builtin, hx, hrun, Result.andThen]

set_option maxRecDepth 100000 in
set_option maxHeartbeats 2000000 in
theorem delete_any {B : Nat} {w : World} {v : Value} {l : List F} (ho : Own w B v l) (hB : B ≤ w.heap.size) (i : Nat) (hi : i < l.length) (hn : l.length ≤ 1000) :
    Calls Try.prog 17 #[v, .int .i64 (i : Int), .int .i64 ((i : Int) + 1)] w fun r w' => ∃ v', r = .returned v' ∧ Below B w w' ∧ Own w' B v' (l.take i ++ l.drop (i + 1)) := by
  obtain ⟨i0, hi0, hz0, hz1, hz2⟩ := info_parts info_fresh
  rcases ho.2 with ⟨_, h0⟩ | ⟨b, cap, cur, rfl, hb1, hb2, hb3, hb4, hb5, hb6⟩
  · omega
  have hk0 : (0 : Int) ≤ (i : Int) := by omega
  have hk1 : (i : Int) < (l.length : Int) := by omega
  have hc1 : (l.length : Int) ≤ (cap : Int) := by omega
  have hne : ((i : Int) == (i : Int) + 1) = false := by rw [beq_eq_false_iff_ne]; omega
  have hci : i ≤ cap := by omega
  have hbi : 0 ≤ (i : Int) + 1 ∧ (i : Int) + 1 ≤ (l.length : Int) := by omega
  have hflat : ∀ p ∈ l, (fc p).length = 7 := fun _ _ => rfl
  have hown1 : w.drew.ownsRow B 42 7 (.slice (some ⟨b, 0, none⟩) i cap) i (flat fc (l.take i)) := by
    refine ⟨?_, .inr ⟨b, cap, cur, rfl, hb1, hb2, hci, hb4, hb5, ?_⟩⟩
    · rw [flat_length (s := 7) (fun p hp => rfl), List.length_take]; congr 1; omega
    · have : cur.toList.take (i * 7) = (flat fc l).take (i * 7) := by rw [← hb6, List.take_take]; congr 1; omega
      rw [this]
      have e : l = l.take i ++ l.drop i := (List.take_append_drop i l).symm
      conv => lhs; rw [e, flat_append]
      have hl : (flat fc (l.take i)).length = i * 7 := by rw [flat_length (s := 7) (fun p hp => rfl), List.length_take]; congr 1; omega
      rw [List.take_append_of_le_length (by omega), List.take_of_length_le (by omega)]
  obtain ⟨ad, had, hnews⟩ : ∃ ad : Addr, (if cap = i + 1 then some (⟨b, 0, none⟩ : Addr) else some ⟨b, (i + 1) * 7, none⟩) = some ad ∧ ∀ j u, (flat fc (l.drop (i + 1)))[j]? = some u → w.drew.cell? (ad.add j) = some u := by
    by_cases hce : cap = i + 1
    · refine ⟨_, by rw [if_pos hce], fun j u hj => ?_⟩
      have : l.drop (i + 1) = [] := List.drop_of_length_le (by omega)
      rw [this] at hj; simp [flat] at hj
    · refine ⟨_, by rw [if_neg hce], fun j u hj => ?_⟩
      rw [Addr.add_mid]
      show w.cell? _ = _
      rw [cell_of_row _ _ _ _ _ _ hb2]
      have e : l = l.take (i + 1) ++ l.drop (i + 1) := (List.take_append_drop (i + 1) l).symm
      have hl : (flat fc (l.take (i + 1))).length = (i + 1) * 7 := by rw [flat_length (s := 7) (fun p hp => rfl), List.length_take]; congr 1; omega
      have h2 : (flat fc l)[(i + 1) * 7 + j]? = some u := by
        rw [e, flat_append, List.getElem?_append_right (by omega), hl, Nat.add_sub_cancel_left]; exact hj
      rw [← hb6, List.getElem?_take] at h2
      split at h2
      · simpa using h2
      · cases h2
  go_enter Try.func17, Try.ntmps17
  go_wp2_with fail
  refine start_ (n := 8) (S := (fun w' => w' = w.drew)) (ds := [6]) #[false, false, false, false, false, false, false, false] (by kernel_rfl) rfl rfl rfl (fun hHeld => ?_)
  refine pure_ (i := 0) (N := (some 20)) (v := ?_) (a' := ?_) #[true, false, false, false, false, false, false, false] rfl rfl (by kernel_rfl) (fun _ _ _ h => h) (Or.inl ⟨by rfl, ?_⟩) ?_ ?_
  rotate_left
  · (intro w'; go_simp; with_reducible rfl)
  rotate_left
  · (simp only [Act.put, List.setIfInBounds_toArray, List.set_cons_zero, List.set_cons_succ]; rfl)
  refine pure_ (i := 1) (N := (some 21)) (v := ?_) (a' := ?_) #[true, true, false, false, false, false, false, false] rfl rfl (by kernel_rfl) (fun _ _ _ h => h) (Or.inl ⟨by rfl, ?_⟩) ?_ ?_
  rotate_left
  · (intro w'; go_simp; with_reducible rfl)
  rotate_left
  · (simp only [Act.put, List.setIfInBounds_toArray, List.set_cons_zero, List.set_cons_succ]; rfl)
  refine pure_ (i := 2) (N := (some 22)) (v := ?_) (a' := ?_) #[true, true, true, false, false, false, false, false] rfl rfl (by kernel_rfl) (fun _ _ _ h => h) (Or.inl ⟨by rfl, ?_⟩) ?_ ?_
  rotate_left
  · (intro w'; go_simp; with_reducible rfl)
  rotate_left
  · (simp only [Act.put, List.setIfInBounds_toArray, List.set_cons_zero, List.set_cons_succ]; rfl)
  refine pure_ (i := 3) (N := (some 23)) (v := ?_) (a' := ?_) #[true, true, true, true, false, false, false, false] rfl rfl (by kernel_rfl) (fun _ _ _ h => h) (Or.inl ⟨by rfl, ?_⟩) ?_ ?_
  rotate_left
  · (intro w'; go_simp; with_reducible rfl)
  rotate_left
  · (simp only [Act.put, List.setIfInBounds_toArray, List.set_cons_zero, List.set_cons_succ]; rfl)
  refine pure_ (i := 4) (N := (some 24)) (v := ?_) (a' := ?_) #[true, true, true, true, true, false, false, false] rfl rfl (by kernel_rfl) (fun _ _ _ h => h) (Or.inl ⟨by rfl, ?_⟩) ?_ ?_
  rotate_left
  · (intro w'; go_simp; with_reducible rfl)
  rotate_left
  · (simp only [Act.put, List.setIfInBounds_toArray, List.set_cons_zero, List.set_cons_succ]; rfl)
  refine pure_ (i := 5) (N := (some 25)) (v := ?_) (a' := ?_) #[true, true, true, true, true, true, false, false] rfl rfl (by kernel_rfl) (fun _ _ _ h => h) (Or.inl ⟨by rfl, ?_⟩) ?_ ?_
  rotate_left
  · (intro w'; go_simp; with_reducible rfl)
  rotate_left
  · (simp only [Act.put, List.setIfInBounds_toArray, List.set_cons_zero, List.set_cons_succ]; rfl)
  refine last_ (i := 6) (N := (some 26)) #[true, true, true, true, true, true, true, false] rfl rfl (by kernel_rfl) (by decide) (fun K hK => ?_)
  refine step_append_fits rfl (.tmp 22) (.tmp 25) 23 (by rfl) B 42 i0 7 Try.underlying23 hi0 hz1 b i cap (flat fc (l.take i)) (by rfl) hown1 ad (l.length - (i + 1)) (cap - (i + 1)) (flat fc (l.drop (i + 1))) (by rfl) (by rw [flat_length (s := 7) (fun p hp => rfl), List.length_drop]) hnews (flat_one fc_one _) (by omega) ?_
  intro w1 h2 h3
  refine hK.out _ _ ?_
  clear hK K
  refine norm_ (a' := ?_) ?_ ?_
  rotate_left
  · (show Act.put _ (some 26) _ = _; simp only [Act.put, List.setIfInBounds_toArray, List.set_cons_zero, List.set_cons_succ]; rfl)
  refine pure_ (i := 7) (N := (some 0)) (v := ?_) (a' := ?_) #[true, true, true, true, true, true, true, true] rfl rfl (by kernel_rfl) (fun _ _ _ h => h) (Or.inl ⟨by rfl, ?_⟩) ?_ ?_
  rotate_left
  · (intro w'; go_simp; with_reducible rfl)
  rotate_left
  · (simp only [Act.put, List.setIfInBounds_toArray, List.set_cons_zero, List.set_cons_succ]; rfl)
  refine done_ (by kernel_rfl) ?_
  have hlen : i + (l.length - (i + 1)) = l.length - 1 := by omega
  rw [hlen, ← flat_append] at h2
  rw [hlen]
  obtain ⟨cur1, e1, e2, e3, e4, e5⟩ : ∃ cur1, w1.heap[b]? = some (.cells cur1 42 (0, 0)) ∧ l.length - 1 ≤ cap ∧ cap ≤ maxLen ∧ cur1.size = cap * 7 ∧ cur1.toList.take ((l.length - 1) * 7) = flat fc (l.take i ++ l.drop (i + 1)) := by
    rcases h2.2 with ⟨e, _⟩ | ⟨g', c', cur1, e, _, f1, f2, f3, f4, f5⟩
    · simp at e
    · simp at e; obtain ⟨rfl, rfl⟩ := e; exact ⟨cur1, f1, f2, f3, f4, f5⟩
  have hth : w1.there b ((l.length - 1) * 7) 7 := by
    intro j hj
    rw [cell_of_row _ _ _ _ _ _ e1, frozen_of_row _ _ _ _ _ e1]
    simp [Array.getElem?_eq_getElem (show (l.length - 1) * 7 + j < cur1.size by rw [e4]; omega)]
  have hcl := run_clear7 w1 0 b ((l.length - 1) * 7) (cap - (l.length - 1)) hth
  have hd1 : (0 : Int) ≤ ((l.length - 1 : Nat) : Int) := by omega
  have hd2 : ((l.length - 1 : Nat) : Int) ≤ (l.length : Int) := by omega
  have hd3 : l.length - (l.length - 1) = 1 := by omega
  have hd4 : ¬ cap = l.length - 1 := by omega
  go_wp2_with fail
  go_ret
  have hll : (l.take i ++ l.drop (i + 1)).length = l.length - 1 := by simp; omega
  have hg2 : w.drew.grownBy (w1.setCells b ((l.length - 1) * 7) zfc) (some b) := grownBy_trans h3 (grownBy_setCells _ _ _ _)
  have hz7 : zfc.length = 7 := rfl
  refine ⟨_, rfl, (Below.refl B w).drew.grown hg2 hB (fun k hk => by simp at hk; omega), ?_⟩
  have hset := setCells_heap w1 b zfc ((l.length - 1) * 7) cur1 _ e1 (by rw [hz7, e4]; omega)
  unfold Own
  rw [hll]
  refine ⟨by rw [flat_length (s := 7) (fun p hp => rfl), hll], .inr ⟨b, cap, _, rfl, hb1, hset, e2, e3, ?_, ?_⟩⟩
  · simp [hz7]; omega
  · rw [← e5]
    simp only [List.toList_toArray, List.append_assoc]
    rw [List.take_append_of_le_length (by simp; omega), List.take_take, Nat.min_self]
end Go.Proofs.Ytpnhjckjmpkbfaa

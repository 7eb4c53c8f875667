/- DiskArmed, walked. -/
import Derived.Test.YtlngflonolhdhaaDkk
set_option linter.unusedVariables false
set_option linter.unusedSimpArgs false
namespace Go.Proofs.Ytlngflonolhdhaa
open Go.RowKit Go.Proofs.YtlngflonolhdhaaW.PrintLast

theorem load_wanted {P : Program} {ops : Array Oper} {rest : List Oper} {op : Oper} {a : Act} {w : World} {Q : Exit → Act → World → Prop} (hg : Region.wanted op (yielded ops a.tmps) = true) (ty : TypeId) (x : Operand) (ho : op.op = .load ty x)
    (b o : Nat) (hx : a.eval x = .pointer (some ⟨b, o, none⟩)) (cs : List Value) (d : TypeDesc) (hc : w.rangeAt b o cs)
    (hu : P.underlying ty = some d) (hd : d.isRow = true) (hi : (P.info? ty).map (·.size) = some cs.length)
    (h : wpList P ops Q rest (a.put op.dst (.agg cs.toArray)) w) : wpList P ops Q (op :: rest) a w :=
  wpList_step fun K hK => by
    simp only [hg, if_true]
    exact wp_load_mid ty x ho b o hx cs d hc hu hd hi (hK _ _ h)
section
variable {B : Nat} {w : World} {g : Nat} {n k : Int} {D : St}
theorem a_arm (h : DiskAt B w g (fresh 70)) (h0 : 0 ≤ n) (h1 : n ≤ 255) : Calls Try.prog 7 #[.pointer (some ⟨g, 0, none⟩), .int .i64 n] w fun r w' => r = .returned (.int .i64 0) ∧ Below B w w' ∧ ∃ D, DiskAt B w' g D ∧ Inv n 0 D := by
  have hl := h.lt
  obtain ⟨D, e, hi⟩ := inv_arm n h0
  have := arm_any h n (by omega)
  rw [e] at this
  exact this.mono fun r w' ⟨h1, h2, h3⟩ => ⟨h1, below_of_grown h2 hl.1 (by omega), D, h3, hi⟩
theorem a_write (h : DiskAt B w g D) (hi : Inv n k D) (h0 : 0 ≤ n) (h1 : n ≤ 255) (hk : 0 ≤ k) (hk1 : k ≤ 510) (b : List Int) (hb : okB b) (x : Int) (hx : want n k = x) : Calls Try.prog 9 #[.pointer (some ⟨g, 0, none⟩), .int .i64 (k % 70), .agg (bc b).toArray] w fun r w' => r = .returned (.int .i64 x) ∧ Below B w w' ∧ ∃ D, DiskAt B w' g D ∧ Inv n (k + 1) D := by
  subst hx
  obtain ⟨D', e, hi'⟩ := inv_write h0 hk hi b
  have := write_any h (k % 70) b hb (by have := hi.2.1; omega) (inv_work h1 h0 hk1 hi)
  rw [e] at this
  exact this.mono fun r w' ⟨h1, h2, h3⟩ => ⟨h1, h2, D', h3, hi'⟩
theorem a_flush (h : DiskAt B w g D) (hi : Inv n k D) (h0 : 0 ≤ n) (h1 : n ≤ 255) (hk : 0 ≤ k) (hk1 : k ≤ 510) (x : Int) (hx : want n k = x) : Calls Try.prog 8 #[.pointer (some ⟨g, 0, none⟩)] w fun r w' => r = .returned (.int .i64 x) ∧ Below B w w' ∧ ∃ D, DiskAt B w' g D ∧ Inv n (k + 1) D := by
  subst hx
  obtain ⟨D', e, hi'⟩ := inv_flush h0 hk hi
  have := flush_any h (inv_work h1 h0 hk1 hi)
  rw [e] at this
  exact this.mono fun r w' ⟨h1, h2, h3⟩ => ⟨h1, h2, D', h3, hi'⟩
theorem a_dark (h : DiskAt B w g D) (x : Bool) (hx : D.gone = x) : Calls Try.prog 10 #[.pointer (some ⟨g, 0, none⟩)] w fun r w' => r = .returned (.bool x) ∧ w = w' := by
  subst hx; obtain ⟨_, _, _, _, h⟩ := h; exact dark_any h
theorem a_steps (h : DiskAt B w g D) (x : Int) (hx : D.work = x) : Calls Try.prog 11 #[.pointer (some ⟨g, 0, none⟩)] w fun r w' => r = .returned (.int .i64 x) ∧ w = w' := by
  subst hx; obtain ⟨_, _, _, _, h⟩ := h; exact steps_any h
end

set_option maxRecDepth 100000 in
set_option maxHeartbeats 4000000 in
theorem armed_any (w : World) (n more : Int) (b : List Int) (h0 : 0 ≤ n) (h1 : n ≤ 255) (m0 : 0 ≤ more) (m1 : more ≤ 255) (hb : okB b) :
    Calls Try.prog 3 #[.int .u8 n, .int .u8 more, .agg (bc b).toArray] w fun r w' => r = .returned (.bool true) ∧ Below w.heap.size w w' := by
  have hx := Box_new w b hb.1
  have HX := Lib.hid hx; clear hx
  have hi := size_block b hb.1
  go_enter Try.func3, Try.ntmps3
  go_wp2_with fail
  have hbl0 : Below w.heap.size w (w.alloc (.cells (bc b).toArray 23)) := (Below.refl _ _).alloc (Nat.le_refl _) _
  have hbs : w.heap.size + 1 ≤ (w.alloc (.cells (bc b).toArray 23)).heap.size := by simp
  generalize w.alloc (.cells (bc b).toArray 23) = W at HX hbl0 hbs ⊢
  refine (new_any W.heap.size W 70 (by omega) (by omega) (Nat.le_refl _)).mono ?_
  rintro e w1 ⟨g, rfl, hd, hb1⟩
  have HD := Lib.hid hd; clear hd
  have HB := Lib.hid hb1; clear hb1
  have HBL := Lib.hid hbl0; clear hbl0
  go_wp2_with fail
  refine (a_arm HD.out h0 h1).mono ?_
  rintro e w2 ⟨rfl, hb2, D, hd, hinv⟩
  clear HD
  have HD := Lib.hid hd; clear hd
  have HI := Lib.hid hinv; clear hinv
  replace HB := Lib.hid (HB.out.trans hb2); clear hb2
  go_wp2_with fail
  go_outline
  go_loopw [10] (fun i wr => ∃ k : Int, 0 ≤ k ∧ k ≤ n + more ∧ i = .int .i64 k ∧ Below W.heap.size W wr ∧ ∃ D, DiskAt W.heap.size wr g D ∧ Inv n k D) (fun i _ => (n + more - intOf i).toNat)
  case atStart => exact ⟨0, by omega, by omega, rfl, HB.out, D, HD.out, HI.out⟩
  case round =>
    obtain ⟨k, hk0, hk1, rfl, hbr, D1, hd1, hi1⟩ := hrel
    clear HD HI HB
    have HD := Lib.hid hd1; clear hd1
    have HI := Lib.hid hi1; clear hi1
    have HB := Lib.hid hbr; clear hbr
    by_cases hlt : k < n + more
    · have hwl : w.heap.size < W.heap.size := by omega
      have hrng : wr.rangeAt w.heap.size 0 (bc b) := fun j v hv => by
        rw [HB.out.cell (by exact hwl)]; exact HX.out.1 j v hv
      have HR := Lib.hid hrng; clear hrng
      have hlt' : decide (k < n + more) = true := by simp [hlt]
      have hwant : ∃ x, want n k = x ∧ ((0 < n ∧ n - 1 ≤ k ∧ x = 9) ∨ (0 < n ∧ ¬ (n - 1 ≤ k) ∧ x = 0) ∨ (¬ (0 < n) ∧ x = 0)) := by
        unfold want; split
        · rename_i hw; exact ⟨_, rfl, .inl ⟨hw.1, hw.2, rfl⟩⟩
        · rename_i hw; by_cases hn : 0 < n
          · exact ⟨_, rfl, .inr (.inl ⟨hn, by omega, rfl⟩)⟩
          · exact ⟨_, rfl, .inr (.inr ⟨hn, rfl⟩)⟩
      obtain ⟨x, hx, hcase⟩ := hwant
      have HC : (n > 0) = (0 < n) := rfl
      by_cases h5 : k % 5 = 4
      · have h5' : (k % 5 == 4) = true := by simp [h5]
        rcases hcase with ⟨hn1, hn2, rfl⟩ | ⟨hn1, hn2, rfl⟩ | ⟨hn1, rfl⟩
        · go_wp2_with fail
          refine (a_flush HD.out HI.out h0 h1 hk0 (by omega) 9 hx).mono ?_
          rintro e w3 ⟨rfl, hb3, D3, hd3, hi3⟩
          clear HD HI
          have HD := Lib.hid hd3; clear hd3
          have HI := Lib.hid hi3; clear hi3
          replace HB := Lib.hid (HB.out.trans hb3); clear hb3 HR
          go_wp2_with fail
          exact ⟨⟨k + 1, by omega, by omega, rfl, HB.out, D3, HD.out, HI.out⟩, by simp only [intOf]; omega⟩
        · go_wp2_with fail
          refine (a_flush HD.out HI.out h0 h1 hk0 (by omega) 0 hx).mono ?_
          rintro e w3 ⟨rfl, hb3, D3, hd3, hi3⟩
          clear HD HI
          have HD := Lib.hid hd3; clear hd3
          have HI := Lib.hid hi3; clear hi3
          replace HB := Lib.hid (HB.out.trans hb3); clear hb3 HR
          go_wp2_with fail
          exact ⟨⟨k + 1, by omega, by omega, rfl, HB.out, D3, HD.out, HI.out⟩, by simp only [intOf]; omega⟩
        · go_wp2_with fail
          refine (a_flush HD.out HI.out h0 h1 hk0 (by omega) 0 hx).mono ?_
          rintro e w3 ⟨rfl, hb3, D3, hd3, hi3⟩
          clear HD HI
          have HD := Lib.hid hd3; clear hd3
          have HI := Lib.hid hi3; clear hi3
          replace HB := Lib.hid (HB.out.trans hb3); clear hb3 HR
          go_wp2_with fail
          exact ⟨⟨k + 1, by omega, by omega, rfl, HB.out, D3, HD.out, HI.out⟩, by simp only [intOf]; omega⟩
      · have h5' : (k % 5 == 4) = false := by simp [h5]
        have h5n : (k % 5 != 4) = true := by simp [h5]
        rcases hcase with ⟨hn1, hn2, rfl⟩ | ⟨hn1, hn2, rfl⟩ | ⟨hn1, rfl⟩
        · go_wp2_with (refine load_wanted (by first | rfl | exact h5n) 23 (.tmp 5) rfl w.heap.size 0 rfl (bc b) _ HR.out Try.underlying23 rfl hi ?_)
          refine (a_write HD.out HI.out h0 h1 hk0 (by omega) b hb 9 hx).mono ?_
          rintro e w3 ⟨rfl, hb3, D3, hd3, hi3⟩
          clear HD HI
          have HD := Lib.hid hd3; clear hd3
          have HI := Lib.hid hi3; clear hi3
          replace HB := Lib.hid (HB.out.trans hb3); clear hb3 HR
          go_wp2_with fail
          exact ⟨⟨k + 1, by omega, by omega, rfl, HB.out, D3, HD.out, HI.out⟩, by simp only [intOf]; omega⟩
        · go_wp2_with (refine load_wanted (by first | rfl | exact h5n) 23 (.tmp 5) rfl w.heap.size 0 rfl (bc b) _ HR.out Try.underlying23 rfl hi ?_)
          refine (a_write HD.out HI.out h0 h1 hk0 (by omega) b hb 0 hx).mono ?_
          rintro e w3 ⟨rfl, hb3, D3, hd3, hi3⟩
          clear HD HI
          have HD := Lib.hid hd3; clear hd3
          have HI := Lib.hid hi3; clear hi3
          replace HB := Lib.hid (HB.out.trans hb3); clear hb3 HR
          go_wp2_with fail
          exact ⟨⟨k + 1, by omega, by omega, rfl, HB.out, D3, HD.out, HI.out⟩, by simp only [intOf]; omega⟩
        · go_wp2_with (refine load_wanted (by first | rfl | exact h5n) 23 (.tmp 5) rfl w.heap.size 0 rfl (bc b) _ HR.out Try.underlying23 rfl hi ?_)
          refine (a_write HD.out HI.out h0 h1 hk0 (by omega) b hb 0 hx).mono ?_
          rintro e w3 ⟨rfl, hb3, D3, hd3, hi3⟩
          clear HD HI
          have HD := Lib.hid hd3; clear hd3
          have HI := Lib.hid hi3; clear hi3
          replace HB := Lib.hid (HB.out.trans hb3); clear hb3 HR
          go_wp2_with fail
          exact ⟨⟨k + 1, by omega, by omega, rfl, HB.out, D3, HD.out, HI.out⟩, by simp only [intOf]; omega⟩
    · obtain rfl : k = n + more := by omega
      have hend : Below w.heap.size w wr := by
        refine ((HBL.out).trans ((HB.out).mono ?_)); omega
      have HE := Lib.hid hend; clear hend
      by_cases hn : 0 < n
      · have hg : D1.gone = true ∧ D1.work = n - 1 := by
          have h3 := HI.out.2.2
          rw [if_neg (by omega), if_neg (by omega)] at h3
          exact h3
        go_wp2_with (first
          | (refine (a_dark HD.out true hg.1).mono ?_; rintro e w' ⟨rfl, rfl⟩)
          | (refine (a_steps HD.out _ hg.2).mono ?_; rintro e w' ⟨rfl, rfl⟩)
          | (refine (lives_any _).mono ?_; rintro e w' ⟨rfl, hbw⟩))
        go_ret
        exact ⟨rfl, HE.out.trans (hbw.mono (HE.out.size))⟩
      · have hg : D1.gone = false ∧ D1.work = n + more := by
          have h3 := HI.out.2.2
          rw [if_pos (by omega)] at h3
          exact ⟨h3.1, h3.2.2⟩
        go_wp2_with (first
          | (refine (a_dark HD.out false hg.1).mono ?_; rintro e w' ⟨rfl, rfl⟩)
          | (refine (a_steps HD.out _ hg.2).mono ?_; rintro e w' ⟨rfl, rfl⟩)
          | (refine (lives_any _).mono ?_; rintro e w' ⟨rfl, hbw⟩))
        go_ret
        exact ⟨rfl, HE.out.trans (hbw.mono (HE.out.size))⟩
end Go.Proofs.Ytlngflonolhdhaa

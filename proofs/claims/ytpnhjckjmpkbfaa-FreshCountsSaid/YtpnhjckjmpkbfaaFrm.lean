/- fresh: FreshCounts, walked. -/
import Derived.Test.YtpnhjckjmpkbfaaFrl
set_option linter.unusedVariables false
set_option linter.unusedSimpArgs false
namespace Go.Proofs.Ytpnhjckjmpkbfaa
open Go.RowKit Go.Proofs.YtpnhjckjmpkbfaaW.PrintLast

def oku8 (x : Int) : Prop := 0 ≤ x ∧ x ≤ 255
def Tolds (w : World) (A : Option Addr) (l : List (Int × Int × Int)) : Prop := 0 < l.length → ∃ b o, A = some ⟨b, o, none⟩ ∧ b < w.heap.size ∧ ∀ i x, l[i]? = some x →
  w.cell? ⟨b, o + i * 3, none⟩ = some (.int .u8 x.1) ∧ w.cell? ⟨b, o + i * 3 + 1, none⟩ = some (.int .u8 x.2.1) ∧ w.cell? ⟨b, o + i * 3 + 2, none⟩ = some (.int .u8 x.2.2) ∧ oku8 x.1 ∧ oku8 x.2.1 ∧ oku8 x.2.2
structure CAtS (w : World) (n : Nat) (vh vn vi : Value) (wr : World) (i : Nat) (now : Int) (l : List F) (sp ch : Nat → Int) : Prop where
  hi : i ≤ n
  hi2 : i ≤ 100
  vi : vi = .int .i64 i
  vn : vn = .int .u64 now
  n0 : 0 ≤ now
  n1 : now ≤ 255 * i
  cnt : Cnt sp ch l
  own : Own wr (w.heap.size + 2) vh l
  sps : Arr wr w.heap.size sp
  chs : Arr wr (w.heap.size + 1) ch
  below : Below w.heap.size w wr
def CAt (w : World) (n : Nat) (vh vn vi : Value) (wr : World) : Prop := ∃ i now l sp ch, CAtS w n vh vn vi wr i now l sp ch
theorem arr_zero (w : World) (b : Nat) (t : TypeId) (h : w.heap[b]? = some (.cells #[.int .u64 0, .int .u64 0, .int .u64 0, .int .u64 0, .int .u64 0, .int .u64 0, .int .u64 0, .int .u64 0] t (0, 0))) : Arr w b (fun _ => 0) := by
  refine ⟨lt_of_heap h, fun k hk => ?_⟩
  rw [cell_of_row _ _ _ _ _ _ h, frozen_of_row _ _ _ _ _ h]
  rcases (show k = 0 ∨ k = 1 ∨ k = 2 ∨ k = 3 ∨ k = 4 ∨ k = 5 ∨ k = 6 ∨ k = 7 by omega) with rfl | rfl | rfl | rfl | rfl | rfl | rfl | rfl <;> exact ⟨rfl, rfl⟩

theorem counts_in {k : Nat} {c t s now : Int} (h : now - t < s) : counts (some (cf2 k c t s)) now = true := by
  show (decide (now < t) || decide (now - t < s)) = true
  rw [decide_eq_true h, Bool.or_true]
theorem counts_out {k : Nat} {c t s now : Int} (h : s ≤ now - t) (h0 : 0 ≤ s) : counts (some (cf2 k c t s)) now = false := by
  show (decide (now < t) || decide (now - t < s)) = false
  rw [decide_eq_false (by omega : ¬ now < t), decide_eq_false (by omega : ¬ now - t < s)]; rfl
theorem keepS {W0 W W' : World} {a b k : Nat} {x y z : Value} (h : W.cell? ⟨a, 0, none⟩ = some x ∧ W.cell? ⟨a, 1, none⟩ = some y ∧ W.cell? ⟨b, k, none⟩ = some z ∧ Below W0.heap.size W0 W) (hb : Below W.heap.size W W') (ha : a < W0.heap.size) (hbb : b < W0.heap.size) :
    W'.cell? ⟨a, 0, none⟩ = some x ∧ W'.cell? ⟨a, 1, none⟩ = some y ∧ W'.cell? ⟨b, k, none⟩ = some z ∧ Below W0.heap.size W0 W' :=
  ⟨(hb.cell (p := ⟨a, 0, none⟩) (Nat.lt_of_lt_of_le ha h.2.2.2.size)).trans h.1, (hb.cell (p := ⟨a, 1, none⟩) (Nat.lt_of_lt_of_le ha h.2.2.2.size)).trans h.2.1, (hb.cell (p := ⟨b, k, none⟩) (Nat.lt_of_lt_of_le hbb h.2.2.2.size)).trans h.2.2.1, h.2.2.2.trans (hb.mono h.2.2.2.size)⟩
theorem span_cases (a b c : Int) : (a = b ∧ 2 * c ≤ 16) ∨ (a = b ∧ ¬ 2 * c ≤ 16) ∨ ¬ a = b := by omega
set_option maxRecDepth 100000 in
set_option maxHeartbeats 4000000 in
theorem fcounts_any (w : World) (A : Option Addr) (cap : Nat) (L : List (Int × Int × Int)) (hL : Tolds w A L) (hn : L.length ≤ 9223372036854775807) :
    Calls Try.prog 3 #[.slice A L.length cap] w fun r w' => r = .returned (.bool true) ∧ Below w.heap.size w w' := by
  have HL := Lib.hid hL; clear hL
  go_enter Try.func3, Try.ntmps3
  go_wp2_with fail
  obtain ⟨hb0, hz0, hz1⟩ := two_boxes w (.cells #[.int .u64 0, .int .u64 0, .int .u64 0, .int .u64 0, .int .u64 0, .int .u64 0, .int .u64 0, .int .u64 0] 25) (.cells #[.int .u64 0, .int .u64 0, .int .u64 0, .int .u64 0, .int .u64 0, .int .u64 0, .int .u64 0, .int .u64 0] 25)
  have HZ0 := Lib.hid (arr_zero _ _ _ hz0); clear hz0
  have HZ1 := Lib.hid (arr_zero _ _ _ hz1); clear hz1
  generalize (w.alloc (.cells #[.int .u64 0, .int .u64 0, .int .u64 0, .int .u64 0, .int .u64 0, .int .u64 0, .int .u64 0, .int .u64 0] 25)).alloc (.cells #[.int .u64 0, .int .u64 0, .int .u64 0, .int .u64 0, .int .u64 0, .int .u64 0, .int .u64 0, .int .u64 0] 25) = W at hb0 HZ0 HZ1 ⊢
  go_loopw [3, 6, 7] (fun vh vn vi wr => CAt w L.length vh vn vi wr) (fun vh vn vi _ => ((L.length : Int) - intOf vi).toNat)
  case atStart => exact ⟨0, 0, [], _, _, ⟨Nat.zero_le _, Nat.zero_le _, rfl, rfl, by omega, by omega, Cnt.zero, own_nil _ _, HZ0.out, HZ1.out, hb0⟩⟩
  case round =>
    clear HZ0 HZ1 hb0
    obtain ⟨i, now, l, sp, ch, hc⟩ := hrel
    have hk0 : (0 : Int) ≤ (i : Int) := by omega
    obtain rfl := hc.vi
    obtain rfl := hc.vn
    have hn0 := hc.n0
    have hn1 := hc.n1
    have hi2 := hc.hi2
    have HC := Lib.hid hc; clear hc
    by_cases hlt : (i : Int) < (L.length : Int)
    · by_cases hlt2 : (i : Int) < 100
      · obtain ⟨b, o, rfl, hbw, hg⟩ := HL.out (by omega)
        obtain ⟨⟨x1, x2, x3⟩, hx⟩ : ∃ x, L[i]? = some x := ⟨_, List.getElem?_eq_getElem (by omega)⟩
        obtain ⟨c0, c1, c2, ⟨y0, y1⟩, ⟨y2, y3⟩, ⟨y4, y5⟩⟩ := hg i _ hx
        clear hg
        have hbe := HC.out.below
        replace c0 := (hbe.cell (p := ⟨b, _, none⟩) hbw).trans c0
        replace c1 := (hbe.cell (p := ⟨b, _, none⟩) hbw).trans c1
        replace c2 := (hbe.cell (p := ⟨b, _, none⟩) hbw).trans c2
        dsimp only at *
        obtain ⟨k, hkk, hk8⟩ : ∃ k : Nat, x1 % 8 = (k : Int) ∧ k < 8 := ⟨(x1 % 8).toNat, by omega, by omega⟩
        obtain ⟨m, hm, hm0, hm1⟩ : ∃ m : Int, x2 % 3 = m ∧ 0 ≤ m ∧ m ≤ 2 := ⟨x2 % 3, rfl, by omega, by omega⟩
        have hkI : (0 : Int) ≤ (k : Int) ∧ (k : Int) < 8 := by omega
        have hbr := Nat.lt_of_lt_of_le hbw hbe.size
        have hsr := HC.out.sps.1
        have hcr := HC.out.chs.1
        have hbr' : b ≠ wr.heap.size := by omega
        have hsr' : w.heap.size ≠ wr.heap.size := by omega
        have hcr' : w.heap.size + 1 ≠ wr.heap.size := by omega
        obtain ⟨t, hnt, ht0, ht1⟩ : ∃ t, now + x3 = t ∧ 0 ≤ t ∧ t ≤ 255 * i + 255 := ⟨_, rfl, by omega, by omega⟩
        clear hx hbe
        have hch := (HC.out.chs.2 k hk8).1
        have hsp := (HC.out.sps.2 k hk8).1
        have hchf := (HC.out.chs.2 k hk8).2
        have hspf := (HC.out.sps.2 k hk8).2
        rcases span_cases (1 + m) (ch k) (sp k) with ⟨he, h16⟩ | ⟨he, h16⟩ | he
        · have tok : True := trivial
          have hbs := HC.out.cnt.sp_bounds hk8 (by omega) he
          have hbe : (1 + m == ch k) = true := by rw [beq_iff_eq]; exact he
          have hns : nextSpan sp ch k (1 + m) = (2 * sp k) := by unfold nextSpan; rw [if_pos he, if_pos h16]
          have HNS := Lib.hid hns; clear hns
          have hsb := HC.out.cnt.bounds (k := k) hk8 (c := 1 + m) (by omega)
          rw [HNS.out] at hsb
          clear he
          go_wp2_with fail
          have hal := heap_alloc_new ((wr.setCell ⟨w.heap.size, k, none⟩ (.int .u64 (2 * sp k))).setCell ⟨w.heap.size + 1, k, none⟩ (.int .u64 (1 + m))) (.cells #[.int .u32 ((k : Int) + 1), .int .u32 1] 30)
          have hab : Below ((wr.setCell ⟨w.heap.size, k, none⟩ (.int .u64 (2 * sp k))).setCell ⟨w.heap.size + 1, k, none⟩ (.int .u64 (1 + m))).heap.size ((wr.setCell ⟨w.heap.size, k, none⟩ (.int .u64 (2 * sp k))).setCell ⟨w.heap.size + 1, k, none⟩ (.int .u64 (1 + m))) (((wr.setCell ⟨w.heap.size, k, none⟩ (.int .u64 (2 * sp k))).setCell ⟨w.heap.size + 1, k, none⟩ (.int .u64 (1 + m))).alloc (.cells #[.int .u32 ((k : Int) + 1), .int .u32 1] 30)) := (Below.refl _ _).alloc (Nat.le_refl _) _
          have hW1 : Below w.heap.size w ((wr.setCell ⟨w.heap.size, k, none⟩ (.int .u64 (2 * sp k))).setCell ⟨w.heap.size + 1, k, none⟩ (.int .u64 (1 + m))) := (HC.out.below.setCell (Nat.le_refl _) _).setCell (Nat.le_succ _) _
          have hsz : ((wr.setCell ⟨w.heap.size, k, none⟩ (.int .u64 (2 * sp k))).setCell ⟨w.heap.size + 1, k, none⟩ (.int .u64 (1 + m))).heap.size = wr.heap.size := by simp
          have hB4 := hW1.trans (hab.mono hW1.size)
          have HS4 := Lib.hid (((HC.out.sps.set hk8 (2 * sp k)).other (c := w.heap.size + 1) (by omega) k (.int .u64 (1 + m))).below hab)
          have HCH4 := Lib.hid (((HC.out.chs.other (c := w.heap.size) (by omega) k (.int .u64 (2 * sp k))).set hk8 (1 + m)).below hab)
          have HO4 := Lib.hid (((HC.out.own.low (c := w.heap.size) (by omega) k (.int .u64 (2 * sp k))).low (c := w.heap.size + 1) (by omega) k (.int .u64 (1 + m))).below hab)
          rw [hsz] at hal
          clear hab hW1 hsz
          generalize ((wr.setCell ⟨w.heap.size, k, none⟩ (.int .u64 (2 * sp k))).setCell ⟨w.heap.size + 1, k, none⟩ (.int .u64 (1 + m))).alloc (.cells #[.int .u32 ((k : Int) + 1), .int .u32 1] 30) = W4 at hal hB4 HS4 HCH4 HO4 ⊢
          obtain ⟨g1, g2, g3⟩ := HC.out.cnt.step (k := k) hk8 (c := 1 + m) (now := t) (by omega) ht0 (by omega)
          rw [HNS.out] at g2 g3
          have hsb0 := Nat.lt_of_lt_of_le (lt_of_heap hal) (Nat.le_refl _)
          refine (tell_any HO4.out HC.out.cnt.ok (cf k (1 + m) t) ht0 (by show t ≤ _; omega) g1).mono ?_
          generalize hl' : insP (dropP l ((k : Int) + 1, 1)) (newF l (cf k (1 + m) t)) = l' at g2 g3
          rintro e w5 ⟨v5, rfl, hb5, ho5⟩
          replace ho5 : Own w5 W4.heap.size v5 l' := by rw [← hl']; exact ho5
          clear hl'
          have hB5 := hB4.trans (hb5.mono hB4.size)
          have HS5 := Lib.hid (HS4.out.below hb5)
          have HCH5 := Lib.hid (HCH4.out.below hb5)
          have HH5 := Lib.hid ((hb5.block _ (lt_of_heap hal)).trans hal)
          have HO5 := Lib.hid (ho5.base (show w.heap.size + 2 ≤ W4.heap.size by have := HCH4.out.1; omega)); clear ho5
          obtain ⟨A5, cap5, rfl, hr5⟩ := HO5.out.form
          have HR5 := Lib.hid hr5; clear hr5
          have G2 := Lib.hid g2; clear g2
          have G3 := Lib.hid g3; clear g3
          clear hal hB4 HS4 HCH4 HO4 hb5 g1
          go_wp2_with fail
          refine (may_true w5 A5 cap5 l' HR5.out G2.out.ok).mono ?_
          rintro e w6 ⟨rfl, hb6⟩
          have hB6 := (hB5.trans (hb6.mono hB5.size)).drew
          have HS6 : Hid (Arr w6.drew w.heap.size _) := Lib.hid (HS5.out.below hb6.drew)
          have HCH6 : Hid (Arr w6.drew (w.heap.size + 1) _) := Lib.hid (HCH5.out.below hb6.drew)
          have HH6 : Hid (w6.drew.heap[wr.heap.size]? = _) := Lib.hid ((hb6.drew.block _ (lt_of_heap HH5.out)).trans HH5.out)
          have HO6 : Hid (Own w6.drew _ _ _) := Lib.hid (HO5.out.below hb6.drew)
          have HR6 : Hid (Reads w6.drew A5 l') := Lib.hid (HR5.out.below hb6.drew)
          have e0 : w6.drew.cell? ⟨wr.heap.size, 0, none⟩ = some (.int .u32 ((k : Int) + 1)) := by rw [cell_of_row _ _ 0 _ _ _ HH6.out]; rfl
          have e1 : w6.drew.cell? ⟨wr.heap.size, 1, none⟩ = some (.int .u32 1) := by rw [cell_of_row _ _ 1 _ _ _ HH6.out]; rfl
          have e2 : w6.drew.cell? ⟨w.heap.size, k, none⟩ = some (.int .u64 (2 * sp k)) := by have := (HS6.out.2 k hk8).1; rw [upd_same] at this; exact this
          have hl0 := lt_of_heap HH6.out
          have hl1 := HS6.out.1
          clear HS5 HCH5 HH5 HO5 HR5 hB5 hb6
          go_wp2_with fail
          have u1 : IntKind.u64.wrap (t + (2 * sp k)) = t + (2 * sp k) := IntWalk.u64_in _ (by omega)
          have u2 : IntKind.u64.wrap (t + (2 * sp k) - 1) = t + (2 * sp k) - 1 := IntWalk.u64_in _ (by omega)
          have f1 : counts (got l' ((k : Int) + 1, 1)) t = true := by rw [G3.out]; exact counts_in (by omega)
          have f2 : counts (got l' ((k : Int) + 1, 1)) (t + (2 * sp k) - 1) = true := by rw [G3.out]; exact counts_in (by omega)
          have f3 : counts (got l' ((k : Int) + 1, 1)) (t + (2 * sp k)) = false := by rw [G3.out]; exact counts_out (by omega) (by omega)
          have F1 := Lib.hid f1; clear f1
          have F2 := Lib.hid f2; clear f2
          have F3 := Lib.hid f3; clear f3
          refine start_ (n := 35) (S := (fun w' => w'.cell? ⟨wr.heap.size, 0, none⟩ = some (.int .u32 ((k : Int) + 1)) ∧ w'.cell? ⟨wr.heap.size, 1, none⟩ = some (.int .u32 1) ∧ w'.cell? ⟨w.heap.size, k, none⟩ = some (.int .u64 (2 * sp k)) ∧ Below w6.drew.heap.size w6.drew w')) (ds := []) #[false, false, false, false, false, false, false, false, false, false, false, false, false, false, false, false, false, false, false, false, false, false, false, false, false, false, false, false, false, false, false, false, false, false, false] (by kernel_rfl) rfl rfl ⟨e0, e1, e2, Below.refl _ _⟩ (fun hHeld => ?_)
          refine pure_ (i := 0) (N := (some 84)) (v := ?_) (a' := ?_) #[true, false, false, false, false, false, false, false, false, false, false, false, false, false, false, false, false, false, false, false, false, false, false, false, false, false, false, false, false, false, false, false, false, false, false] rfl rfl (by kernel_rfl) (fun _ _ _ h => h) (Or.inl ⟨by rfl, ?_⟩) ?_ ?_
          rotate_left
          · (intro w'; go_simp; with_reducible rfl)
          rotate_left
          · (simp only [Act.put, List.setIfInBounds_toArray, List.set_cons_zero, List.set_cons_succ]; rfl)
          refine take_ (i := 1) (N := (some 85)) (v := ?_) (a' := ?_) #[true, true, false, false, false, false, false, false, false, false, false, false, false, false, false, false, false, false, false, false, false, false, false, false, false, false, false, false, false, false, false, false, false, false, false] rfl rfl (by kernel_rfl) (fun _ _ _ h => h) (Or.inl ⟨by rfl, ?_⟩) hHeld ?_ ?_
          rotate_left
          · (rintro w' hSw; (try dsimp only at hSw); go_split_ands; go_simp; with_reducible rfl)
          rotate_left
          · (simp only [Act.put, List.setIfInBounds_toArray, List.set_cons_zero, List.set_cons_succ]; rfl)
          refine pure_ (i := 2) (N := (some 86)) (v := ?_) (a' := ?_) #[true, true, true, false, false, false, false, false, false, false, false, false, false, false, false, false, false, false, false, false, false, false, false, false, false, false, false, false, false, false, false, false, false, false, false] rfl rfl (by kernel_rfl) (fun _ _ _ h => h) (Or.inl ⟨by rfl, ?_⟩) ?_ ?_
          rotate_left
          · (intro w'; go_simp; with_reducible rfl)
          rotate_left
          · (simp only [Act.put, List.setIfInBounds_toArray, List.set_cons_zero, List.set_cons_succ]; rfl)
          refine one_ (i := 3) (N := (some 87)) #[true, true, true, true, false, false, false, false, false, false, false, false, false, false, false, false, false, false, false, false, false, false, false, false, false, false, false, false, false, false, false, false, false, false, false] rfl rfl (by kernel_rfl) (by decide) (fun K hK => ?_)
          refine goes_ Try.func7 (by kernel_rfl) rfl #[.slice A5 l'.length cap5, .agg #[.int .u32 ((k : Int) + 1), .int .u32 1], .int .u64 t] (by rfl) rfl rfl (by simp only [List.map_toArray, List.map_cons, List.map_nil]; rfl) ?_
          generalize hwx : (_ : World) = Wx at hHeld ⊢
          clear hwx
          have hcc := counts_any _ A5 cap5 l' ((k : Int) + 1, 1) t (by omega) (by omega) (HR6.out.below hHeld.2.2.2) G2.out.ok
          rw [F1.out] at hcc
          refine hcc.mono ?_
          clear hcc
          rintro e wn ⟨rfl, hbn⟩
          refine ⟨_, rfl, hK.out _ _ (keepS hHeld hbn hl0 hl1) (fun hHeld => ?_)⟩
          clear hK K hbn
          refine norm_ (a' := ?_) ?_ ?_
          rotate_left
          · (show Act.put _ (some 87) _ = _; simp only [Act.put, List.setIfInBounds_toArray, List.set_cons_zero, List.set_cons_succ]; rfl)
          refine pure_ (i := 4) (N := (some 88)) (v := ?_) (a' := ?_) #[true, true, true, true, true, false, false, false, false, false, false, false, false, false, false, false, false, false, false, false, false, false, false, false, false, false, false, false, false, false, false, false, false, false, false] rfl rfl (by kernel_rfl) (fun _ _ _ h => h) (Or.inl ⟨by rfl, ?_⟩) ?_ ?_
          rotate_left
          · (intro w'; go_simp; with_reducible rfl)
          rotate_left
          · (simp only [Act.put, List.setIfInBounds_toArray, List.set_cons_zero, List.set_cons_succ]; rfl)
          refine pure_ (i := 5) (N := (some 89)) (v := ?_) (a' := ?_) #[true, true, true, true, true, true, false, false, false, false, false, false, false, false, false, false, false, false, false, false, false, false, false, false, false, false, false, false, false, false, false, false, false, false, false] rfl rfl (by kernel_rfl) (fun _ _ _ h => h) (Or.inl ⟨by rfl, ?_⟩) ?_ ?_
          rotate_left
          · (intro w'; go_simp; with_reducible rfl)
          rotate_left
          · (simp only [Act.put, List.setIfInBounds_toArray, List.set_cons_zero, List.set_cons_succ]; rfl)
          refine pure_ (i := 6) (N := (some 90)) (v := ?_) (a' := ?_) #[true, true, true, true, true, true, true, false, false, false, false, false, false, false, false, false, false, false, false, false, false, false, false, false, false, false, false, false, false, false, false, false, false, false, false] rfl rfl (by kernel_rfl) (fun _ _ _ h => h) (Or.inl ⟨by rfl, ?_⟩) ?_ ?_
          rotate_left
          · (intro w'; go_simp; with_reducible rfl)
          rotate_left
          · (simp only [Act.put, List.setIfInBounds_toArray, List.set_cons_zero, List.set_cons_succ]; rfl)
          refine take_ (i := 7) (N := (some 91)) (v := ?_) (a' := ?_) #[true, true, true, true, true, true, true, true, false, false, false, false, false, false, false, false, false, false, false, false, false, false, false, false, false, false, false, false, false, false, false, false, false, false, false] rfl rfl (by kernel_rfl) (fun _ _ _ h => h) (Or.inl ⟨by rfl, ?_⟩) hHeld ?_ ?_
          rotate_left
          · (rintro w' hSw; (try dsimp only at hSw); go_split_ands; go_simp; with_reducible rfl)
          rotate_left
          · (simp only [Act.put, List.setIfInBounds_toArray, List.set_cons_zero, List.set_cons_succ]; rfl)
          refine pure_ (i := 8) (N := (some 92)) (v := ?_) (a' := ?_) #[true, true, true, true, true, true, true, true, true, false, false, false, false, false, false, false, false, false, false, false, false, false, false, false, false, false, false, false, false, false, false, false, false, false, false] rfl rfl (by kernel_rfl) (fun _ _ _ h => h) (Or.inl ⟨by rfl, ?_⟩) ?_ ?_
          rotate_left
          · (intro w'; go_simp; with_reducible rfl)
          rotate_left
          · (simp only [Act.put, List.setIfInBounds_toArray, List.set_cons_zero, List.set_cons_succ]; rfl)
          refine pure_ (i := 9) (N := (some 93)) (v := ?_) (a' := ?_) #[true, true, true, true, true, true, true, true, true, true, false, false, false, false, false, false, false, false, false, false, false, false, false, false, false, false, false, false, false, false, false, false, false, false, false] rfl rfl (by kernel_rfl) (fun _ _ _ h => h) (Or.inl ⟨by rfl, ?_⟩) ?_ ?_
          rotate_left
          · (intro w'; go_simp; with_reducible rfl)
          rotate_left
          · (simp only [Act.put, List.setIfInBounds_toArray, List.set_cons_zero, List.set_cons_succ]; rfl)
          refine pure_ (i := 10) (N := (some 94)) (v := ?_) (a' := ?_) #[true, true, true, true, true, true, true, true, true, true, true, false, false, false, false, false, false, false, false, false, false, false, false, false, false, false, false, false, false, false, false, false, false, false, false] rfl rfl (by kernel_rfl) (fun _ _ _ h => h) (Or.inl ⟨by rfl, ?_⟩) ?_ ?_
          rotate_left
          · (intro w'; go_simp; with_reducible rfl)
          rotate_left
          · (simp only [Act.put, List.setIfInBounds_toArray, List.set_cons_zero, List.set_cons_succ]; rfl)
          refine take_ (i := 11) (N := (some 95)) (v := ?_) (a' := ?_) #[true, true, true, true, true, true, true, true, true, true, true, true, false, false, false, false, false, false, false, false, false, false, false, false, false, false, false, false, false, false, false, false, false, false, false] rfl rfl (by kernel_rfl) (fun _ _ _ h => h) (Or.inl ⟨by rfl, ?_⟩) hHeld ?_ ?_
          rotate_left
          · (rintro w' hSw; (try dsimp only at hSw); go_split_ands; go_simp; with_reducible rfl)
          rotate_left
          · (simp only [Act.put, List.setIfInBounds_toArray, List.set_cons_zero, List.set_cons_succ]; rfl)
          refine pure_ (i := 12) (N := (some 96)) (v := ?_) (a' := ?_) #[true, true, true, true, true, true, true, true, true, true, true, true, true, false, false, false, false, false, false, false, false, false, false, false, false, false, false, false, false, false, false, false, false, false, false] rfl rfl (by kernel_rfl) (fun _ _ _ h => h) (Or.inl ⟨by rfl, ?_⟩) ?_ ?_
          rotate_left
          · (intro w'; go_simp; with_reducible rfl)
          rotate_left
          · (simp only [Act.put, List.setIfInBounds_toArray, List.set_cons_zero, List.set_cons_succ]; rfl)
          refine pure_ (i := 13) (N := (some 97)) (v := ?_) (a' := ?_) #[true, true, true, true, true, true, true, true, true, true, true, true, true, true, false, false, false, false, false, false, false, false, false, false, false, false, false, false, false, false, false, false, false, false, false] rfl rfl (by kernel_rfl) (fun _ _ _ h => h) (Or.inl ⟨by rfl, ?_⟩) ?_ ?_
          rotate_left
          · (intro w'; go_simp; with_reducible rfl)
          rotate_left
          · (simp only [Act.put, List.setIfInBounds_toArray, List.set_cons_zero, List.set_cons_succ]; rfl)
          refine one_ (i := 14) (N := (some 98)) #[true, true, true, true, true, true, true, true, true, true, true, true, true, true, true, false, false, false, false, false, false, false, false, false, false, false, false, false, false, false, false, false, false, false, false] rfl rfl (by kernel_rfl) (by decide) (fun K hK => ?_)
          refine goes_ Try.func7 (by kernel_rfl) rfl #[.slice A5 l'.length cap5, .agg #[.int .u32 ((k : Int) + 1), .int .u32 1], .int .u64 (t + (2 * sp k) - 1)] (by rfl) rfl rfl (by simp only [List.map_toArray, List.map_cons, List.map_nil]; rfl) ?_
          generalize hwx : (_ : World) = Wx at hHeld ⊢
          clear hwx
          have hcc := counts_any _ A5 cap5 l' ((k : Int) + 1, 1) (t + (2 * sp k) - 1) (by omega) (by omega) (HR6.out.below hHeld.2.2.2) G2.out.ok
          rw [F2.out] at hcc
          refine hcc.mono ?_
          clear hcc
          rintro e wn ⟨rfl, hbn⟩
          refine ⟨_, rfl, hK.out _ _ (keepS hHeld hbn hl0 hl1) (fun hHeld => ?_)⟩
          clear hK K hbn
          refine norm_ (a' := ?_) ?_ ?_
          rotate_left
          · (show Act.put _ (some 98) _ = _; simp only [Act.put, List.setIfInBounds_toArray, List.set_cons_zero, List.set_cons_succ]; rfl)
          refine pure_ (i := 15) (N := (some 99)) (v := ?_) (a' := ?_) #[true, true, true, true, true, true, true, true, true, true, true, true, true, true, true, true, false, false, false, false, false, false, false, false, false, false, false, false, false, false, false, false, false, false, false] rfl rfl (by kernel_rfl) (fun _ _ _ h => h) (Or.inl ⟨by rfl, ?_⟩) ?_ ?_
          rotate_left
          · (intro w'; go_simp; with_reducible rfl)
          rotate_left
          · (simp only [Act.put, List.setIfInBounds_toArray, List.set_cons_zero, List.set_cons_succ]; rfl)
          refine pure_ (i := 16) (N := (some 100)) (v := ?_) (a' := ?_) #[true, true, true, true, true, true, true, true, true, true, true, true, true, true, true, true, true, false, false, false, false, false, false, false, false, false, false, false, false, false, false, false, false, false, false] rfl rfl (by kernel_rfl) (fun _ _ _ h => h) (Or.inl ⟨by rfl, ?_⟩) ?_ ?_
          rotate_left
          · (intro w'; go_simp; with_reducible rfl)
          rotate_left
          · (simp only [Act.put, List.setIfInBounds_toArray, List.set_cons_zero, List.set_cons_succ]; rfl)
          refine pure_ (i := 17) (N := (some 101)) (v := ?_) (a' := ?_) #[true, true, true, true, true, true, true, true, true, true, true, true, true, true, true, true, true, true, false, false, false, false, false, false, false, false, false, false, false, false, false, false, false, false, false] rfl rfl (by kernel_rfl) (fun _ _ _ h => h) (Or.inl ⟨by rfl, ?_⟩) ?_ ?_
          rotate_left
          · (intro w'; go_simp; with_reducible rfl)
          rotate_left
          · (simp only [Act.put, List.setIfInBounds_toArray, List.set_cons_zero, List.set_cons_succ]; rfl)
          refine pure_ (i := 18) (N := (some 102)) (v := ?_) (a' := ?_) #[true, true, true, true, true, true, true, true, true, true, true, true, true, true, true, true, true, true, true, false, false, false, false, false, false, false, false, false, false, false, false, false, false, false, false] rfl rfl (by kernel_rfl) (fun _ _ _ h => h) (Or.inl ⟨by rfl, ?_⟩) ?_ ?_
          rotate_left
          · (intro w'; go_simp; with_reducible rfl)
          rotate_left
          · (simp only [Act.put, List.setIfInBounds_toArray, List.set_cons_zero, List.set_cons_succ]; rfl)
          refine take_ (i := 19) (N := (some 103)) (v := ?_) (a' := ?_) #[true, true, true, true, true, true, true, true, true, true, true, true, true, true, true, true, true, true, true, true, false, false, false, false, false, false, false, false, false, false, false, false, false, false, false] rfl rfl (by kernel_rfl) (fun _ _ _ h => h) (Or.inl ⟨by rfl, ?_⟩) hHeld ?_ ?_
          rotate_left
          · (rintro w' hSw; (try dsimp only at hSw); go_split_ands; go_simp; with_reducible rfl)
          rotate_left
          · (simp only [Act.put, List.setIfInBounds_toArray, List.set_cons_zero, List.set_cons_succ]; rfl)
          refine pure_ (i := 20) (N := (some 104)) (v := ?_) (a' := ?_) #[true, true, true, true, true, true, true, true, true, true, true, true, true, true, true, true, true, true, true, true, true, false, false, false, false, false, false, false, false, false, false, false, false, false, false] rfl rfl (by kernel_rfl) (fun _ _ _ h => h) (Or.inl ⟨by rfl, ?_⟩) ?_ ?_
          rotate_left
          · (intro w'; go_simp; with_reducible rfl)
          rotate_left
          · (simp only [Act.put, List.setIfInBounds_toArray, List.set_cons_zero, List.set_cons_succ]; rfl)
          refine pure_ (i := 21) (N := (some 105)) (v := ?_) (a' := ?_) #[true, true, true, true, true, true, true, true, true, true, true, true, true, true, true, true, true, true, true, true, true, true, false, false, false, false, false, false, false, false, false, false, false, false, false] rfl rfl (by kernel_rfl) (fun _ _ _ h => h) (Or.inl ⟨by rfl, ?_⟩) ?_ ?_
          rotate_left
          · (intro w'; go_simp; with_reducible rfl)
          rotate_left
          · (simp only [Act.put, List.setIfInBounds_toArray, List.set_cons_zero, List.set_cons_succ]; rfl)
          refine pure_ (i := 22) (N := (some 106)) (v := ?_) (a' := ?_) #[true, true, true, true, true, true, true, true, true, true, true, true, true, true, true, true, true, true, true, true, true, true, true, false, false, false, false, false, false, false, false, false, false, false, false] rfl rfl (by kernel_rfl) (fun _ _ _ h => h) (Or.inl ⟨by rfl, ?_⟩) ?_ ?_
          rotate_left
          · (intro w'; go_simp; with_reducible rfl)
          rotate_left
          · (simp only [Act.put, List.setIfInBounds_toArray, List.set_cons_zero, List.set_cons_succ]; rfl)
          refine take_ (i := 23) (N := (some 107)) (v := ?_) (a' := ?_) #[true, true, true, true, true, true, true, true, true, true, true, true, true, true, true, true, true, true, true, true, true, true, true, true, false, false, false, false, false, false, false, false, false, false, false] rfl rfl (by kernel_rfl) (fun _ _ _ h => h) (Or.inl ⟨by rfl, ?_⟩) hHeld ?_ ?_
          rotate_left
          · (rintro w' hSw; (try dsimp only at hSw); go_split_ands; go_simp; with_reducible rfl)
          rotate_left
          · (simp only [Act.put, List.setIfInBounds_toArray, List.set_cons_zero, List.set_cons_succ]; rfl)
          refine pure_ (i := 24) (N := (some 108)) (v := ?_) (a' := ?_) #[true, true, true, true, true, true, true, true, true, true, true, true, true, true, true, true, true, true, true, true, true, true, true, true, true, false, false, false, false, false, false, false, false, false, false] rfl rfl (by kernel_rfl) (fun _ _ _ h => h) (Or.inl ⟨by rfl, ?_⟩) ?_ ?_
          rotate_left
          · (intro w'; go_simp; with_reducible rfl)
          rotate_left
          · (simp only [Act.put, List.setIfInBounds_toArray, List.set_cons_zero, List.set_cons_succ]; rfl)
          refine one_ (i := 25) (N := (some 109)) #[true, true, true, true, true, true, true, true, true, true, true, true, true, true, true, true, true, true, true, true, true, true, true, true, true, true, false, false, false, false, false, false, false, false, false] rfl rfl (by kernel_rfl) (by decide) (fun K hK => ?_)
          refine goes_ Try.func7 (by kernel_rfl) rfl #[.slice A5 l'.length cap5, .agg #[.int .u32 ((k : Int) + 1), .int .u32 1], .int .u64 (t + (2 * sp k))] (by rfl) rfl rfl (by simp only [List.map_toArray, List.map_cons, List.map_nil]; rfl) ?_
          generalize hwx : (_ : World) = Wx at hHeld ⊢
          clear hwx
          have hcc := counts_any _ A5 cap5 l' ((k : Int) + 1, 1) (t + (2 * sp k)) (by omega) (by omega) (HR6.out.below hHeld.2.2.2) G2.out.ok
          rw [F3.out] at hcc
          refine hcc.mono ?_
          clear hcc
          rintro e wn ⟨rfl, hbn⟩
          refine ⟨_, rfl, hK.out _ _ (keepS hHeld hbn hl0 hl1) (fun hHeld => ?_)⟩
          clear hK K hbn
          refine norm_ (a' := ?_) ?_ ?_
          rotate_left
          · (show Act.put _ (some 109) _ = _; simp only [Act.put, List.setIfInBounds_toArray, List.set_cons_zero, List.set_cons_succ]; rfl)
          refine pure_ (i := 26) (N := (some 110)) (v := ?_) (a' := ?_) #[true, true, true, true, true, true, true, true, true, true, true, true, true, true, true, true, true, true, true, true, true, true, true, true, true, true, true, false, false, false, false, false, false, false, false] rfl rfl (by kernel_rfl) (fun _ _ _ h => h) (Or.inl ⟨by rfl, ?_⟩) ?_ ?_
          rotate_left
          · (intro w'; go_simp; with_reducible rfl)
          rotate_left
          · (simp only [Act.put, List.setIfInBounds_toArray, List.set_cons_zero, List.set_cons_succ]; rfl)
          refine pure_ (i := 27) (N := (some 111)) (v := ?_) (a' := ?_) #[true, true, true, true, true, true, true, true, true, true, true, true, true, true, true, true, true, true, true, true, true, true, true, true, true, true, true, true, false, false, false, false, false, false, false] rfl rfl (by kernel_rfl) (fun _ _ _ h => h) (Or.inl ⟨by rfl, ?_⟩) ?_ ?_
          rotate_left
          · (intro w'; go_simp; with_reducible rfl)
          rotate_left
          · (simp only [Act.put, List.setIfInBounds_toArray, List.set_cons_zero, List.set_cons_succ]; rfl)
          refine pure_ (i := 28) (N := (some 112)) (v := ?_) (a' := ?_) #[true, true, true, true, true, true, true, true, true, true, true, true, true, true, true, true, true, true, true, true, true, true, true, true, true, true, true, true, true, false, false, false, false, false, false] rfl rfl (by kernel_rfl) (fun _ _ _ h => h) (Or.inl ⟨by rfl, ?_⟩) ?_ ?_
          rotate_left
          · (intro w'; go_simp; with_reducible rfl)
          rotate_left
          · (simp only [Act.put, List.setIfInBounds_toArray, List.set_cons_zero, List.set_cons_succ]; rfl)
          refine take_ (i := 29) (N := (some 113)) (v := ?_) (a' := ?_) #[true, true, true, true, true, true, true, true, true, true, true, true, true, true, true, true, true, true, true, true, true, true, true, true, true, true, true, true, true, true, false, false, false, false, false] rfl rfl (by kernel_rfl) (fun _ _ _ h => h) (Or.inl ⟨by rfl, ?_⟩) hHeld ?_ ?_
          rotate_left
          · (rintro w' hSw; (try dsimp only at hSw); go_split_ands; go_simp; with_reducible rfl)
          rotate_left
          · (simp only [Act.put, List.setIfInBounds_toArray, List.set_cons_zero, List.set_cons_succ]; rfl)
          refine take_ (i := 31) (N := (some 115)) (v := ?_) (a' := ?_) #[true, true, true, true, true, true, true, true, true, true, true, true, true, true, true, true, true, true, true, true, true, true, true, true, true, true, true, true, true, true, false, true, false, false, false] rfl rfl (by kernel_rfl) (fun _ _ _ h => h) (Or.inl ⟨by rfl, ?_⟩) hHeld ?_ ?_
          rotate_left
          · (rintro w' hSw; (try dsimp only at hSw); go_split_ands; go_simp; with_reducible rfl)
          rotate_left
          · (simp only [Act.put, List.setIfInBounds_toArray, List.set_cons_zero, List.set_cons_succ]; rfl)
          refine pure_ (i := 32) (N := (some 116)) (v := ?_) (a' := ?_) #[true, true, true, true, true, true, true, true, true, true, true, true, true, true, true, true, true, true, true, true, true, true, true, true, true, true, true, true, true, true, false, true, true, false, false] rfl rfl (by kernel_rfl) (fun _ _ _ h => h) (Or.inl ⟨by rfl, ?_⟩) ?_ ?_
          rotate_left
          · (intro w'; go_simp; with_reducible rfl)
          rotate_left
          · (simp only [Act.put, List.setIfInBounds_toArray, List.set_cons_zero, List.set_cons_succ]; rfl)
          refine one_ (i := 30) (N := (some 114)) #[true, true, true, true, true, true, true, true, true, true, true, true, true, true, true, true, true, true, true, true, true, true, true, true, true, true, true, true, true, true, true, true, true, false, false] rfl rfl (by kernel_rfl) (by decide) (fun K hK => ?_)
          refine goes_ Try.func8 (by kernel_rfl) rfl #[.slice A5 l'.length cap5, .agg #[.int .u32 ((k : Int) + 1), .int .u32 1]] (by rfl) rfl rfl (by simp only [List.map_toArray, List.map_cons, List.map_nil]; rfl) ?_
          refine (drop_any (HO6.out.below hHeld.2.2.2) G2.out.ok ((k : Int) + 1, 1)).mono ?_
          rintro e wn ⟨v7, rfl, hbn, ho7⟩
          obtain ⟨A7, cap7, rfl, hr7⟩ := ho7.form
          have HR7 := Lib.hid hr7; clear hr7 ho7
          refine ⟨_, rfl, hK.out _ _ (keepS hHeld hbn hl0 hl1) (fun hHeld => ?_)⟩
          clear hK K hbn
          have hd7 := G2.out.ok.dropP ((k : Int) + 1, 1)
          have hg7 : counts (got (dropP l' ((k : Int) + 1, 1)) ((k : Int) + 1, 1)) t = false := by rw [got_dropP G2.out.ok]; rfl
          have HD7 := Lib.hid hd7; clear hd7
          have HG7 := Lib.hid hg7; clear hg7
          generalize dropP l' ((k : Int) + 1, 1) = d7 at HR7 HD7 HG7 ⊢
          refine norm_ (a' := ?_) ?_ ?_
          rotate_left
          · (show Act.put _ (some 114) _ = _; simp only [Act.put, List.setIfInBounds_toArray, List.set_cons_zero, List.set_cons_succ]; rfl)
          refine one_ (i := 33) (N := (some 117)) #[true, true, true, true, true, true, true, true, true, true, true, true, true, true, true, true, true, true, true, true, true, true, true, true, true, true, true, true, true, true, true, true, true, true, false] rfl rfl (by kernel_rfl) (by decide) (fun K hK => ?_)
          refine goes_ Try.func7 (by kernel_rfl) rfl #[.slice A7 d7.length cap7, .agg #[.int .u32 ((k : Int) + 1), .int .u32 1], .int .u64 t] (by rfl) rfl rfl (by simp only [List.map_toArray, List.map_cons, List.map_nil]; rfl) ?_
          have hcc := counts_any _ A7 cap7 d7 ((k : Int) + 1, 1) t (by omega) (by omega) HR7.out HD7.out
          rw [HG7.out] at hcc
          refine hcc.mono ?_
          clear hcc
          rintro e wn ⟨rfl, hbn⟩
          refine ⟨_, rfl, hK.out _ _ (keepS hHeld hbn hl0 hl1) (fun hHeld => ?_)⟩
          clear hK K hbn
          refine norm_ (a' := ?_) ?_ ?_
          rotate_left
          · (show Act.put _ (some 117) _ = _; simp only [Act.put, List.setIfInBounds_toArray, List.set_cons_zero, List.set_cons_succ]; rfl)
          refine pure_ (i := 34) (N := (some 118)) (v := ?_) (a' := ?_) #[true, true, true, true, true, true, true, true, true, true, true, true, true, true, true, true, true, true, true, true, true, true, true, true, true, true, true, true, true, true, true, true, true, true, true] rfl rfl (by kernel_rfl) (fun _ _ _ h => h) (Or.inl ⟨by rfl, ?_⟩) ?_ ?_
          rotate_left
          · (intro w'; go_simp; with_reducible rfl)
          rotate_left
          · (simp only [Act.put, List.setIfInBounds_toArray, List.set_cons_zero, List.set_cons_succ]; rfl)
          refine done_ (by kernel_rfl) ?_
          have hbl := hHeld.2.2.2
          clear hHeld e0 e1 e2 u1 u2
          go_wp2_with fail
          go_roundw
          case rel =>
            refine ⟨i + 1, t, l', _, _, ⟨by omega, by omega, by go_num, rfl, ht0, by omega, G2.out, HO6.out.below hbl, HS6.out.below hbl, HCH6.out.below hbl, hB6.trans (hbl.mono hB6.size)⟩⟩
          case measure => simp only [intOf]; omega
        · have tok : True := trivial
          have hbs := HC.out.cnt.sp_bounds hk8 (by omega) he
          have hbe : (1 + m == ch k) = true := by rw [beq_iff_eq]; exact he
          have hns : nextSpan sp ch k (1 + m) = 16 := by unfold nextSpan; rw [if_pos he, if_neg h16]
          have HNS := Lib.hid hns; clear hns
          have hsb := HC.out.cnt.bounds (k := k) hk8 (c := 1 + m) (by omega)
          rw [HNS.out] at hsb
          clear he
          go_wp2_with fail
          have hal := heap_alloc_new ((wr.setCell ⟨w.heap.size, k, none⟩ (.int .u64 16)).setCell ⟨w.heap.size + 1, k, none⟩ (.int .u64 (1 + m))) (.cells #[.int .u32 ((k : Int) + 1), .int .u32 1] 30)
          have hab : Below ((wr.setCell ⟨w.heap.size, k, none⟩ (.int .u64 16)).setCell ⟨w.heap.size + 1, k, none⟩ (.int .u64 (1 + m))).heap.size ((wr.setCell ⟨w.heap.size, k, none⟩ (.int .u64 16)).setCell ⟨w.heap.size + 1, k, none⟩ (.int .u64 (1 + m))) (((wr.setCell ⟨w.heap.size, k, none⟩ (.int .u64 16)).setCell ⟨w.heap.size + 1, k, none⟩ (.int .u64 (1 + m))).alloc (.cells #[.int .u32 ((k : Int) + 1), .int .u32 1] 30)) := (Below.refl _ _).alloc (Nat.le_refl _) _
          have hW1 : Below w.heap.size w ((wr.setCell ⟨w.heap.size, k, none⟩ (.int .u64 16)).setCell ⟨w.heap.size + 1, k, none⟩ (.int .u64 (1 + m))) := (HC.out.below.setCell (Nat.le_refl _) _).setCell (Nat.le_succ _) _
          have hsz : ((wr.setCell ⟨w.heap.size, k, none⟩ (.int .u64 16)).setCell ⟨w.heap.size + 1, k, none⟩ (.int .u64 (1 + m))).heap.size = wr.heap.size := by simp
          have hB4 := hW1.trans (hab.mono hW1.size)
          have HS4 := Lib.hid (((HC.out.sps.set hk8 16).other (c := w.heap.size + 1) (by omega) k (.int .u64 (1 + m))).below hab)
          have HCH4 := Lib.hid (((HC.out.chs.other (c := w.heap.size) (by omega) k (.int .u64 16)).set hk8 (1 + m)).below hab)
          have HO4 := Lib.hid (((HC.out.own.low (c := w.heap.size) (by omega) k (.int .u64 16)).low (c := w.heap.size + 1) (by omega) k (.int .u64 (1 + m))).below hab)
          rw [hsz] at hal
          clear hab hW1 hsz
          generalize ((wr.setCell ⟨w.heap.size, k, none⟩ (.int .u64 16)).setCell ⟨w.heap.size + 1, k, none⟩ (.int .u64 (1 + m))).alloc (.cells #[.int .u32 ((k : Int) + 1), .int .u32 1] 30) = W4 at hal hB4 HS4 HCH4 HO4 ⊢
          obtain ⟨g1, g2, g3⟩ := HC.out.cnt.step (k := k) hk8 (c := 1 + m) (now := t) (by omega) ht0 (by omega)
          rw [HNS.out] at g2 g3
          have hsb0 := Nat.lt_of_lt_of_le (lt_of_heap hal) (Nat.le_refl _)
          refine (tell_any HO4.out HC.out.cnt.ok (cf k (1 + m) t) ht0 (by show t ≤ _; omega) g1).mono ?_
          generalize hl' : insP (dropP l ((k : Int) + 1, 1)) (newF l (cf k (1 + m) t)) = l' at g2 g3
          rintro e w5 ⟨v5, rfl, hb5, ho5⟩
          replace ho5 : Own w5 W4.heap.size v5 l' := by rw [← hl']; exact ho5
          clear hl'
          have hB5 := hB4.trans (hb5.mono hB4.size)
          have HS5 := Lib.hid (HS4.out.below hb5)
          have HCH5 := Lib.hid (HCH4.out.below hb5)
          have HH5 := Lib.hid ((hb5.block _ (lt_of_heap hal)).trans hal)
          have HO5 := Lib.hid (ho5.base (show w.heap.size + 2 ≤ W4.heap.size by have := HCH4.out.1; omega)); clear ho5
          obtain ⟨A5, cap5, rfl, hr5⟩ := HO5.out.form
          have HR5 := Lib.hid hr5; clear hr5
          have G2 := Lib.hid g2; clear g2
          have G3 := Lib.hid g3; clear g3
          clear hal hB4 HS4 HCH4 HO4 hb5 g1
          go_wp2_with fail
          refine (may_true w5 A5 cap5 l' HR5.out G2.out.ok).mono ?_
          rintro e w6 ⟨rfl, hb6⟩
          have hB6 := (hB5.trans (hb6.mono hB5.size)).drew
          have HS6 : Hid (Arr w6.drew w.heap.size _) := Lib.hid (HS5.out.below hb6.drew)
          have HCH6 : Hid (Arr w6.drew (w.heap.size + 1) _) := Lib.hid (HCH5.out.below hb6.drew)
          have HH6 : Hid (w6.drew.heap[wr.heap.size]? = _) := Lib.hid ((hb6.drew.block _ (lt_of_heap HH5.out)).trans HH5.out)
          have HO6 : Hid (Own w6.drew _ _ _) := Lib.hid (HO5.out.below hb6.drew)
          have HR6 : Hid (Reads w6.drew A5 l') := Lib.hid (HR5.out.below hb6.drew)
          have e0 : w6.drew.cell? ⟨wr.heap.size, 0, none⟩ = some (.int .u32 ((k : Int) + 1)) := by rw [cell_of_row _ _ 0 _ _ _ HH6.out]; rfl
          have e1 : w6.drew.cell? ⟨wr.heap.size, 1, none⟩ = some (.int .u32 1) := by rw [cell_of_row _ _ 1 _ _ _ HH6.out]; rfl
          have e2 : w6.drew.cell? ⟨w.heap.size, k, none⟩ = some (.int .u64 16) := by have := (HS6.out.2 k hk8).1; rw [upd_same] at this; exact this
          have hl0 := lt_of_heap HH6.out
          have hl1 := HS6.out.1
          clear HS5 HCH5 HH5 HO5 HR5 hB5 hb6
          go_wp2_with fail
          have u1 : IntKind.u64.wrap (t + 16) = t + 16 := IntWalk.u64_in _ (by omega)
          have u2 : IntKind.u64.wrap (t + 16 - 1) = t + 16 - 1 := IntWalk.u64_in _ (by omega)
          have f1 : counts (got l' ((k : Int) + 1, 1)) t = true := by rw [G3.out]; exact counts_in (by omega)
          have f2 : counts (got l' ((k : Int) + 1, 1)) (t + 16 - 1) = true := by rw [G3.out]; exact counts_in (by omega)
          have f3 : counts (got l' ((k : Int) + 1, 1)) (t + 16) = false := by rw [G3.out]; exact counts_out (by omega) (by omega)
          have F1 := Lib.hid f1; clear f1
          have F2 := Lib.hid f2; clear f2
          have F3 := Lib.hid f3; clear f3
          refine start_ (n := 35) (S := (fun w' => w'.cell? ⟨wr.heap.size, 0, none⟩ = some (.int .u32 ((k : Int) + 1)) ∧ w'.cell? ⟨wr.heap.size, 1, none⟩ = some (.int .u32 1) ∧ w'.cell? ⟨w.heap.size, k, none⟩ = some (.int .u64 16) ∧ Below w6.drew.heap.size w6.drew w')) (ds := []) #[false, false, false, false, false, false, false, false, false, false, false, false, false, false, false, false, false, false, false, false, false, false, false, false, false, false, false, false, false, false, false, false, false, false, false] (by kernel_rfl) rfl rfl ⟨e0, e1, e2, Below.refl _ _⟩ (fun hHeld => ?_)
          refine pure_ (i := 0) (N := (some 84)) (v := ?_) (a' := ?_) #[true, false, false, false, false, false, false, false, false, false, false, false, false, false, false, false, false, false, false, false, false, false, false, false, false, false, false, false, false, false, false, false, false, false, false] rfl rfl (by kernel_rfl) (fun _ _ _ h => h) (Or.inl ⟨by rfl, ?_⟩) ?_ ?_
          rotate_left
          · (intro w'; go_simp; with_reducible rfl)
          rotate_left
          · (simp only [Act.put, List.setIfInBounds_toArray, List.set_cons_zero, List.set_cons_succ]; rfl)
          refine take_ (i := 1) (N := (some 85)) (v := ?_) (a' := ?_) #[true, true, false, false, false, false, false, false, false, false, false, false, false, false, false, false, false, false, false, false, false, false, false, false, false, false, false, false, false, false, false, false, false, false, false] rfl rfl (by kernel_rfl) (fun _ _ _ h => h) (Or.inl ⟨by rfl, ?_⟩) hHeld ?_ ?_
          rotate_left
          · (rintro w' hSw; (try dsimp only at hSw); go_split_ands; go_simp; with_reducible rfl)
          rotate_left
          · (simp only [Act.put, List.setIfInBounds_toArray, List.set_cons_zero, List.set_cons_succ]; rfl)
          refine pure_ (i := 2) (N := (some 86)) (v := ?_) (a' := ?_) #[true, true, true, false, false, false, false, false, false, false, false, false, false, false, false, false, false, false, false, false, false, false, false, false, false, false, false, false, false, false, false, false, false, false, false] rfl rfl (by kernel_rfl) (fun _ _ _ h => h) (Or.inl ⟨by rfl, ?_⟩) ?_ ?_
          rotate_left
          · (intro w'; go_simp; with_reducible rfl)
          rotate_left
          · (simp only [Act.put, List.setIfInBounds_toArray, List.set_cons_zero, List.set_cons_succ]; rfl)
          refine one_ (i := 3) (N := (some 87)) #[true, true, true, true, false, false, false, false, false, false, false, false, false, false, false, false, false, false, false, false, false, false, false, false, false, false, false, false, false, false, false, false, false, false, false] rfl rfl (by kernel_rfl) (by decide) (fun K hK => ?_)
          refine goes_ Try.func7 (by kernel_rfl) rfl #[.slice A5 l'.length cap5, .agg #[.int .u32 ((k : Int) + 1), .int .u32 1], .int .u64 t] (by rfl) rfl rfl (by simp only [List.map_toArray, List.map_cons, List.map_nil]; rfl) ?_
          generalize hwx : (_ : World) = Wx at hHeld ⊢
          clear hwx
          have hcc := counts_any _ A5 cap5 l' ((k : Int) + 1, 1) t (by omega) (by omega) (HR6.out.below hHeld.2.2.2) G2.out.ok
          rw [F1.out] at hcc
          refine hcc.mono ?_
          clear hcc
          rintro e wn ⟨rfl, hbn⟩
          refine ⟨_, rfl, hK.out _ _ (keepS hHeld hbn hl0 hl1) (fun hHeld => ?_)⟩
          clear hK K hbn
          refine norm_ (a' := ?_) ?_ ?_
          rotate_left
          · (show Act.put _ (some 87) _ = _; simp only [Act.put, List.setIfInBounds_toArray, List.set_cons_zero, List.set_cons_succ]; rfl)
          refine pure_ (i := 4) (N := (some 88)) (v := ?_) (a' := ?_) #[true, true, true, true, true, false, false, false, false, false, false, false, false, false, false, false, false, false, false, false, false, false, false, false, false, false, false, false, false, false, false, false, false, false, false] rfl rfl (by kernel_rfl) (fun _ _ _ h => h) (Or.inl ⟨by rfl, ?_⟩) ?_ ?_
          rotate_left
          · (intro w'; go_simp; with_reducible rfl)
          rotate_left
          · (simp only [Act.put, List.setIfInBounds_toArray, List.set_cons_zero, List.set_cons_succ]; rfl)
          refine pure_ (i := 5) (N := (some 89)) (v := ?_) (a' := ?_) #[true, true, true, true, true, true, false, false, false, false, false, false, false, false, false, false, false, false, false, false, false, false, false, false, false, false, false, false, false, false, false, false, false, false, false] rfl rfl (by kernel_rfl) (fun _ _ _ h => h) (Or.inl ⟨by rfl, ?_⟩) ?_ ?_
          rotate_left
          · (intro w'; go_simp; with_reducible rfl)
          rotate_left
          · (simp only [Act.put, List.setIfInBounds_toArray, List.set_cons_zero, List.set_cons_succ]; rfl)
          refine pure_ (i := 6) (N := (some 90)) (v := ?_) (a' := ?_) #[true, true, true, true, true, true, true, false, false, false, false, false, false, false, false, false, false, false, false, false, false, false, false, false, false, false, false, false, false, false, false, false, false, false, false] rfl rfl (by kernel_rfl) (fun _ _ _ h => h) (Or.inl ⟨by rfl, ?_⟩) ?_ ?_
          rotate_left
          · (intro w'; go_simp; with_reducible rfl)
          rotate_left
          · (simp only [Act.put, List.setIfInBounds_toArray, List.set_cons_zero, List.set_cons_succ]; rfl)
          refine take_ (i := 7) (N := (some 91)) (v := ?_) (a' := ?_) #[true, true, true, true, true, true, true, true, false, false, false, false, false, false, false, false, false, false, false, false, false, false, false, false, false, false, false, false, false, false, false, false, false, false, false] rfl rfl (by kernel_rfl) (fun _ _ _ h => h) (Or.inl ⟨by rfl, ?_⟩) hHeld ?_ ?_
          rotate_left
          · (rintro w' hSw; (try dsimp only at hSw); go_split_ands; go_simp; with_reducible rfl)
          rotate_left
          · (simp only [Act.put, List.setIfInBounds_toArray, List.set_cons_zero, List.set_cons_succ]; rfl)
          refine pure_ (i := 8) (N := (some 92)) (v := ?_) (a' := ?_) #[true, true, true, true, true, true, true, true, true, false, false, false, false, false, false, false, false, false, false, false, false, false, false, false, false, false, false, false, false, false, false, false, false, false, false] rfl rfl (by kernel_rfl) (fun _ _ _ h => h) (Or.inl ⟨by rfl, ?_⟩) ?_ ?_
          rotate_left
          · (intro w'; go_simp; with_reducible rfl)
          rotate_left
          · (simp only [Act.put, List.setIfInBounds_toArray, List.set_cons_zero, List.set_cons_succ]; rfl)
          refine pure_ (i := 9) (N := (some 93)) (v := ?_) (a' := ?_) #[true, true, true, true, true, true, true, true, true, true, false, false, false, false, false, false, false, false, false, false, false, false, false, false, false, false, false, false, false, false, false, false, false, false, false] rfl rfl (by kernel_rfl) (fun _ _ _ h => h) (Or.inl ⟨by rfl, ?_⟩) ?_ ?_
          rotate_left
          · (intro w'; go_simp; with_reducible rfl)
          rotate_left
          · (simp only [Act.put, List.setIfInBounds_toArray, List.set_cons_zero, List.set_cons_succ]; rfl)
          refine pure_ (i := 10) (N := (some 94)) (v := ?_) (a' := ?_) #[true, true, true, true, true, true, true, true, true, true, true, false, false, false, false, false, false, false, false, false, false, false, false, false, false, false, false, false, false, false, false, false, false, false, false] rfl rfl (by kernel_rfl) (fun _ _ _ h => h) (Or.inl ⟨by rfl, ?_⟩) ?_ ?_
          rotate_left
          · (intro w'; go_simp; with_reducible rfl)
          rotate_left
          · (simp only [Act.put, List.setIfInBounds_toArray, List.set_cons_zero, List.set_cons_succ]; rfl)
          refine take_ (i := 11) (N := (some 95)) (v := ?_) (a' := ?_) #[true, true, true, true, true, true, true, true, true, true, true, true, false, false, false, false, false, false, false, false, false, false, false, false, false, false, false, false, false, false, false, false, false, false, false] rfl rfl (by kernel_rfl) (fun _ _ _ h => h) (Or.inl ⟨by rfl, ?_⟩) hHeld ?_ ?_
          rotate_left
          · (rintro w' hSw; (try dsimp only at hSw); go_split_ands; go_simp; with_reducible rfl)
          rotate_left
          · (simp only [Act.put, List.setIfInBounds_toArray, List.set_cons_zero, List.set_cons_succ]; rfl)
          refine pure_ (i := 12) (N := (some 96)) (v := ?_) (a' := ?_) #[true, true, true, true, true, true, true, true, true, true, true, true, true, false, false, false, false, false, false, false, false, false, false, false, false, false, false, false, false, false, false, false, false, false, false] rfl rfl (by kernel_rfl) (fun _ _ _ h => h) (Or.inl ⟨by rfl, ?_⟩) ?_ ?_
          rotate_left
          · (intro w'; go_simp; with_reducible rfl)
          rotate_left
          · (simp only [Act.put, List.setIfInBounds_toArray, List.set_cons_zero, List.set_cons_succ]; rfl)
          refine pure_ (i := 13) (N := (some 97)) (v := ?_) (a' := ?_) #[true, true, true, true, true, true, true, true, true, true, true, true, true, true, false, false, false, false, false, false, false, false, false, false, false, false, false, false, false, false, false, false, false, false, false] rfl rfl (by kernel_rfl) (fun _ _ _ h => h) (Or.inl ⟨by rfl, ?_⟩) ?_ ?_
          rotate_left
          · (intro w'; go_simp; with_reducible rfl)
          rotate_left
          · (simp only [Act.put, List.setIfInBounds_toArray, List.set_cons_zero, List.set_cons_succ]; rfl)
          refine one_ (i := 14) (N := (some 98)) #[true, true, true, true, true, true, true, true, true, true, true, true, true, true, true, false, false, false, false, false, false, false, false, false, false, false, false, false, false, false, false, false, false, false, false] rfl rfl (by kernel_rfl) (by decide) (fun K hK => ?_)
          refine goes_ Try.func7 (by kernel_rfl) rfl #[.slice A5 l'.length cap5, .agg #[.int .u32 ((k : Int) + 1), .int .u32 1], .int .u64 (t + 16 - 1)] (by rfl) rfl rfl (by simp only [List.map_toArray, List.map_cons, List.map_nil]; rfl) ?_
          generalize hwx : (_ : World) = Wx at hHeld ⊢
          clear hwx
          have hcc := counts_any _ A5 cap5 l' ((k : Int) + 1, 1) (t + 16 - 1) (by omega) (by omega) (HR6.out.below hHeld.2.2.2) G2.out.ok
          rw [F2.out] at hcc
          refine hcc.mono ?_
          clear hcc
          rintro e wn ⟨rfl, hbn⟩
          refine ⟨_, rfl, hK.out _ _ (keepS hHeld hbn hl0 hl1) (fun hHeld => ?_)⟩
          clear hK K hbn
          refine norm_ (a' := ?_) ?_ ?_
          rotate_left
          · (show Act.put _ (some 98) _ = _; simp only [Act.put, List.setIfInBounds_toArray, List.set_cons_zero, List.set_cons_succ]; rfl)
          refine pure_ (i := 15) (N := (some 99)) (v := ?_) (a' := ?_) #[true, true, true, true, true, true, true, true, true, true, true, true, true, true, true, true, false, false, false, false, false, false, false, false, false, false, false, false, false, false, false, false, false, false, false] rfl rfl (by kernel_rfl) (fun _ _ _ h => h) (Or.inl ⟨by rfl, ?_⟩) ?_ ?_
          rotate_left
          · (intro w'; go_simp; with_reducible rfl)
          rotate_left
          · (simp only [Act.put, List.setIfInBounds_toArray, List.set_cons_zero, List.set_cons_succ]; rfl)
          refine pure_ (i := 16) (N := (some 100)) (v := ?_) (a' := ?_) #[true, true, true, true, true, true, true, true, true, true, true, true, true, true, true, true, true, false, false, false, false, false, false, false, false, false, false, false, false, false, false, false, false, false, false] rfl rfl (by kernel_rfl) (fun _ _ _ h => h) (Or.inl ⟨by rfl, ?_⟩) ?_ ?_
          rotate_left
          · (intro w'; go_simp; with_reducible rfl)
          rotate_left
          · (simp only [Act.put, List.setIfInBounds_toArray, List.set_cons_zero, List.set_cons_succ]; rfl)
          refine pure_ (i := 17) (N := (some 101)) (v := ?_) (a' := ?_) #[true, true, true, true, true, true, true, true, true, true, true, true, true, true, true, true, true, true, false, false, false, false, false, false, false, false, false, false, false, false, false, false, false, false, false] rfl rfl (by kernel_rfl) (fun _ _ _ h => h) (Or.inl ⟨by rfl, ?_⟩) ?_ ?_
          rotate_left
          · (intro w'; go_simp; with_reducible rfl)
          rotate_left
          · (simp only [Act.put, List.setIfInBounds_toArray, List.set_cons_zero, List.set_cons_succ]; rfl)
          refine pure_ (i := 18) (N := (some 102)) (v := ?_) (a' := ?_) #[true, true, true, true, true, true, true, true, true, true, true, true, true, true, true, true, true, true, true, false, false, false, false, false, false, false, false, false, false, false, false, false, false, false, false] rfl rfl (by kernel_rfl) (fun _ _ _ h => h) (Or.inl ⟨by rfl, ?_⟩) ?_ ?_
          rotate_left
          · (intro w'; go_simp; with_reducible rfl)
          rotate_left
          · (simp only [Act.put, List.setIfInBounds_toArray, List.set_cons_zero, List.set_cons_succ]; rfl)
          refine take_ (i := 19) (N := (some 103)) (v := ?_) (a' := ?_) #[true, true, true, true, true, true, true, true, true, true, true, true, true, true, true, true, true, true, true, true, false, false, false, false, false, false, false, false, false, false, false, false, false, false, false] rfl rfl (by kernel_rfl) (fun _ _ _ h => h) (Or.inl ⟨by rfl, ?_⟩) hHeld ?_ ?_
          rotate_left
          · (rintro w' hSw; (try dsimp only at hSw); go_split_ands; go_simp; with_reducible rfl)
          rotate_left
          · (simp only [Act.put, List.setIfInBounds_toArray, List.set_cons_zero, List.set_cons_succ]; rfl)
          refine pure_ (i := 20) (N := (some 104)) (v := ?_) (a' := ?_) #[true, true, true, true, true, true, true, true, true, true, true, true, true, true, true, true, true, true, true, true, true, false, false, false, false, false, false, false, false, false, false, false, false, false, false] rfl rfl (by kernel_rfl) (fun _ _ _ h => h) (Or.inl ⟨by rfl, ?_⟩) ?_ ?_
          rotate_left
          · (intro w'; go_simp; with_reducible rfl)
          rotate_left
          · (simp only [Act.put, List.setIfInBounds_toArray, List.set_cons_zero, List.set_cons_succ]; rfl)
          refine pure_ (i := 21) (N := (some 105)) (v := ?_) (a' := ?_) #[true, true, true, true, true, true, true, true, true, true, true, true, true, true, true, true, true, true, true, true, true, true, false, false, false, false, false, false, false, false, false, false, false, false, false] rfl rfl (by kernel_rfl) (fun _ _ _ h => h) (Or.inl ⟨by rfl, ?_⟩) ?_ ?_
          rotate_left
          · (intro w'; go_simp; with_reducible rfl)
          rotate_left
          · (simp only [Act.put, List.setIfInBounds_toArray, List.set_cons_zero, List.set_cons_succ]; rfl)
          refine pure_ (i := 22) (N := (some 106)) (v := ?_) (a' := ?_) #[true, true, true, true, true, true, true, true, true, true, true, true, true, true, true, true, true, true, true, true, true, true, true, false, false, false, false, false, false, false, false, false, false, false, false] rfl rfl (by kernel_rfl) (fun _ _ _ h => h) (Or.inl ⟨by rfl, ?_⟩) ?_ ?_
          rotate_left
          · (intro w'; go_simp; with_reducible rfl)
          rotate_left
          · (simp only [Act.put, List.setIfInBounds_toArray, List.set_cons_zero, List.set_cons_succ]; rfl)
          refine take_ (i := 23) (N := (some 107)) (v := ?_) (a' := ?_) #[true, true, true, true, true, true, true, true, true, true, true, true, true, true, true, true, true, true, true, true, true, true, true, true, false, false, false, false, false, false, false, false, false, false, false] rfl rfl (by kernel_rfl) (fun _ _ _ h => h) (Or.inl ⟨by rfl, ?_⟩) hHeld ?_ ?_
          rotate_left
          · (rintro w' hSw; (try dsimp only at hSw); go_split_ands; go_simp; with_reducible rfl)
          rotate_left
          · (simp only [Act.put, List.setIfInBounds_toArray, List.set_cons_zero, List.set_cons_succ]; rfl)
          refine pure_ (i := 24) (N := (some 108)) (v := ?_) (a' := ?_) #[true, true, true, true, true, true, true, true, true, true, true, true, true, true, true, true, true, true, true, true, true, true, true, true, true, false, false, false, false, false, false, false, false, false, false] rfl rfl (by kernel_rfl) (fun _ _ _ h => h) (Or.inl ⟨by rfl, ?_⟩) ?_ ?_
          rotate_left
          · (intro w'; go_simp; with_reducible rfl)
          rotate_left
          · (simp only [Act.put, List.setIfInBounds_toArray, List.set_cons_zero, List.set_cons_succ]; rfl)
          refine one_ (i := 25) (N := (some 109)) #[true, true, true, true, true, true, true, true, true, true, true, true, true, true, true, true, true, true, true, true, true, true, true, true, true, true, false, false, false, false, false, false, false, false, false] rfl rfl (by kernel_rfl) (by decide) (fun K hK => ?_)
          refine goes_ Try.func7 (by kernel_rfl) rfl #[.slice A5 l'.length cap5, .agg #[.int .u32 ((k : Int) + 1), .int .u32 1], .int .u64 (t + 16)] (by rfl) rfl rfl (by simp only [List.map_toArray, List.map_cons, List.map_nil]; rfl) ?_
          generalize hwx : (_ : World) = Wx at hHeld ⊢
          clear hwx
          have hcc := counts_any _ A5 cap5 l' ((k : Int) + 1, 1) (t + 16) (by omega) (by omega) (HR6.out.below hHeld.2.2.2) G2.out.ok
          rw [F3.out] at hcc
          refine hcc.mono ?_
          clear hcc
          rintro e wn ⟨rfl, hbn⟩
          refine ⟨_, rfl, hK.out _ _ (keepS hHeld hbn hl0 hl1) (fun hHeld => ?_)⟩
          clear hK K hbn
          refine norm_ (a' := ?_) ?_ ?_
          rotate_left
          · (show Act.put _ (some 109) _ = _; simp only [Act.put, List.setIfInBounds_toArray, List.set_cons_zero, List.set_cons_succ]; rfl)
          refine pure_ (i := 26) (N := (some 110)) (v := ?_) (a' := ?_) #[true, true, true, true, true, true, true, true, true, true, true, true, true, true, true, true, true, true, true, true, true, true, true, true, true, true, true, false, false, false, false, false, false, false, false] rfl rfl (by kernel_rfl) (fun _ _ _ h => h) (Or.inl ⟨by rfl, ?_⟩) ?_ ?_
          rotate_left
          · (intro w'; go_simp; with_reducible rfl)
          rotate_left
          · (simp only [Act.put, List.setIfInBounds_toArray, List.set_cons_zero, List.set_cons_succ]; rfl)
          refine pure_ (i := 27) (N := (some 111)) (v := ?_) (a' := ?_) #[true, true, true, true, true, true, true, true, true, true, true, true, true, true, true, true, true, true, true, true, true, true, true, true, true, true, true, true, false, false, false, false, false, false, false] rfl rfl (by kernel_rfl) (fun _ _ _ h => h) (Or.inl ⟨by rfl, ?_⟩) ?_ ?_
          rotate_left
          · (intro w'; go_simp; with_reducible rfl)
          rotate_left
          · (simp only [Act.put, List.setIfInBounds_toArray, List.set_cons_zero, List.set_cons_succ]; rfl)
          refine pure_ (i := 28) (N := (some 112)) (v := ?_) (a' := ?_) #[true, true, true, true, true, true, true, true, true, true, true, true, true, true, true, true, true, true, true, true, true, true, true, true, true, true, true, true, true, false, false, false, false, false, false] rfl rfl (by kernel_rfl) (fun _ _ _ h => h) (Or.inl ⟨by rfl, ?_⟩) ?_ ?_
          rotate_left
          · (intro w'; go_simp; with_reducible rfl)
          rotate_left
          · (simp only [Act.put, List.setIfInBounds_toArray, List.set_cons_zero, List.set_cons_succ]; rfl)
          refine take_ (i := 29) (N := (some 113)) (v := ?_) (a' := ?_) #[true, true, true, true, true, true, true, true, true, true, true, true, true, true, true, true, true, true, true, true, true, true, true, true, true, true, true, true, true, true, false, false, false, false, false] rfl rfl (by kernel_rfl) (fun _ _ _ h => h) (Or.inl ⟨by rfl, ?_⟩) hHeld ?_ ?_
          rotate_left
          · (rintro w' hSw; (try dsimp only at hSw); go_split_ands; go_simp; with_reducible rfl)
          rotate_left
          · (simp only [Act.put, List.setIfInBounds_toArray, List.set_cons_zero, List.set_cons_succ]; rfl)
          refine take_ (i := 31) (N := (some 115)) (v := ?_) (a' := ?_) #[true, true, true, true, true, true, true, true, true, true, true, true, true, true, true, true, true, true, true, true, true, true, true, true, true, true, true, true, true, true, false, true, false, false, false] rfl rfl (by kernel_rfl) (fun _ _ _ h => h) (Or.inl ⟨by rfl, ?_⟩) hHeld ?_ ?_
          rotate_left
          · (rintro w' hSw; (try dsimp only at hSw); go_split_ands; go_simp; with_reducible rfl)
          rotate_left
          · (simp only [Act.put, List.setIfInBounds_toArray, List.set_cons_zero, List.set_cons_succ]; rfl)
          refine pure_ (i := 32) (N := (some 116)) (v := ?_) (a' := ?_) #[true, true, true, true, true, true, true, true, true, true, true, true, true, true, true, true, true, true, true, true, true, true, true, true, true, true, true, true, true, true, false, true, true, false, false] rfl rfl (by kernel_rfl) (fun _ _ _ h => h) (Or.inl ⟨by rfl, ?_⟩) ?_ ?_
          rotate_left
          · (intro w'; go_simp; with_reducible rfl)
          rotate_left
          · (simp only [Act.put, List.setIfInBounds_toArray, List.set_cons_zero, List.set_cons_succ]; rfl)
          refine one_ (i := 30) (N := (some 114)) #[true, true, true, true, true, true, true, true, true, true, true, true, true, true, true, true, true, true, true, true, true, true, true, true, true, true, true, true, true, true, true, true, true, false, false] rfl rfl (by kernel_rfl) (by decide) (fun K hK => ?_)
          refine goes_ Try.func8 (by kernel_rfl) rfl #[.slice A5 l'.length cap5, .agg #[.int .u32 ((k : Int) + 1), .int .u32 1]] (by rfl) rfl rfl (by simp only [List.map_toArray, List.map_cons, List.map_nil]; rfl) ?_
          refine (drop_any (HO6.out.below hHeld.2.2.2) G2.out.ok ((k : Int) + 1, 1)).mono ?_
          rintro e wn ⟨v7, rfl, hbn, ho7⟩
          obtain ⟨A7, cap7, rfl, hr7⟩ := ho7.form
          have HR7 := Lib.hid hr7; clear hr7 ho7
          refine ⟨_, rfl, hK.out _ _ (keepS hHeld hbn hl0 hl1) (fun hHeld => ?_)⟩
          clear hK K hbn
          have hd7 := G2.out.ok.dropP ((k : Int) + 1, 1)
          have hg7 : counts (got (dropP l' ((k : Int) + 1, 1)) ((k : Int) + 1, 1)) t = false := by rw [got_dropP G2.out.ok]; rfl
          have HD7 := Lib.hid hd7; clear hd7
          have HG7 := Lib.hid hg7; clear hg7
          generalize dropP l' ((k : Int) + 1, 1) = d7 at HR7 HD7 HG7 ⊢
          refine norm_ (a' := ?_) ?_ ?_
          rotate_left
          · (show Act.put _ (some 114) _ = _; simp only [Act.put, List.setIfInBounds_toArray, List.set_cons_zero, List.set_cons_succ]; rfl)
          refine one_ (i := 33) (N := (some 117)) #[true, true, true, true, true, true, true, true, true, true, true, true, true, true, true, true, true, true, true, true, true, true, true, true, true, true, true, true, true, true, true, true, true, true, false] rfl rfl (by kernel_rfl) (by decide) (fun K hK => ?_)
          refine goes_ Try.func7 (by kernel_rfl) rfl #[.slice A7 d7.length cap7, .agg #[.int .u32 ((k : Int) + 1), .int .u32 1], .int .u64 t] (by rfl) rfl rfl (by simp only [List.map_toArray, List.map_cons, List.map_nil]; rfl) ?_
          have hcc := counts_any _ A7 cap7 d7 ((k : Int) + 1, 1) t (by omega) (by omega) HR7.out HD7.out
          rw [HG7.out] at hcc
          refine hcc.mono ?_
          clear hcc
          rintro e wn ⟨rfl, hbn⟩
          refine ⟨_, rfl, hK.out _ _ (keepS hHeld hbn hl0 hl1) (fun hHeld => ?_)⟩
          clear hK K hbn
          refine norm_ (a' := ?_) ?_ ?_
          rotate_left
          · (show Act.put _ (some 117) _ = _; simp only [Act.put, List.setIfInBounds_toArray, List.set_cons_zero, List.set_cons_succ]; rfl)
          refine pure_ (i := 34) (N := (some 118)) (v := ?_) (a' := ?_) #[true, true, true, true, true, true, true, true, true, true, true, true, true, true, true, true, true, true, true, true, true, true, true, true, true, true, true, true, true, true, true, true, true, true, true] rfl rfl (by kernel_rfl) (fun _ _ _ h => h) (Or.inl ⟨by rfl, ?_⟩) ?_ ?_
          rotate_left
          · (intro w'; go_simp; with_reducible rfl)
          rotate_left
          · (simp only [Act.put, List.setIfInBounds_toArray, List.set_cons_zero, List.set_cons_succ]; rfl)
          refine done_ (by kernel_rfl) ?_
          have hbl := hHeld.2.2.2
          clear hHeld e0 e1 e2 u1 u2
          go_wp2_with fail
          go_roundw
          case rel =>
            refine ⟨i + 1, t, l', _, _, ⟨by omega, by omega, by go_num, rfl, ht0, by omega, G2.out, HO6.out.below hbl, HS6.out.below hbl, HCH6.out.below hbl, hB6.trans (hbl.mono hB6.size)⟩⟩
          case measure => simp only [intOf]; omega
        · have tok : True := trivial
          have hbe : (1 + m == ch k) = false := by rw [beq_eq_false_iff_ne]; exact he
          have hns : nextSpan sp ch k (1 + m) = 2 := by unfold nextSpan; rw [if_neg he]
          have HNS := Lib.hid hns; clear hns
          have hsb := HC.out.cnt.bounds (k := k) hk8 (c := 1 + m) (by omega)
          rw [HNS.out] at hsb
          clear he
          go_wp2_with fail
          have hal := heap_alloc_new ((wr.setCell ⟨w.heap.size, k, none⟩ (.int .u64 2)).setCell ⟨w.heap.size + 1, k, none⟩ (.int .u64 (1 + m))) (.cells #[.int .u32 ((k : Int) + 1), .int .u32 1] 30)
          have hab : Below ((wr.setCell ⟨w.heap.size, k, none⟩ (.int .u64 2)).setCell ⟨w.heap.size + 1, k, none⟩ (.int .u64 (1 + m))).heap.size ((wr.setCell ⟨w.heap.size, k, none⟩ (.int .u64 2)).setCell ⟨w.heap.size + 1, k, none⟩ (.int .u64 (1 + m))) (((wr.setCell ⟨w.heap.size, k, none⟩ (.int .u64 2)).setCell ⟨w.heap.size + 1, k, none⟩ (.int .u64 (1 + m))).alloc (.cells #[.int .u32 ((k : Int) + 1), .int .u32 1] 30)) := (Below.refl _ _).alloc (Nat.le_refl _) _
          have hW1 : Below w.heap.size w ((wr.setCell ⟨w.heap.size, k, none⟩ (.int .u64 2)).setCell ⟨w.heap.size + 1, k, none⟩ (.int .u64 (1 + m))) := (HC.out.below.setCell (Nat.le_refl _) _).setCell (Nat.le_succ _) _
          have hsz : ((wr.setCell ⟨w.heap.size, k, none⟩ (.int .u64 2)).setCell ⟨w.heap.size + 1, k, none⟩ (.int .u64 (1 + m))).heap.size = wr.heap.size := by simp
          have hB4 := hW1.trans (hab.mono hW1.size)
          have HS4 := Lib.hid (((HC.out.sps.set hk8 2).other (c := w.heap.size + 1) (by omega) k (.int .u64 (1 + m))).below hab)
          have HCH4 := Lib.hid (((HC.out.chs.other (c := w.heap.size) (by omega) k (.int .u64 2)).set hk8 (1 + m)).below hab)
          have HO4 := Lib.hid (((HC.out.own.low (c := w.heap.size) (by omega) k (.int .u64 2)).low (c := w.heap.size + 1) (by omega) k (.int .u64 (1 + m))).below hab)
          rw [hsz] at hal
          clear hab hW1 hsz
          generalize ((wr.setCell ⟨w.heap.size, k, none⟩ (.int .u64 2)).setCell ⟨w.heap.size + 1, k, none⟩ (.int .u64 (1 + m))).alloc (.cells #[.int .u32 ((k : Int) + 1), .int .u32 1] 30) = W4 at hal hB4 HS4 HCH4 HO4 ⊢
          obtain ⟨g1, g2, g3⟩ := HC.out.cnt.step (k := k) hk8 (c := 1 + m) (now := t) (by omega) ht0 (by omega)
          rw [HNS.out] at g2 g3
          have hsb0 := Nat.lt_of_lt_of_le (lt_of_heap hal) (Nat.le_refl _)
          refine (tell_any HO4.out HC.out.cnt.ok (cf k (1 + m) t) ht0 (by show t ≤ _; omega) g1).mono ?_
          generalize hl' : insP (dropP l ((k : Int) + 1, 1)) (newF l (cf k (1 + m) t)) = l' at g2 g3
          rintro e w5 ⟨v5, rfl, hb5, ho5⟩
          replace ho5 : Own w5 W4.heap.size v5 l' := by rw [← hl']; exact ho5
          clear hl'
          have hB5 := hB4.trans (hb5.mono hB4.size)
          have HS5 := Lib.hid (HS4.out.below hb5)
          have HCH5 := Lib.hid (HCH4.out.below hb5)
          have HH5 := Lib.hid ((hb5.block _ (lt_of_heap hal)).trans hal)
          have HO5 := Lib.hid (ho5.base (show w.heap.size + 2 ≤ W4.heap.size by have := HCH4.out.1; omega)); clear ho5
          obtain ⟨A5, cap5, rfl, hr5⟩ := HO5.out.form
          have HR5 := Lib.hid hr5; clear hr5
          have G2 := Lib.hid g2; clear g2
          have G3 := Lib.hid g3; clear g3
          clear hal hB4 HS4 HCH4 HO4 hb5 g1
          go_wp2_with fail
          refine (may_true w5 A5 cap5 l' HR5.out G2.out.ok).mono ?_
          rintro e w6 ⟨rfl, hb6⟩
          have hB6 := (hB5.trans (hb6.mono hB5.size)).drew
          have HS6 : Hid (Arr w6.drew w.heap.size _) := Lib.hid (HS5.out.below hb6.drew)
          have HCH6 : Hid (Arr w6.drew (w.heap.size + 1) _) := Lib.hid (HCH5.out.below hb6.drew)
          have HH6 : Hid (w6.drew.heap[wr.heap.size]? = _) := Lib.hid ((hb6.drew.block _ (lt_of_heap HH5.out)).trans HH5.out)
          have HO6 : Hid (Own w6.drew _ _ _) := Lib.hid (HO5.out.below hb6.drew)
          have HR6 : Hid (Reads w6.drew A5 l') := Lib.hid (HR5.out.below hb6.drew)
          have e0 : w6.drew.cell? ⟨wr.heap.size, 0, none⟩ = some (.int .u32 ((k : Int) + 1)) := by rw [cell_of_row _ _ 0 _ _ _ HH6.out]; rfl
          have e1 : w6.drew.cell? ⟨wr.heap.size, 1, none⟩ = some (.int .u32 1) := by rw [cell_of_row _ _ 1 _ _ _ HH6.out]; rfl
          have e2 : w6.drew.cell? ⟨w.heap.size, k, none⟩ = some (.int .u64 2) := by have := (HS6.out.2 k hk8).1; rw [upd_same] at this; exact this
          have hl0 := lt_of_heap HH6.out
          have hl1 := HS6.out.1
          clear HS5 HCH5 HH5 HO5 HR5 hB5 hb6
          go_wp2_with fail
          have u1 : IntKind.u64.wrap (t + 2) = t + 2 := IntWalk.u64_in _ (by omega)
          have u2 : IntKind.u64.wrap (t + 2 - 1) = t + 2 - 1 := IntWalk.u64_in _ (by omega)
          have f1 : counts (got l' ((k : Int) + 1, 1)) t = true := by rw [G3.out]; exact counts_in (by omega)
          have f2 : counts (got l' ((k : Int) + 1, 1)) (t + 2 - 1) = true := by rw [G3.out]; exact counts_in (by omega)
          have f3 : counts (got l' ((k : Int) + 1, 1)) (t + 2) = false := by rw [G3.out]; exact counts_out (by omega) (by omega)
          have F1 := Lib.hid f1; clear f1
          have F2 := Lib.hid f2; clear f2
          have F3 := Lib.hid f3; clear f3
          refine start_ (n := 35) (S := (fun w' => w'.cell? ⟨wr.heap.size, 0, none⟩ = some (.int .u32 ((k : Int) + 1)) ∧ w'.cell? ⟨wr.heap.size, 1, none⟩ = some (.int .u32 1) ∧ w'.cell? ⟨w.heap.size, k, none⟩ = some (.int .u64 2) ∧ Below w6.drew.heap.size w6.drew w')) (ds := []) #[false, false, false, false, false, false, false, false, false, false, false, false, false, false, false, false, false, false, false, false, false, false, false, false, false, false, false, false, false, false, false, false, false, false, false] (by kernel_rfl) rfl rfl ⟨e0, e1, e2, Below.refl _ _⟩ (fun hHeld => ?_)
          refine pure_ (i := 0) (N := (some 84)) (v := ?_) (a' := ?_) #[true, false, false, false, false, false, false, false, false, false, false, false, false, false, false, false, false, false, false, false, false, false, false, false, false, false, false, false, false, false, false, false, false, false, false] rfl rfl (by kernel_rfl) (fun _ _ _ h => h) (Or.inl ⟨by rfl, ?_⟩) ?_ ?_
          rotate_left
          · (intro w'; go_simp; with_reducible rfl)
          rotate_left
          · (simp only [Act.put, List.setIfInBounds_toArray, List.set_cons_zero, List.set_cons_succ]; rfl)
          refine take_ (i := 1) (N := (some 85)) (v := ?_) (a' := ?_) #[true, true, false, false, false, false, false, false, false, false, false, false, false, false, false, false, false, false, false, false, false, false, false, false, false, false, false, false, false, false, false, false, false, false, false] rfl rfl (by kernel_rfl) (fun _ _ _ h => h) (Or.inl ⟨by rfl, ?_⟩) hHeld ?_ ?_
          rotate_left
          · (rintro w' hSw; (try dsimp only at hSw); go_split_ands; go_simp; with_reducible rfl)
          rotate_left
          · (simp only [Act.put, List.setIfInBounds_toArray, List.set_cons_zero, List.set_cons_succ]; rfl)
          refine pure_ (i := 2) (N := (some 86)) (v := ?_) (a' := ?_) #[true, true, true, false, false, false, false, false, false, false, false, false, false, false, false, false, false, false, false, false, false, false, false, false, false, false, false, false, false, false, false, false, false, false, false] rfl rfl (by kernel_rfl) (fun _ _ _ h => h) (Or.inl ⟨by rfl, ?_⟩) ?_ ?_
          rotate_left
          · (intro w'; go_simp; with_reducible rfl)
          rotate_left
          · (simp only [Act.put, List.setIfInBounds_toArray, List.set_cons_zero, List.set_cons_succ]; rfl)
          refine one_ (i := 3) (N := (some 87)) #[true, true, true, true, false, false, false, false, false, false, false, false, false, false, false, false, false, false, false, false, false, false, false, false, false, false, false, false, false, false, false, false, false, false, false] rfl rfl (by kernel_rfl) (by decide) (fun K hK => ?_)
          refine goes_ Try.func7 (by kernel_rfl) rfl #[.slice A5 l'.length cap5, .agg #[.int .u32 ((k : Int) + 1), .int .u32 1], .int .u64 t] (by rfl) rfl rfl (by simp only [List.map_toArray, List.map_cons, List.map_nil]; rfl) ?_
          generalize hwx : (_ : World) = Wx at hHeld ⊢
          clear hwx
          have hcc := counts_any _ A5 cap5 l' ((k : Int) + 1, 1) t (by omega) (by omega) (HR6.out.below hHeld.2.2.2) G2.out.ok
          rw [F1.out] at hcc
          refine hcc.mono ?_
          clear hcc
          rintro e wn ⟨rfl, hbn⟩
          refine ⟨_, rfl, hK.out _ _ (keepS hHeld hbn hl0 hl1) (fun hHeld => ?_)⟩
          clear hK K hbn
          refine norm_ (a' := ?_) ?_ ?_
          rotate_left
          · (show Act.put _ (some 87) _ = _; simp only [Act.put, List.setIfInBounds_toArray, List.set_cons_zero, List.set_cons_succ]; rfl)
          refine pure_ (i := 4) (N := (some 88)) (v := ?_) (a' := ?_) #[true, true, true, true, true, false, false, false, false, false, false, false, false, false, false, false, false, false, false, false, false, false, false, false, false, false, false, false, false, false, false, false, false, false, false] rfl rfl (by kernel_rfl) (fun _ _ _ h => h) (Or.inl ⟨by rfl, ?_⟩) ?_ ?_
          rotate_left
          · (intro w'; go_simp; with_reducible rfl)
          rotate_left
          · (simp only [Act.put, List.setIfInBounds_toArray, List.set_cons_zero, List.set_cons_succ]; rfl)
          refine pure_ (i := 5) (N := (some 89)) (v := ?_) (a' := ?_) #[true, true, true, true, true, true, false, false, false, false, false, false, false, false, false, false, false, false, false, false, false, false, false, false, false, false, false, false, false, false, false, false, false, false, false] rfl rfl (by kernel_rfl) (fun _ _ _ h => h) (Or.inl ⟨by rfl, ?_⟩) ?_ ?_
          rotate_left
          · (intro w'; go_simp; with_reducible rfl)
          rotate_left
          · (simp only [Act.put, List.setIfInBounds_toArray, List.set_cons_zero, List.set_cons_succ]; rfl)
          refine pure_ (i := 6) (N := (some 90)) (v := ?_) (a' := ?_) #[true, true, true, true, true, true, true, false, false, false, false, false, false, false, false, false, false, false, false, false, false, false, false, false, false, false, false, false, false, false, false, false, false, false, false] rfl rfl (by kernel_rfl) (fun _ _ _ h => h) (Or.inl ⟨by rfl, ?_⟩) ?_ ?_
          rotate_left
          · (intro w'; go_simp; with_reducible rfl)
          rotate_left
          · (simp only [Act.put, List.setIfInBounds_toArray, List.set_cons_zero, List.set_cons_succ]; rfl)
          refine take_ (i := 7) (N := (some 91)) (v := ?_) (a' := ?_) #[true, true, true, true, true, true, true, true, false, false, false, false, false, false, false, false, false, false, false, false, false, false, false, false, false, false, false, false, false, false, false, false, false, false, false] rfl rfl (by kernel_rfl) (fun _ _ _ h => h) (Or.inl ⟨by rfl, ?_⟩) hHeld ?_ ?_
          rotate_left
          · (rintro w' hSw; (try dsimp only at hSw); go_split_ands; go_simp; with_reducible rfl)
          rotate_left
          · (simp only [Act.put, List.setIfInBounds_toArray, List.set_cons_zero, List.set_cons_succ]; rfl)
          refine pure_ (i := 8) (N := (some 92)) (v := ?_) (a' := ?_) #[true, true, true, true, true, true, true, true, true, false, false, false, false, false, false, false, false, false, false, false, false, false, false, false, false, false, false, false, false, false, false, false, false, false, false] rfl rfl (by kernel_rfl) (fun _ _ _ h => h) (Or.inl ⟨by rfl, ?_⟩) ?_ ?_
          rotate_left
          · (intro w'; go_simp; with_reducible rfl)
          rotate_left
          · (simp only [Act.put, List.setIfInBounds_toArray, List.set_cons_zero, List.set_cons_succ]; rfl)
          refine pure_ (i := 9) (N := (some 93)) (v := ?_) (a' := ?_) #[true, true, true, true, true, true, true, true, true, true, false, false, false, false, false, false, false, false, false, false, false, false, false, false, false, false, false, false, false, false, false, false, false, false, false] rfl rfl (by kernel_rfl) (fun _ _ _ h => h) (Or.inl ⟨by rfl, ?_⟩) ?_ ?_
          rotate_left
          · (intro w'; go_simp; with_reducible rfl)
          rotate_left
          · (simp only [Act.put, List.setIfInBounds_toArray, List.set_cons_zero, List.set_cons_succ]; rfl)
          refine pure_ (i := 10) (N := (some 94)) (v := ?_) (a' := ?_) #[true, true, true, true, true, true, true, true, true, true, true, false, false, false, false, false, false, false, false, false, false, false, false, false, false, false, false, false, false, false, false, false, false, false, false] rfl rfl (by kernel_rfl) (fun _ _ _ h => h) (Or.inl ⟨by rfl, ?_⟩) ?_ ?_
          rotate_left
          · (intro w'; go_simp; with_reducible rfl)
          rotate_left
          · (simp only [Act.put, List.setIfInBounds_toArray, List.set_cons_zero, List.set_cons_succ]; rfl)
          refine take_ (i := 11) (N := (some 95)) (v := ?_) (a' := ?_) #[true, true, true, true, true, true, true, true, true, true, true, true, false, false, false, false, false, false, false, false, false, false, false, false, false, false, false, false, false, false, false, false, false, false, false] rfl rfl (by kernel_rfl) (fun _ _ _ h => h) (Or.inl ⟨by rfl, ?_⟩) hHeld ?_ ?_
          rotate_left
          · (rintro w' hSw; (try dsimp only at hSw); go_split_ands; go_simp; with_reducible rfl)
          rotate_left
          · (simp only [Act.put, List.setIfInBounds_toArray, List.set_cons_zero, List.set_cons_succ]; rfl)
          refine pure_ (i := 12) (N := (some 96)) (v := ?_) (a' := ?_) #[true, true, true, true, true, true, true, true, true, true, true, true, true, false, false, false, false, false, false, false, false, false, false, false, false, false, false, false, false, false, false, false, false, false, false] rfl rfl (by kernel_rfl) (fun _ _ _ h => h) (Or.inl ⟨by rfl, ?_⟩) ?_ ?_
          rotate_left
          · (intro w'; go_simp; with_reducible rfl)
          rotate_left
          · (simp only [Act.put, List.setIfInBounds_toArray, List.set_cons_zero, List.set_cons_succ]; rfl)
          refine pure_ (i := 13) (N := (some 97)) (v := ?_) (a' := ?_) #[true, true, true, true, true, true, true, true, true, true, true, true, true, true, false, false, false, false, false, false, false, false, false, false, false, false, false, false, false, false, false, false, false, false, false] rfl rfl (by kernel_rfl) (fun _ _ _ h => h) (Or.inl ⟨by rfl, ?_⟩) ?_ ?_
          rotate_left
          · (intro w'; go_simp; with_reducible rfl)
          rotate_left
          · (simp only [Act.put, List.setIfInBounds_toArray, List.set_cons_zero, List.set_cons_succ]; rfl)
          refine one_ (i := 14) (N := (some 98)) #[true, true, true, true, true, true, true, true, true, true, true, true, true, true, true, false, false, false, false, false, false, false, false, false, false, false, false, false, false, false, false, false, false, false, false] rfl rfl (by kernel_rfl) (by decide) (fun K hK => ?_)
          refine goes_ Try.func7 (by kernel_rfl) rfl #[.slice A5 l'.length cap5, .agg #[.int .u32 ((k : Int) + 1), .int .u32 1], .int .u64 (t + 2 - 1)] (by rfl) rfl rfl (by simp only [List.map_toArray, List.map_cons, List.map_nil]; rfl) ?_
          generalize hwx : (_ : World) = Wx at hHeld ⊢
          clear hwx
          have hcc := counts_any _ A5 cap5 l' ((k : Int) + 1, 1) (t + 2 - 1) (by omega) (by omega) (HR6.out.below hHeld.2.2.2) G2.out.ok
          rw [F2.out] at hcc
          refine hcc.mono ?_
          clear hcc
          rintro e wn ⟨rfl, hbn⟩
          refine ⟨_, rfl, hK.out _ _ (keepS hHeld hbn hl0 hl1) (fun hHeld => ?_)⟩
          clear hK K hbn
          refine norm_ (a' := ?_) ?_ ?_
          rotate_left
          · (show Act.put _ (some 98) _ = _; simp only [Act.put, List.setIfInBounds_toArray, List.set_cons_zero, List.set_cons_succ]; rfl)
          refine pure_ (i := 15) (N := (some 99)) (v := ?_) (a' := ?_) #[true, true, true, true, true, true, true, true, true, true, true, true, true, true, true, true, false, false, false, false, false, false, false, false, false, false, false, false, false, false, false, false, false, false, false] rfl rfl (by kernel_rfl) (fun _ _ _ h => h) (Or.inl ⟨by rfl, ?_⟩) ?_ ?_
          rotate_left
          · (intro w'; go_simp; with_reducible rfl)
          rotate_left
          · (simp only [Act.put, List.setIfInBounds_toArray, List.set_cons_zero, List.set_cons_succ]; rfl)
          refine pure_ (i := 16) (N := (some 100)) (v := ?_) (a' := ?_) #[true, true, true, true, true, true, true, true, true, true, true, true, true, true, true, true, true, false, false, false, false, false, false, false, false, false, false, false, false, false, false, false, false, false, false] rfl rfl (by kernel_rfl) (fun _ _ _ h => h) (Or.inl ⟨by rfl, ?_⟩) ?_ ?_
          rotate_left
          · (intro w'; go_simp; with_reducible rfl)
          rotate_left
          · (simp only [Act.put, List.setIfInBounds_toArray, List.set_cons_zero, List.set_cons_succ]; rfl)
          refine pure_ (i := 17) (N := (some 101)) (v := ?_) (a' := ?_) #[true, true, true, true, true, true, true, true, true, true, true, true, true, true, true, true, true, true, false, false, false, false, false, false, false, false, false, false, false, false, false, false, false, false, false] rfl rfl (by kernel_rfl) (fun _ _ _ h => h) (Or.inl ⟨by rfl, ?_⟩) ?_ ?_
          rotate_left
          · (intro w'; go_simp; with_reducible rfl)
          rotate_left
          · (simp only [Act.put, List.setIfInBounds_toArray, List.set_cons_zero, List.set_cons_succ]; rfl)
          refine pure_ (i := 18) (N := (some 102)) (v := ?_) (a' := ?_) #[true, true, true, true, true, true, true, true, true, true, true, true, true, true, true, true, true, true, true, false, false, false, false, false, false, false, false, false, false, false, false, false, false, false, false] rfl rfl (by kernel_rfl) (fun _ _ _ h => h) (Or.inl ⟨by rfl, ?_⟩) ?_ ?_
          rotate_left
          · (intro w'; go_simp; with_reducible rfl)
          rotate_left
          · (simp only [Act.put, List.setIfInBounds_toArray, List.set_cons_zero, List.set_cons_succ]; rfl)
          refine take_ (i := 19) (N := (some 103)) (v := ?_) (a' := ?_) #[true, true, true, true, true, true, true, true, true, true, true, true, true, true, true, true, true, true, true, true, false, false, false, false, false, false, false, false, false, false, false, false, false, false, false] rfl rfl (by kernel_rfl) (fun _ _ _ h => h) (Or.inl ⟨by rfl, ?_⟩) hHeld ?_ ?_
          rotate_left
          · (rintro w' hSw; (try dsimp only at hSw); go_split_ands; go_simp; with_reducible rfl)
          rotate_left
          · (simp only [Act.put, List.setIfInBounds_toArray, List.set_cons_zero, List.set_cons_succ]; rfl)
          refine pure_ (i := 20) (N := (some 104)) (v := ?_) (a' := ?_) #[true, true, true, true, true, true, true, true, true, true, true, true, true, true, true, true, true, true, true, true, true, false, false, false, false, false, false, false, false, false, false, false, false, false, false] rfl rfl (by kernel_rfl) (fun _ _ _ h => h) (Or.inl ⟨by rfl, ?_⟩) ?_ ?_
          rotate_left
          · (intro w'; go_simp; with_reducible rfl)
          rotate_left
          · (simp only [Act.put, List.setIfInBounds_toArray, List.set_cons_zero, List.set_cons_succ]; rfl)
          refine pure_ (i := 21) (N := (some 105)) (v := ?_) (a' := ?_) #[true, true, true, true, true, true, true, true, true, true, true, true, true, true, true, true, true, true, true, true, true, true, false, false, false, false, false, false, false, false, false, false, false, false, false] rfl rfl (by kernel_rfl) (fun _ _ _ h => h) (Or.inl ⟨by rfl, ?_⟩) ?_ ?_
          rotate_left
          · (intro w'; go_simp; with_reducible rfl)
          rotate_left
          · (simp only [Act.put, List.setIfInBounds_toArray, List.set_cons_zero, List.set_cons_succ]; rfl)
          refine pure_ (i := 22) (N := (some 106)) (v := ?_) (a' := ?_) #[true, true, true, true, true, true, true, true, true, true, true, true, true, true, true, true, true, true, true, true, true, true, true, false, false, false, false, false, false, false, false, false, false, false, false] rfl rfl (by kernel_rfl) (fun _ _ _ h => h) (Or.inl ⟨by rfl, ?_⟩) ?_ ?_
          rotate_left
          · (intro w'; go_simp; with_reducible rfl)
          rotate_left
          · (simp only [Act.put, List.setIfInBounds_toArray, List.set_cons_zero, List.set_cons_succ]; rfl)
          refine take_ (i := 23) (N := (some 107)) (v := ?_) (a' := ?_) #[true, true, true, true, true, true, true, true, true, true, true, true, true, true, true, true, true, true, true, true, true, true, true, true, false, false, false, false, false, false, false, false, false, false, false] rfl rfl (by kernel_rfl) (fun _ _ _ h => h) (Or.inl ⟨by rfl, ?_⟩) hHeld ?_ ?_
          rotate_left
          · (rintro w' hSw; (try dsimp only at hSw); go_split_ands; go_simp; with_reducible rfl)
          rotate_left
          · (simp only [Act.put, List.setIfInBounds_toArray, List.set_cons_zero, List.set_cons_succ]; rfl)
          refine pure_ (i := 24) (N := (some 108)) (v := ?_) (a' := ?_) #[true, true, true, true, true, true, true, true, true, true, true, true, true, true, true, true, true, true, true, true, true, true, true, true, true, false, false, false, false, false, false, false, false, false, false] rfl rfl (by kernel_rfl) (fun _ _ _ h => h) (Or.inl ⟨by rfl, ?_⟩) ?_ ?_
          rotate_left
          · (intro w'; go_simp; with_reducible rfl)
          rotate_left
          · (simp only [Act.put, List.setIfInBounds_toArray, List.set_cons_zero, List.set_cons_succ]; rfl)
          refine one_ (i := 25) (N := (some 109)) #[true, true, true, true, true, true, true, true, true, true, true, true, true, true, true, true, true, true, true, true, true, true, true, true, true, true, false, false, false, false, false, false, false, false, false] rfl rfl (by kernel_rfl) (by decide) (fun K hK => ?_)
          refine goes_ Try.func7 (by kernel_rfl) rfl #[.slice A5 l'.length cap5, .agg #[.int .u32 ((k : Int) + 1), .int .u32 1], .int .u64 (t + 2)] (by rfl) rfl rfl (by simp only [List.map_toArray, List.map_cons, List.map_nil]; rfl) ?_
          generalize hwx : (_ : World) = Wx at hHeld ⊢
          clear hwx
          have hcc := counts_any _ A5 cap5 l' ((k : Int) + 1, 1) (t + 2) (by omega) (by omega) (HR6.out.below hHeld.2.2.2) G2.out.ok
          rw [F3.out] at hcc
          refine hcc.mono ?_
          clear hcc
          rintro e wn ⟨rfl, hbn⟩
          refine ⟨_, rfl, hK.out _ _ (keepS hHeld hbn hl0 hl1) (fun hHeld => ?_)⟩
          clear hK K hbn
          refine norm_ (a' := ?_) ?_ ?_
          rotate_left
          · (show Act.put _ (some 109) _ = _; simp only [Act.put, List.setIfInBounds_toArray, List.set_cons_zero, List.set_cons_succ]; rfl)
          refine pure_ (i := 26) (N := (some 110)) (v := ?_) (a' := ?_) #[true, true, true, true, true, true, true, true, true, true, true, true, true, true, true, true, true, true, true, true, true, true, true, true, true, true, true, false, false, false, false, false, false, false, false] rfl rfl (by kernel_rfl) (fun _ _ _ h => h) (Or.inl ⟨by rfl, ?_⟩) ?_ ?_
          rotate_left
          · (intro w'; go_simp; with_reducible rfl)
          rotate_left
          · (simp only [Act.put, List.setIfInBounds_toArray, List.set_cons_zero, List.set_cons_succ]; rfl)
          refine pure_ (i := 27) (N := (some 111)) (v := ?_) (a' := ?_) #[true, true, true, true, true, true, true, true, true, true, true, true, true, true, true, true, true, true, true, true, true, true, true, true, true, true, true, true, false, false, false, false, false, false, false] rfl rfl (by kernel_rfl) (fun _ _ _ h => h) (Or.inl ⟨by rfl, ?_⟩) ?_ ?_
          rotate_left
          · (intro w'; go_simp; with_reducible rfl)
          rotate_left
          · (simp only [Act.put, List.setIfInBounds_toArray, List.set_cons_zero, List.set_cons_succ]; rfl)
          refine pure_ (i := 28) (N := (some 112)) (v := ?_) (a' := ?_) #[true, true, true, true, true, true, true, true, true, true, true, true, true, true, true, true, true, true, true, true, true, true, true, true, true, true, true, true, true, false, false, false, false, false, false] rfl rfl (by kernel_rfl) (fun _ _ _ h => h) (Or.inl ⟨by rfl, ?_⟩) ?_ ?_
          rotate_left
          · (intro w'; go_simp; with_reducible rfl)
          rotate_left
          · (simp only [Act.put, List.setIfInBounds_toArray, List.set_cons_zero, List.set_cons_succ]; rfl)
          refine take_ (i := 29) (N := (some 113)) (v := ?_) (a' := ?_) #[true, true, true, true, true, true, true, true, true, true, true, true, true, true, true, true, true, true, true, true, true, true, true, true, true, true, true, true, true, true, false, false, false, false, false] rfl rfl (by kernel_rfl) (fun _ _ _ h => h) (Or.inl ⟨by rfl, ?_⟩) hHeld ?_ ?_
          rotate_left
          · (rintro w' hSw; (try dsimp only at hSw); go_split_ands; go_simp; with_reducible rfl)
          rotate_left
          · (simp only [Act.put, List.setIfInBounds_toArray, List.set_cons_zero, List.set_cons_succ]; rfl)
          refine take_ (i := 31) (N := (some 115)) (v := ?_) (a' := ?_) #[true, true, true, true, true, true, true, true, true, true, true, true, true, true, true, true, true, true, true, true, true, true, true, true, true, true, true, true, true, true, false, true, false, false, false] rfl rfl (by kernel_rfl) (fun _ _ _ h => h) (Or.inl ⟨by rfl, ?_⟩) hHeld ?_ ?_
          rotate_left
          · (rintro w' hSw; (try dsimp only at hSw); go_split_ands; go_simp; with_reducible rfl)
          rotate_left
          · (simp only [Act.put, List.setIfInBounds_toArray, List.set_cons_zero, List.set_cons_succ]; rfl)
          refine pure_ (i := 32) (N := (some 116)) (v := ?_) (a' := ?_) #[true, true, true, true, true, true, true, true, true, true, true, true, true, true, true, true, true, true, true, true, true, true, true, true, true, true, true, true, true, true, false, true, true, false, false] rfl rfl (by kernel_rfl) (fun _ _ _ h => h) (Or.inl ⟨by rfl, ?_⟩) ?_ ?_
          rotate_left
          · (intro w'; go_simp; with_reducible rfl)
          rotate_left
          · (simp only [Act.put, List.setIfInBounds_toArray, List.set_cons_zero, List.set_cons_succ]; rfl)
          refine one_ (i := 30) (N := (some 114)) #[true, true, true, true, true, true, true, true, true, true, true, true, true, true, true, true, true, true, true, true, true, true, true, true, true, true, true, true, true, true, true, true, true, false, false] rfl rfl (by kernel_rfl) (by decide) (fun K hK => ?_)
          refine goes_ Try.func8 (by kernel_rfl) rfl #[.slice A5 l'.length cap5, .agg #[.int .u32 ((k : Int) + 1), .int .u32 1]] (by rfl) rfl rfl (by simp only [List.map_toArray, List.map_cons, List.map_nil]; rfl) ?_
          refine (drop_any (HO6.out.below hHeld.2.2.2) G2.out.ok ((k : Int) + 1, 1)).mono ?_
          rintro e wn ⟨v7, rfl, hbn, ho7⟩
          obtain ⟨A7, cap7, rfl, hr7⟩ := ho7.form
          have HR7 := Lib.hid hr7; clear hr7 ho7
          refine ⟨_, rfl, hK.out _ _ (keepS hHeld hbn hl0 hl1) (fun hHeld => ?_)⟩
          clear hK K hbn
          have hd7 := G2.out.ok.dropP ((k : Int) + 1, 1)
          have hg7 : counts (got (dropP l' ((k : Int) + 1, 1)) ((k : Int) + 1, 1)) t = false := by rw [got_dropP G2.out.ok]; rfl
          have HD7 := Lib.hid hd7; clear hd7
          have HG7 := Lib.hid hg7; clear hg7
          generalize dropP l' ((k : Int) + 1, 1) = d7 at HR7 HD7 HG7 ⊢
          refine norm_ (a' := ?_) ?_ ?_
          rotate_left
          · (show Act.put _ (some 114) _ = _; simp only [Act.put, List.setIfInBounds_toArray, List.set_cons_zero, List.set_cons_succ]; rfl)
          refine one_ (i := 33) (N := (some 117)) #[true, true, true, true, true, true, true, true, true, true, true, true, true, true, true, true, true, true, true, true, true, true, true, true, true, true, true, true, true, true, true, true, true, true, false] rfl rfl (by kernel_rfl) (by decide) (fun K hK => ?_)
          refine goes_ Try.func7 (by kernel_rfl) rfl #[.slice A7 d7.length cap7, .agg #[.int .u32 ((k : Int) + 1), .int .u32 1], .int .u64 t] (by rfl) rfl rfl (by simp only [List.map_toArray, List.map_cons, List.map_nil]; rfl) ?_
          have hcc := counts_any _ A7 cap7 d7 ((k : Int) + 1, 1) t (by omega) (by omega) HR7.out HD7.out
          rw [HG7.out] at hcc
          refine hcc.mono ?_
          clear hcc
          rintro e wn ⟨rfl, hbn⟩
          refine ⟨_, rfl, hK.out _ _ (keepS hHeld hbn hl0 hl1) (fun hHeld => ?_)⟩
          clear hK K hbn
          refine norm_ (a' := ?_) ?_ ?_
          rotate_left
          · (show Act.put _ (some 117) _ = _; simp only [Act.put, List.setIfInBounds_toArray, List.set_cons_zero, List.set_cons_succ]; rfl)
          refine pure_ (i := 34) (N := (some 118)) (v := ?_) (a' := ?_) #[true, true, true, true, true, true, true, true, true, true, true, true, true, true, true, true, true, true, true, true, true, true, true, true, true, true, true, true, true, true, true, true, true, true, true] rfl rfl (by kernel_rfl) (fun _ _ _ h => h) (Or.inl ⟨by rfl, ?_⟩) ?_ ?_
          rotate_left
          · (intro w'; go_simp; with_reducible rfl)
          rotate_left
          · (simp only [Act.put, List.setIfInBounds_toArray, List.set_cons_zero, List.set_cons_succ]; rfl)
          refine done_ (by kernel_rfl) ?_
          have hbl := hHeld.2.2.2
          clear hHeld e0 e1 e2 u1 u2
          go_wp2_with fail
          go_roundw
          case rel =>
            refine ⟨i + 1, t, l', _, _, ⟨by omega, by omega, by go_num, rfl, ht0, by omega, G2.out, HO6.out.below hbl, HS6.out.below hbl, HCH6.out.below hbl, hB6.trans (hbl.mono hB6.size)⟩⟩
          case measure => simp only [intOf]; omega
      · have hbe := HC.out.below
        go_wp2_with fail
        refine (lives_any wr).mono ?_
        rintro e w2 ⟨rfl, hb3⟩
        go_wp2_with fail
        go_ret
        exact ⟨rfl, hbe.trans (hb3.mono hbe.size)⟩
    · have hbe := HC.out.below
      go_wp2_with fail
      refine (lives_any wr).mono ?_
      rintro e w2 ⟨rfl, hb3⟩
      go_wp2_with fail
      go_ret
      exact ⟨rfl, hbe.trans (hb3.mono hbe.size)⟩
end Go.Proofs.Ytpnhjckjmpkbfaa

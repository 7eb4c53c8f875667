/- The disk's Crash, walked. -/
import Derived.Test.YtlngflonolhdhaaDkf
set_option linter.unusedVariables false
set_option linter.unusedSimpArgs false
namespace Go.Proofs.Ytlngflonolhdhaa
open Go.RowKit Go.Proofs.YtlngflonolhdhaaW.PrintLast

/-- A slice of ints that is read: block k. -/
def Ints (w : World) (A : Option Addr) (xs : List Int) (k : Nat) : Prop :=
  xs.length ≤ 4611686018427387904 ∧ (0 < xs.length → ∃ o, A = some ⟨k, o, none⟩ ∧ ∀ j, j < xs.length → w.cell? ⟨k, o + j, none⟩ = some (.int .i64 (xs.getD j 0)))
theorem Ints.grown {w w' : World} {A : Option Addr} {xs : List Int} {k : Nat} (h : Ints w A xs k) {row : Option Nat} (hg : w.grownBy w' row) (hk : some k ≠ row) : Ints w' A xs k := by
  refine ⟨h.1, fun h0 => ?_⟩
  obtain ⟨o, e, hc⟩ := h.2 h0
  exact ⟨o, e, fun j hj => hg.cell (hc j hj) hk⟩

theorem alloc_waits (W : World) : (Instr.alloc 54 true (.tuple #[])).run Try.prog W = .ok (.pointer (some ⟨W.heap.size, 0, none⟩)) (W.alloc (.cells (wc (0, zb)).toArray 54)) := by kernel_rfl
theorem size_waits (x : Int × List Int) (h : x.2.length = 64) : (Try.prog.info? 54).map (·.size) = some (wc x).length := by
  rw [wc_length, h]; kernel_rfl
theorem size_waits' (x : Int × List Int) (h : x.2.length = 64) : (Try.prog.info? 54).map (·.size) = some (wc x).toArray.size := by
  rw [List.size_toArray]; exact size_waits x h
/-- A variable of the call's own of whatever cells. -/
def BoxC (w : World) (c : Nat) (cs : List Value) : Prop := w.rangeAt c 0 cs ∧ w.there c 0 cs.length
theorem BoxC_new (w : World) (cs : List Value) (t : TypeId) : BoxC (w.alloc (.cells cs.toArray t)) w.heap.size cs := by
  have hh := heap_alloc_new w (.cells cs.toArray t)
  constructor
  · intro j v hv
    rw [cell_of_row _ _ _ _ _ _ hh]; simpa using hv
  · intro j hj
    rw [cell_of_row _ _ _ _ _ _ hh, frozen_of_row _ _ _ _ _ hh]
    simp; omega
theorem BoxC.set {w : World} {c : Nat} {cs : List Value} (h : BoxC w c cs) (ds : List Value) (hl : ds.length = cs.length) : BoxC (w.setCells c 0 ds) c ds :=
  ⟨World.rangeAt_setCells_same w c 0 ds (by rw [hl]; exact h.2), by rw [hl]; exact World.there_setCells h.2 c 0 _⟩
theorem BoxC.room {w : World} {c : Nat} {cs : List Value} (h : BoxC w c cs) (ds : List Value) (hl : ds.length = cs.length) : w.there c 0 ds.toArray.size := by
  rw [List.size_toArray, hl]; exact h.2
/-- The cells of a write that waits. -/
theorem DAt.qrange {B : Nat} {w : World} {g : Nat} {D : St} {lb lc : Nat} {m q c : Nat} (h : DAt B w g D lb lc (.slice (some ⟨q, 0, none⟩) D.queue.length c) m) {k : Nat} {x : Int × List Int} (hk : D.queue[k]? = some x) : w.rangeAt q (k * 65) (wc x) := by
  intro j v hv
  have hlen : ∀ p ∈ D.queue, (wc p).length = 65 := fun p hp => by rw [wc_length, (h.wf.queue p hp).1.1]
  have hj : j < 65 := by
    have := (List.getElem?_eq_some_iff.1 hv).1
    rw [hlen x (List.mem_of_getElem? hk)] at this; exact this
  have hkl : k < D.queue.length := (List.getElem?_eq_some_iff.1 hk).1
  rcases h.qv_form with ⟨e, _⟩ | ⟨q', c', cur, e, e1, e2, e3, e4, e5, e6⟩
  · simp at e
  · simp at e
    obtain ⟨rfl, rfl⟩ := e
    rw [cell_of_row w _ _ _ _ _ e1]
    have := flat_get hlen k j hj x hk
    rw [← e6, List.getElem?_take, if_pos (by omega), hv] at this
    simpa using this

set_option maxRecDepth 100000 in
set_option maxHeartbeats 4000000 in
theorem crash_loop {B : Nat} {w : World} {g : Nat} {D : St} {lb lc : Nat} {q c : Nat} {m : Nat} (hd : DAt B w g D lb lc (.slice (some ⟨q, 0, none⟩) D.queue.length c) m) (A : Option Addr) (ps : List Int) (k : Nat) (pc : Nat) (hp : Ints w A ps k) (hk : k ≠ lb) :
    Calls Try.prog 15 #[.pointer (some ⟨g, 0, none⟩), .slice A ps.length pc] w fun r w' => r = .returned (.int .i64 0) ∧ Bel B w w' ∧ DiskAt B w' g (crash D ps) := by
  have c0 := hd.c0
  have c1 := hd.c1
  have h1 : ((D.laid.length : Int) == 0) = false := by have := hd.wf.one; simp; intro e; rw [e] at this; simp at this
  have hql : D.queue.length ≤ 9223372036854775807 := by
    have := hd.qv_form
    rcases this with ⟨e, _⟩ | ⟨_, _, _, _, _, _, h3, h4, _⟩
    · simp at e
    · unfold maxLen at h4; omega
  have hpl := hp.1
  have HD := Lib.hid hd; clear hd
  have HP := Lib.hid hp; clear hp
  go_enter Try.func15, Try.ntmps15
  go_wp2_with (first
    | (go_at_call 25; refine (blocks_any HD.out).mono ?_; rintro e w' ⟨rfl, rfl⟩)
    | fail)
  go_loopw [16] (fun i wr => ∃ kk : Nat, kk ≤ D.queue.length ∧ kk ≤ ps.length ∧ i = .int .i64 kk ∧ DAt B wr g { D with laid := crashed D.laid (D.queue.take kk) ps } lb lc (.slice (some ⟨q, 0, none⟩) D.queue.length c) m ∧ w.grownBy wr (some lb))
    (fun i _ => D.queue.length - (intOf i).toNat)
  case atStart =>
    refine ⟨0, by omega, by omega, rfl, ?_, grownBy_refl _ _⟩
    simp only [List.take_zero, crashed_nil]; exact HD.out
  case round =>
    obtain ⟨kk, hkq, hkp, rfl, hd, hgr⟩ := hrel
    have hd' := Lib.hid hd; clear hd
    have hgr' := Lib.hid hgr; clear hgr
    clear c0 c1
    by_cases hlt : kk < D.queue.length
    · by_cases hpp : kk = ps.length
      · subst hpp
        have hte : crashed D.laid (D.queue.take ps.length) ps = crashed D.laid D.queue ps := crashed_short _ _ _
        have hwd := hd'.out
        rw [hte] at hwd
        obtain ⟨x, hx⟩ : ∃ x, D.queue[ps.length]? = some x := ⟨D.queue[ps.length], List.getElem?_eq_getElem hlt⟩
        have hwfx := hd'.out.wf.queue _ (List.mem_of_getElem? hx)
        have hb : okB x.2 := hwfx.1
        have hrng := hd'.out.qrange (k := ps.length) hx
        have ha := alloc_waits
        have hz : (wc (0, zb)).length = (wc x).length := by rw [wc_length, wc_length, hb.1]; rfl
        have hbx := BoxC_new wr (wc (0, zb)) 54
        generalize wc (0, zb) = zw at ha hz hbx
        have hu := Try.underlying54
        have hi := size_waits x hb.1
        have hi' := size_waits' x hb.1
        have hall := wc_all x
        have HX := Lib.hid hbx; clear hbx
        have HR := Lib.hid hrng; clear hrng
        have HQ := Lib.hid hx; clear hx
        have HZ := Lib.hid hz; clear hz
        have HWD := Lib.hid hwd; clear hwd
        have HTE := Lib.hid hte; clear hte
        go_wp2_with (first
          | (refine wpList_load_mid rfl 54 (.tmp 19) rfl q (ps.length * 65) rfl (wc x) _ HR.out hu rfl hi ?_)
          | (refine wpList_alloc_told rfl 54 rfl zw.toArray ha ?_)
          | (refine wpList_store_mid rfl 54 (.tmp 6) (.tmp 20) rfl wr.heap.size 0 (wc x).toArray rfl rfl (HX.out.room _ HZ.out.symm) hi' hall ?_; simp only [List.toList_toArray])
          | fail)
        have hWb : Below wr.heap.size wr ((wr.alloc (.cells zw.toArray 54)).setCells wr.heap.size 0 (wc x)) :=
          ((Below.refl _ _).alloc (Nat.le_refl _) _).grown (grownBy_setCells _ _ _ _) (by simp) (fun k hk => by simp at hk; omega)
        have hWd := HWD.out.below hWb
        have hWg : w.grownBy ((wr.alloc (.cells zw.toArray 54)).setCells wr.heap.size 0 (wc x)) (some lb) := grownBy_trans hgr'.out ⟨hWb.os, hWb.tape, hWb.output, hWb.size, fun i hi _ => hWb.block i hi⟩
        generalize (wr.alloc (.cells zw.toArray 54)).setCells wr.heap.size 0 (wc x) = W at hWb hWd hWg ⊢
        have HWD := Lib.hid hWd
        have hgr' := Lib.hid hWg
        refine (empty_any _ _ _ _ _ _ _ _ HWD.out.hg).mono ?_
        rintro r w3 ⟨rfl, M, hM, hmap, hg3, hgr3⟩
        have k3 : w3.cell? ⟨g, 3, none⟩ = some (.int .i64 D.left) := by rw [cell_of_row w3 g 3 _ _ _ hg3]; rfl
        have k4 : w3.cell? ⟨g, 4, none⟩ = some (.bool D.gone) := by rw [cell_of_row w3 g 4 _ _ _ hg3]; rfl
        have z3 : ∀ j, w3.frozen? ⟨g, j, none⟩ = false := fun j => frozen_of_row w3 g j _ _ hg3
        have HG3 := Lib.hid hg3; clear hg3
        have HM := Lib.hid hmap; clear hmap
        go_wp2_with fail
        go_ret
        have h4 := heap_setCell_same _ g 3 _ _ (.int .i64 (-1)) HG3.out
        have h5 := heap_setCell_same _ g 4 _ _ (.bool false) h4
        have hs2 : w3.grownBy ((w3.setCell ⟨g, 3, none⟩ (.int .i64 (-1))).setCell ⟨g, 4, none⟩ (.bool false)) (some g) := grownBy_trans (grownBy_setCell _ _ _ _) (grownBy_setCell _ _ _ _)
        generalize (w3.setCell ⟨g, 3, none⟩ (.int .i64 (-1))).setCell ⟨g, 4, none⟩ (.bool false) = w4 at h5 hs2 ⊢
        have hgg := grownBy_trans hgr3 hs2
        have hlbB : B ≤ lb := by obtain ⟨_, _, h, _⟩ := HWD.out.lb_form; exact h
        have hne : lb ≠ g := by obtain ⟨_, h, _⟩ := HWD.out.lb_form; exact ne_of_cells h HWD.out.hg (by decide)
        have hwf := HWD.out.wf
        have hB0 : Bel B w w3 := ((Bel.refl B w).grown hgr'.out HD.out.size (fun k hk => by simp at hk; omega) (fun k hk => by injection hk with hk; subst hk; obtain ⟨_, h, _⟩ := HD.out.lb_form; exact nint_cells h (by decide))).grown hgr3 HWD.out.size (fun k hk => by simp at hk; have := HD.out.hB; omega) (fun k hk => by injection hk with hk; subst hk; exact nint_cells HWD.out.hg (by decide))
        have hMs : M < w3.heap.size := HM.out.lt
        have hMg : M ≠ g := by have := HWD.out.lt; omega
        refine ⟨rfl, hB0.grown hs2 (by have := HWD.out.size; have := hgr3.size; omega) (fun k hk => by simp at hk; have := HD.out.hB; omega) (fun k hk => by injection hk with hk; subst hk; exact nint_cells HG3.out (by decide)), lb, lc, .slice none 0 0, M, HD.out.hB, ?_, ?_, ⟨rfl, .inl ⟨rfl, rfl⟩⟩, ?_, ?_, ?_⟩
        · rw [h5]; rfl
        · exact HWD.out.laid.kept hgg (.inr (by simpa [Value.ownBlock] using hne))
        · exact (HM.out.grown hs2 (by simpa using hMg)).congr (fun _ => rfl)
        · have := HWD.out.size; omega
        · exact ⟨hwf.one, hwf.most, hwf.laid, by simp [crash], by simp [crash], hwf.work⟩
      · have hpp' : ((kk : Int) == (ps.length : Int)) = false := by simp; omega
        obtain ⟨⟨n, b⟩, hx⟩ : ∃ x, D.queue[kk]? = some x := ⟨D.queue[kk], List.getElem?_eq_getElem hlt⟩
        have hwfx := hd'.out.wf.queue _ (List.mem_of_getElem? hx)
        have hb : okB b := hwfx.1
        have hn0 : 0 ≤ n := hwfx.2.1
        have hn1 : n < (D.laid.length : Int) := by have := hwfx.2.2; simp only [crashed_length] at this; exact this
        have hrng := hd'.out.qrange (k := kk) hx
        have hcl := HD.out.lb_form
        have ha := alloc_waits
        have hz : (wc (0, zb)).length = (wc (n, b)).length := by rw [wc_length, wc_length, hb.1]; rfl
        have hbx := BoxC_new wr (wc (0, zb)) 54
        generalize wc (0, zb) = zw at ha hz hbx
        have hu := Try.underlying54
        have hi := size_waits (n, b) hb.1
        have hi' := size_waits' (n, b) hb.1
        have hall := wc_all (n, b)
        have HX := Lib.hid hbx; clear hbx
        have HR := Lib.hid hrng; clear hrng
        have HQ := Lib.hid hx; clear hx
        have HZ := Lib.hid hz; clear hz
        go_wp2_with (first
          | (refine wpList_load_mid rfl 54 (.tmp 19) rfl q (kk * 65) rfl (wc (n, b)) _ HR.out hu rfl hi ?_)
          | (refine wpList_alloc_told rfl 54 rfl zw.toArray ha ?_)
          | (refine wpList_store_mid rfl 54 (.tmp 6) (.tmp 20) rfl wr.heap.size 0 (wc (n, b)).toArray rfl rfl (HX.out.room _ HZ.out.symm) hi' hall ?_; simp only [List.toList_toArray])
          | fail)
        obtain ⟨po, rfl, hpc⟩ := HP.out.2 (by omega)
        have hWb : Below wr.heap.size wr ((wr.alloc (.cells zw.toArray 54)).setCells wr.heap.size 0 (wc (n, b))) :=
          ((Below.refl _ _).alloc (Nat.le_refl _) _).grown (grownBy_setCells _ _ _ _) (by simp) (fun k hk => by simp at hk; omega)
        have hWd := hd'.out.below hWb
        have hWx := (HX.out.set _ HZ.out.symm).1
        have hWg : w.grownBy ((wr.alloc (.cells zw.toArray 54)).setCells wr.heap.size 0 (wc (n, b))) (some lb) := grownBy_trans hgr'.out ⟨hWb.os, hWb.tape, hWb.output, hWb.size, fun i hi _ => hWb.block i hi⟩
        have hkb : lb ≠ wr.heap.size := by
          obtain ⟨cl, hcl, _⟩ := hd'.out.lb_form
          have := lt_of_heap hcl; omega
        have hks : wr.heap.size < ((wr.alloc (.cells zw.toArray 54)).setCells wr.heap.size 0 (wc (n, b))).heap.size := by
          have := (grownBy_setCells (wr.alloc (.cells zw.toArray 54)) wr.heap.size (wc (n, b)) 0).size
          simp at this; omega
        generalize (wr.alloc (.cells zw.toArray 54)).setCells wr.heap.size 0 (wc (n, b)) = W at hWb hWd hWx hWg hks ⊢
        have hL : (crashed D.laid (D.queue.take kk) ps).length = D.laid.length := crashed_length _ _ _
        have hsn := crashed_snoc D.queue D.laid ps kk n b (ps.getD kk 0) HQ.out (by rw [List.getD_eq_getElem?_getD, List.getElem?_eq_getElem (show kk < ps.length by omega)]; rfl)
        generalize hLe : crashed D.laid (D.queue.take kk) ps = L at hWd hL hsn
        have hpk := hpc kk (by omega)
        generalize ps.getD kk 0 = p at hpk hsn
        have hLn : L[n.toNat]? = some (L.getD n.toNat []) := by rw [List.getD_eq_getElem?_getD, List.getElem?_eq_getElem (show n.toNat < L.length by omega)]; rfl
        generalize L.getD n.toNat [] = a0 at hsn hLn
        have ha0 : okB a0 := hWd.wf.laid a0 (List.mem_of_getElem? hLn)
        have hset0 : L.set n.toNat (mixTo a0 b p 0) = L := by
          apply List.ext_getElem?; intro i
          rw [List.getElem?_set]
          by_cases hi : n.toNat = i
          · subst hi; rw [if_pos rfl, if_pos (by omega), hLn]; rfl
          · rw [if_neg hi]
        have hkmx : (kk : Int) < (ps.length : Int) := by omega
        clear hpc ha hu hi hi' hall hcl
        have HWd := Lib.hid hWd; clear hWd
        have HWx := Lib.hid hWx; clear hWx
        have HWg := Lib.hid hWg; clear hWg
        have HLe := Lib.hid hLe; clear hLe
        have HL := Lib.hid hL; clear hL
        have HSN := Lib.hid hsn; clear hsn
        have HLN := Lib.hid hLn; clear hLn
        have HS0 := Lib.hid hset0; clear hset0
        have HPK := Lib.hid hpk; clear hpk
        obtain ⟨wo, rfl⟩ : ∃ wo : World, wo = wr := ⟨_, rfl⟩
        go_loopw [25] (fun j w2 => ∃ jj : Int, 0 ≤ jj ∧ jj ≤ 4 ∧ j = .int .i64 jj ∧ DAt B w2 g { D with laid := L.set n.toNat (mixTo a0 b p jj.toNat) } lb lc (.slice (some ⟨q, 0, none⟩) D.queue.length c) m ∧ W.grownBy w2 (some lb)) (fun j _ => 4 - (intOf j).toNat)
        case atStart => exact ⟨0, by omega, by omega, rfl, by rw [show (0 : Int).toNat = 0 from rfl, HS0.out]; exact HWd.out, grownBy_refl _ _⟩
        case round =>
          obtain ⟨jj, hj0, hjj, rfl, hdj, hgj⟩ := hrel
          have hgo : w.grownBy wr (some lb) := grownBy_trans HWg.out hgj
          have e1 : wr.cell? ⟨k, po + kk, none⟩ = some (.int .i64 p) := hgo.cell HPK.out (by simpa using hk)
          have ex : wr.rangeAt wo.heap.size 0 (wc (n, b)) := fun j v hv => hgj.cell (HWx.out j v hv) (by simpa using hkb.symm)
          have ex0 : wr.cell? ⟨wo.heap.size, 0, none⟩ = some (.int .i64 n) := ex 0 _ rfl
          have exb : wr.rangeAt wo.heap.size 1 (bc b) := fun j v hv => by
            have := ex (j + 1) v (by simpa [wc] using hv)
            rw [show 1 + j = 0 + (j + 1) from by omega]; exact this
          have eg : wr.cell? ⟨g, 0, none⟩ = some (.slice (some ⟨lb, 0, none⟩) D.laid.length lc) := by
            have h := hdj.c0; simp only [List.length_set, HL.out] at h; exact h
          have HDJ := Lib.hid hdj; clear hdj
          have HGJ := Lib.hid hgj; clear hgj
          have HGO := Lib.hid hgo; clear hgo
          have HXB := Lib.hid exb; clear exb ex
          have E1 := Lib.hid e1; clear e1
          have E0 := Lib.hid ex0; clear ex0
          have EG := Lib.hid eg; clear eg
          have hj : jj = 0 ∨ jj = 1 ∨ jj = 2 ∨ jj = 3 ∨ jj = 4 := by omega
          rcases hj with rfl | rfl | rfl | rfl | rfl
          · clear hjj hj0
            by_cases hbit : (bits .and .i64 p (IntKind.i64.wrap 1) != 0) = true
            · go_wp2_with fail
              refine start_ (n := 8) (S := (fun w1 => w1.cell? ⟨k, po + kk, none⟩ = some (.int .i64 p))) (ds := []) #[false, false, false, false, false, false, false, false] (by kernel_rfl) rfl rfl E1.out (fun hHeld => ?_)
              refine pure_ (i := 0) (N := (some 28)) (v := ?_) (a' := ?_) #[true, false, false, false, false, false, false, false] rfl rfl (by kernel_rfl) (fun _ _ _ h => h) (Or.inl ⟨by rfl, ?_⟩) ?_ ?_
              rotate_left
              · (intro w'; go_simp; with_reducible rfl)
              rotate_left
              · (simp only [Act.put, List.setIfInBounds_toArray, List.set_cons_zero, List.set_cons_succ]; rfl)
              refine pure_ (i := 1) (N := (some 29)) (v := ?_) (a' := ?_) #[true, true, false, false, false, false, false, false] rfl rfl (by kernel_rfl) (fun _ _ _ h => h) (Or.inl ⟨by rfl, ?_⟩) ?_ ?_
              rotate_left
              · (intro w'; go_simp; with_reducible rfl)
              rotate_left
              · (simp only [Act.put, List.setIfInBounds_toArray, List.set_cons_zero, List.set_cons_succ]; rfl)
              refine pure_ (i := 2) (N := (some 30)) (v := ?_) (a' := ?_) #[true, true, true, false, false, false, false, false] rfl rfl (by kernel_rfl) (fun _ _ _ h => h) (Or.inl ⟨by rfl, ?_⟩) ?_ ?_
              rotate_left
              · (intro w'; go_simp; with_reducible rfl)
              rotate_left
              · (simp only [Act.put, List.setIfInBounds_toArray, List.set_cons_zero, List.set_cons_succ]; rfl)
              refine take_ (i := 3) (N := (some 31)) (v := ?_) (a' := ?_) #[true, true, true, true, false, false, false, false] rfl rfl (by kernel_rfl) (fun _ _ _ h => h) (Or.inl ⟨by rfl, ?_⟩) hHeld ?_ ?_
              rotate_left
              · (rintro w' hSw; (try dsimp only at hSw); go_split_ands; go_simp; with_reducible rfl)
              rotate_left
              · (simp only [Act.put, List.setIfInBounds_toArray, List.set_cons_zero, List.set_cons_succ]; rfl)
              refine pure_ (i := 4) (N := (some 32)) (v := ?_) (a' := ?_) #[true, true, true, true, true, false, false, false] rfl rfl (by kernel_rfl) (fun _ _ _ h => h) (Or.inl ⟨by rfl, ?_⟩) ?_ ?_
              rotate_left
              · (intro w'; go_simp; with_reducible rfl)
              rotate_left
              · (simp only [Act.put, List.setIfInBounds_toArray, List.set_cons_zero, List.set_cons_succ]; rfl)
              refine pure_ (i := 5) (N := (some 33)) (v := ?_) (a' := ?_) #[true, true, true, true, true, true, false, false] rfl rfl (by kernel_rfl) (fun _ _ _ h => h) (Or.inl ⟨by rfl, ?_⟩) ?_ ?_
              rotate_left
              · (intro w'; go_simp; with_reducible rfl)
              rotate_left
              · (simp only [Act.put, List.setIfInBounds_toArray, List.set_cons_zero, List.set_cons_succ]; rfl)
              refine pure_ (i := 6) (N := (some 34)) (v := ?_) (a' := ?_) #[true, true, true, true, true, true, true, false] rfl rfl (by kernel_rfl) (fun _ _ _ h => h) (Or.inl ⟨by rfl, ?_⟩) ?_ ?_
              rotate_left
              · (intro w'; go_simp; with_reducible rfl)
              rotate_left
              · (simp only [Act.put, List.setIfInBounds_toArray, List.set_cons_zero, List.set_cons_succ]; rfl)
              refine pure_ (i := 7) (N := (some 35)) (v := ?_) (a' := ?_) #[true, true, true, true, true, true, true, true] rfl rfl (by kernel_rfl) (fun _ _ _ h => h) (Or.inl ⟨by rfl, ?_⟩) ?_ ?_
              rotate_left
              · (intro w'; go_simp; with_reducible rfl)
              rotate_left
              · (simp only [Act.put, List.setIfInBounds_toArray, List.set_cons_zero, List.set_cons_succ]; rfl)
              refine done_ (by kernel_rfl) ?_
              go_wp2_with fail
              have hn1' : n < (D.laid.length : Int) := hn1
              have HBIT := Lib.hid hbit; clear hbit
              have q1 : IntKind.i64.wrap 0 = 0 := by decide
              have q2 : IntKind.i64.wrap 1 = 1 := by decide
              have q3 : IntKind.i64.wrap 16 = 16 := by decide
              have s1 : ∀ W : World, (Instr.sliceAt 23 (.pointer (some ⟨lb, n.toNat * 64, none⟩)) (some (.int .i64 0)) none none).run Try.prog W = .ok (.slice (some ⟨lb, n.toNat * 64 + 0, none⟩) 64 64) W := fun _ => by kernel_rfl
              have s2 : ∀ W : World, (Instr.sliceAt 23 (.pointer (some ⟨wo.heap.size, 1, none⟩)) (some (.int .i64 0)) (some (.int .i64 16)) none).run Try.prog W = .ok (.slice (some ⟨wo.heap.size, 1 + 0, none⟩) 16 64) W := fun _ => by kernel_rfl
              refine start_ (n := 18) (S := (fun w1 => w1.cell? ⟨g, 0, none⟩ = some (.slice (some ⟨lb, 0, none⟩) D.laid.length lc) ∧ w1.cell? ⟨wo.heap.size, 0, none⟩ = some (.int .i64 n))) (ds := [17]) #[false, false, false, false, false, false, false, false, false, false, false, false, false, false, false, false, false, false] (by kernel_rfl) rfl rfl ⟨EG.out, E0.out⟩ (fun hHeld => ?_)
              refine pure_ (i := 0) (N := (some 36)) (v := ?_) (a' := ?_) #[true, false, false, false, false, false, false, false, false, false, false, false, false, false, false, false, false, false] rfl rfl (by kernel_rfl) (fun _ _ _ h => h) (Or.inl ⟨by rfl, ?_⟩) ?_ ?_
              rotate_left
              · (intro w'; go_simp; with_reducible rfl)
              rotate_left
              · (simp only [Act.put, List.setIfInBounds_toArray, List.set_cons_zero, List.set_cons_succ]; rfl)
              refine pure_ (i := 1) (N := (some 37)) (v := ?_) (a' := ?_) #[true, true, false, false, false, false, false, false, false, false, false, false, false, false, false, false, false, false] rfl rfl (by kernel_rfl) (fun _ _ _ h => h) (Or.inl ⟨by rfl, ?_⟩) ?_ ?_
              rotate_left
              · (intro w'; go_simp; with_reducible rfl)
              rotate_left
              · (simp only [Act.put, List.setIfInBounds_toArray, List.set_cons_zero, List.set_cons_succ]; rfl)
              refine pure_ (i := 2) (N := (some 38)) (v := ?_) (a' := ?_) #[true, true, true, false, false, false, false, false, false, false, false, false, false, false, false, false, false, false] rfl rfl (by kernel_rfl) (fun _ _ _ h => h) (Or.inl ⟨by rfl, ?_⟩) ?_ ?_
              rotate_left
              · (intro w'; go_simp; with_reducible rfl)
              rotate_left
              · (simp only [Act.put, List.setIfInBounds_toArray, List.set_cons_zero, List.set_cons_succ]; rfl)
              refine take_ (i := 3) (N := (some 39)) (v := ?_) (a' := ?_) #[true, true, true, true, false, false, false, false, false, false, false, false, false, false, false, false, false, false] rfl rfl (by kernel_rfl) (fun _ _ _ h => h) (Or.inl ⟨by rfl, ?_⟩) hHeld ?_ ?_
              rotate_left
              · (rintro w' hSw; (try dsimp only at hSw); go_split_ands; go_simp; with_reducible rfl)
              rotate_left
              · (simp only [Act.put, List.setIfInBounds_toArray, List.set_cons_zero, List.set_cons_succ]; rfl)
              refine pure_ (i := 4) (N := (some 40)) (v := ?_) (a' := ?_) #[true, true, true, true, true, false, false, false, false, false, false, false, false, false, false, false, false, false] rfl rfl (by kernel_rfl) (fun _ _ _ h => h) (Or.inl ⟨by rfl, ?_⟩) ?_ ?_
              rotate_left
              · (intro w'; go_simp; with_reducible rfl)
              rotate_left
              · (simp only [Act.put, List.setIfInBounds_toArray, List.set_cons_zero, List.set_cons_succ]; rfl)
              refine take_ (i := 5) (N := (some 41)) (v := ?_) (a' := ?_) #[true, true, true, true, true, true, false, false, false, false, false, false, false, false, false, false, false, false] rfl rfl (by kernel_rfl) (fun _ _ _ h => h) (Or.inl ⟨by rfl, ?_⟩) hHeld ?_ ?_
              rotate_left
              · (rintro w' hSw; (try dsimp only at hSw); go_split_ands; go_simp; with_reducible rfl)
              rotate_left
              · (simp only [Act.put, List.setIfInBounds_toArray, List.set_cons_zero, List.set_cons_succ]; rfl)
              refine pure_ (i := 6) (N := (some 42)) (v := ?_) (a' := ?_) #[true, true, true, true, true, true, true, false, false, false, false, false, false, false, false, false, false, false] rfl rfl (by kernel_rfl) (fun _ _ _ h => h) (Or.inl ⟨by rfl, ?_⟩) ?_ ?_
              rotate_left
              · (intro w'; go_simp; with_reducible rfl)
              rotate_left
              · (simp only [Act.put, List.setIfInBounds_toArray, List.set_cons_zero, List.set_cons_succ]; rfl)
              refine pure_ (i := 7) (N := (some 43)) (v := ?_) (a' := ?_) #[true, true, true, true, true, true, true, true, false, false, false, false, false, false, false, false, false, false] rfl rfl (by kernel_rfl) (fun _ _ _ h => h) (Or.inl ⟨by rfl, ?_⟩) ?_ ?_
              rotate_left
              · (intro w'; go_simp; with_reducible rfl)
              rotate_left
              · (simp only [Act.put, List.setIfInBounds_toArray, List.set_cons_zero, List.set_cons_succ]; rfl)
              refine pure_ (i := 8) (N := (some 44)) (v := ?_) (a' := ?_) #[true, true, true, true, true, true, true, true, true, false, false, false, false, false, false, false, false, false] rfl rfl (by kernel_rfl) (fun _ _ _ h => h) (Or.inl ⟨by rfl, ?_⟩) ?_ ?_
              rotate_left
              · (intro w'; go_simp; with_reducible rfl)
              rotate_left
              · (simp only [Act.put, List.setIfInBounds_toArray, List.set_cons_zero, List.set_cons_succ]; rfl)
              refine pure_ (i := 9) (N := (some 45)) (v := _) (a' := ?_) #[true, true, true, true, true, true, true, true, true, true, false, false, false, false, false, false, false, false] rfl rfl (by kernel_rfl) (fun _ _ _ h => h) (yields_slice (by rfl) 23 (.tmp 42) (some (.tmp 44)) none (by rfl) (.pointer (some ⟨lb, n.toNat * 64, none⟩)) (by rfl) (some (.int .i64 0)) none (by rfl) (by rfl) _ s1) ?_ ?_
              rotate_left
              · (simp only [Act.put, List.setIfInBounds_toArray, List.set_cons_zero, List.set_cons_succ]; rfl)
              refine pure_ (i := 10) (N := (some 46)) (v := ?_) (a' := ?_) #[true, true, true, true, true, true, true, true, true, true, true, false, false, false, false, false, false, false] rfl rfl (by kernel_rfl) (fun _ _ _ h => h) (Or.inl ⟨by rfl, ?_⟩) ?_ ?_
              rotate_left
              · (intro w'; go_simp; with_reducible rfl)
              rotate_left
              · (simp only [Act.put, List.setIfInBounds_toArray, List.set_cons_zero, List.set_cons_succ]; rfl)
              refine pure_ (i := 11) (N := (some 47)) (v := ?_) (a' := ?_) #[true, true, true, true, true, true, true, true, true, true, true, true, false, false, false, false, false, false] rfl rfl (by kernel_rfl) (fun _ _ _ h => h) (Or.inl ⟨by rfl, ?_⟩) ?_ ?_
              rotate_left
              · (intro w'; go_simp; with_reducible rfl)
              rotate_left
              · (simp only [Act.put, List.setIfInBounds_toArray, List.set_cons_zero, List.set_cons_succ]; rfl)
              refine pure_ (i := 12) (N := (some 48)) (v := ?_) (a' := ?_) #[true, true, true, true, true, true, true, true, true, true, true, true, true, false, false, false, false, false] rfl rfl (by kernel_rfl) (fun _ _ _ h => h) (Or.inl ⟨by rfl, ?_⟩) ?_ ?_
              rotate_left
              · (intro w'; go_simp; with_reducible rfl)
              rotate_left
              · (simp only [Act.put, List.setIfInBounds_toArray, List.set_cons_zero, List.set_cons_succ]; rfl)
              refine pure_ (i := 13) (N := (some 49)) (v := ?_) (a' := ?_) #[true, true, true, true, true, true, true, true, true, true, true, true, true, true, false, false, false, false] rfl rfl (by kernel_rfl) (fun _ _ _ h => h) (Or.inl ⟨by rfl, ?_⟩) ?_ ?_
              rotate_left
              · (intro w'; go_simp; with_reducible rfl)
              rotate_left
              · (simp only [Act.put, List.setIfInBounds_toArray, List.set_cons_zero, List.set_cons_succ]; rfl)
              refine pure_ (i := 14) (N := (some 50)) (v := ?_) (a' := ?_) #[true, true, true, true, true, true, true, true, true, true, true, true, true, true, true, false, false, false] rfl rfl (by kernel_rfl) (fun _ _ _ h => h) (Or.inl ⟨by rfl, ?_⟩) ?_ ?_
              rotate_left
              · (intro w'; go_simp; with_reducible rfl)
              rotate_left
              · (simp only [Act.put, List.setIfInBounds_toArray, List.set_cons_zero, List.set_cons_succ]; rfl)
              refine pure_ (i := 15) (N := (some 51)) (v := ?_) (a' := ?_) #[true, true, true, true, true, true, true, true, true, true, true, true, true, true, true, true, false, false] rfl rfl (by kernel_rfl) (fun _ _ _ h => h) (Or.inl ⟨by rfl, ?_⟩) ?_ ?_
              rotate_left
              · (intro w'; go_simp; with_reducible rfl)
              rotate_left
              · (simp only [Act.put, List.setIfInBounds_toArray, List.set_cons_zero, List.set_cons_succ]; rfl)
              refine pure_ (i := 16) (N := (some 52)) (v := _) (a' := ?_) #[true, true, true, true, true, true, true, true, true, true, true, true, true, true, true, true, true, false] rfl rfl (by kernel_rfl) (fun _ _ _ h => h) (yields_slice (by rfl) 23 (.tmp 46) (some (.tmp 48)) (some (.tmp 51)) (by rfl) (.pointer (some ⟨wo.heap.size, 1, none⟩)) (by rfl) (some (.int .i64 0)) (some (.int .i64 16)) (by rfl) (by rfl) _ s2) ?_ ?_
              rotate_left
              · (simp only [Act.put, List.setIfInBounds_toArray, List.set_cons_zero, List.set_cons_succ]; rfl)
              refine last_ (i := 17) (N := (some 53)) #[true, true, true, true, true, true, true, true, true, true, true, true, true, true, true, true, true, true] rfl rfl (by kernel_rfl) (by decide) (fun K hK => ?_)
              have hln : (L.set n.toNat (mixTo a0 b p 0))[n.toNat]? = some (mixTo a0 b p 0) := by
                have := HL.out
                rw [List.getElem?_set, if_pos rfl, if_pos (by omega)]
              obtain ⟨w3, hrun, hg3, hd3⟩ := HDJ.out.drew.drew.copy (a := mixTo a0 b p 0) hln hb 0 (by omega) wo.heap.size 1 HXB.out 64 64 64 (by omega)
              refine value_ (by rfl) rfl (exec_copy 42 42 3 (.tmp 45) (.tmp 52) (by rfl) (by rfl) (.slice (some ⟨lb, n.toNat * 64 + 0, none⟩) 64 64) (.slice (some ⟨wo.heap.size, 1 + 0, none⟩) 16 64) (by rfl) (by rfl) hrun) ?_
              refine hK.out _ _ ?_
              clear hK K
              refine norm_ (a' := ?_) ?_ ?_
              rotate_left
              · (show Act.put _ (some 53) _ = _; simp only [Act.put, List.setIfInBounds_toArray, List.set_cons_zero, List.set_cons_succ]; rfl)
              refine done_ (by kernel_rfl) ?_
              go_wp2_with fail
              go_roundw
              case rel =>
                refine ⟨1, by omega, by omega, rfl, ?_, grownBy_trans (grownBy_drew (grownBy_drew HGJ.out)) hg3⟩
                have e : mixTo a0 b p (1 : Int).toNat = (mixTo a0 b p 0).take 0 ++ (b.drop 0).take 16 ++ (mixTo a0 b p 0).drop (0 + 16) := by
                  show mixQ (mixTo a0 b p 0) b p 0 = _
                  unfold mixQ
                  exact if_pos HBIT.out
                rw [e]
                have hd3 := hd3
                rw [List.set_set] at hd3
                exact hd3
              case measure => simp [intOf]
            · have hbit' : (bits .and .i64 p (IntKind.i64.wrap 1) != 0) = false := by simpa using hbit
              clear hbit
              go_wp2_with fail
              refine start_ (n := 8) (S := (fun w1 => w1.cell? ⟨k, po + kk, none⟩ = some (.int .i64 p))) (ds := []) #[false, false, false, false, false, false, false, false] (by kernel_rfl) rfl rfl E1.out (fun hHeld => ?_)
              refine pure_ (i := 0) (N := (some 28)) (v := ?_) (a' := ?_) #[true, false, false, false, false, false, false, false] rfl rfl (by kernel_rfl) (fun _ _ _ h => h) (Or.inl ⟨by rfl, ?_⟩) ?_ ?_
              rotate_left
              · (intro w'; go_simp; with_reducible rfl)
              rotate_left
              · (simp only [Act.put, List.setIfInBounds_toArray, List.set_cons_zero, List.set_cons_succ]; rfl)
              refine pure_ (i := 1) (N := (some 29)) (v := ?_) (a' := ?_) #[true, true, false, false, false, false, false, false] rfl rfl (by kernel_rfl) (fun _ _ _ h => h) (Or.inl ⟨by rfl, ?_⟩) ?_ ?_
              rotate_left
              · (intro w'; go_simp; with_reducible rfl)
              rotate_left
              · (simp only [Act.put, List.setIfInBounds_toArray, List.set_cons_zero, List.set_cons_succ]; rfl)
              refine pure_ (i := 2) (N := (some 30)) (v := ?_) (a' := ?_) #[true, true, true, false, false, false, false, false] rfl rfl (by kernel_rfl) (fun _ _ _ h => h) (Or.inl ⟨by rfl, ?_⟩) ?_ ?_
              rotate_left
              · (intro w'; go_simp; with_reducible rfl)
              rotate_left
              · (simp only [Act.put, List.setIfInBounds_toArray, List.set_cons_zero, List.set_cons_succ]; rfl)
              refine take_ (i := 3) (N := (some 31)) (v := ?_) (a' := ?_) #[true, true, true, true, false, false, false, false] rfl rfl (by kernel_rfl) (fun _ _ _ h => h) (Or.inl ⟨by rfl, ?_⟩) hHeld ?_ ?_
              rotate_left
              · (rintro w' hSw; (try dsimp only at hSw); go_split_ands; go_simp; with_reducible rfl)
              rotate_left
              · (simp only [Act.put, List.setIfInBounds_toArray, List.set_cons_zero, List.set_cons_succ]; rfl)
              refine pure_ (i := 4) (N := (some 32)) (v := ?_) (a' := ?_) #[true, true, true, true, true, false, false, false] rfl rfl (by kernel_rfl) (fun _ _ _ h => h) (Or.inl ⟨by rfl, ?_⟩) ?_ ?_
              rotate_left
              · (intro w'; go_simp; with_reducible rfl)
              rotate_left
              · (simp only [Act.put, List.setIfInBounds_toArray, List.set_cons_zero, List.set_cons_succ]; rfl)
              refine pure_ (i := 5) (N := (some 33)) (v := ?_) (a' := ?_) #[true, true, true, true, true, true, false, false] rfl rfl (by kernel_rfl) (fun _ _ _ h => h) (Or.inl ⟨by rfl, ?_⟩) ?_ ?_
              rotate_left
              · (intro w'; go_simp; with_reducible rfl)
              rotate_left
              · (simp only [Act.put, List.setIfInBounds_toArray, List.set_cons_zero, List.set_cons_succ]; rfl)
              refine pure_ (i := 6) (N := (some 34)) (v := ?_) (a' := ?_) #[true, true, true, true, true, true, true, false] rfl rfl (by kernel_rfl) (fun _ _ _ h => h) (Or.inl ⟨by rfl, ?_⟩) ?_ ?_
              rotate_left
              · (intro w'; go_simp; with_reducible rfl)
              rotate_left
              · (simp only [Act.put, List.setIfInBounds_toArray, List.set_cons_zero, List.set_cons_succ]; rfl)
              refine pure_ (i := 7) (N := (some 35)) (v := ?_) (a' := ?_) #[true, true, true, true, true, true, true, true] rfl rfl (by kernel_rfl) (fun _ _ _ h => h) (Or.inl ⟨by rfl, ?_⟩) ?_ ?_
              rotate_left
              · (intro w'; go_simp; with_reducible rfl)
              rotate_left
              · (simp only [Act.put, List.setIfInBounds_toArray, List.set_cons_zero, List.set_cons_succ]; rfl)
              refine done_ (by kernel_rfl) ?_
              go_wp2_with fail
              go_roundw
              case rel =>
                refine ⟨1, by omega, by omega, rfl, ?_, grownBy_drew HGJ.out⟩
                have e : mixTo a0 b p (1 : Int).toNat = mixTo a0 b p 0 := by
                  show mixQ (mixTo a0 b p 0) b p 0 = _
                  unfold mixQ
                  rw [if_neg (by
                    have h2 : bits .and .i64 p (2 ^ 0) = bits .and .i64 p (IntKind.i64.wrap 1) := rfl
                    rw [h2, hbit']; simp)]
                rw [e]
                exact HDJ.out.drew
              case measure => simp [intOf]
          · clear hjj hj0
            by_cases hbit : (bits .and .i64 p (IntKind.i64.wrap 2) != 0) = true
            · go_wp2_with fail
              refine start_ (n := 8) (S := (fun w1 => w1.cell? ⟨k, po + kk, none⟩ = some (.int .i64 p))) (ds := []) #[false, false, false, false, false, false, false, false] (by kernel_rfl) rfl rfl E1.out (fun hHeld => ?_)
              refine pure_ (i := 0) (N := (some 28)) (v := ?_) (a' := ?_) #[true, false, false, false, false, false, false, false] rfl rfl (by kernel_rfl) (fun _ _ _ h => h) (Or.inl ⟨by rfl, ?_⟩) ?_ ?_
              rotate_left
              · (intro w'; go_simp; with_reducible rfl)
              rotate_left
              · (simp only [Act.put, List.setIfInBounds_toArray, List.set_cons_zero, List.set_cons_succ]; rfl)
              refine pure_ (i := 1) (N := (some 29)) (v := ?_) (a' := ?_) #[true, true, false, false, false, false, false, false] rfl rfl (by kernel_rfl) (fun _ _ _ h => h) (Or.inl ⟨by rfl, ?_⟩) ?_ ?_
              rotate_left
              · (intro w'; go_simp; with_reducible rfl)
              rotate_left
              · (simp only [Act.put, List.setIfInBounds_toArray, List.set_cons_zero, List.set_cons_succ]; rfl)
              refine pure_ (i := 2) (N := (some 30)) (v := ?_) (a' := ?_) #[true, true, true, false, false, false, false, false] rfl rfl (by kernel_rfl) (fun _ _ _ h => h) (Or.inl ⟨by rfl, ?_⟩) ?_ ?_
              rotate_left
              · (intro w'; go_simp; with_reducible rfl)
              rotate_left
              · (simp only [Act.put, List.setIfInBounds_toArray, List.set_cons_zero, List.set_cons_succ]; rfl)
              refine take_ (i := 3) (N := (some 31)) (v := ?_) (a' := ?_) #[true, true, true, true, false, false, false, false] rfl rfl (by kernel_rfl) (fun _ _ _ h => h) (Or.inl ⟨by rfl, ?_⟩) hHeld ?_ ?_
              rotate_left
              · (rintro w' hSw; (try dsimp only at hSw); go_split_ands; go_simp; with_reducible rfl)
              rotate_left
              · (simp only [Act.put, List.setIfInBounds_toArray, List.set_cons_zero, List.set_cons_succ]; rfl)
              refine pure_ (i := 4) (N := (some 32)) (v := ?_) (a' := ?_) #[true, true, true, true, true, false, false, false] rfl rfl (by kernel_rfl) (fun _ _ _ h => h) (Or.inl ⟨by rfl, ?_⟩) ?_ ?_
              rotate_left
              · (intro w'; go_simp; with_reducible rfl)
              rotate_left
              · (simp only [Act.put, List.setIfInBounds_toArray, List.set_cons_zero, List.set_cons_succ]; rfl)
              refine pure_ (i := 5) (N := (some 33)) (v := ?_) (a' := ?_) #[true, true, true, true, true, true, false, false] rfl rfl (by kernel_rfl) (fun _ _ _ h => h) (Or.inl ⟨by rfl, ?_⟩) ?_ ?_
              rotate_left
              · (intro w'; go_simp; with_reducible rfl)
              rotate_left
              · (simp only [Act.put, List.setIfInBounds_toArray, List.set_cons_zero, List.set_cons_succ]; rfl)
              refine pure_ (i := 6) (N := (some 34)) (v := ?_) (a' := ?_) #[true, true, true, true, true, true, true, false] rfl rfl (by kernel_rfl) (fun _ _ _ h => h) (Or.inl ⟨by rfl, ?_⟩) ?_ ?_
              rotate_left
              · (intro w'; go_simp; with_reducible rfl)
              rotate_left
              · (simp only [Act.put, List.setIfInBounds_toArray, List.set_cons_zero, List.set_cons_succ]; rfl)
              refine pure_ (i := 7) (N := (some 35)) (v := ?_) (a' := ?_) #[true, true, true, true, true, true, true, true] rfl rfl (by kernel_rfl) (fun _ _ _ h => h) (Or.inl ⟨by rfl, ?_⟩) ?_ ?_
              rotate_left
              · (intro w'; go_simp; with_reducible rfl)
              rotate_left
              · (simp only [Act.put, List.setIfInBounds_toArray, List.set_cons_zero, List.set_cons_succ]; rfl)
              refine done_ (by kernel_rfl) ?_
              go_wp2_with fail
              have hn1' : n < (D.laid.length : Int) := hn1
              have HBIT := Lib.hid hbit; clear hbit
              have q1 : IntKind.i64.wrap 16 = 16 := by decide
              have q2 : IntKind.i64.wrap 2 = 2 := by decide
              have q3 : IntKind.i64.wrap 32 = 32 := by decide
              have s1 : ∀ W : World, (Instr.sliceAt 23 (.pointer (some ⟨lb, n.toNat * 64, none⟩)) (some (.int .i64 16)) none none).run Try.prog W = .ok (.slice (some ⟨lb, n.toNat * 64 + 16, none⟩) 48 48) W := fun _ => by kernel_rfl
              have s2 : ∀ W : World, (Instr.sliceAt 23 (.pointer (some ⟨wo.heap.size, 1, none⟩)) (some (.int .i64 16)) (some (.int .i64 32)) none).run Try.prog W = .ok (.slice (some ⟨wo.heap.size, 1 + 16, none⟩) 16 48) W := fun _ => by kernel_rfl
              refine start_ (n := 18) (S := (fun w1 => w1.cell? ⟨g, 0, none⟩ = some (.slice (some ⟨lb, 0, none⟩) D.laid.length lc) ∧ w1.cell? ⟨wo.heap.size, 0, none⟩ = some (.int .i64 n))) (ds := [17]) #[false, false, false, false, false, false, false, false, false, false, false, false, false, false, false, false, false, false] (by kernel_rfl) rfl rfl ⟨EG.out, E0.out⟩ (fun hHeld => ?_)
              refine pure_ (i := 0) (N := (some 36)) (v := ?_) (a' := ?_) #[true, false, false, false, false, false, false, false, false, false, false, false, false, false, false, false, false, false] rfl rfl (by kernel_rfl) (fun _ _ _ h => h) (Or.inl ⟨by rfl, ?_⟩) ?_ ?_
              rotate_left
              · (intro w'; go_simp; with_reducible rfl)
              rotate_left
              · (simp only [Act.put, List.setIfInBounds_toArray, List.set_cons_zero, List.set_cons_succ]; rfl)
              refine pure_ (i := 1) (N := (some 37)) (v := ?_) (a' := ?_) #[true, true, false, false, false, false, false, false, false, false, false, false, false, false, false, false, false, false] rfl rfl (by kernel_rfl) (fun _ _ _ h => h) (Or.inl ⟨by rfl, ?_⟩) ?_ ?_
              rotate_left
              · (intro w'; go_simp; with_reducible rfl)
              rotate_left
              · (simp only [Act.put, List.setIfInBounds_toArray, List.set_cons_zero, List.set_cons_succ]; rfl)
              refine pure_ (i := 2) (N := (some 38)) (v := ?_) (a' := ?_) #[true, true, true, false, false, false, false, false, false, false, false, false, false, false, false, false, false, false] rfl rfl (by kernel_rfl) (fun _ _ _ h => h) (Or.inl ⟨by rfl, ?_⟩) ?_ ?_
              rotate_left
              · (intro w'; go_simp; with_reducible rfl)
              rotate_left
              · (simp only [Act.put, List.setIfInBounds_toArray, List.set_cons_zero, List.set_cons_succ]; rfl)
              refine take_ (i := 3) (N := (some 39)) (v := ?_) (a' := ?_) #[true, true, true, true, false, false, false, false, false, false, false, false, false, false, false, false, false, false] rfl rfl (by kernel_rfl) (fun _ _ _ h => h) (Or.inl ⟨by rfl, ?_⟩) hHeld ?_ ?_
              rotate_left
              · (rintro w' hSw; (try dsimp only at hSw); go_split_ands; go_simp; with_reducible rfl)
              rotate_left
              · (simp only [Act.put, List.setIfInBounds_toArray, List.set_cons_zero, List.set_cons_succ]; rfl)
              refine pure_ (i := 4) (N := (some 40)) (v := ?_) (a' := ?_) #[true, true, true, true, true, false, false, false, false, false, false, false, false, false, false, false, false, false] rfl rfl (by kernel_rfl) (fun _ _ _ h => h) (Or.inl ⟨by rfl, ?_⟩) ?_ ?_
              rotate_left
              · (intro w'; go_simp; with_reducible rfl)
              rotate_left
              · (simp only [Act.put, List.setIfInBounds_toArray, List.set_cons_zero, List.set_cons_succ]; rfl)
              refine take_ (i := 5) (N := (some 41)) (v := ?_) (a' := ?_) #[true, true, true, true, true, true, false, false, false, false, false, false, false, false, false, false, false, false] rfl rfl (by kernel_rfl) (fun _ _ _ h => h) (Or.inl ⟨by rfl, ?_⟩) hHeld ?_ ?_
              rotate_left
              · (rintro w' hSw; (try dsimp only at hSw); go_split_ands; go_simp; with_reducible rfl)
              rotate_left
              · (simp only [Act.put, List.setIfInBounds_toArray, List.set_cons_zero, List.set_cons_succ]; rfl)
              refine pure_ (i := 6) (N := (some 42)) (v := ?_) (a' := ?_) #[true, true, true, true, true, true, true, false, false, false, false, false, false, false, false, false, false, false] rfl rfl (by kernel_rfl) (fun _ _ _ h => h) (Or.inl ⟨by rfl, ?_⟩) ?_ ?_
              rotate_left
              · (intro w'; go_simp; with_reducible rfl)
              rotate_left
              · (simp only [Act.put, List.setIfInBounds_toArray, List.set_cons_zero, List.set_cons_succ]; rfl)
              refine pure_ (i := 7) (N := (some 43)) (v := ?_) (a' := ?_) #[true, true, true, true, true, true, true, true, false, false, false, false, false, false, false, false, false, false] rfl rfl (by kernel_rfl) (fun _ _ _ h => h) (Or.inl ⟨by rfl, ?_⟩) ?_ ?_
              rotate_left
              · (intro w'; go_simp; with_reducible rfl)
              rotate_left
              · (simp only [Act.put, List.setIfInBounds_toArray, List.set_cons_zero, List.set_cons_succ]; rfl)
              refine pure_ (i := 8) (N := (some 44)) (v := ?_) (a' := ?_) #[true, true, true, true, true, true, true, true, true, false, false, false, false, false, false, false, false, false] rfl rfl (by kernel_rfl) (fun _ _ _ h => h) (Or.inl ⟨by rfl, ?_⟩) ?_ ?_
              rotate_left
              · (intro w'; go_simp; with_reducible rfl)
              rotate_left
              · (simp only [Act.put, List.setIfInBounds_toArray, List.set_cons_zero, List.set_cons_succ]; rfl)
              refine pure_ (i := 9) (N := (some 45)) (v := _) (a' := ?_) #[true, true, true, true, true, true, true, true, true, true, false, false, false, false, false, false, false, false] rfl rfl (by kernel_rfl) (fun _ _ _ h => h) (yields_slice (by rfl) 23 (.tmp 42) (some (.tmp 44)) none (by rfl) (.pointer (some ⟨lb, n.toNat * 64, none⟩)) (by rfl) (some (.int .i64 16)) none (by rfl) (by rfl) _ s1) ?_ ?_
              rotate_left
              · (simp only [Act.put, List.setIfInBounds_toArray, List.set_cons_zero, List.set_cons_succ]; rfl)
              refine pure_ (i := 10) (N := (some 46)) (v := ?_) (a' := ?_) #[true, true, true, true, true, true, true, true, true, true, true, false, false, false, false, false, false, false] rfl rfl (by kernel_rfl) (fun _ _ _ h => h) (Or.inl ⟨by rfl, ?_⟩) ?_ ?_
              rotate_left
              · (intro w'; go_simp; with_reducible rfl)
              rotate_left
              · (simp only [Act.put, List.setIfInBounds_toArray, List.set_cons_zero, List.set_cons_succ]; rfl)
              refine pure_ (i := 11) (N := (some 47)) (v := ?_) (a' := ?_) #[true, true, true, true, true, true, true, true, true, true, true, true, false, false, false, false, false, false] rfl rfl (by kernel_rfl) (fun _ _ _ h => h) (Or.inl ⟨by rfl, ?_⟩) ?_ ?_
              rotate_left
              · (intro w'; go_simp; with_reducible rfl)
              rotate_left
              · (simp only [Act.put, List.setIfInBounds_toArray, List.set_cons_zero, List.set_cons_succ]; rfl)
              refine pure_ (i := 12) (N := (some 48)) (v := ?_) (a' := ?_) #[true, true, true, true, true, true, true, true, true, true, true, true, true, false, false, false, false, false] rfl rfl (by kernel_rfl) (fun _ _ _ h => h) (Or.inl ⟨by rfl, ?_⟩) ?_ ?_
              rotate_left
              · (intro w'; go_simp; with_reducible rfl)
              rotate_left
              · (simp only [Act.put, List.setIfInBounds_toArray, List.set_cons_zero, List.set_cons_succ]; rfl)
              refine pure_ (i := 13) (N := (some 49)) (v := ?_) (a' := ?_) #[true, true, true, true, true, true, true, true, true, true, true, true, true, true, false, false, false, false] rfl rfl (by kernel_rfl) (fun _ _ _ h => h) (Or.inl ⟨by rfl, ?_⟩) ?_ ?_
              rotate_left
              · (intro w'; go_simp; with_reducible rfl)
              rotate_left
              · (simp only [Act.put, List.setIfInBounds_toArray, List.set_cons_zero, List.set_cons_succ]; rfl)
              refine pure_ (i := 14) (N := (some 50)) (v := ?_) (a' := ?_) #[true, true, true, true, true, true, true, true, true, true, true, true, true, true, true, false, false, false] rfl rfl (by kernel_rfl) (fun _ _ _ h => h) (Or.inl ⟨by rfl, ?_⟩) ?_ ?_
              rotate_left
              · (intro w'; go_simp; with_reducible rfl)
              rotate_left
              · (simp only [Act.put, List.setIfInBounds_toArray, List.set_cons_zero, List.set_cons_succ]; rfl)
              refine pure_ (i := 15) (N := (some 51)) (v := ?_) (a' := ?_) #[true, true, true, true, true, true, true, true, true, true, true, true, true, true, true, true, false, false] rfl rfl (by kernel_rfl) (fun _ _ _ h => h) (Or.inl ⟨by rfl, ?_⟩) ?_ ?_
              rotate_left
              · (intro w'; go_simp; with_reducible rfl)
              rotate_left
              · (simp only [Act.put, List.setIfInBounds_toArray, List.set_cons_zero, List.set_cons_succ]; rfl)
              refine pure_ (i := 16) (N := (some 52)) (v := _) (a' := ?_) #[true, true, true, true, true, true, true, true, true, true, true, true, true, true, true, true, true, false] rfl rfl (by kernel_rfl) (fun _ _ _ h => h) (yields_slice (by rfl) 23 (.tmp 46) (some (.tmp 48)) (some (.tmp 51)) (by rfl) (.pointer (some ⟨wo.heap.size, 1, none⟩)) (by rfl) (some (.int .i64 16)) (some (.int .i64 32)) (by rfl) (by rfl) _ s2) ?_ ?_
              rotate_left
              · (simp only [Act.put, List.setIfInBounds_toArray, List.set_cons_zero, List.set_cons_succ]; rfl)
              refine last_ (i := 17) (N := (some 53)) #[true, true, true, true, true, true, true, true, true, true, true, true, true, true, true, true, true, true] rfl rfl (by kernel_rfl) (by decide) (fun K hK => ?_)
              have hln : (L.set n.toNat (mixTo a0 b p 1))[n.toNat]? = some (mixTo a0 b p 1) := by
                have := HL.out
                rw [List.getElem?_set, if_pos rfl, if_pos (by omega)]
              obtain ⟨w3, hrun, hg3, hd3⟩ := HDJ.out.drew.drew.copy (a := mixTo a0 b p 1) hln hb 16 (by omega) wo.heap.size 1 HXB.out 48 48 48 (by omega)
              refine value_ (by rfl) rfl (exec_copy 42 42 3 (.tmp 45) (.tmp 52) (by rfl) (by rfl) (.slice (some ⟨lb, n.toNat * 64 + 16, none⟩) 48 48) (.slice (some ⟨wo.heap.size, 1 + 16, none⟩) 16 48) (by rfl) (by rfl) hrun) ?_
              refine hK.out _ _ ?_
              clear hK K
              refine norm_ (a' := ?_) ?_ ?_
              rotate_left
              · (show Act.put _ (some 53) _ = _; simp only [Act.put, List.setIfInBounds_toArray, List.set_cons_zero, List.set_cons_succ]; rfl)
              refine done_ (by kernel_rfl) ?_
              go_wp2_with fail
              go_roundw
              case rel =>
                refine ⟨2, by omega, by omega, rfl, ?_, grownBy_trans (grownBy_drew (grownBy_drew HGJ.out)) hg3⟩
                have e : mixTo a0 b p (2 : Int).toNat = (mixTo a0 b p 1).take 16 ++ (b.drop 16).take 16 ++ (mixTo a0 b p 1).drop (16 + 16) := by
                  show mixQ (mixTo a0 b p 1) b p 1 = _
                  unfold mixQ
                  exact if_pos HBIT.out
                rw [e]
                have hd3 := hd3
                rw [List.set_set] at hd3
                exact hd3
              case measure => simp [intOf]
            · have hbit' : (bits .and .i64 p (IntKind.i64.wrap 2) != 0) = false := by simpa using hbit
              clear hbit
              go_wp2_with fail
              refine start_ (n := 8) (S := (fun w1 => w1.cell? ⟨k, po + kk, none⟩ = some (.int .i64 p))) (ds := []) #[false, false, false, false, false, false, false, false] (by kernel_rfl) rfl rfl E1.out (fun hHeld => ?_)
              refine pure_ (i := 0) (N := (some 28)) (v := ?_) (a' := ?_) #[true, false, false, false, false, false, false, false] rfl rfl (by kernel_rfl) (fun _ _ _ h => h) (Or.inl ⟨by rfl, ?_⟩) ?_ ?_
              rotate_left
              · (intro w'; go_simp; with_reducible rfl)
              rotate_left
              · (simp only [Act.put, List.setIfInBounds_toArray, List.set_cons_zero, List.set_cons_succ]; rfl)
              refine pure_ (i := 1) (N := (some 29)) (v := ?_) (a' := ?_) #[true, true, false, false, false, false, false, false] rfl rfl (by kernel_rfl) (fun _ _ _ h => h) (Or.inl ⟨by rfl, ?_⟩) ?_ ?_
              rotate_left
              · (intro w'; go_simp; with_reducible rfl)
              rotate_left
              · (simp only [Act.put, List.setIfInBounds_toArray, List.set_cons_zero, List.set_cons_succ]; rfl)
              refine pure_ (i := 2) (N := (some 30)) (v := ?_) (a' := ?_) #[true, true, true, false, false, false, false, false] rfl rfl (by kernel_rfl) (fun _ _ _ h => h) (Or.inl ⟨by rfl, ?_⟩) ?_ ?_
              rotate_left
              · (intro w'; go_simp; with_reducible rfl)
              rotate_left
              · (simp only [Act.put, List.setIfInBounds_toArray, List.set_cons_zero, List.set_cons_succ]; rfl)
              refine take_ (i := 3) (N := (some 31)) (v := ?_) (a' := ?_) #[true, true, true, true, false, false, false, false] rfl rfl (by kernel_rfl) (fun _ _ _ h => h) (Or.inl ⟨by rfl, ?_⟩) hHeld ?_ ?_
              rotate_left
              · (rintro w' hSw; (try dsimp only at hSw); go_split_ands; go_simp; with_reducible rfl)
              rotate_left
              · (simp only [Act.put, List.setIfInBounds_toArray, List.set_cons_zero, List.set_cons_succ]; rfl)
              refine pure_ (i := 4) (N := (some 32)) (v := ?_) (a' := ?_) #[true, true, true, true, true, false, false, false] rfl rfl (by kernel_rfl) (fun _ _ _ h => h) (Or.inl ⟨by rfl, ?_⟩) ?_ ?_
              rotate_left
              · (intro w'; go_simp; with_reducible rfl)
              rotate_left
              · (simp only [Act.put, List.setIfInBounds_toArray, List.set_cons_zero, List.set_cons_succ]; rfl)
              refine pure_ (i := 5) (N := (some 33)) (v := ?_) (a' := ?_) #[true, true, true, true, true, true, false, false] rfl rfl (by kernel_rfl) (fun _ _ _ h => h) (Or.inl ⟨by rfl, ?_⟩) ?_ ?_
              rotate_left
              · (intro w'; go_simp; with_reducible rfl)
              rotate_left
              · (simp only [Act.put, List.setIfInBounds_toArray, List.set_cons_zero, List.set_cons_succ]; rfl)
              refine pure_ (i := 6) (N := (some 34)) (v := ?_) (a' := ?_) #[true, true, true, true, true, true, true, false] rfl rfl (by kernel_rfl) (fun _ _ _ h => h) (Or.inl ⟨by rfl, ?_⟩) ?_ ?_
              rotate_left
              · (intro w'; go_simp; with_reducible rfl)
              rotate_left
              · (simp only [Act.put, List.setIfInBounds_toArray, List.set_cons_zero, List.set_cons_succ]; rfl)
              refine pure_ (i := 7) (N := (some 35)) (v := ?_) (a' := ?_) #[true, true, true, true, true, true, true, true] rfl rfl (by kernel_rfl) (fun _ _ _ h => h) (Or.inl ⟨by rfl, ?_⟩) ?_ ?_
              rotate_left
              · (intro w'; go_simp; with_reducible rfl)
              rotate_left
              · (simp only [Act.put, List.setIfInBounds_toArray, List.set_cons_zero, List.set_cons_succ]; rfl)
              refine done_ (by kernel_rfl) ?_
              go_wp2_with fail
              go_roundw
              case rel =>
                refine ⟨2, by omega, by omega, rfl, ?_, grownBy_drew HGJ.out⟩
                have e : mixTo a0 b p (2 : Int).toNat = mixTo a0 b p 1 := by
                  show mixQ (mixTo a0 b p 1) b p 1 = _
                  unfold mixQ
                  rw [if_neg (by
                    have h2 : bits .and .i64 p (2 ^ 1) = bits .and .i64 p (IntKind.i64.wrap 2) := rfl
                    rw [h2, hbit']; simp)]
                rw [e]
                exact HDJ.out.drew
              case measure => simp [intOf]
          · clear hjj hj0
            by_cases hbit : (bits .and .i64 p (IntKind.i64.wrap 4) != 0) = true
            · go_wp2_with fail
              refine start_ (n := 8) (S := (fun w1 => w1.cell? ⟨k, po + kk, none⟩ = some (.int .i64 p))) (ds := []) #[false, false, false, false, false, false, false, false] (by kernel_rfl) rfl rfl E1.out (fun hHeld => ?_)
              refine pure_ (i := 0) (N := (some 28)) (v := ?_) (a' := ?_) #[true, false, false, false, false, false, false, false] rfl rfl (by kernel_rfl) (fun _ _ _ h => h) (Or.inl ⟨by rfl, ?_⟩) ?_ ?_
              rotate_left
              · (intro w'; go_simp; with_reducible rfl)
              rotate_left
              · (simp only [Act.put, List.setIfInBounds_toArray, List.set_cons_zero, List.set_cons_succ]; rfl)
              refine pure_ (i := 1) (N := (some 29)) (v := ?_) (a' := ?_) #[true, true, false, false, false, false, false, false] rfl rfl (by kernel_rfl) (fun _ _ _ h => h) (Or.inl ⟨by rfl, ?_⟩) ?_ ?_
              rotate_left
              · (intro w'; go_simp; with_reducible rfl)
              rotate_left
              · (simp only [Act.put, List.setIfInBounds_toArray, List.set_cons_zero, List.set_cons_succ]; rfl)
              refine pure_ (i := 2) (N := (some 30)) (v := ?_) (a' := ?_) #[true, true, true, false, false, false, false, false] rfl rfl (by kernel_rfl) (fun _ _ _ h => h) (Or.inl ⟨by rfl, ?_⟩) ?_ ?_
              rotate_left
              · (intro w'; go_simp; with_reducible rfl)
              rotate_left
              · (simp only [Act.put, List.setIfInBounds_toArray, List.set_cons_zero, List.set_cons_succ]; rfl)
              refine take_ (i := 3) (N := (some 31)) (v := ?_) (a' := ?_) #[true, true, true, true, false, false, false, false] rfl rfl (by kernel_rfl) (fun _ _ _ h => h) (Or.inl ⟨by rfl, ?_⟩) hHeld ?_ ?_
              rotate_left
              · (rintro w' hSw; (try dsimp only at hSw); go_split_ands; go_simp; with_reducible rfl)
              rotate_left
              · (simp only [Act.put, List.setIfInBounds_toArray, List.set_cons_zero, List.set_cons_succ]; rfl)
              refine pure_ (i := 4) (N := (some 32)) (v := ?_) (a' := ?_) #[true, true, true, true, true, false, false, false] rfl rfl (by kernel_rfl) (fun _ _ _ h => h) (Or.inl ⟨by rfl, ?_⟩) ?_ ?_
              rotate_left
              · (intro w'; go_simp; with_reducible rfl)
              rotate_left
              · (simp only [Act.put, List.setIfInBounds_toArray, List.set_cons_zero, List.set_cons_succ]; rfl)
              refine pure_ (i := 5) (N := (some 33)) (v := ?_) (a' := ?_) #[true, true, true, true, true, true, false, false] rfl rfl (by kernel_rfl) (fun _ _ _ h => h) (Or.inl ⟨by rfl, ?_⟩) ?_ ?_
              rotate_left
              · (intro w'; go_simp; with_reducible rfl)
              rotate_left
              · (simp only [Act.put, List.setIfInBounds_toArray, List.set_cons_zero, List.set_cons_succ]; rfl)
              refine pure_ (i := 6) (N := (some 34)) (v := ?_) (a' := ?_) #[true, true, true, true, true, true, true, false] rfl rfl (by kernel_rfl) (fun _ _ _ h => h) (Or.inl ⟨by rfl, ?_⟩) ?_ ?_
              rotate_left
              · (intro w'; go_simp; with_reducible rfl)
              rotate_left
              · (simp only [Act.put, List.setIfInBounds_toArray, List.set_cons_zero, List.set_cons_succ]; rfl)
              refine pure_ (i := 7) (N := (some 35)) (v := ?_) (a' := ?_) #[true, true, true, true, true, true, true, true] rfl rfl (by kernel_rfl) (fun _ _ _ h => h) (Or.inl ⟨by rfl, ?_⟩) ?_ ?_
              rotate_left
              · (intro w'; go_simp; with_reducible rfl)
              rotate_left
              · (simp only [Act.put, List.setIfInBounds_toArray, List.set_cons_zero, List.set_cons_succ]; rfl)
              refine done_ (by kernel_rfl) ?_
              go_wp2_with fail
              have hn1' : n < (D.laid.length : Int) := hn1
              have HBIT := Lib.hid hbit; clear hbit
              have q1 : IntKind.i64.wrap 32 = 32 := by decide
              have q2 : IntKind.i64.wrap 3 = 3 := by decide
              have q3 : IntKind.i64.wrap 48 = 48 := by decide
              have s1 : ∀ W : World, (Instr.sliceAt 23 (.pointer (some ⟨lb, n.toNat * 64, none⟩)) (some (.int .i64 32)) none none).run Try.prog W = .ok (.slice (some ⟨lb, n.toNat * 64 + 32, none⟩) 32 32) W := fun _ => by kernel_rfl
              have s2 : ∀ W : World, (Instr.sliceAt 23 (.pointer (some ⟨wo.heap.size, 1, none⟩)) (some (.int .i64 32)) (some (.int .i64 48)) none).run Try.prog W = .ok (.slice (some ⟨wo.heap.size, 1 + 32, none⟩) 16 32) W := fun _ => by kernel_rfl
              refine start_ (n := 18) (S := (fun w1 => w1.cell? ⟨g, 0, none⟩ = some (.slice (some ⟨lb, 0, none⟩) D.laid.length lc) ∧ w1.cell? ⟨wo.heap.size, 0, none⟩ = some (.int .i64 n))) (ds := [17]) #[false, false, false, false, false, false, false, false, false, false, false, false, false, false, false, false, false, false] (by kernel_rfl) rfl rfl ⟨EG.out, E0.out⟩ (fun hHeld => ?_)
              refine pure_ (i := 0) (N := (some 36)) (v := ?_) (a' := ?_) #[true, false, false, false, false, false, false, false, false, false, false, false, false, false, false, false, false, false] rfl rfl (by kernel_rfl) (fun _ _ _ h => h) (Or.inl ⟨by rfl, ?_⟩) ?_ ?_
              rotate_left
              · (intro w'; go_simp; with_reducible rfl)
              rotate_left
              · (simp only [Act.put, List.setIfInBounds_toArray, List.set_cons_zero, List.set_cons_succ]; rfl)
              refine pure_ (i := 1) (N := (some 37)) (v := ?_) (a' := ?_) #[true, true, false, false, false, false, false, false, false, false, false, false, false, false, false, false, false, false] rfl rfl (by kernel_rfl) (fun _ _ _ h => h) (Or.inl ⟨by rfl, ?_⟩) ?_ ?_
              rotate_left
              · (intro w'; go_simp; with_reducible rfl)
              rotate_left
              · (simp only [Act.put, List.setIfInBounds_toArray, List.set_cons_zero, List.set_cons_succ]; rfl)
              refine pure_ (i := 2) (N := (some 38)) (v := ?_) (a' := ?_) #[true, true, true, false, false, false, false, false, false, false, false, false, false, false, false, false, false, false] rfl rfl (by kernel_rfl) (fun _ _ _ h => h) (Or.inl ⟨by rfl, ?_⟩) ?_ ?_
              rotate_left
              · (intro w'; go_simp; with_reducible rfl)
              rotate_left
              · (simp only [Act.put, List.setIfInBounds_toArray, List.set_cons_zero, List.set_cons_succ]; rfl)
              refine take_ (i := 3) (N := (some 39)) (v := ?_) (a' := ?_) #[true, true, true, true, false, false, false, false, false, false, false, false, false, false, false, false, false, false] rfl rfl (by kernel_rfl) (fun _ _ _ h => h) (Or.inl ⟨by rfl, ?_⟩) hHeld ?_ ?_
              rotate_left
              · (rintro w' hSw; (try dsimp only at hSw); go_split_ands; go_simp; with_reducible rfl)
              rotate_left
              · (simp only [Act.put, List.setIfInBounds_toArray, List.set_cons_zero, List.set_cons_succ]; rfl)
              refine pure_ (i := 4) (N := (some 40)) (v := ?_) (a' := ?_) #[true, true, true, true, true, false, false, false, false, false, false, false, false, false, false, false, false, false] rfl rfl (by kernel_rfl) (fun _ _ _ h => h) (Or.inl ⟨by rfl, ?_⟩) ?_ ?_
              rotate_left
              · (intro w'; go_simp; with_reducible rfl)
              rotate_left
              · (simp only [Act.put, List.setIfInBounds_toArray, List.set_cons_zero, List.set_cons_succ]; rfl)
              refine take_ (i := 5) (N := (some 41)) (v := ?_) (a' := ?_) #[true, true, true, true, true, true, false, false, false, false, false, false, false, false, false, false, false, false] rfl rfl (by kernel_rfl) (fun _ _ _ h => h) (Or.inl ⟨by rfl, ?_⟩) hHeld ?_ ?_
              rotate_left
              · (rintro w' hSw; (try dsimp only at hSw); go_split_ands; go_simp; with_reducible rfl)
              rotate_left
              · (simp only [Act.put, List.setIfInBounds_toArray, List.set_cons_zero, List.set_cons_succ]; rfl)
              refine pure_ (i := 6) (N := (some 42)) (v := ?_) (a' := ?_) #[true, true, true, true, true, true, true, false, false, false, false, false, false, false, false, false, false, false] rfl rfl (by kernel_rfl) (fun _ _ _ h => h) (Or.inl ⟨by rfl, ?_⟩) ?_ ?_
              rotate_left
              · (intro w'; go_simp; with_reducible rfl)
              rotate_left
              · (simp only [Act.put, List.setIfInBounds_toArray, List.set_cons_zero, List.set_cons_succ]; rfl)
              refine pure_ (i := 7) (N := (some 43)) (v := ?_) (a' := ?_) #[true, true, true, true, true, true, true, true, false, false, false, false, false, false, false, false, false, false] rfl rfl (by kernel_rfl) (fun _ _ _ h => h) (Or.inl ⟨by rfl, ?_⟩) ?_ ?_
              rotate_left
              · (intro w'; go_simp; with_reducible rfl)
              rotate_left
              · (simp only [Act.put, List.setIfInBounds_toArray, List.set_cons_zero, List.set_cons_succ]; rfl)
              refine pure_ (i := 8) (N := (some 44)) (v := ?_) (a' := ?_) #[true, true, true, true, true, true, true, true, true, false, false, false, false, false, false, false, false, false] rfl rfl (by kernel_rfl) (fun _ _ _ h => h) (Or.inl ⟨by rfl, ?_⟩) ?_ ?_
              rotate_left
              · (intro w'; go_simp; with_reducible rfl)
              rotate_left
              · (simp only [Act.put, List.setIfInBounds_toArray, List.set_cons_zero, List.set_cons_succ]; rfl)
              refine pure_ (i := 9) (N := (some 45)) (v := _) (a' := ?_) #[true, true, true, true, true, true, true, true, true, true, false, false, false, false, false, false, false, false] rfl rfl (by kernel_rfl) (fun _ _ _ h => h) (yields_slice (by rfl) 23 (.tmp 42) (some (.tmp 44)) none (by rfl) (.pointer (some ⟨lb, n.toNat * 64, none⟩)) (by rfl) (some (.int .i64 32)) none (by rfl) (by rfl) _ s1) ?_ ?_
              rotate_left
              · (simp only [Act.put, List.setIfInBounds_toArray, List.set_cons_zero, List.set_cons_succ]; rfl)
              refine pure_ (i := 10) (N := (some 46)) (v := ?_) (a' := ?_) #[true, true, true, true, true, true, true, true, true, true, true, false, false, false, false, false, false, false] rfl rfl (by kernel_rfl) (fun _ _ _ h => h) (Or.inl ⟨by rfl, ?_⟩) ?_ ?_
              rotate_left
              · (intro w'; go_simp; with_reducible rfl)
              rotate_left
              · (simp only [Act.put, List.setIfInBounds_toArray, List.set_cons_zero, List.set_cons_succ]; rfl)
              refine pure_ (i := 11) (N := (some 47)) (v := ?_) (a' := ?_) #[true, true, true, true, true, true, true, true, true, true, true, true, false, false, false, false, false, false] rfl rfl (by kernel_rfl) (fun _ _ _ h => h) (Or.inl ⟨by rfl, ?_⟩) ?_ ?_
              rotate_left
              · (intro w'; go_simp; with_reducible rfl)
              rotate_left
              · (simp only [Act.put, List.setIfInBounds_toArray, List.set_cons_zero, List.set_cons_succ]; rfl)
              refine pure_ (i := 12) (N := (some 48)) (v := ?_) (a' := ?_) #[true, true, true, true, true, true, true, true, true, true, true, true, true, false, false, false, false, false] rfl rfl (by kernel_rfl) (fun _ _ _ h => h) (Or.inl ⟨by rfl, ?_⟩) ?_ ?_
              rotate_left
              · (intro w'; go_simp; with_reducible rfl)
              rotate_left
              · (simp only [Act.put, List.setIfInBounds_toArray, List.set_cons_zero, List.set_cons_succ]; rfl)
              refine pure_ (i := 13) (N := (some 49)) (v := ?_) (a' := ?_) #[true, true, true, true, true, true, true, true, true, true, true, true, true, true, false, false, false, false] rfl rfl (by kernel_rfl) (fun _ _ _ h => h) (Or.inl ⟨by rfl, ?_⟩) ?_ ?_
              rotate_left
              · (intro w'; go_simp; with_reducible rfl)
              rotate_left
              · (simp only [Act.put, List.setIfInBounds_toArray, List.set_cons_zero, List.set_cons_succ]; rfl)
              refine pure_ (i := 14) (N := (some 50)) (v := ?_) (a' := ?_) #[true, true, true, true, true, true, true, true, true, true, true, true, true, true, true, false, false, false] rfl rfl (by kernel_rfl) (fun _ _ _ h => h) (Or.inl ⟨by rfl, ?_⟩) ?_ ?_
              rotate_left
              · (intro w'; go_simp; with_reducible rfl)
              rotate_left
              · (simp only [Act.put, List.setIfInBounds_toArray, List.set_cons_zero, List.set_cons_succ]; rfl)
              refine pure_ (i := 15) (N := (some 51)) (v := ?_) (a' := ?_) #[true, true, true, true, true, true, true, true, true, true, true, true, true, true, true, true, false, false] rfl rfl (by kernel_rfl) (fun _ _ _ h => h) (Or.inl ⟨by rfl, ?_⟩) ?_ ?_
              rotate_left
              · (intro w'; go_simp; with_reducible rfl)
              rotate_left
              · (simp only [Act.put, List.setIfInBounds_toArray, List.set_cons_zero, List.set_cons_succ]; rfl)
              refine pure_ (i := 16) (N := (some 52)) (v := _) (a' := ?_) #[true, true, true, true, true, true, true, true, true, true, true, true, true, true, true, true, true, false] rfl rfl (by kernel_rfl) (fun _ _ _ h => h) (yields_slice (by rfl) 23 (.tmp 46) (some (.tmp 48)) (some (.tmp 51)) (by rfl) (.pointer (some ⟨wo.heap.size, 1, none⟩)) (by rfl) (some (.int .i64 32)) (some (.int .i64 48)) (by rfl) (by rfl) _ s2) ?_ ?_
              rotate_left
              · (simp only [Act.put, List.setIfInBounds_toArray, List.set_cons_zero, List.set_cons_succ]; rfl)
              refine last_ (i := 17) (N := (some 53)) #[true, true, true, true, true, true, true, true, true, true, true, true, true, true, true, true, true, true] rfl rfl (by kernel_rfl) (by decide) (fun K hK => ?_)
              have hln : (L.set n.toNat (mixTo a0 b p 2))[n.toNat]? = some (mixTo a0 b p 2) := by
                have := HL.out
                rw [List.getElem?_set, if_pos rfl, if_pos (by omega)]
              obtain ⟨w3, hrun, hg3, hd3⟩ := HDJ.out.drew.drew.copy (a := mixTo a0 b p 2) hln hb 32 (by omega) wo.heap.size 1 HXB.out 32 32 32 (by omega)
              refine value_ (by rfl) rfl (exec_copy 42 42 3 (.tmp 45) (.tmp 52) (by rfl) (by rfl) (.slice (some ⟨lb, n.toNat * 64 + 32, none⟩) 32 32) (.slice (some ⟨wo.heap.size, 1 + 32, none⟩) 16 32) (by rfl) (by rfl) hrun) ?_
              refine hK.out _ _ ?_
              clear hK K
              refine norm_ (a' := ?_) ?_ ?_
              rotate_left
              · (show Act.put _ (some 53) _ = _; simp only [Act.put, List.setIfInBounds_toArray, List.set_cons_zero, List.set_cons_succ]; rfl)
              refine done_ (by kernel_rfl) ?_
              go_wp2_with fail
              go_roundw
              case rel =>
                refine ⟨3, by omega, by omega, rfl, ?_, grownBy_trans (grownBy_drew (grownBy_drew HGJ.out)) hg3⟩
                have e : mixTo a0 b p (3 : Int).toNat = (mixTo a0 b p 2).take 32 ++ (b.drop 32).take 16 ++ (mixTo a0 b p 2).drop (32 + 16) := by
                  show mixQ (mixTo a0 b p 2) b p 2 = _
                  unfold mixQ
                  exact if_pos HBIT.out
                rw [e]
                have hd3 := hd3
                rw [List.set_set] at hd3
                exact hd3
              case measure => simp [intOf]
            · have hbit' : (bits .and .i64 p (IntKind.i64.wrap 4) != 0) = false := by simpa using hbit
              clear hbit
              go_wp2_with fail
              refine start_ (n := 8) (S := (fun w1 => w1.cell? ⟨k, po + kk, none⟩ = some (.int .i64 p))) (ds := []) #[false, false, false, false, false, false, false, false] (by kernel_rfl) rfl rfl E1.out (fun hHeld => ?_)
              refine pure_ (i := 0) (N := (some 28)) (v := ?_) (a' := ?_) #[true, false, false, false, false, false, false, false] rfl rfl (by kernel_rfl) (fun _ _ _ h => h) (Or.inl ⟨by rfl, ?_⟩) ?_ ?_
              rotate_left
              · (intro w'; go_simp; with_reducible rfl)
              rotate_left
              · (simp only [Act.put, List.setIfInBounds_toArray, List.set_cons_zero, List.set_cons_succ]; rfl)
              refine pure_ (i := 1) (N := (some 29)) (v := ?_) (a' := ?_) #[true, true, false, false, false, false, false, false] rfl rfl (by kernel_rfl) (fun _ _ _ h => h) (Or.inl ⟨by rfl, ?_⟩) ?_ ?_
              rotate_left
              · (intro w'; go_simp; with_reducible rfl)
              rotate_left
              · (simp only [Act.put, List.setIfInBounds_toArray, List.set_cons_zero, List.set_cons_succ]; rfl)
              refine pure_ (i := 2) (N := (some 30)) (v := ?_) (a' := ?_) #[true, true, true, false, false, false, false, false] rfl rfl (by kernel_rfl) (fun _ _ _ h => h) (Or.inl ⟨by rfl, ?_⟩) ?_ ?_
              rotate_left
              · (intro w'; go_simp; with_reducible rfl)
              rotate_left
              · (simp only [Act.put, List.setIfInBounds_toArray, List.set_cons_zero, List.set_cons_succ]; rfl)
              refine take_ (i := 3) (N := (some 31)) (v := ?_) (a' := ?_) #[true, true, true, true, false, false, false, false] rfl rfl (by kernel_rfl) (fun _ _ _ h => h) (Or.inl ⟨by rfl, ?_⟩) hHeld ?_ ?_
              rotate_left
              · (rintro w' hSw; (try dsimp only at hSw); go_split_ands; go_simp; with_reducible rfl)
              rotate_left
              · (simp only [Act.put, List.setIfInBounds_toArray, List.set_cons_zero, List.set_cons_succ]; rfl)
              refine pure_ (i := 4) (N := (some 32)) (v := ?_) (a' := ?_) #[true, true, true, true, true, false, false, false] rfl rfl (by kernel_rfl) (fun _ _ _ h => h) (Or.inl ⟨by rfl, ?_⟩) ?_ ?_
              rotate_left
              · (intro w'; go_simp; with_reducible rfl)
              rotate_left
              · (simp only [Act.put, List.setIfInBounds_toArray, List.set_cons_zero, List.set_cons_succ]; rfl)
              refine pure_ (i := 5) (N := (some 33)) (v := ?_) (a' := ?_) #[true, true, true, true, true, true, false, false] rfl rfl (by kernel_rfl) (fun _ _ _ h => h) (Or.inl ⟨by rfl, ?_⟩) ?_ ?_
              rotate_left
              · (intro w'; go_simp; with_reducible rfl)
              rotate_left
              · (simp only [Act.put, List.setIfInBounds_toArray, List.set_cons_zero, List.set_cons_succ]; rfl)
              refine pure_ (i := 6) (N := (some 34)) (v := ?_) (a' := ?_) #[true, true, true, true, true, true, true, false] rfl rfl (by kernel_rfl) (fun _ _ _ h => h) (Or.inl ⟨by rfl, ?_⟩) ?_ ?_
              rotate_left
              · (intro w'; go_simp; with_reducible rfl)
              rotate_left
              · (simp only [Act.put, List.setIfInBounds_toArray, List.set_cons_zero, List.set_cons_succ]; rfl)
              refine pure_ (i := 7) (N := (some 35)) (v := ?_) (a' := ?_) #[true, true, true, true, true, true, true, true] rfl rfl (by kernel_rfl) (fun _ _ _ h => h) (Or.inl ⟨by rfl, ?_⟩) ?_ ?_
              rotate_left
              · (intro w'; go_simp; with_reducible rfl)
              rotate_left
              · (simp only [Act.put, List.setIfInBounds_toArray, List.set_cons_zero, List.set_cons_succ]; rfl)
              refine done_ (by kernel_rfl) ?_
              go_wp2_with fail
              go_roundw
              case rel =>
                refine ⟨3, by omega, by omega, rfl, ?_, grownBy_drew HGJ.out⟩
                have e : mixTo a0 b p (3 : Int).toNat = mixTo a0 b p 2 := by
                  show mixQ (mixTo a0 b p 2) b p 2 = _
                  unfold mixQ
                  rw [if_neg (by
                    have h2 : bits .and .i64 p (2 ^ 2) = bits .and .i64 p (IntKind.i64.wrap 4) := rfl
                    rw [h2, hbit']; simp)]
                rw [e]
                exact HDJ.out.drew
              case measure => simp [intOf]
          · clear hjj hj0
            by_cases hbit : (bits .and .i64 p (IntKind.i64.wrap 8) != 0) = true
            · go_wp2_with fail
              refine start_ (n := 8) (S := (fun w1 => w1.cell? ⟨k, po + kk, none⟩ = some (.int .i64 p))) (ds := []) #[false, false, false, false, false, false, false, false] (by kernel_rfl) rfl rfl E1.out (fun hHeld => ?_)
              refine pure_ (i := 0) (N := (some 28)) (v := ?_) (a' := ?_) #[true, false, false, false, false, false, false, false] rfl rfl (by kernel_rfl) (fun _ _ _ h => h) (Or.inl ⟨by rfl, ?_⟩) ?_ ?_
              rotate_left
              · (intro w'; go_simp; with_reducible rfl)
              rotate_left
              · (simp only [Act.put, List.setIfInBounds_toArray, List.set_cons_zero, List.set_cons_succ]; rfl)
              refine pure_ (i := 1) (N := (some 29)) (v := ?_) (a' := ?_) #[true, true, false, false, false, false, false, false] rfl rfl (by kernel_rfl) (fun _ _ _ h => h) (Or.inl ⟨by rfl, ?_⟩) ?_ ?_
              rotate_left
              · (intro w'; go_simp; with_reducible rfl)
              rotate_left
              · (simp only [Act.put, List.setIfInBounds_toArray, List.set_cons_zero, List.set_cons_succ]; rfl)
              refine pure_ (i := 2) (N := (some 30)) (v := ?_) (a' := ?_) #[true, true, true, false, false, false, false, false] rfl rfl (by kernel_rfl) (fun _ _ _ h => h) (Or.inl ⟨by rfl, ?_⟩) ?_ ?_
              rotate_left
              · (intro w'; go_simp; with_reducible rfl)
              rotate_left
              · (simp only [Act.put, List.setIfInBounds_toArray, List.set_cons_zero, List.set_cons_succ]; rfl)
              refine take_ (i := 3) (N := (some 31)) (v := ?_) (a' := ?_) #[true, true, true, true, false, false, false, false] rfl rfl (by kernel_rfl) (fun _ _ _ h => h) (Or.inl ⟨by rfl, ?_⟩) hHeld ?_ ?_
              rotate_left
              · (rintro w' hSw; (try dsimp only at hSw); go_split_ands; go_simp; with_reducible rfl)
              rotate_left
              · (simp only [Act.put, List.setIfInBounds_toArray, List.set_cons_zero, List.set_cons_succ]; rfl)
              refine pure_ (i := 4) (N := (some 32)) (v := ?_) (a' := ?_) #[true, true, true, true, true, false, false, false] rfl rfl (by kernel_rfl) (fun _ _ _ h => h) (Or.inl ⟨by rfl, ?_⟩) ?_ ?_
              rotate_left
              · (intro w'; go_simp; with_reducible rfl)
              rotate_left
              · (simp only [Act.put, List.setIfInBounds_toArray, List.set_cons_zero, List.set_cons_succ]; rfl)
              refine pure_ (i := 5) (N := (some 33)) (v := ?_) (a' := ?_) #[true, true, true, true, true, true, false, false] rfl rfl (by kernel_rfl) (fun _ _ _ h => h) (Or.inl ⟨by rfl, ?_⟩) ?_ ?_
              rotate_left
              · (intro w'; go_simp; with_reducible rfl)
              rotate_left
              · (simp only [Act.put, List.setIfInBounds_toArray, List.set_cons_zero, List.set_cons_succ]; rfl)
              refine pure_ (i := 6) (N := (some 34)) (v := ?_) (a' := ?_) #[true, true, true, true, true, true, true, false] rfl rfl (by kernel_rfl) (fun _ _ _ h => h) (Or.inl ⟨by rfl, ?_⟩) ?_ ?_
              rotate_left
              · (intro w'; go_simp; with_reducible rfl)
              rotate_left
              · (simp only [Act.put, List.setIfInBounds_toArray, List.set_cons_zero, List.set_cons_succ]; rfl)
              refine pure_ (i := 7) (N := (some 35)) (v := ?_) (a' := ?_) #[true, true, true, true, true, true, true, true] rfl rfl (by kernel_rfl) (fun _ _ _ h => h) (Or.inl ⟨by rfl, ?_⟩) ?_ ?_
              rotate_left
              · (intro w'; go_simp; with_reducible rfl)
              rotate_left
              · (simp only [Act.put, List.setIfInBounds_toArray, List.set_cons_zero, List.set_cons_succ]; rfl)
              refine done_ (by kernel_rfl) ?_
              go_wp2_with fail
              have hn1' : n < (D.laid.length : Int) := hn1
              have HBIT := Lib.hid hbit; clear hbit
              have q1 : IntKind.i64.wrap 48 = 48 := by decide
              have q2 : IntKind.i64.wrap 4 = 4 := by decide
              have q3 : IntKind.i64.wrap 64 = 64 := by decide
              have s1 : ∀ W : World, (Instr.sliceAt 23 (.pointer (some ⟨lb, n.toNat * 64, none⟩)) (some (.int .i64 48)) none none).run Try.prog W = .ok (.slice (some ⟨lb, n.toNat * 64 + 48, none⟩) 16 16) W := fun _ => by kernel_rfl
              have s2 : ∀ W : World, (Instr.sliceAt 23 (.pointer (some ⟨wo.heap.size, 1, none⟩)) (some (.int .i64 48)) (some (.int .i64 64)) none).run Try.prog W = .ok (.slice (some ⟨wo.heap.size, 1 + 48, none⟩) 16 16) W := fun _ => by kernel_rfl
              refine start_ (n := 18) (S := (fun w1 => w1.cell? ⟨g, 0, none⟩ = some (.slice (some ⟨lb, 0, none⟩) D.laid.length lc) ∧ w1.cell? ⟨wo.heap.size, 0, none⟩ = some (.int .i64 n))) (ds := [17]) #[false, false, false, false, false, false, false, false, false, false, false, false, false, false, false, false, false, false] (by kernel_rfl) rfl rfl ⟨EG.out, E0.out⟩ (fun hHeld => ?_)
              refine pure_ (i := 0) (N := (some 36)) (v := ?_) (a' := ?_) #[true, false, false, false, false, false, false, false, false, false, false, false, false, false, false, false, false, false] rfl rfl (by kernel_rfl) (fun _ _ _ h => h) (Or.inl ⟨by rfl, ?_⟩) ?_ ?_
              rotate_left
              · (intro w'; go_simp; with_reducible rfl)
              rotate_left
              · (simp only [Act.put, List.setIfInBounds_toArray, List.set_cons_zero, List.set_cons_succ]; rfl)
              refine pure_ (i := 1) (N := (some 37)) (v := ?_) (a' := ?_) #[true, true, false, false, false, false, false, false, false, false, false, false, false, false, false, false, false, false] rfl rfl (by kernel_rfl) (fun _ _ _ h => h) (Or.inl ⟨by rfl, ?_⟩) ?_ ?_
              rotate_left
              · (intro w'; go_simp; with_reducible rfl)
              rotate_left
              · (simp only [Act.put, List.setIfInBounds_toArray, List.set_cons_zero, List.set_cons_succ]; rfl)
              refine pure_ (i := 2) (N := (some 38)) (v := ?_) (a' := ?_) #[true, true, true, false, false, false, false, false, false, false, false, false, false, false, false, false, false, false] rfl rfl (by kernel_rfl) (fun _ _ _ h => h) (Or.inl ⟨by rfl, ?_⟩) ?_ ?_
              rotate_left
              · (intro w'; go_simp; with_reducible rfl)
              rotate_left
              · (simp only [Act.put, List.setIfInBounds_toArray, List.set_cons_zero, List.set_cons_succ]; rfl)
              refine take_ (i := 3) (N := (some 39)) (v := ?_) (a' := ?_) #[true, true, true, true, false, false, false, false, false, false, false, false, false, false, false, false, false, false] rfl rfl (by kernel_rfl) (fun _ _ _ h => h) (Or.inl ⟨by rfl, ?_⟩) hHeld ?_ ?_
              rotate_left
              · (rintro w' hSw; (try dsimp only at hSw); go_split_ands; go_simp; with_reducible rfl)
              rotate_left
              · (simp only [Act.put, List.setIfInBounds_toArray, List.set_cons_zero, List.set_cons_succ]; rfl)
              refine pure_ (i := 4) (N := (some 40)) (v := ?_) (a' := ?_) #[true, true, true, true, true, false, false, false, false, false, false, false, false, false, false, false, false, false] rfl rfl (by kernel_rfl) (fun _ _ _ h => h) (Or.inl ⟨by rfl, ?_⟩) ?_ ?_
              rotate_left
              · (intro w'; go_simp; with_reducible rfl)
              rotate_left
              · (simp only [Act.put, List.setIfInBounds_toArray, List.set_cons_zero, List.set_cons_succ]; rfl)
              refine take_ (i := 5) (N := (some 41)) (v := ?_) (a' := ?_) #[true, true, true, true, true, true, false, false, false, false, false, false, false, false, false, false, false, false] rfl rfl (by kernel_rfl) (fun _ _ _ h => h) (Or.inl ⟨by rfl, ?_⟩) hHeld ?_ ?_
              rotate_left
              · (rintro w' hSw; (try dsimp only at hSw); go_split_ands; go_simp; with_reducible rfl)
              rotate_left
              · (simp only [Act.put, List.setIfInBounds_toArray, List.set_cons_zero, List.set_cons_succ]; rfl)
              refine pure_ (i := 6) (N := (some 42)) (v := ?_) (a' := ?_) #[true, true, true, true, true, true, true, false, false, false, false, false, false, false, false, false, false, false] rfl rfl (by kernel_rfl) (fun _ _ _ h => h) (Or.inl ⟨by rfl, ?_⟩) ?_ ?_
              rotate_left
              · (intro w'; go_simp; with_reducible rfl)
              rotate_left
              · (simp only [Act.put, List.setIfInBounds_toArray, List.set_cons_zero, List.set_cons_succ]; rfl)
              refine pure_ (i := 7) (N := (some 43)) (v := ?_) (a' := ?_) #[true, true, true, true, true, true, true, true, false, false, false, false, false, false, false, false, false, false] rfl rfl (by kernel_rfl) (fun _ _ _ h => h) (Or.inl ⟨by rfl, ?_⟩) ?_ ?_
              rotate_left
              · (intro w'; go_simp; with_reducible rfl)
              rotate_left
              · (simp only [Act.put, List.setIfInBounds_toArray, List.set_cons_zero, List.set_cons_succ]; rfl)
              refine pure_ (i := 8) (N := (some 44)) (v := ?_) (a' := ?_) #[true, true, true, true, true, true, true, true, true, false, false, false, false, false, false, false, false, false] rfl rfl (by kernel_rfl) (fun _ _ _ h => h) (Or.inl ⟨by rfl, ?_⟩) ?_ ?_
              rotate_left
              · (intro w'; go_simp; with_reducible rfl)
              rotate_left
              · (simp only [Act.put, List.setIfInBounds_toArray, List.set_cons_zero, List.set_cons_succ]; rfl)
              refine pure_ (i := 9) (N := (some 45)) (v := _) (a' := ?_) #[true, true, true, true, true, true, true, true, true, true, false, false, false, false, false, false, false, false] rfl rfl (by kernel_rfl) (fun _ _ _ h => h) (yields_slice (by rfl) 23 (.tmp 42) (some (.tmp 44)) none (by rfl) (.pointer (some ⟨lb, n.toNat * 64, none⟩)) (by rfl) (some (.int .i64 48)) none (by rfl) (by rfl) _ s1) ?_ ?_
              rotate_left
              · (simp only [Act.put, List.setIfInBounds_toArray, List.set_cons_zero, List.set_cons_succ]; rfl)
              refine pure_ (i := 10) (N := (some 46)) (v := ?_) (a' := ?_) #[true, true, true, true, true, true, true, true, true, true, true, false, false, false, false, false, false, false] rfl rfl (by kernel_rfl) (fun _ _ _ h => h) (Or.inl ⟨by rfl, ?_⟩) ?_ ?_
              rotate_left
              · (intro w'; go_simp; with_reducible rfl)
              rotate_left
              · (simp only [Act.put, List.setIfInBounds_toArray, List.set_cons_zero, List.set_cons_succ]; rfl)
              refine pure_ (i := 11) (N := (some 47)) (v := ?_) (a' := ?_) #[true, true, true, true, true, true, true, true, true, true, true, true, false, false, false, false, false, false] rfl rfl (by kernel_rfl) (fun _ _ _ h => h) (Or.inl ⟨by rfl, ?_⟩) ?_ ?_
              rotate_left
              · (intro w'; go_simp; with_reducible rfl)
              rotate_left
              · (simp only [Act.put, List.setIfInBounds_toArray, List.set_cons_zero, List.set_cons_succ]; rfl)
              refine pure_ (i := 12) (N := (some 48)) (v := ?_) (a' := ?_) #[true, true, true, true, true, true, true, true, true, true, true, true, true, false, false, false, false, false] rfl rfl (by kernel_rfl) (fun _ _ _ h => h) (Or.inl ⟨by rfl, ?_⟩) ?_ ?_
              rotate_left
              · (intro w'; go_simp; with_reducible rfl)
              rotate_left
              · (simp only [Act.put, List.setIfInBounds_toArray, List.set_cons_zero, List.set_cons_succ]; rfl)
              refine pure_ (i := 13) (N := (some 49)) (v := ?_) (a' := ?_) #[true, true, true, true, true, true, true, true, true, true, true, true, true, true, false, false, false, false] rfl rfl (by kernel_rfl) (fun _ _ _ h => h) (Or.inl ⟨by rfl, ?_⟩) ?_ ?_
              rotate_left
              · (intro w'; go_simp; with_reducible rfl)
              rotate_left
              · (simp only [Act.put, List.setIfInBounds_toArray, List.set_cons_zero, List.set_cons_succ]; rfl)
              refine pure_ (i := 14) (N := (some 50)) (v := ?_) (a' := ?_) #[true, true, true, true, true, true, true, true, true, true, true, true, true, true, true, false, false, false] rfl rfl (by kernel_rfl) (fun _ _ _ h => h) (Or.inl ⟨by rfl, ?_⟩) ?_ ?_
              rotate_left
              · (intro w'; go_simp; with_reducible rfl)
              rotate_left
              · (simp only [Act.put, List.setIfInBounds_toArray, List.set_cons_zero, List.set_cons_succ]; rfl)
              refine pure_ (i := 15) (N := (some 51)) (v := ?_) (a' := ?_) #[true, true, true, true, true, true, true, true, true, true, true, true, true, true, true, true, false, false] rfl rfl (by kernel_rfl) (fun _ _ _ h => h) (Or.inl ⟨by rfl, ?_⟩) ?_ ?_
              rotate_left
              · (intro w'; go_simp; with_reducible rfl)
              rotate_left
              · (simp only [Act.put, List.setIfInBounds_toArray, List.set_cons_zero, List.set_cons_succ]; rfl)
              refine pure_ (i := 16) (N := (some 52)) (v := _) (a' := ?_) #[true, true, true, true, true, true, true, true, true, true, true, true, true, true, true, true, true, false] rfl rfl (by kernel_rfl) (fun _ _ _ h => h) (yields_slice (by rfl) 23 (.tmp 46) (some (.tmp 48)) (some (.tmp 51)) (by rfl) (.pointer (some ⟨wo.heap.size, 1, none⟩)) (by rfl) (some (.int .i64 48)) (some (.int .i64 64)) (by rfl) (by rfl) _ s2) ?_ ?_
              rotate_left
              · (simp only [Act.put, List.setIfInBounds_toArray, List.set_cons_zero, List.set_cons_succ]; rfl)
              refine last_ (i := 17) (N := (some 53)) #[true, true, true, true, true, true, true, true, true, true, true, true, true, true, true, true, true, true] rfl rfl (by kernel_rfl) (by decide) (fun K hK => ?_)
              have hln : (L.set n.toNat (mixTo a0 b p 3))[n.toNat]? = some (mixTo a0 b p 3) := by
                have := HL.out
                rw [List.getElem?_set, if_pos rfl, if_pos (by omega)]
              obtain ⟨w3, hrun, hg3, hd3⟩ := HDJ.out.drew.drew.copy (a := mixTo a0 b p 3) hln hb 48 (by omega) wo.heap.size 1 HXB.out 16 16 16 (by omega)
              refine value_ (by rfl) rfl (exec_copy 42 42 3 (.tmp 45) (.tmp 52) (by rfl) (by rfl) (.slice (some ⟨lb, n.toNat * 64 + 48, none⟩) 16 16) (.slice (some ⟨wo.heap.size, 1 + 48, none⟩) 16 16) (by rfl) (by rfl) hrun) ?_
              refine hK.out _ _ ?_
              clear hK K
              refine norm_ (a' := ?_) ?_ ?_
              rotate_left
              · (show Act.put _ (some 53) _ = _; simp only [Act.put, List.setIfInBounds_toArray, List.set_cons_zero, List.set_cons_succ]; rfl)
              refine done_ (by kernel_rfl) ?_
              go_wp2_with fail
              go_roundw
              case rel =>
                refine ⟨4, by omega, by omega, rfl, ?_, grownBy_trans (grownBy_drew (grownBy_drew HGJ.out)) hg3⟩
                have e : mixTo a0 b p (4 : Int).toNat = (mixTo a0 b p 3).take 48 ++ (b.drop 48).take 16 ++ (mixTo a0 b p 3).drop (48 + 16) := by
                  show mixQ (mixTo a0 b p 3) b p 3 = _
                  unfold mixQ
                  exact if_pos HBIT.out
                rw [e]
                have hd3 := hd3
                rw [List.set_set] at hd3
                exact hd3
              case measure => simp [intOf]
            · have hbit' : (bits .and .i64 p (IntKind.i64.wrap 8) != 0) = false := by simpa using hbit
              clear hbit
              go_wp2_with fail
              refine start_ (n := 8) (S := (fun w1 => w1.cell? ⟨k, po + kk, none⟩ = some (.int .i64 p))) (ds := []) #[false, false, false, false, false, false, false, false] (by kernel_rfl) rfl rfl E1.out (fun hHeld => ?_)
              refine pure_ (i := 0) (N := (some 28)) (v := ?_) (a' := ?_) #[true, false, false, false, false, false, false, false] rfl rfl (by kernel_rfl) (fun _ _ _ h => h) (Or.inl ⟨by rfl, ?_⟩) ?_ ?_
              rotate_left
              · (intro w'; go_simp; with_reducible rfl)
              rotate_left
              · (simp only [Act.put, List.setIfInBounds_toArray, List.set_cons_zero, List.set_cons_succ]; rfl)
              refine pure_ (i := 1) (N := (some 29)) (v := ?_) (a' := ?_) #[true, true, false, false, false, false, false, false] rfl rfl (by kernel_rfl) (fun _ _ _ h => h) (Or.inl ⟨by rfl, ?_⟩) ?_ ?_
              rotate_left
              · (intro w'; go_simp; with_reducible rfl)
              rotate_left
              · (simp only [Act.put, List.setIfInBounds_toArray, List.set_cons_zero, List.set_cons_succ]; rfl)
              refine pure_ (i := 2) (N := (some 30)) (v := ?_) (a' := ?_) #[true, true, true, false, false, false, false, false] rfl rfl (by kernel_rfl) (fun _ _ _ h => h) (Or.inl ⟨by rfl, ?_⟩) ?_ ?_
              rotate_left
              · (intro w'; go_simp; with_reducible rfl)
              rotate_left
              · (simp only [Act.put, List.setIfInBounds_toArray, List.set_cons_zero, List.set_cons_succ]; rfl)
              refine take_ (i := 3) (N := (some 31)) (v := ?_) (a' := ?_) #[true, true, true, true, false, false, false, false] rfl rfl (by kernel_rfl) (fun _ _ _ h => h) (Or.inl ⟨by rfl, ?_⟩) hHeld ?_ ?_
              rotate_left
              · (rintro w' hSw; (try dsimp only at hSw); go_split_ands; go_simp; with_reducible rfl)
              rotate_left
              · (simp only [Act.put, List.setIfInBounds_toArray, List.set_cons_zero, List.set_cons_succ]; rfl)
              refine pure_ (i := 4) (N := (some 32)) (v := ?_) (a' := ?_) #[true, true, true, true, true, false, false, false] rfl rfl (by kernel_rfl) (fun _ _ _ h => h) (Or.inl ⟨by rfl, ?_⟩) ?_ ?_
              rotate_left
              · (intro w'; go_simp; with_reducible rfl)
              rotate_left
              · (simp only [Act.put, List.setIfInBounds_toArray, List.set_cons_zero, List.set_cons_succ]; rfl)
              refine pure_ (i := 5) (N := (some 33)) (v := ?_) (a' := ?_) #[true, true, true, true, true, true, false, false] rfl rfl (by kernel_rfl) (fun _ _ _ h => h) (Or.inl ⟨by rfl, ?_⟩) ?_ ?_
              rotate_left
              · (intro w'; go_simp; with_reducible rfl)
              rotate_left
              · (simp only [Act.put, List.setIfInBounds_toArray, List.set_cons_zero, List.set_cons_succ]; rfl)
              refine pure_ (i := 6) (N := (some 34)) (v := ?_) (a' := ?_) #[true, true, true, true, true, true, true, false] rfl rfl (by kernel_rfl) (fun _ _ _ h => h) (Or.inl ⟨by rfl, ?_⟩) ?_ ?_
              rotate_left
              · (intro w'; go_simp; with_reducible rfl)
              rotate_left
              · (simp only [Act.put, List.setIfInBounds_toArray, List.set_cons_zero, List.set_cons_succ]; rfl)
              refine pure_ (i := 7) (N := (some 35)) (v := ?_) (a' := ?_) #[true, true, true, true, true, true, true, true] rfl rfl (by kernel_rfl) (fun _ _ _ h => h) (Or.inl ⟨by rfl, ?_⟩) ?_ ?_
              rotate_left
              · (intro w'; go_simp; with_reducible rfl)
              rotate_left
              · (simp only [Act.put, List.setIfInBounds_toArray, List.set_cons_zero, List.set_cons_succ]; rfl)
              refine done_ (by kernel_rfl) ?_
              go_wp2_with fail
              go_roundw
              case rel =>
                refine ⟨4, by omega, by omega, rfl, ?_, grownBy_drew HGJ.out⟩
                have e : mixTo a0 b p (4 : Int).toNat = mixTo a0 b p 3 := by
                  show mixQ (mixTo a0 b p 3) b p 3 = _
                  unfold mixQ
                  rw [if_neg (by
                    have h2 : bits .and .i64 p (2 ^ 3) = bits .and .i64 p (IntKind.i64.wrap 8) := rfl
                    rw [h2, hbit']; simp)]
                rw [e]
                exact HDJ.out.drew
              case measure => simp [intOf]
          · clear hjj hj0
            go_wp2_with fail
            go_roundw
            case rel =>
              refine ⟨kk + 1, by omega, by omega, by go_num, ?_, HGO.out⟩
              rw [HSN.out]
              exact HDJ.out
            case measure => simp [intOf]; omega
    · obtain rfl : kk = D.queue.length := by omega
      have hte : crashed D.laid (D.queue.take D.queue.length) ps = crashed D.laid D.queue ps := by rw [List.take_length]
      have hwd := hd'.out
      rw [hte] at hwd
      have HWD := Lib.hid hwd; clear hwd hd'
      have HTE := Lib.hid hte; clear hte hlt
      go_wp2_with fail
      refine (empty_any _ _ _ _ _ _ _ _ HWD.out.hg).mono ?_
      rintro r w3 ⟨rfl, M, hM, hmap, hg3, hgr3⟩
      have k3 : w3.cell? ⟨g, 3, none⟩ = some (.int .i64 D.left) := by rw [cell_of_row w3 g 3 _ _ _ hg3]; rfl
      have k4 : w3.cell? ⟨g, 4, none⟩ = some (.bool D.gone) := by rw [cell_of_row w3 g 4 _ _ _ hg3]; rfl
      have z3 : ∀ j, w3.frozen? ⟨g, j, none⟩ = false := fun j => frozen_of_row w3 g j _ _ hg3
      have HG3 := Lib.hid hg3; clear hg3
      have HM := Lib.hid hmap; clear hmap
      go_wp2_with fail
      go_ret
      have h4 := heap_setCell_same _ g 3 _ _ (.int .i64 (-1)) HG3.out
      have h5 := heap_setCell_same _ g 4 _ _ (.bool false) h4
      have hs2 : w3.grownBy ((w3.setCell ⟨g, 3, none⟩ (.int .i64 (-1))).setCell ⟨g, 4, none⟩ (.bool false)) (some g) := grownBy_trans (grownBy_setCell _ _ _ _) (grownBy_setCell _ _ _ _)
      generalize (w3.setCell ⟨g, 3, none⟩ (.int .i64 (-1))).setCell ⟨g, 4, none⟩ (.bool false) = w4 at h5 hs2 ⊢
      have hgg := grownBy_trans hgr3 hs2
      have hlbB : B ≤ lb := by obtain ⟨_, _, h, _⟩ := HWD.out.lb_form; exact h
      have hne : lb ≠ g := by obtain ⟨_, h, _⟩ := HWD.out.lb_form; exact ne_of_cells h HWD.out.hg (by decide)
      have hwf := HWD.out.wf
      have hB0 : Bel B w w3 := ((Bel.refl B w).grown hgr'.out HD.out.size (fun k hk => by simp at hk; omega) (fun k hk => by injection hk with hk; subst hk; obtain ⟨_, h, _⟩ := HD.out.lb_form; exact nint_cells h (by decide))).grown hgr3 HWD.out.size (fun k hk => by simp at hk; have := HD.out.hB; omega) (fun k hk => by injection hk with hk; subst hk; exact nint_cells HWD.out.hg (by decide))
      have hMs : M < w3.heap.size := HM.out.lt
      have hMg : M ≠ g := by have := HWD.out.lt; omega
      refine ⟨rfl, hB0.grown hs2 (by have := HWD.out.size; have := hgr3.size; omega) (fun k hk => by simp at hk; have := HD.out.hB; omega) (fun k hk => by injection hk with hk; subst hk; exact nint_cells HG3.out (by decide)), lb, lc, .slice none 0 0, M, HD.out.hB, ?_, ?_, ⟨rfl, .inl ⟨rfl, rfl⟩⟩, ?_, ?_, ?_⟩
      · rw [h5]; rfl
      · exact HWD.out.laid.kept hgg (.inr (by simpa [Value.ownBlock] using hne))
      · exact (HM.out.grown hs2 (by simpa using hMg)).congr (fun _ => rfl)
      · have := HWD.out.size; omega
      · exact ⟨hwf.one, hwf.most, hwf.laid, by simp [crash], by simp [crash], hwf.work⟩
end Go.Proofs.Ytlngflonolhdhaa

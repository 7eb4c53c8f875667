/- The disk's Flush's closure, walked. -/
import Derived.Test.YtlngflonolhdhaaDkc
set_option linter.unusedVariables false
set_option linter.unusedSimpArgs false
namespace Go.Proofs.Ytlngflonolhdhaa
open Go.RowKit Go.Proofs.YtlngflonolhdhaaW.PrintLast

/-- Some blocks are laid down over. -/
def part (laid : List (List Int)) (q : List (Int × List Int)) (done : Int → Bool) : List (List Int) := laid.mapIdx fun i b => if done (i : Int) then (young q i).getD b else b
theorem part_none (laid : List (List Int)) (q : List (Int × List Int)) : part laid q (fun _ => false) = laid := by
  apply List.ext_getElem?; intro i; simp [part]
theorem part_all (laid : List (List Int)) (q : List (Int × List Int)) (done : Int → Bool) (h : ∀ n b, young q n = some b → done n = true) : part laid q done = overlay laid q := by
  apply List.ext_getElem?; intro i
  simp only [part, overlay, List.getElem?_mapIdx]
  cases hl : laid[i]? with
  | none => simp
  | some b =>
    simp only [Option.map_some]
    cases hy : young q (i : Int) with
    | none => simp
    | some c => simp [h _ _ hy]
theorem part_set (laid : List (List Int)) (q : List (Int × List Int)) (done : Int → Bool) (n : Int) (h0 : 0 ≤ n) (h1 : n < laid.length) (b : List Int) (hb : young q n = some b) :
    (part laid q done).set n.toNat b = part laid q (fun k => if k = n then true else done k) := by
  apply List.ext_getElem?; intro i
  rw [List.getElem?_set]
  by_cases hi : n.toNat = i
  · subst hi
    have hlt : n.toNat < laid.length := by omega
    have e : ((n.toNat : Nat) : Int) = n := by omega
    rw [if_pos rfl, if_pos (by simp [part]; omega)]
    simp [part, List.getElem?_eq_getElem hlt, e, hb]
  · rw [if_neg hi]
    simp only [part, List.getElem?_mapIdx]
    have : ¬ ((i : Nat) : Int) = n := by omega
    simp [this]
theorem part_length (laid : List (List Int)) (q : List (Int × List Int)) (done : Int → Bool) : (part laid q done).length = laid.length := by simp [part]

set_option maxRecDepth 100000 in
set_option maxHeartbeats 1600000 in
theorem flush1_any {B : Nat} {w : World} {g : Nat} {D : St} {lb lc : Nat} {qv : Value} {m : Nat} (hd : DAt B w g D lb lc qv m) (k0 : Nat)
    (h0 : w.heap[k0]? = some (.cells #[.pointer (some ⟨g, 0, none⟩)] 24 (0, 0))) :
    Calls Try.prog 21 #[.pointer (some ⟨k0, 0, none⟩)] w fun r w' => r = .returned (.tuple #[]) ∧ Bel B w w' ∧ DiskAt B w' g (lay D) := by
  obtain ⟨o, cnt, hrun, hit⟩ := hd.map.range (P := Try.prog) Try.underlying48
  have c2 := hd.c2
  have e0 : w.cell? ⟨k0, 0, none⟩ = some (.pointer (some ⟨g, 0, none⟩)) := by rw [cell_of_row _ _ 0 _ _ _ h0]; rfl
  have hbl : Bel B w (w.alloc o) := (Bel.refl B w).alloc hd.size o
  have hd1 : DAt B (w.alloc o) g D lb lc qv m := hd.below ((Below.refl _ _).alloc (Nat.le_refl _) o)
  have h01 : (w.alloc o).heap[k0]? = some (.cells #[.pointer (some ⟨g, 0, none⟩)] 24 (0, 0)) := (Below.heap_alloc w o k0 (lt_of_heap h0)).trans h0
  have HD := Lib.hid hd1; clear hd1
  have HI := Lib.hid hit; clear hit
  have H0 := Lib.hid h01; clear h01
  have hsz := hd.size
  have hwf := Lib.hid hd.wf
  clear hd h0
  go_enter Try.func21, Try.ntmps21
  go_wp2_with fail
  clear hrun c2 e0
  go_loopg [] cnt (fun k wr => ∃ done, IterI wr m w.heap.size (fun n => (young D.queue n).map fun b => .agg (bc b).toArray) done k ∧ DAt B wr g { D with laid := part D.laid D.queue done } lb lc qv m ∧ Bel B w wr ∧ wr.heap[k0]? = some (.cells #[.pointer (some ⟨g, 0, none⟩)] 24 (0, 0)))
  case atStart =>
    refine ⟨fun _ => false, HI.out, ?_, hbl, H0.out⟩
    rw [part_none]; exact HD.out
  case round =>
    obtain ⟨done, hit, hd, hb, h0⟩ := hrel
    clear HD HI H0 hbl
    rcases hit.next (P := Try.prog) 0 with ⟨hall, hrun⟩ | ⟨n, v, w', cnt', hf, hlt, hrun, hgr, hsize, hit', hent⟩
    · have e0 : wr.cell? ⟨k0, 0, none⟩ = some (.pointer (some ⟨g, 0, none⟩)) := by rw [cell_of_row _ _ 0 _ _ _ h0]; rfl
      have HD := Lib.hid hd; clear hd
      have HI := Lib.hid hit; clear hit
      have H0 := Lib.hid h0; clear h0
      have HA := Lib.hid hall; clear hall
      go_wp2_with fail
      refine (empty_any _ _ _ _ _ _ _ _ HD.out.hg).mono ?_
      rintro r w3 ⟨rfl, M, hM, hmap, hg3, hgr3⟩
      go_wp2_with fail
      go_end0
      have hpa := part_all D.laid D.queue done (fun n b hb => HA.out n (.agg (bc b).toArray) (by rw [hb]; rfl))
      have hd := HD.out
      rw [hpa] at hd hg3
      obtain ⟨cl, hcl, _⟩ := hd.lb_form
      have hwf := hd.wf
      refine ⟨rfl, hb.grown hgr3 hd.size (fun k hk => by simp at hk; have := hd.hB; omega) (fun k hk => by injection hk with hk; subst hk; exact nint_cells HD.out.hg (by decide)), lb, lc, .slice none 0 0, M, hd.hB, hg3, ?_, ⟨rfl, .inl ⟨rfl, rfl⟩⟩, hmap.congr (fun _ => rfl), ?_, ?_⟩
      · exact hd.laid.kept hgr3 (.inr (by simp [Value.ownBlock]; exact ne_of_cells hcl hd.hg (by decide)))
      · have := hd.size; omega
      · exact ⟨hwf.one, hwf.most, hwf.laid, by simp [lay], hwf.left, hwf.work⟩
    · obtain ⟨mm, ms, mse, mc, hobj⟩ := hit.obj
      have hgd := hgr
      have hd' := hd.other_obj hgr hobj (by simp) (by simp)
      have h0' := (hgr.block k0 (lt_of_heap h0) (by
        intro e; injection e with e; rw [← e, h0] at hobj; simp at hobj)).trans h0
      have hb' : Bel B w w' := hb.grown hgr hd.size (fun k hk => by simp at hk; omega) (fun k hk c t f _ h => by injection hk with hk; subst hk; rw [hobj] at h; simp at h)
      clear hd h0 hb hit hobj hgr hsize
      obtain ⟨b, hy, rfl⟩ : ∃ b, young D.queue n = some b ∧ v = .agg (bc b).toArray := by
        simp only [Option.map_eq_some_iff] at hf
        obtain ⟨b, h1, h2⟩ := hf; exact ⟨b, h1, h2.symm⟩
      clear hf
      obtain ⟨hbok, hn0, hn1⟩ := hwf.out.queue _ (young_mem hy)
      dsimp only at hbok hn0 hn1
      have hent1 := hent w' rfl rfl
      clear hent
      have e0 : w'.cell? ⟨k0, 0, none⟩ = some (.pointer (some ⟨g, 0, none⟩)) := by rw [cell_of_row _ _ 0 _ _ _ h0']; rfl
      have ha := alloc_block
      have hz : zb.length = 64 := rfl
      have hbx := Box_new w' zb hz
      generalize zb = z0 at ha hz hbx
      have hd2 : DAt B (w'.alloc (.cells (bc z0).toArray 23)) g { D with laid := part D.laid D.queue done } lb lc qv m := hd'.below ((Below.refl _ _).alloc (Nat.le_refl _) _)
      have hbl2 : Below w'.heap.size w' (w'.alloc (.cells (bc z0).toArray 23)) := (Below.refl _ _).alloc (Nat.le_refl _) _
      have hb64 := hbok.1
      have HX := Lib.hid hbx; clear hbx
      have HD' := Lib.hid hd'; clear hd' hd2
      have HI' := Lib.hid hit'; clear hit'
      have HY := Lib.hid hy; clear hy
      have H0' := Lib.hid h0'; clear h0'
      go_wp2_with (first
        | (refine wpList_alloc_told rfl 23 rfl (bc z0).toArray ha ?_)
        | (refine wpList_store_mid rfl 23 (.tmp 2) (.tmp 12) rfl w'.heap.size 0 (bc b).toArray rfl rfl (HX.out.room b hb64) (size_block' b hb64) (bc_all b) ?_; simp only [List.toList_toArray])
        | fail)
      have hblW := below_box hbl2 (Nat.le_refl _) (bc b)
      have hdW := HD'.out.below hblW
      have hIW := HI'.out.grown (w' := (w'.alloc (.cells (bc z0).toArray 23)).setCells w'.heap.size 0 (bc b)) (row := none) ⟨hblW.os, hblW.tape, hblW.output, hblW.size, fun i hi _ => hblW.block i hi⟩ (by simp) (by simp)
      have h0W := (hblW.block k0 (lt_of_heap H0'.out)).trans H0'.out
      have hxW := (HX.out.set b hb64).1
      have hbW : Bel B w ((w'.alloc (.cells (bc z0).toArray 23)).setCells w'.heap.size 0 (bc b)) := hb'.trans (Bel.of_below hblW HD'.out.size)
      generalize (w'.alloc (.cells (bc z0).toArray 23)).setCells w'.heap.size 0 (bc b) = W at hblW hdW hIW h0W hxW hbW ⊢
      have f0 : W.drew.cell? ⟨k0, 0, none⟩ = some (.pointer (some ⟨g, 0, none⟩)) := by show W.cell? _ = _; rw [cell_of_row _ _ 0 _ _ _ h0W]; rfl
      have hn1' : n < ((part D.laid D.queue done).length : Int) := by rw [part_length]; exact hn1
      have hu := Try.underlying23
      have hi := size_block b hbok.1
      clear hrun hent1 e0 ha
      refine start_ (n := 8) (S := (fun w1 => w1.cell? ⟨k0, 0, none⟩ = some (.pointer (some ⟨g, 0, none⟩)) ∧ w1.cell? ⟨g, 0, none⟩ = some (.slice (some ⟨lb, 0, none⟩) (part D.laid D.queue done).length lc) ∧ w1.rangeAt w'.heap.size 0 (bc b))) (ds := [7]) #[false, false, false, false, false, false, false, false] (by kernel_rfl) rfl rfl ⟨f0, hdW.c0, hxW⟩ (fun hHeld => ?_)
      refine take_ (i := 0) (N := (some 13)) (v := ?_) (a' := ?_) #[true, false, false, false, false, false, false, false] rfl rfl (by kernel_rfl) (fun _ _ _ h => h) (Or.inl ⟨by rfl, ?_⟩) hHeld ?_ ?_
      rotate_left
      · (rintro w' hSw; (try dsimp only at hSw); go_split_ands; go_simp; with_reducible rfl)
      rotate_left
      · (simp only [Act.put, List.setIfInBounds_toArray, List.set_cons_zero, List.set_cons_succ]; rfl)
      refine pure_ (i := 1) (N := (some 14)) (v := ?_) (a' := ?_) #[true, true, false, false, false, false, false, false] rfl rfl (by kernel_rfl) (fun _ _ _ h => h) (Or.inl ⟨by rfl, ?_⟩) ?_ ?_
      rotate_left
      · (intro w'; go_simp; with_reducible rfl)
      rotate_left
      · (simp only [Act.put, List.setIfInBounds_toArray, List.set_cons_zero, List.set_cons_succ]; rfl)
      refine pure_ (i := 2) (N := (some 15)) (v := ?_) (a' := ?_) #[true, true, true, false, false, false, false, false] rfl rfl (by kernel_rfl) (fun _ _ _ h => h) (Or.inl ⟨by rfl, ?_⟩) ?_ ?_
      rotate_left
      · (intro w'; go_simp; with_reducible rfl)
      rotate_left
      · (simp only [Act.put, List.setIfInBounds_toArray, List.set_cons_zero, List.set_cons_succ]; rfl)
      refine take_ (i := 3) (N := (some 16)) (v := ?_) (a' := ?_) #[true, true, true, true, false, false, false, false] rfl rfl (by kernel_rfl) (fun _ _ _ h => h) (Or.inl ⟨by rfl, ?_⟩) hHeld ?_ ?_
      rotate_left
      · (rintro w' hSw; (try dsimp only at hSw); go_split_ands; go_simp; with_reducible rfl)
      rotate_left
      · (simp only [Act.put, List.setIfInBounds_toArray, List.set_cons_zero, List.set_cons_succ]; rfl)
      refine pure_ (i := 4) (N := (some 17)) (v := ?_) (a' := ?_) #[true, true, true, true, true, false, false, false] rfl rfl (by kernel_rfl) (fun _ _ _ h => h) (Or.inl ⟨by rfl, ?_⟩) ?_ ?_
      rotate_left
      · (intro w'; go_simp; with_reducible rfl)
      rotate_left
      · (simp only [Act.put, List.setIfInBounds_toArray, List.set_cons_zero, List.set_cons_succ]; rfl)
      refine take_ (i := 5) (N := (some 18)) (v := _) (a' := ?_) #[true, true, true, true, true, true, false, false] rfl rfl (by kernel_rfl) (fun _ _ _ h => h) (yieldsIf_load_mid (by rfl) 23 (.tmp 2) rfl w'.heap.size 0 rfl (bc b) _ (fun w1 h => h.2.2) hu rfl hi) hHeld ?_ ?_
      rotate_left
      · (simp only [Act.put, List.setIfInBounds_toArray, List.set_cons_zero, List.set_cons_succ]; rfl)
      refine pure_ (i := 6) (N := (some 19)) (v := ?_) (a' := ?_) #[true, true, true, true, true, true, true, false] rfl rfl (by kernel_rfl) (fun _ _ _ h => h) (Or.inl ⟨by rfl, ?_⟩) ?_ ?_
      rotate_left
      · (intro w'; go_simp; with_reducible rfl)
      rotate_left
      · (simp only [Act.put, List.setIfInBounds_toArray, List.set_cons_zero, List.set_cons_succ]; rfl)
      refine last_ (i := 7) (N := none) #[true, true, true, true, true, true, true, true] rfl rfl (by kernel_rfl) (by decide) (fun K hK => ?_)
      have hset := hdW.drew.setLaid n.toNat (by simp only [part_length]; omega) b hbok
      refine skip_ (by rfl) rfl (exec_storeA 23 (.tmp 19) (.tmp 18) (by rfl) lb (n.toNat * 64) (bc b) (by rfl) (by rfl) (by rw [bc_length, hb64]; exact hset.1) hi (bc_one b)) ?_
      refine hK.out _ _ ?_
      clear hK K
      refine done_ (by kernel_rfl) ?_
      go_wp2_with fail
      go_roundg cnt'
      case measure => exact hlt
      case rel =>
        have hdd := hset.2
        rw [part_set D.laid D.queue done n hn0 hn1 b HY.out] at hdd
        obtain ⟨cl, hcl, _⟩ := hdW.drew.lb_form
        obtain ⟨mm', ms', mse', mc', hobj'⟩ := hIW.obj
        have hgs := grownBy_setCells W.drew lb (bc b) (n.toNat * 64)
        have hbd : Bel B w W.drew := hbW.drew
        have hlbB : B ≤ lb := by obtain ⟨_, _, h, _⟩ := hdW.drew.lb_form; exact h
        refine ⟨_, ?_, hdd, hbd.grown hgs hdW.drew.size (fun k hk => by simp at hk; omega) (fun k hk => by injection hk with hk; subst hk; exact nint_cells hcl (by decide)), ?_⟩
        · obtain ⟨es2, mc2, hmb2, _⟩ := hIW.map
          have hID : IterI W.drew m w.heap.size (fun n => (young D.queue n).map fun b => .agg (bc b).toArray) (fun k => if k = n then true else done k) cnt' := hIW
          refine hID.grown hgs ?_ ?_
          · simp; intro e; subst e; rw [show W.heap[m]? = _ from hcl] at hmb2; simp at hmb2
          · simp; intro e
            have : W.drew.heap[w.heap.size]? = _ := hobj'
            rw [e, hcl] at this; simp at this
        · have h0D : W.drew.heap[k0]? = some (.cells #[.pointer (some ⟨g, 0, none⟩)] 24 (0, 0)) := h0W
          exact (hgs.block k0 (lt_of_heap h0D) (by simp; exact ne_of_cells h0D hcl (by decide))).trans h0D
end Go.Proofs.Ytlngflonolhdhaa

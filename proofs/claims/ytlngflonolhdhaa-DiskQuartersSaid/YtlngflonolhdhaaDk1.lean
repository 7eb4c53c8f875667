/- Maps keyed by int: what a block that is a map holds, key by key; no program in sight. -/
import Derived.Test.YtlngflonolhdhaaDk0
import Derived.Maps.RangeRun
import Derived.MapKept
import Derived.Carry
set_option linter.unusedVariables false
set_option linter.unusedSimpArgs false
namespace Go.Proofs.Ytlngflonolhdhaa
open Go.RowKit Go.MapKept
open Go.ChangeMaps (setBlock heap_setBlock_same heap_setBlock_other)

theorem hsS {w : World} {r : Nat} {o : Obj} (h : w.heap[r]? = some o) (o' : Obj) : (setBlock w r o').heap[r]? = some o' := (Go.MapKept.heap_set (o' := o') h).1
theorem hsO {w : World} {r : Nat} {o : Obj} (h : w.heap[r]? = some o) (o' : Obj) {i : Nat} (hi : i ≠ r) : (setBlock w r o').heap[i]? = w.heap[i]? := (Go.MapKept.heap_set (o' := o') h).2 i hi
/-- Block m is a map keyed by int that holds f. -/
def MapI (w : World) (m : Nat) (f : Int → Option Value) : Prop :=
  ∃ es clock, w.heap[m]? = some (.map es clock) ∧ Stamped es clock ∧ (∀ e ∈ es.toList, ∃ n, e.key = .int .i64 n ∧ f n = some e.val) ∧ (∀ n v, f n = some v → ∃ e ∈ es.toList, e.key = .int .i64 n)

theorem MapI.lt {w : World} {m : Nat} {f : Int → Option Value} (h : MapI w m f) : m < w.heap.size := by
  obtain ⟨es, c, hb, _⟩ := h; exact lt_of_heap hb
theorem MapI.kept {w w' : World} {m : Nat} {f : Int → Option Value} (h : MapI w m f) (hb : w'.heap[m]? = w.heap[m]?) : MapI w' m f := by
  obtain ⟨es, c, h1, h2⟩ := h; exact ⟨es, c, hb.trans h1, h2⟩
theorem MapI.grown {w w' : World} {m : Nat} {f : Int → Option Value} {row : Option Nat} (h : MapI w m f) (hg : w.grownBy w' row) (hne : some m ≠ row) : MapI w' m f := h.kept (hg.block m h.lt hne)
theorem MapI.below {w w' : World} {m B : Nat} {f : Int → Option Value} (h : MapI w m f) (hg : Below B w w') (hne : m < B) : MapI w' m f := h.kept (hg.block m hne)
theorem MapI_made (w : World) : MapI (w.alloc (.map #[] 0)) w.heap.size (fun _ => none) :=
  ⟨#[], 0, (MapKept.heap_alloc w _).1, stamped_empty 0, by simp, by simp⟩
theorem MapI.congr {w : World} {m : Nat} {f g : Int → Option Value} (h : MapI w m f) (e : ∀ n, f n = g n) : MapI w m g := by
  rw [← funext e]; exact h

theorem MapI.lookup {P : Program} {w : World} {m : Nat} {f : Int → Option Value} (h : MapI w m f) {T K E : TypeId} (hT : P.underlying T = some (.map K E)) (hK : P.underlying K = some (.int .i64)) {z : Value} (hz : (zeroValue E).run P w = .ok z w) (n : Int) :
    (Instr.lookup T (.map (some m)) (.int .i64 n) true).run P w = .ok (.tuple #[(f n).getD z, .bool (f n).isSome]) w := by
  obtain ⟨es, c, hb, hs, h1, h2⟩ := h
  have hk : IsKey (.int .i64) (.int .i64 n) := rfl
  have hks : ∀ x ∈ es.toList, IsKey (.int .i64) x.key := fun x hx => by obtain ⟨j, hj, _⟩ := h1 x hx; rw [hj]; rfl
  unfold Instr.lookup
  simp only [Sem.run_bind, run_underlying hT, Result.andThen, Go.MapKept.run_getObj_map hb, Sem.run_pure, Go.MapKept.run_checkKey hK hk]
  rcases findNow_spec hk es.toList 0 hks with ⟨hf, hno⟩ | ⟨j, e, hf, hj, he⟩
  · have hn : f n = none := by
      cases hfn : f n with
      | none => rfl
      | some v => obtain ⟨e, he, hek⟩ := h2 n v hfn; exact absurd hek (hno e he)
    simp [Go.MapKept.run_findKey hK hf, hz, Result.andThen, hn]
  · obtain ⟨n', hn', hv⟩ := h1 e (List.mem_of_getElem? hj)
    rw [he] at hn'; injection hn' with _ hn'; subst hn'
    simp [Go.MapKept.run_findKey hK hf, Result.andThen, hv]

theorem MapI.update {P : Program} {w : World} {m : Nat} {f : Int → Option Value} (h : MapI w m f) {T K E : TypeId} (hT : P.underlying T = some (.map K E)) (hK : P.underlying K = some (.int .i64)) (n : Int) (v : Value) :
    ∃ w', (Instr.mapUpdate T (.map (some m)) (.int .i64 n) v).run P w = .ok () w' ∧ MapI w' m (fun k => if k = n then some v else f k) ∧ w.grownBy w' (some m) := by
  obtain ⟨es, c, hb, hs, h1, h2⟩ := h
  have hk : IsKey (.int .i64) (.int .i64 n) := rfl
  have hks : ∀ x ∈ es.toList, IsKey (.int .i64) x.key := fun x hx => by obtain ⟨j, hj, _⟩ := h1 x hx; rw [hj]; rfl
  have hgrow : ∀ o, w.grownBy (setBlock w m o) (some m) := fun o => ⟨rfl, rfl, rfl, by simp [setBlock], fun i _ hi => heap_setBlock_other hb _ (fun e => hi (by rw [e]))⟩
  unfold Instr.mapUpdate
  simp only [Sem.run_bind, run_underlying hT, Result.andThen, Go.MapKept.run_getObj_map hb, Sem.run_pure, Go.MapKept.run_checkKey hK hk]
  rcases findNow_spec hk es.toList 0 hks with ⟨hf, hno⟩ | ⟨j, e, hf, hj, he⟩
  · refine ⟨setBlock w m (.map (es.push { key := .int .i64 n, val := v, born := c }) (c + 1)), ?_, ⟨_, _, heap_setBlock_same hb _, stamped_push hs hno, ?_, ?_⟩, hgrow _⟩
    · simp only [Go.MapKept.run_findKey hK hf, Result.andThen, Go.MapKept.run_setObj_map _ hb]; rfl
    · intro x hx
      simp only [Array.toList_push, List.mem_append, List.mem_singleton] at hx
      rcases hx with hx | rfl
      · obtain ⟨k, hk1, hk2⟩ := h1 x hx
        have : k ≠ n := fun q => hno x hx (by rw [hk1, q])
        exact ⟨k, hk1, by simp only [if_neg this]; exact hk2⟩
      · exact ⟨n, rfl, by simp⟩
    · intro k u hku
      by_cases hkn : k = n
      · subst hkn; exact ⟨{ key := .int .i64 k, val := v, born := c }, by simp, rfl⟩
      · simp only [if_neg hkn] at hku
        obtain ⟨x, hx, hxk⟩ := h2 k u hku
        exact ⟨x, by simp [hx], hxk⟩
  · have hjl : j < es.toList.length := (List.getElem?_eq_some_iff.1 hj).1
    have hje : es[j]? = some e := by simpa using hj
    have hst := stamped_modify hs j (fun e => { e with key := .int .i64 n, val := v }) (fun _ _ => rfl) (fun e' _ he' => by rw [hje] at he'; injection he' with he'; subst he'; exact he.symm)
    refine ⟨setBlock w m (.map (es.modify j fun e => { e with key := .int .i64 n, val := v }) c), ?_, ⟨_, _, heap_setBlock_same hb _, hst, ?_, ?_⟩, hgrow _⟩
    · simp only [Go.MapKept.run_findKey hK hf, Result.andThen, Sem.run_bind, Nat.zero_add, hje, Option.map_some, Option.getD_some, he, Go.MapKept.run_keyThatStays hk, Go.MapKept.run_setObj_map _ hb]; rfl
    · intro x hx
      obtain ⟨i, hi⟩ := List.mem_iff_getElem?.1 hx
      simp only [Array.getElem?_toList, Array.getElem?_modify] at hi
      by_cases hij : j = i
      · subst hij
        simp [hje] at hi
        subst hi
        exact ⟨n, rfl, by simp⟩
      · rw [if_neg hij] at hi
        have hxm : x ∈ es.toList := List.mem_of_getElem? (by simpa using hi)
        obtain ⟨k, hk1, hk2⟩ := h1 x hxm
        have : k ≠ n := by
          rintro rfl
          have hp := ((stamped_iff es c).1 hs).2.2
          rw [List.pairwise_iff_getElem] at hp
          have hil : i < es.toList.length := (List.getElem?_eq_some_iff.1 (show es.toList[i]? = some x by simpa using hi)).1
          have e1 : es.toList[i] = x := by simpa using (List.getElem?_eq_some_iff.1 (show es.toList[i]? = some x by simpa using hi)).2
          have e2 : es.toList[j] = e := by simpa using (List.getElem?_eq_some_iff.1 hj).2
          rcases Nat.lt_or_gt_of_ne hij with hlt | hlt
          · exact hp j i hjl hil hlt (by rw [e1, e2, hk1, he])
          · exact hp i j hil hjl hlt (by rw [e1, e2, hk1, he])
        exact ⟨k, hk1, by simp only [if_neg this]; exact hk2⟩
    · intro k u hku
      by_cases hkn : k = n
      · subst hkn
        refine ⟨{ e with key := .int .i64 k, val := v }, ?_, rfl⟩
        refine List.mem_of_getElem? (i := j) ?_
        simp [Array.getElem?_modify, hje]
      · simp only [if_neg hkn] at hku
        obtain ⟨x, hx, hxk⟩ := h2 k u hku
        obtain ⟨i, hi⟩ := List.mem_iff_getElem?.1 hx
        have hij : j ≠ i := by
          rintro rfl
          rw [hj] at hi; injection hi with hi; subst hi
          rw [hxk] at he; injection he with _ he; exact hkn he
        refine ⟨x, List.mem_of_getElem? (i := i) ?_, hxk⟩
        simp [Array.getElem?_modify, hij]
        simpa using hi

/-- Under way over a map that nothing is written to: 'done' tells which keys came out; cnt: how many are left. -/
def IterI (w : World) (m r : Nat) (f : Int → Option Value) (done : Int → Bool) (cnt : Nat) : Prop :=
  ∃ es clock seen c0, w.heap[m]? = some (.map es clock) ∧ Stamped es clock ∧ (∀ e ∈ es.toList, ∃ n, e.key = .int .i64 n ∧ f n = some e.val) ∧ (∀ n v, f n = some v → ∃ e ∈ es.toList, e.key = .int .i64 n) ∧
    w.heap[r]? = some (.mapIter (some m) clock seen c0) ∧ clock ≤ c0 ∧ (leftOf es seen).size = cnt ∧ (∀ e ∈ es.toList, ∀ n, e.key = .int .i64 n → done n = seen.contains e.born)

theorem IterI.map {w : World} {m r : Nat} {f : Int → Option Value} {done : Int → Bool} {cnt : Nat} (h : IterI w m r f done cnt) : MapI w m f := by
  obtain ⟨es, c, seen, c0, h1, h2, h3, h4, _⟩ := h; exact ⟨es, c, h1, h2, h3, h4⟩
theorem IterI.lt {w : World} {m r : Nat} {f : Int → Option Value} {done : Int → Bool} {cnt : Nat} (h : IterI w m r f done cnt) : m < w.heap.size ∧ r < w.heap.size := by
  obtain ⟨es, c, seen, c0, h1, _, _, _, h5, _⟩ := h; exact ⟨lt_of_heap h1, lt_of_heap h5⟩
theorem IterI.grown {w w' : World} {m r : Nat} {f : Int → Option Value} {done : Int → Bool} {cnt : Nat} {row : Option Nat} (h : IterI w m r f done cnt) (hg : w.grownBy w' row) (h1 : some m ≠ row) (h2 : some r ≠ row) : IterI w' m r f done cnt := by
  have hl := h.lt
  obtain ⟨es, c, seen, c0, a1, a2, a3, a4, a5, a6⟩ := h
  exact ⟨es, c, seen, c0, (hg.block m hl.1 h1).trans a1, a2, a3, a4, (hg.block r hl.2 h2).trans a5, a6⟩
theorem IterI.obj {w : World} {m r : Nat} {f : Int → Option Value} {done : Int → Bool} {cnt : Nat} (h : IterI w m r f done cnt) : ∃ mm s se c, w.heap[r]? = some (.mapIter mm s se c) := by
  obtain ⟨es, c, seen, c0, h1, _, _, _, h5, _⟩ := h; exact ⟨_, _, _, _, h5⟩
/-- 'range m'. -/
theorem MapI.range {P : Program} {w : World} {m : Nat} {f : Int → Option Value} (h : MapI w m f) {T K E : TypeId} (hT : P.underlying T = some (.map K E)) :
    ∃ o cnt, (Instr.range T (.map (some m))).run P w = .ok (.pointer (some ⟨w.heap.size, 0, none⟩)) (w.alloc o) ∧ IterI (w.alloc o) m w.heap.size f (fun _ => false) cnt := by
  have hl := h.lt
  obtain ⟨es, c, hb, hs, h1, h2⟩ := h
  refine ⟨.mapIter (some m) c #[] c, (leftOf es #[]).size, ?_, ⟨es, c, #[], c, (Below.heap_alloc w _ m hl).trans hb, hs, h1, h2, Go.heap_alloc_new w _, Nat.le_refl _, rfl, by simp⟩⟩
  simp [Instr.range, run_underlying hT, Go.MapKept.run_getObj_map hb, Result.andThen]
theorem leftOf_push {es : Array MapEntry} {seen : Array Nat} {e : MapEntry} {c : Nat} (hs : Stamped es c) (he : e ∈ (leftOf es seen).toList) : (leftOf es (seen.push e.born)).size < (leftOf es seen).size := by
  unfold leftOf at *
  rw [Array.toList_filter] at he
  have hsz : ∀ (p : MapEntry → Bool), (es.filter p).size = (es.toList.filter p).length := fun p => by rw [← Array.length_toList, Array.toList_filter]
  have h1 := hsz (fun x => !(seen.push e.born).contains x.born)
  have h2 := hsz (fun x => !seen.contains x.born)
  show (es.filter (fun x => !(seen.push e.born).contains x.born)).size < (es.filter (fun x => !seen.contains x.born)).size
  rw [h1, h2]
  have : es.toList.filter (fun x => !(seen.push e.born).contains x.born) = (es.toList.filter (fun x => !seen.contains x.born)).filter (fun x => x.born ≠ e.born) := by
    rw [List.filter_filter]
    congr 1
    funext x
    rw [Bool.eq_iff_iff]
    simp only [Array.contains_push, Bool.not_or, Bool.and_eq_true, Bool.not_eq_true', decide_eq_true_eq, beq_eq_false_iff_ne, ne_eq]
    constructor
    · rintro ⟨a, b⟩; exact ⟨b, a⟩
    · rintro ⟨a, b⟩; exact ⟨b, a⟩
  rw [this]
  exact List.length_filter_lt_length_iff_exists.2 ⟨e, he, by simp⟩
/-- A step: nothing is left, or an entry comes out. -/
theorem IterI.next {P : Program} {w : World} {m r : Nat} {f : Int → Option Value} {done : Int → Bool} {cnt : Nat} (h : IterI w m r f done cnt) (ty : TypeId) :
    ((∀ n v, f n = some v → done n = true) ∧ (Instr.next (.pointer (some ⟨r, 0, none⟩)) false ty).run P w = .ok (.tuple #[.bool false]) w) ∨
    ∃ n v w' cnt', f n = some v ∧ cnt' < cnt ∧ (Instr.next (.pointer (some ⟨r, 0, none⟩)) false ty).run P w = .ok (.tuple #[.bool true, .int .i64 n, v]) w' ∧ w.grownBy w' (some r) ∧ w'.heap.size = w.heap.size ∧ IterI w' m r f (fun k => if k = n then true else done k) cnt' ∧
      (∀ (W : World), W.heap[r]? = w'.heap[r]? → W.heap[m]? = w'.heap[m]? → (Instr.entry (.pointer (some ⟨r, 0, none⟩))).run P W = .ok (.tuple #[.int .i64 n, v]) W) := by
  obtain ⟨es, c, seen, c0, hb, hs, h1, h2, hr, hc0, hcnt, hdone⟩ := h
  have hs' := (stamped_iff es c).1 hs
  rcases run_next_at (P := P) w ty r m c c0 seen es c hr hb (fun x hx => hs'.1 x hx) hc0 with ⟨h0, hrun⟩ | ⟨e, he, w1, hw1, hrun⟩
  · refine .inl ⟨fun n v hv => ?_, hrun⟩
    obtain ⟨e, he, hek⟩ := h2 n v hv
    rw [hdone e he n hek]
    have hnil : leftOf es seen = #[] := Array.eq_empty_of_size_eq_zero h0
    unfold leftOf at hnil
    rw [Array.filter_eq_empty_iff] at hnil
    have := hnil e (by simpa using he)
    simpa using this
  · have hem : e ∈ es.toList := by unfold leftOf at he; simp at he; simpa using he.1
    have hes : seen.contains e.born = false := by unfold leftOf at he; simp at he; simpa using he.2
    obtain ⟨n, hn, hv⟩ := h1 e hem
    have hr1 : w1.heap[r]? = some (.mapIter (some m) c seen c0) := by rcases hw1 with rfl | rfl <;> exact hr
    have hb1 : w1.heap[m]? = some (.map es c) := by rcases hw1 with rfl | rfl <;> exact hb
    have hne : m ≠ r := by rintro rfl; rw [hb] at hr; simp at hr
    have hsize : (setBlock w1 r (.mapIter (some m) c (seen.push e.born) c)).heap.size = w.heap.size := by
      have e1 : w1.heap.size = w.heap.size := by rcases hw1 with rfl | rfl <;> rfl
      rw [← e1]; simp [setBlock]
    refine .inr ⟨n, e.val, _, _, hv, ?_, by rw [hrun, hn], ?_, ?_, ⟨es, c, seen.push e.born, c, (hsO hr1 _ hne).trans hb1, hs, h1, h2, hsS hr1 _, Nat.le_refl _, rfl, ?_⟩, ?_⟩
    · rw [← hcnt]; exact leftOf_push hs he
    · refine ⟨?_, ?_, ?_, ?_, fun i hi hir => ?_⟩
      · rcases hw1 with rfl | rfl <;> rfl
      · rcases hw1 with rfl | rfl <;> rfl
      · rcases hw1 with rfl | rfl <;> rfl
      · exact Nat.le_of_eq hsize.symm
      · rw [hsO hr1 _ (fun q => hir (by rw [q]))]
        rcases hw1 with rfl | rfl <;> rfl
    · exact hsize
    · intro x hx k hk
      by_cases hkn : k = n
      · subst hkn
        have hxe : x = e := by
          have hp := hs'.2.2
          by_cases q : x = e
          · exact q
          · exfalso
            obtain ⟨i, hi⟩ := List.mem_iff_getElem?.1 hx
            obtain ⟨j, hj⟩ := List.mem_iff_getElem?.1 hem
            have hil := (List.getElem?_eq_some_iff.1 hi).1
            have hjl := (List.getElem?_eq_some_iff.1 hj).1
            have ei := (List.getElem?_eq_some_iff.1 hi).2
            have ej := (List.getElem?_eq_some_iff.1 hj).2
            rw [List.pairwise_iff_getElem] at hp
            rcases Nat.lt_trichotomy i j with hlt | heq | hlt
            · exact hp i j hil hjl hlt (by rw [ei, ej, hk, hn])
            · subst heq; exact q (by rw [← ei, ← ej])
            · exact hp j i hjl hil hlt (by rw [ei, ej, hk, hn])
        subst hxe
        simp
      · simp only [if_neg hkn]
        rw [hdone x hx k hk, Array.contains_push]
        have : x.born ≠ e.born := by
          intro q
          have hxe : x = e := by
            have hp := hs'.2.1
            obtain ⟨i, hi⟩ := List.mem_iff_getElem?.1 hx
            obtain ⟨j, hj⟩ := List.mem_iff_getElem?.1 hem
            have hil := (List.getElem?_eq_some_iff.1 hi).1
            have hjl := (List.getElem?_eq_some_iff.1 hj).1
            have ei := (List.getElem?_eq_some_iff.1 hi).2
            have ej := (List.getElem?_eq_some_iff.1 hj).2
            have := (List.getElem_inj (xs := es.toList.map (·.born)) (i := i) (j := j) (h₀ := by simpa using hil) (h₁ := by simpa using hjl) hp).1 (by simp only [List.getElem_map]; rw [ei, ej, q])
            subst this
            rw [← ei, ← ej]
          subst hxe
          rw [hk] at hn; injection hn with _ hn; exact hkn hn
        simp [this]
    · intro W hWr hWm
      have hrr : W.heap[r]? = some (.mapIter (some m) c (seen.push e.born) c) := hWr.trans (hsS hr1 _)
      have hmm : W.heap[m]? = some (.map es c) := hWm.trans ((hsO hr1 _ hne).trans hb1)
      rw [run_entry_at W r m c seen es c e hrr hmm hem hs'.2.1, hn]
/-- maps.clone: a new block that holds the same. -/
theorem MapI.clone {P : Program} {w : World} {m : Nat} {f : Int → Option Value} (h : MapI w m f) (t : TypeId) :
    ∃ o, (Extern.MapsClone.clone #[.iface t (.map (some m))]).run P w = .ok (.iface t (.map (some w.heap.size))) (w.alloc o) ∧ MapI (w.alloc o) w.heap.size f := by
  obtain ⟨es, c, hb, hs, h1, h2⟩ := h
  refine ⟨.map es c, ?_, ⟨es, c, Go.heap_alloc_new w _, hs, h1, h2⟩⟩
  have e : Extern.MapsClone.clone #[.iface t (.map (some m))] = (getObj m >>= fun o => match o with
      | .map entries clock => (newObj (.map entries clock) >>= fun n => pure (.iface t (.map (some n))))
      | _ => stuck "maps.clone: a map expected") := rfl
  rw [e]
  simp [Go.MapKept.run_getObj_map hb, Result.andThen]
end Go.Proofs.Ytlngflonolhdhaa

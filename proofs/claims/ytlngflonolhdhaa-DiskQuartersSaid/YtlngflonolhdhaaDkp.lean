/- The deeds that are handed in, read as data; what writes and flushes make of a disk that is not armed. -/
import Derived.Test.YtlngflonolhdhaaDko
import Derived.Laws.BitsLemmas
set_option linter.unusedVariables false
set_option linter.unusedSimpArgs false
namespace Go.Proofs.Ytlngflonolhdhaa
open Go.RowKit Go.ChangeShapes Go.WideShapes

theorem i64_and63 (n : Int) : bits .and .i64 n 63 = n % 64 := by
  have h63 : (BitVec.ofInt 64 63).toNat = 2 ^ 6 - 1 := by decide
  have key : (BitVec.ofInt 64 n &&& BitVec.ofInt 64 63).toNat = (n % ((2 ^ 64 : Nat) : Int)).toNat % 2 ^ 6 := by
    rw [BitVec.toNat_and, BitVec.toNat_ofInt, h63, Nat.and_two_pow_sub_one_eq_mod]
  show IntKind.i64.wrap ((BitVec.ofInt 64 n &&& BitVec.ofInt 64 63).toNat : Nat) = n % 64
  rw [key, IntKind.wrap_i64]
  omega

/-! ### the deeds -/
def DeedsAt (w : World) (b o : Nat) (l : List (Int × List Int)) : Prop :=
  ∀ i x, l[i]? = some x → w.cell? ⟨b, o + i * 67 + 1, none⟩ = some (.int .i64 x.1) ∧ w.rangeAt b (o + i * 67 + 2) (bc x.2) ∧ okB x.2
def Deeds (w : World) (v : Value) (l : List (Int × List Int)) : Prop :=
  (v = .slice none 0 0 ∧ l = []) ∨ ∃ b o cap, v = .slice (some ⟨b, o, none⟩) l.length cap ∧ l.length ≤ cap ∧ cap ≤ maxLen ∧ b < w.heap.size ∧ DeedsAt w b o l
theorem Deeds.form {w : World} {v : Value} {l : List (Int × List Int)} (h : Deeds w v l) : ∃ A cap, v = .slice A l.length cap ∧ (0 < l.length → ∃ b o, A = some ⟨b, o, none⟩ ∧ b < w.heap.size ∧ DeedsAt w b o l) := by
  rcases h with ⟨rfl, rfl⟩ | ⟨b, o, cap, rfl, _, _, hlt, hd⟩
  · exact ⟨none, 0, rfl, by simp⟩
  · exact ⟨_, cap, rfl, fun _ => ⟨b, o, rfl, hlt, hd⟩⟩
theorem DeedsAt.below {w w' : World} {b o : Nat} {l : List (Int × List Int)} {B : Nat} (h : DeedsAt w b o l) (hb : Below B w w') (hlt : b < B) : DeedsAt w' b o l := fun i x hx =>
  ⟨(hb.cell hlt).trans (h i x hx).1, fun j v hv => (hb.cell hlt).trans ((h i x hx).2.1 j v hv), (h i x hx).2.2⟩
theorem list_of {α : Type} {p : Nat → α → Prop} : ∀ (n : Nat), (∀ i, i < n → ∃ x, p i x) → ∃ l : List α, l.length = n ∧ ∀ i x, l[i]? = some x → p i x
  | 0, _ => ⟨[], rfl, by simp⟩
  | n + 1, h => by
    obtain ⟨l, hl, hp⟩ := list_of n (fun i hi => h i (by omega))
    obtain ⟨x, hx⟩ := h n (by omega)
    refine ⟨l ++ [x], by simp [hl], fun i y hy => ?_⟩
    by_cases hi : i < n
    · rw [List.getElem?_append_left (by omega)] at hy; exact hp i y hy
    · rw [List.getElem?_append_right (by omega), hl] at hy
      have : i = n := by
        by_cases e : i - n = 0
        · omega
        · rw [List.getElem?_eq_none (by simp; omega)] at hy; cases hy
      subst this
      simp at hy; subst hy; exact hx
theorem open_deed {H : Type} {enc : TypeId × Value → H} {W : World} {base : Nat} {spare : Nat → Bool} {held : Bool} {fuel : Nat} {cs : List Value} {y : DataW H × List MemPlace}
    (h : DataW.trod enc Try.prog W base spare held fuel 37 cs = some y) : ∃ x : Int × List Int, cs.length = 67 ∧ cs[1]? = some (.int .i64 x.1) ∧ (cs.drop 2).take 64 = bc x.2 ∧ okB x.2 := by
  obtain ⟨xs, n, rfl, -, hl, hlen, hf⟩ := DataW.trod_struct Try.underlying37 h
  have hl67 : cs.length = 67 := by rw [hl]; kernel_rfl
  have c3 : Try.prog.cellsOf 3 = 1 := by kernel_rfl
  have c23 : Try.prog.cellsOf 23 = 64 := by kernel_rfl
  have h1 := hf 1 _ rfl
  have h2 := hf 2 _ rfl
  rw [List.getElem?_eq_getElem (by rw [hlen]; decide)] at h1 h2
  obtain ⟨N, hN, -, -⟩ := DataW.trod_int Try.underlying3 h1
  obtain ⟨b, hb, hbl, hbx⟩ := open_bytes Try.underlying23 Try.underlying5 (by kernel_rfl) (by kernel_rfl) h2
  replace hN : List.take (Try.prog.cellsOf 3) (List.drop 1 cs) = [Value.int .i64 N] := hN
  replace hb : List.take (Try.prog.cellsOf 23) (List.drop 2 cs) = bc b := hb
  rw [c3] at hN
  rw [c23] at hb
  refine ⟨(N, b), hl67, ?_, hb, hbl, hbx⟩
  have := congrArg (fun l : List Value => l[0]?) hN
  simpa using this
theorem open_deeds {H : Type} {enc : TypeId × Value → H} {W : World} {base : Nat} {spare : Nat → Bool} {held : Bool} {v : Value} {d : DataW H} {p : List MemPlace} {r : Reach}
    (hv : Value.okWide Try.prog W r base 34 v) (h : DataW.Trod enc Try.prog W 0 spare held 34 v d p) : ∃ l, Deeds W v l := by
  obtain ⟨a0, len0, cap0, rfl⟩ := okWide_slice Try.underlying34 hv
  obtain ⟨fuel, hf⟩ := h
  have c67 : Try.prog.cellsOf 37 = 67 := by kernel_rfl
  rcases DataW.trod_slice Try.underlying34 hf with ⟨hcs, -⟩ | ⟨a, len, cap, elems, rest, n, -, hcs, -, -, hlc, hcm, hel, hcell, -⟩
  · refine ⟨[], .inl ⟨?_, rfl⟩⟩
    simpa [Value.cells] using hcs
  · have hve : Value.slice a0 len0 cap0 = .slice (some a) len cap := by simpa [Value.cells] using hcs
    injection hve with e1 e2 e3
    subst e1; subst e2; subst e3
    obtain ⟨b, o, sp⟩ := a
    obtain rfl : sp = none := by
      simp only [Value.okWide, Try.underlying34, Cell.okWide, Cell.ok] at hv
      exact hv.2.2.2.1
    rw [c67] at hcell
    have hone : ∀ i, i < len0 → ∃ x : Int × List Int, W.cell? ⟨b, o + i * 67 + 1, none⟩ = some (.int .i64 x.1) ∧ W.rangeAt b (o + i * 67 + 2) (bc x.2) ∧ okB x.2 := by
      intro i hi
      have h1 := hcell i hi
      rw [List.getElem?_eq_getElem (by omega), Option.bind_eq_some_iff] at h1
      obtain ⟨cs, hc1, hc2⟩ := h1
      obtain ⟨x, hl, h1, h2, h3⟩ := open_deed hc2
      obtain ⟨-, -, hget⟩ := World.cells?_some hc1
      refine ⟨x, ?_, ?_, h3⟩
      · have := hget 1 (by omega)
        rw [h1, Addr.add_mid, Addr.add_mid] at this; exact this
      · intro j u hu
        have hj : j < 64 := by
          have := (List.getElem?_eq_some_iff.1 hu).1
          rw [bc_length, h3.1] at this; exact this
        have := hget (2 + j) (by omega)
        rw [Addr.add_mid, Addr.add_mid] at this
        rw [← h2, List.getElem?_take, if_pos hj, List.getElem?_drop] at hu
        rw [hu] at this
        rw [← this]; congr 2; omega
    obtain ⟨l, hl, hp⟩ := list_of len0 hone
    subst hl
    by_cases hlt : b < W.heap.size
    · exact ⟨l, .inr ⟨b, o, cap0, rfl, hlc, hcm, hlt, hp⟩⟩
    · exfalso
      simp only [Value.okWide, Try.underlying34, Cell.okWide, Cell.ok] at hv
      obtain ⟨row, cells, hs, -⟩ := hv.2.2.2.2
      simp only [World.shape?, Array.getElem?_eq_none (by omega : W.heap.size ≤ b)] at hs
      cases hs

/-! ### a disk that is not armed -/
structure Calm (q : Nat) (k : Int) (D : St) : Prop where
  len : D.laid.length = 64
  on : D.gone = false
  left : D.left = -1
  queue : D.queue.length ≤ q
  work : D.work ≤ k
theorem Calm.tick {q : Nat} {k : Int} {D : St} (h : Calm q k D) : tick D = ({ D with left := -1, gone := false, work := D.work + 1 }, true) := by
  have hl := h.left
  unfold Go.Proofs.Ytlngflonolhdhaa.tick; simp [hl]
theorem Calm.mono {q q' : Nat} {k k' : Int} {D : St} (h : Calm q k D) (hq : q ≤ q') (hk : k ≤ k') : Calm q' k' D := ⟨h.len, h.on, h.left, Nat.le_trans h.queue hq, Int.le_trans h.work hk⟩
theorem Calm.fresh : Calm 0 0 (fresh 64) := ⟨by simp [Go.Proofs.Ytlngflonolhdhaa.fresh], rfl, rfl, by simp [Go.Proofs.Ytlngflonolhdhaa.fresh], by simp [Go.Proofs.Ytlngflonolhdhaa.fresh]⟩
theorem Calm.write {q : Nat} {k : Int} {D : St} (h : Calm q k D) (n : Int) (b : List Int) (h0 : 0 ≤ n) (h1 : n < 64) :
    write D n b = ({ D with queue := D.queue ++ [(n, b)], left := -1, gone := false, work := D.work + 1 }, 0) ∧ Calm (q + 1) (k + 1) { D with queue := D.queue ++ [(n, b)], left := -1, gone := false, work := D.work + 1 } := by
  have hr : inR D n = true := by simp [inR, h.len]; omega
  refine ⟨by simp [Go.Proofs.Ytlngflonolhdhaa.write, h.on, hr, h.tick, addQ], h.len, rfl, rfl, ?_, ?_⟩
  · have := h.queue; simp; omega
  · have := h.work; show D.work + 1 ≤ k + 1; omega
theorem Calm.flush {q : Nat} {k : Int} {D : St} (h : Calm q k D) :
    flush D = ({ D with laid := overlay D.laid D.queue, queue := [], left := -1, gone := false, work := D.work + 1 }, 0) ∧ Calm q (k + 1) { D with laid := overlay D.laid D.queue, queue := [], left := -1, gone := false, work := D.work + 1 } := by
  refine ⟨by simp [Go.Proofs.Ytlngflonolhdhaa.flush, h.on, h.tick, lay], by simp [overlay, h.len], rfl, rfl, by simp, ?_⟩
  have := h.work; show D.work + 1 ≤ k + 1; omega

theorem young_cons (m : Int) (b : List Int) (q : List (Int × List Int)) (n : Int) : young ((m, b) :: q) n = (young q n).or (if n = m then some b else none) := by
  unfold young
  rw [List.reverse_cons, List.find?_append]
  by_cases e : n = m
  · subst e; cases h : q.reverse.find? (fun x => x.1 == n) <;> simp [h]
  · have : (m == n) = false := by simp; exact fun e' => e e'.symm
    cases h : q.reverse.find? (fun x => x.1 == n) <;> simp [h, this, e]
theorem overlay_cons (laid : List (List Int)) (n : Int) (b : List Int) (q : List (Int × List Int)) (h0 : 0 ≤ n) (h1 : n < laid.length) : overlay laid ((n, b) :: q) = overlay (laid.set n.toNat b) q := by
  unfold overlay
  apply List.ext_getElem?
  intro i
  simp only [List.getElem?_mapIdx, List.getElem?_set]
  by_cases e : n.toNat = i
  · subst e
    have hl : n.toNat < laid.length := by omega
    rw [if_pos rfl, if_pos hl, List.getElem?_eq_getElem hl]
    simp only [Option.map_some, young_cons]
    have : ((n.toNat : Nat) : Int) = n := by omega
    rw [this, if_pos rfl]
    cases young q n <;> simp
  · rw [if_neg e]
    cases hli : laid[i]? with
    | none => rfl
    | some x =>
      simp only [Option.map_some, young_cons]
      have : ¬ ((i : Nat) : Int) = n := by omega
      rw [if_neg this]
      simp
theorem mixQ_get {a b : List Int} (ha : a.length = 64) (hb : b.length = 64) (p : Int) (q : Nat) (hq : q < 4) (hp : (bits .and .i64 p (2 ^ q) != 0) = true) : (mixQ a b p q).length = 64 ∧ ∀ i, (mixQ a b p q)[i]? = if 16 * q ≤ i ∧ i < 16 * q + 16 then b[i]? else a[i]? := by
  unfold mixQ
  rw [if_pos hp]
  refine ⟨by simp [ha, hb]; omega, fun i => ?_⟩
  simp only [List.getElem?_append, List.getElem?_take, List.getElem?_drop, List.length_append, List.length_take, List.length_drop, ha, hb]
  have e1 : min (16 * q) 64 = 16 * q := by omega
  have e2 : min 16 (64 - 16 * q) = 16 := by omega
  rw [e1, e2]
  by_cases h1 : i < 16 * q
  · rw [if_pos (by omega), if_pos h1, if_pos h1, if_neg (by omega)]
  · by_cases h2 : i < 16 * q + 16
    · rw [if_pos h2, if_neg h1, if_pos (by omega), if_pos ⟨by omega, h2⟩]; congr 1; omega
    · rw [if_neg h2, if_neg (by omega)]; congr 1; omega
theorem mix_15 {a b : List Int} (ha : a.length = 64) (hb : b.length = 64) : mix a b 15 = b := by
  have e0 := mixQ_get ha hb 15 0 (by decide) (by decide)
  have e1 := mixQ_get e0.1 hb 15 1 (by decide) (by decide)
  have e2 := mixQ_get e1.1 hb 15 2 (by decide) (by decide)
  have e3 := mixQ_get e2.1 hb 15 3 (by decide) (by decide)
  unfold mix
  apply List.ext_getElem?
  intro i
  rw [e3.2, e2.2, e1.2, e0.2]
  by_cases h64 : i < 64
  · by_cases h3 : 48 ≤ i
    · rw [if_pos (by omega)]
    · by_cases h2 : 32 ≤ i
      · rw [if_neg (by omega), if_pos (by omega)]
      · by_cases h1 : 16 ≤ i
        · rw [if_neg (by omega), if_neg (by omega), if_pos (by omega)]
        · rw [if_neg (by omega), if_neg (by omega), if_neg (by omega), if_pos (by omega)]
  · rw [if_neg (by omega), if_neg (by omega), if_neg (by omega), if_neg (by omega), List.getElem?_eq_none (by omega), List.getElem?_eq_none (by omega)]
theorem mixQ_0 (a b : List Int) (q : Nat) (h : (bits .and .i64 0 (2 ^ q) != 0) = false) : mixQ a b 0 q = a := by
  unfold mixQ; rw [if_neg (by rw [h]; decide)]
theorem mix_0 {a b : List Int} : mix a b 0 = a := by
  unfold mix
  rw [mixQ_0 _ _ 3 (by decide), mixQ_0 _ _ 2 (by decide), mixQ_0 _ _ 1 (by decide), mixQ_0 _ _ 0 (by decide)]
theorem crashed_15 : ∀ (q : List (Int × List Int)) (k : Nat) (laid : List (List Int)), q.length ≤ k → (∀ b ∈ laid, b.length = 64) → (∀ x ∈ q, x.2.length = 64 ∧ 0 ≤ x.1 ∧ x.1 < laid.length) → crashed laid q (List.replicate k 15) = overlay laid q
  | [], k, laid, _, _, _ => by
    have : overlay laid [] = laid := by unfold overlay; apply List.ext_getElem?; intro i; simp [young_nil]
    rw [this]; cases k <;> simp [crashed]
  | (n, b) :: q, 0, laid, h, _, _ => by simp at h
  | (n, b) :: q, k + 1, laid, h, hl, hq => by
    obtain ⟨hb, h0, h1⟩ := hq (n, b) (by simp)
    dsimp only at hb h0 h1
    have hln : (laid.getD n.toNat []).length = 64 := by
      have hlt : n.toNat < laid.length := by omega
      rw [List.getD_eq_getElem?_getD, List.getElem?_eq_getElem hlt]
      exact hl _ (List.getElem_mem hlt)
    rw [List.replicate_succ, crashed, mix_15 hln hb, overlay_cons laid n b q h0 h1]
    refine crashed_15 q k _ (by simpa using h) (fun x hx => ?_) (fun x hx => ?_)
    · rcases List.mem_or_eq_of_mem_set hx with hx | rfl
      · exact hl x hx
      · exact hb
    · rw [List.length_set]; exact hq x (by simp [hx])
theorem crashed_0 : ∀ (q : List (Int × List Int)) (k : Nat) (laid : List (List Int)), (∀ x ∈ q, 0 ≤ x.1 ∧ x.1 < laid.length) → crashed laid q (List.replicate k 0) = laid
  | [], k, laid, _ => by cases k <;> simp [crashed]
  | (n, b) :: q, 0, laid, _ => by simp [crashed]
  | (n, b) :: q, k + 1, laid, hq => by
    obtain ⟨h0, h1⟩ := hq (n, b) (by simp)
    dsimp only at h0 h1
    have hlt : n.toNat < laid.length := by omega
    have hs : laid.set n.toNat (laid.getD n.toNat []) = laid := by
      rw [List.getD_eq_getElem?_getD, List.getElem?_eq_getElem hlt]
      simp
    rw [List.replicate_succ, crashed, mix_0, hs]
    exact crashed_0 q k _ (fun x hx => hq x (by simp [hx]))
/-- Block n: of the disk, and of its copy behind a crash. -/
theorem crash_reads {q : Nat} {k : Int} {D : St} (hc : Calm q k D) (hw : Wf D) (all : Bool) (n : Int) (h0 : 0 ≤ n) (h1 : n < 64) :
    (read (crash D (List.replicate q (if all then 15 else 0))) n).1 = if all then (read D n).1 else (sure D n).1 := by
  have hr : inR D n = true := by simp [inR, hc.len]; omega
  have hlt : n.toNat < D.laid.length := by have := hc.len; omega
  have hq : ∀ x ∈ D.queue, x.2.length = 64 ∧ 0 ≤ x.1 ∧ x.1 < (D.laid.length : Int) := fun x hx => ⟨(hw.queue x hx).1.1, (hw.queue x hx).2.1, (hw.queue x hx).2.2⟩
  cases all
  · have e := crashed_0 D.queue q D.laid (fun x hx => (hq x hx).2)
    have hr2 : inR (crash D (List.replicate q (if false = true then 15 else 0))) n = true := by
      simp only [Bool.false_eq_true, if_false, crash, inR, e]; simpa [inR] using hr
    unfold read
    rw [hr2]
    simp only [Bool.false_eq_true, if_false, crash, e, young_nil, if_true, Option.getD_none, sure, hr]
  · have e := crashed_15 D.queue q D.laid hc.queue (fun b hb => (hw.laid b hb).1) hq
    have hr2 : inR (crash D (List.replicate q (if true = true then 15 else 0))) n = true := by
      simp only [if_true, crash, inR, e]
      have : (overlay D.laid D.queue).length = D.laid.length := by simp [overlay]
      rw [this]; simpa [inR] using hr
    unfold read
    rw [hr2]
    simp only [if_true, crash, e, young_nil, Option.getD_none, hr, hc.on, Bool.false_eq_true, if_false]
    unfold overlay
    rw [List.getD_eq_getElem?_getD, List.getElem?_mapIdx, List.getElem?_eq_getElem hlt]
    have : ((n.toNat : Nat) : Int) = n := by omega
    simp only [Option.map_some, Option.getD_some, this, List.getD_eq_getElem?_getD, List.getElem?_eq_getElem hlt]
end Go.Proofs.Ytlngflonolhdhaa

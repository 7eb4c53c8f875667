/- fresh: the plain law of sorted lists. -/
import Derived.Test.YtpnhjckjmpkbfaaFrg
set_option linter.unusedVariables false
set_option linter.unusedSimpArgs false
namespace Go.Proofs.Ytpnhjckjmpkbfaa
open Go.RowKit Go.Proofs.YtpnhjckjmpkbfaaW.PrintLast

theorem ord_self (h : Int × Int) : ord h h = 0 := ord_zero.2 rfl
theorem ord_swap {h k : Int × Int} (h1 : ¬ ord h k < 0) (h2 : h ≠ k) : ord k h < 0 := by
  rw [ord_neg] at *
  have : ¬ (h.1 = k.1 ∧ h.2 = k.2) := fun ⟨a, b⟩ => h2 (Prod.ext a b)
  omega
theorem got_of {l : List F} (hs : Sorted l) {h : Int × Int} {f : F} (hf : f ∈ l) (hh : f.h = h) : got l h = some f := by
  obtain ⟨i, hi⟩ := List.mem_iff_getElem?.1 hf
  have hil : i < l.length := (List.getElem?_eq_some_iff.1 hi).1
  have hp : pos l h = i := by
    refine pos_eq hs (by omega) (fun j g hj hg => ?_) (fun j g hj hg => ?_)
    · rw [← hh]; exact hs.lt hj hg hi
    · rcases Nat.lt_or_eq_of_le hj with hlt | rfl
      · have := hs.lt hlt hi hg
        rw [hh] at this
        rw [ord_neg] at *; omega
      · rw [hi] at hg; injection hg with hg; subst hg; rw [hh, ord_self]; omega
  unfold got
  rw [hp, hi]
  exact if_pos hh
theorem got_iff {l : List F} (hs : Sorted l) {h : Int × Int} {f : F} : got l h = some f ↔ f ∈ l ∧ f.h = h :=
  ⟨fun hg => ⟨List.mem_of_getElem? (got_some hg).1, (got_some hg).2⟩, fun ⟨h1, h2⟩ => got_of hs h1 h2⟩
theorem got_none {l : List F} (hs : Sorted l) {h : Int × Int} : got l h = none ↔ ∀ f ∈ l, f.h ≠ h := by
  constructor
  · intro hg f hf hh
    rw [got_of hs hf hh] at hg; cases hg
  · intro hf
    cases hg : got l h with
    | none => rfl
    | some f => exact absurd ((got_iff hs).1 hg).2 (hf f ((got_iff hs).1 hg).1)
theorem mem_insAt {d : List F} {i : Nat} {f g : F} : g ∈ insAt d i f ↔ g = f ∨ g ∈ d := by
  unfold insAt
  have : g ∈ d ↔ g ∈ d.take i ∨ g ∈ d.drop i := by rw [← List.mem_append, List.take_append_drop]
  rw [this, List.mem_append, List.mem_cons]
  constructor
  · rintro (h | h | h)
    · exact .inr (.inl h)
    · exact .inl h
    · exact .inr (.inr h)
  · rintro (h | h | h)
    · exact .inr (.inl h)
    · exact .inl h
    · exact .inr (.inr h)
theorem mem_insP {d : List F} {f g : F} : g ∈ insP d f ↔ g = f ∨ g ∈ d := mem_insAt
theorem len_insP (d : List F) (f : F) : (insP d f).length = d.length + 1 := by
  have := pos_le d f.h
  unfold insP insAt; simp; omega
theorem sorted_insP {d : List F} {f : F} (hs : Sorted d) (hn : ∀ g ∈ d, g.h ≠ f.h) : Sorted (insP d f) := by
  unfold insP insAt Sorted
  rw [List.pairwise_append]
  refine ⟨hs.sublist (List.take_sublist _ _), ?_, ?_⟩
  · rw [List.pairwise_cons]
    refine ⟨fun g hg => ?_, hs.sublist (List.drop_sublist _ _)⟩
    obtain ⟨i, hi⟩ := List.mem_iff_getElem?.1 hg
    rw [List.getElem?_drop] at hi
    exact ord_swap (pos_ge hs (Nat.le_add_right _ _) hi) (hn g (List.mem_of_getElem? hi))
  · intro a ha b hb
    obtain ⟨i, hi⟩ := List.mem_iff_getElem?.1 ha
    rw [List.getElem?_take] at hi
    split at hi
    · rename_i hip
      have h1 := pos_lt hip hi
      rcases List.mem_cons.1 hb with rfl | hb
      · exact h1
      · obtain ⟨j, hj⟩ := List.mem_iff_getElem?.1 hb
        rw [List.getElem?_drop] at hj
        exact hs.lt (by omega) hi hj
    · cases hi
theorem mem_dropP {l : List F} (hs : Sorted l) {h : Int × Int} {g : F} : g ∈ dropP l h ↔ g ∈ l ∧ g.h ≠ h := by
  unfold dropP
  cases hg : got l h with
  | none =>
    rw [if_neg (by simp)]
    exact ⟨fun hm => ⟨hm, (got_none hs).1 hg g hm⟩, fun hm => hm.1⟩
  | some f =>
    obtain ⟨h1, h2⟩ := got_some hg
    rw [if_pos (by simp), List.mem_append]
    constructor
    · rintro (hm | hm)
      · obtain ⟨i, hi⟩ := List.mem_iff_getElem?.1 hm
        rw [List.getElem?_take] at hi
        split at hi
        · refine ⟨List.mem_of_getElem? hi, fun e => ?_⟩
          have := hs.lt (by assumption) hi h1
          rw [e, h2, ord_self] at this; omega
        · cases hi
      · obtain ⟨i, hi⟩ := List.mem_iff_getElem?.1 hm
        rw [List.getElem?_drop] at hi
        refine ⟨List.mem_of_getElem? hi, fun e => ?_⟩
        have := hs.lt (show pos l h < pos l h + 1 + i by omega) h1 hi
        rw [e, h2, ord_self] at this; omega
    · rintro ⟨hm, hne⟩
      obtain ⟨i, hi⟩ := List.mem_iff_getElem?.1 hm
      rcases Nat.lt_trichotomy i (pos l h) with hlt | rfl | hgt
      · left
        exact List.mem_iff_getElem?.2 ⟨i, by rw [List.getElem?_take, if_pos hlt]; exact hi⟩
      · rw [h1] at hi; injection hi with hi; subst hi; exact absurd h2 hne
      · right
        refine List.mem_iff_getElem?.2 ⟨i - (pos l h + 1), ?_⟩
        rw [List.getElem?_drop, show pos l h + 1 + (i - (pos l h + 1)) = i by omega]
        exact hi
theorem len_dropP {l : List F} {h : Int × Int} {f : F} (hg : got l h = some f) : (dropP l h).length + 1 = l.length := by
  have hlt := (List.getElem?_eq_some_iff.1 (got_some hg).1).1
  unfold dropP
  rw [hg, if_pos (by simp)]
  simp; omega
theorem dropP_none {l : List F} {h : Int × Int} (hg : got l h = none) : dropP l h = l := by
  unfold dropP; rw [hg]; rfl
theorem Ok.insP {d : List F} {f : F} (h : Ok d) (hn : ∀ g ∈ d, g.h ≠ f.h) (hf : Go.Proofs.Ytpnhjckjmpkbfaa.fine f = true) (h0 : 0 ≤ f.at_) (hl : d.length < 64) : Ok (insP d f) :=
  ⟨sorted_insP h.sorted hn, fun g hg => (mem_insP.1 hg).elim (fun e => e ▸ hf) (h.fine g), by rw [len_insP]; omega, fun g hg => (mem_insP.1 hg).elim (fun e => e ▸ h0) (h.at0 g)⟩
/-- Strictly rising numbers within bounds are few. -/
theorem few {l : List F} (hs : l.Pairwise (fun f g => f.h.1 < g.h.1)) : ∀ (a b : Int), (∀ f ∈ l, a ≤ f.h.1 ∧ f.h.1 ≤ b) → (l.length : Int) ≤ max 0 (b - a + 1) := by
  induction l with
  | nil => intro a b _; simp; omega
  | cons f l ih =>
    intro a b hb
    rw [List.pairwise_cons] at hs
    have hf := hb f (List.mem_cons_self ..)
    have := ih hs.2 (f.h.1 + 1) b (fun g hg => ⟨by have := hs.1 g hg; omega, (hb g (List.mem_cons_of_mem _ hg)).2⟩)
    simp only [List.length_cons]
    omega
end Go.Proofs.Ytpnhjckjmpkbfaa

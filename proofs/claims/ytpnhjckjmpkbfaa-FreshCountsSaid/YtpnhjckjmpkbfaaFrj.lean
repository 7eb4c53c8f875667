/- fresh: the plain law of FreshRoom. -/
import Derived.Test.YtpnhjckjmpkbfaaFri
set_option linter.unusedVariables false
set_option linter.unusedSimpArgs false
namespace Go.Proofs.Ytpnhjckjmpkbfaa
open Go.RowKit Go.Proofs.YtpnhjckjmpkbfaaW.PrintLast

def ino (sw : Bool) (i : Nat) : Int := if sw then 1000 - i else i + 1
theorem ino_inj {sw : Bool} {i j : Nat} (h : ino sw i = ino sw j) : i = j := by
  unfold ino at h; cases sw <;> simp at h <;> omega
structure Room (sw : Bool) (i : Nat) (l : List F) : Prop where
  ok : Ok l
  len : l.length = min i 64
  mem : ∀ f ∈ l, ∃ j : Nat, j < i ∧ i ≤ j + 64 ∧ f.at_ = j ∧ f.h = (ino sw j, 3)
  has : ∀ j : Nat, j < i → i ≤ j + 64 → ∃ f ∈ l, f.at_ = j ∧ f.h = (ino sw j, 3)
def rf (sw : Bool) (i : Nat) : F := ⟨(ino sw i, 3), false, 0, 0, i, 0⟩
theorem Room.zero (sw : Bool) : Room sw 0 [] := ⟨ok_nil, by simp, fun f hf => absurd hf (by simp), fun j hj => absurd hj (by omega)⟩
theorem Room.new {sw : Bool} {i : Nat} {l : List F} (h : Room sw i l) : got l (ino sw i, 3) = none := by
  rw [got_none h.ok.sorted]
  intro f hf e
  obtain ⟨j, hj, _, _, e2⟩ := h.mem f hf
  rw [e] at e2
  have := ino_inj (Prod.mk.inj e2).1
  omega
theorem Room.newF {sw : Bool} {i : Nat} {l : List F} (h : Room sw i l) : Go.Proofs.Ytpnhjckjmpkbfaa.newF l (rf sw i) = ⟨(ino sw i, 3), false, 0, 0, i, 2⟩ := by
  have := h.new
  unfold Go.Proofs.Ytpnhjckjmpkbfaa.newF rf
  rw [this]; rfl
theorem Room.less {sw : Bool} {i : Nat} {l : List F} (h : Room sw i l) (hi : i < 64) : (dropP l (ino sw i, 3)).length < 64 ∧ Room sw (i + 1) (insP (dropP l (ino sw i, 3)) (Go.Proofs.Ytpnhjckjmpkbfaa.newF l (rf sw i))) := by
  rw [dropP_none h.new, h.newF]
  have hl := h.len
  refine ⟨by omega, ⟨h.ok.insP (fun g hg => (got_none h.ok.sorted).1 h.new g hg) (by simp [fine]; omega) (by simp) (by omega), by rw [len_insP]; omega, ?_, ?_⟩⟩
  · intro f hf
    rcases mem_insP.1 hf with rfl | hf
    · exact ⟨i, by omega, by omega, rfl, rfl⟩
    · obtain ⟨j, h1, h2, h3, h4⟩ := h.mem f hf
      exact ⟨j, by omega, by omega, h3, h4⟩
  · intro j h1 h2
    rcases Nat.lt_or_eq_of_le (Nat.le_of_lt_succ h1) with hlt | rfl
    · obtain ⟨f, hf, h3, h4⟩ := h.has j hlt (by omega)
      exact ⟨f, mem_insP.2 (.inr hf), h3, h4⟩
    · exact ⟨_, mem_insP.2 (.inl rfl), rfl, rfl⟩
theorem Room.full {sw : Bool} {i : Nat} {l : List F} (h : Room sw i l) (hi : 64 ≤ i) (hi2 : i ≤ 1000) : l.length = 64 ∧ ∃ o ∈ l, (∀ g ∈ l, g.at_ ≤ o.at_ → g.h = o.h) ∧ Room sw (i + 1) (insP (dropP l o.h) (Go.Proofs.Ytpnhjckjmpkbfaa.newF l (rf sw i))) := by
  have hl := h.len
  obtain ⟨o, ho, h1, h2⟩ := h.has (i - 64) (by omega) (by omega)
  have hos := (got_iff h.ok.sorted (h := o.h) (f := o)).2 ⟨ho, rfl⟩
  have hld := len_dropP hos
  refine ⟨by omega, o, ho, fun g hg hle => ?_, ?_⟩
  · obtain ⟨j, a1, a2, a3, a4⟩ := h.mem g hg
    obtain rfl : j = i - 64 := by omega
    rw [a4, h2]
  · rw [h.newF]
    have hok := h.ok.dropP o.h
    refine ⟨hok.insP (fun g hg => (got_none h.ok.sorted).1 h.new g ((mem_dropP h.ok.sorted).1 hg).1) (by simp [fine]; omega) (by simp) (by omega), by rw [len_insP]; omega, ?_, ?_⟩
    · intro f hf
      rcases mem_insP.1 hf with rfl | hf
      · exact ⟨i, by omega, by omega, rfl, rfl⟩
      · obtain ⟨hm, hne⟩ := (mem_dropP h.ok.sorted).1 hf
        obtain ⟨j, b1, b2, b3, b4⟩ := h.mem f hm
        refine ⟨j, by omega, ?_, b3, b4⟩
        rcases Nat.lt_or_ge (j + 64) (i + 1) with hlt | hge
        · obtain rfl : j = i - 64 := by omega
          exact absurd (b4.trans h2.symm) hne
        · exact hge
    · intro j b1 b2
      rcases Nat.lt_or_eq_of_le (Nat.le_of_lt_succ b1) with hlt | rfl
      · obtain ⟨f, hf, h3, h4⟩ := h.has j hlt (by omega)
        refine ⟨f, mem_insP.2 (.inr ((mem_dropP h.ok.sorted).2 ⟨hf, ?_⟩)), h3, h4⟩
        rw [h4, h2]
        intro e
        have := ino_inj (Prod.mk.inj e).1
        omega
      · exact ⟨_, mem_insP.2 (.inl rfl), rfl, rfl⟩
theorem Room.got {sw : Bool} {i : Nat} {l : List F} (h : Room sw i l) {j : Nat} (hj : j < i) : (Go.Proofs.Ytpnhjckjmpkbfaa.got l (ino sw j, 3)).isSome = decide ((j : Int) ≥ (i : Int) - 64) := by
  by_cases hw : i ≤ j + 64
  · obtain ⟨f, hf, h3, h4⟩ := h.has j hj hw
    rw [(got_iff h.ok.sorted).2 ⟨hf, h4⟩, Option.isSome_some]
    symm; rw [decide_eq_true_iff]; omega
  · have : Go.Proofs.Ytpnhjckjmpkbfaa.got l (ino sw j, 3) = none := by
      rw [got_none h.ok.sorted]
      intro f hf e
      obtain ⟨k, b1, b2, b3, b4⟩ := h.mem f hf
      rw [e] at b4
      have := ino_inj (Prod.mk.inj b4).1
      omega
    rw [this, Option.isSome_none]
    symm; rw [decide_eq_false_iff_not]; omega
end Go.Proofs.Ytpnhjckjmpkbfaa

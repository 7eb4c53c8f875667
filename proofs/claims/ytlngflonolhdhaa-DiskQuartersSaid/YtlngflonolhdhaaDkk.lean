/- DiskArmed, walked. -/
import Derived.Test.YtlngflonolhdhaaDkj
set_option linter.unusedVariables false
set_option linter.unusedSimpArgs false
namespace Go.Proofs.Ytlngflonolhdhaa
open Go.RowKit Go.Proofs.YtlngflonolhdhaaW.PrintLast

/-- What stands behind k tries of a disk that was armed with n. -/
def Inv (n k : Int) (D : St) : Prop :=
  D.laid.length = 70 ∧ (D.queue.length : Int) ≤ k ∧ (if n = 0 then D.gone = false ∧ D.left = -1 ∧ D.work = k else if k < n then D.gone = false ∧ D.left = n - k ∧ D.work = k else D.gone = true ∧ D.work = n - 1)
def want (n k : Int) : Int := if 0 < n ∧ n - 1 ≤ k then 9 else 0

theorem inv_arm (n : Int) (h0 : 0 ≤ n) : ∃ D, arm (fresh 70) n = (D, 0) ∧ Inv n 0 D := by
  by_cases hn : n = 0
  · subst hn
    exact ⟨_, rfl, by simp [Inv, fresh]⟩
  · refine ⟨{ fresh 70 with left := n }, ?_, ?_⟩
    · have h1 : ¬ n < 0 := by omega
      have h2 : (fresh 70).gone = false := rfl
      simp [arm, h1, hn, h2]
    · refine ⟨by simp [fresh], by simp [fresh], ?_⟩
      rw [if_neg hn, if_pos (by omega)]
      exact ⟨rfl, by simp, rfl⟩
theorem tick_inv {n k : Int} {D : St} (hn0 : 0 ≤ n) (hk : 0 ≤ k) (h : Inv n k D) (hg : D.gone = false) :
    ((tick D).2 = true ∧ ¬ (0 < n ∧ n - 1 ≤ k) ∧ (tick D).1.gone = false ∧ (tick D).1.work = k + 1 ∧ (tick D).1.left = if n = 0 then -1 else n - (k + 1)) ∨
    ((tick D).2 = false ∧ (0 < n ∧ n - 1 ≤ k) ∧ (tick D).1.gone = true ∧ (tick D).1.work = n - 1 ∧ n ≤ k + 1) := by
  obtain ⟨h1, h2, h3⟩ := h
  by_cases hn : n = 0
  · rw [if_pos hn] at h3
    obtain ⟨_, hl, hw⟩ := h3
    left
    have e : tick D = ({ D with left := -1, gone := false, work := D.work + 1 }, true) := by unfold tick; simp [hl]
    rw [e]
    exact ⟨rfl, by omega, rfl, by simp [hw], by simp [hn]⟩
  · rw [if_neg hn] at h3
    by_cases hkn : k < n
    · rw [if_pos hkn] at h3
      obtain ⟨_, hl, hw⟩ := h3
      have hl0 : 0 ≤ D.left := by omega
      by_cases h9 : n - k - 1 = 0
      · right
        have e : tick D = ({ D with left := D.left - 1, gone := true }, false) := by
          have h10 : D.left - 1 = 0 := by omega
          unfold tick; simp only [if_pos hl0, if_pos h10]
        rw [e]
        refine ⟨rfl, by omega, rfl, ?_, by omega⟩
        show D.work = n - 1
        omega
      · left
        have e : tick D = ({ D with left := D.left - 1, gone := false, work := D.work + 1 }, true) := by
          unfold tick
          have : ¬ D.left - 1 = 0 := by omega
          simp [hl0, this]
        rw [e]
        refine ⟨rfl, by omega, rfl, ?_, ?_⟩
        · show D.work + 1 = k + 1; omega
        · rw [if_neg hn]; show D.left - 1 = n - (k + 1); omega
    · rw [if_neg hkn] at h3
      rw [h3.1] at hg; cases hg
theorem inv_next {n k : Int} {D' : St} (hn0 : 0 ≤ n) (hl : D'.laid.length = 70) (hq : (D'.queue.length : Int) ≤ k + 1)
    (h : (¬ (0 < n ∧ n - 1 ≤ k) ∧ D'.gone = false ∧ D'.work = k + 1 ∧ D'.left = if n = 0 then -1 else n - (k + 1)) ∨ ((0 < n ∧ n - 1 ≤ k) ∧ D'.gone = true ∧ D'.work = n - 1)) : Inv n (k + 1) D' := by
  refine ⟨hl, hq, ?_⟩
  rcases h with ⟨h1, h2, h3, h4⟩ | ⟨h1, h2, h3⟩
  · by_cases hn : n = 0
    · rw [if_pos hn]; rw [if_pos hn] at h4; exact ⟨h2, h4, h3⟩
    · rw [if_neg hn, if_pos (by omega)]; rw [if_neg hn] at h4; exact ⟨h2, h4, h3⟩
  · rw [if_neg (by omega), if_neg (by omega)]; exact ⟨h2, h3⟩
theorem inv_write {n k : Int} {D : St} (hn0 : 0 ≤ n) (hk : 0 ≤ k) (h : Inv n k D) (b : List Int) : ∃ D', write D (k % 70) b = (D', want n k) ∧ Inv n (k + 1) D' := by
  have h' := h
  obtain ⟨h1, h2, h3⟩ := h
  cases hg : D.gone
  · have hr : inR D (k % 70) = true := by simp [inR, h1]; omega
    rcases tick_inv hn0 hk h' hg with ⟨a1, a2, a3, a4, a5⟩ | ⟨a1, a2, a3, a4, a5⟩
    · refine ⟨addQ (tick D).1 (k % 70) b, by simp [write, hg, hr, a1, want, a2], inv_next hn0 ?_ ?_ (.inl ⟨a2, a3, a4, a5⟩)⟩
      · simp [addQ, tick_laid, h1]
      · simp [addQ, tick_queue]; omega
    · refine ⟨(tick D).1, by simp [write, hg, hr, a1, want, a2], inv_next hn0 ?_ ?_ (.inr ⟨a2, a3, a4⟩)⟩
      · simp [tick_laid, h1]
      · simp [tick_queue]; omega
  · have hn : ¬ n = 0 := by intro e; rw [if_pos e, hg] at h3; cases h3.1
    rw [if_neg hn] at h3
    have hkn : ¬ k < n := by intro e; rw [if_pos e, hg] at h3; cases h3.1
    rw [if_neg hkn] at h3
    have hw : 0 < n ∧ n - 1 ≤ k := by omega
    exact ⟨D, by simp [write, hg, want, hw], inv_next hn0 h1 (by omega) (.inr ⟨hw, hg, h3.2⟩)⟩
theorem inv_flush {n k : Int} {D : St} (hn0 : 0 ≤ n) (hk : 0 ≤ k) (h : Inv n k D) : ∃ D', flush D = (D', want n k) ∧ Inv n (k + 1) D' := by
  have h' := h
  obtain ⟨h1, h2, h3⟩ := h
  cases hg : D.gone
  · rcases tick_inv hn0 hk h' hg with ⟨a1, a2, a3, a4, a5⟩ | ⟨a1, a2, a3, a4, a5⟩
    · refine ⟨lay (tick D).1, by simp [flush, hg, a1, want, a2], inv_next hn0 ?_ ?_ (.inl ⟨a2, a3, a4, a5⟩)⟩
      · simp [lay, overlay, tick_laid, h1]
      · simp [lay]; omega
    · refine ⟨(tick D).1, by simp [flush, hg, a1, want, a2], inv_next hn0 ?_ ?_ (.inr ⟨a2, a3, a4⟩)⟩
      · simp [tick_laid, h1]
      · simp [tick_queue]; omega
  · have hn : ¬ n = 0 := by intro e; rw [if_pos e, hg] at h3; cases h3.1
    rw [if_neg hn] at h3
    have hkn : ¬ k < n := by intro e; rw [if_pos e, hg] at h3; cases h3.1
    rw [if_neg hkn] at h3
    have hw : 0 < n ∧ n - 1 ≤ k := by omega
    exact ⟨D, by simp [flush, hg, want, hw], inv_next hn0 h1 (by omega) (.inr ⟨hw, hg, h3.2⟩)⟩
theorem inv_work {n k : Int} {D : St} (hn : n ≤ 255) (h0 : 0 ≤ n) (hk : k ≤ 510) (h : Inv n k D) : D.work ≤ 1000000000 := by
  obtain ⟨_, _, h3⟩ := h
  by_cases e : n = 0
  · rw [if_pos e] at h3; omega
  · rw [if_neg e] at h3
    by_cases e2 : k < n
    · rw [if_pos e2] at h3; omega
    · rw [if_neg e2] at h3; omega
end Go.Proofs.Ytlngflonolhdhaa

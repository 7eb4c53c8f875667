/- fresh: the plain law of FreshCounts. -/
import Derived.Test.YtpnhjckjmpkbfaaFrk
set_option linter.unusedVariables false
set_option linter.unusedSimpArgs false
namespace Go.Proofs.Ytpnhjckjmpkbfaa
open Go.RowKit Go.Proofs.YtpnhjckjmpkbfaaW.PrintLast

def upd (f : Nat → Int) (k : Nat) (v : Int) : Nat → Int := fun j => if j = k then v else f j
theorem upd_same (f : Nat → Int) (k : Nat) (v : Int) : upd f k v k = v := if_pos rfl
theorem upd_other (f : Nat → Int) {k j : Nat} (v : Int) (h : j ≠ k) : upd f k v j = f j := if_neg h
structure Cnt (sp ch : Nat → Int) (l : List F) : Prop where
  ok : Ok l
  mem : ∀ f ∈ l, ∃ k : Nat, k < 8 ∧ f.h = ((k : Int) + 1, 1)
  told : ∀ k : Nat, k < 8 → (ch k = 0 ∧ got l ((k : Int) + 1, 1) = none) ∨ (1 ≤ ch k ∧ ∃ f, got l ((k : Int) + 1, 1) = some f ∧ f.change = ch k ∧ f.span = sp k)
theorem Cnt.zero : Cnt (fun _ => 0) (fun _ => 0) [] := ⟨ok_nil, fun f hf => absurd hf (by simp), fun k hk => .inl ⟨rfl, rfl⟩⟩
theorem Cnt.few {sp ch : Nat → Int} {l : List F} (h : Cnt sp ch l) : l.length ≤ 8 := by
  have hp : l.Pairwise (fun f g => f.h.1 < g.h.1) := by
    refine List.Pairwise.imp_of_mem (fun {f g} hf hg hlt => ?_) h.ok.sorted
    obtain ⟨k, hk, e1⟩ := h.mem f hf
    obtain ⟨j, hj, e2⟩ := h.mem g hg
    rw [e1, e2] at hlt
    rw [e1, e2]
    rw [ord_neg] at hlt
    simp at hlt ⊢; omega
  have := Go.Proofs.Ytpnhjckjmpkbfaa.few hp 1 8 (fun f hf => by obtain ⟨k, hk, e⟩ := h.mem f hf; rw [e]; dsimp only; omega)
  omega
def nextSpan (sp ch : Nat → Int) (k : Nat) (c : Int) : Int := if c = ch k then (if 2 * sp k ≤ 16 then 2 * sp k else 16) else 2
theorem Cnt.span {sp ch : Nat → Int} {l : List F} (h : Cnt sp ch l) {k : Nat} (hk : k < 8) {c : Int} (hc : 1 ≤ c) : spanP (got l ((k : Int) + 1, 1)) c = nextSpan sp ch k c := by
  unfold spanP nextSpan
  rcases h.told k hk with ⟨h1, h2⟩ | ⟨h1, f, h2, h3, h4⟩
  · rw [h2, if_neg (by omega)]
  · rw [h2]
    dsimp only
    rw [h3, h4]
    by_cases e : c = ch k
    · rw [if_pos e.symm, if_pos e]
    · rw [if_neg (fun e' => e e'.symm), if_neg e]
theorem Cnt.bounds {sp ch : Nat → Int} {l : List F} (h : Cnt sp ch l) {k : Nat} (hk : k < 8) {c : Int} (hc : 1 ≤ c) : 2 ≤ nextSpan sp ch k c ∧ nextSpan sp ch k c ≤ 16 := by
  unfold nextSpan
  rcases h.told k hk with ⟨h1, h2⟩ | ⟨h1, f, h2, h3, h4⟩
  · rw [if_neg (by omega)]; omega
  · have hf := h.ok.fine f ((got_iff h.ok.sorted).1 h2).1
    simp [fine] at hf
    split
    · split <;> omega
    · omega
theorem Cnt.sp_bounds {sp ch : Nat → Int} {l : List F} (h : Cnt sp ch l) {k : Nat} (hk : k < 8) {c : Int} (hc : 1 ≤ c) (e : c = ch k) : 2 ≤ sp k ∧ sp k ≤ 16 := by
  rcases h.told k hk with ⟨h1, h2⟩ | ⟨h1, f, h2, h3, h4⟩
  · omega
  · have hf := h.ok.fine f ((got_iff h.ok.sorted).1 h2).1
    simp [fine] at hf
    omega
theorem fine_mk {f : F} (h1 : f.at_ ≤ 1099511627776) (h2 : 2 ≤ f.span) (h3 : f.span ≤ 16) : fine f = true := by
  unfold fine
  rw [decide_eq_true h1, decide_eq_true h2, decide_eq_true h3]; rfl
def cf (k : Nat) (c now : Int) : F := ⟨((k : Int) + 1, 1), false, 0, c, now, 0⟩
def cf2 (k : Nat) (c now s : Int) : F := ⟨((k : Int) + 1, 1), false, 0, c, now, s⟩
theorem Cnt.step {sp ch : Nat → Int} {l : List F} (h : Cnt sp ch l) {k : Nat} (hk : k < 8) {c now : Int} (hc : 1 ≤ c) (h0 : 0 ≤ now) (h1 : now ≤ 1000000) :
    (dropP l ((k : Int) + 1, 1)).length < 64 ∧ Cnt (upd sp k (nextSpan sp ch k c)) (upd ch k c) (insP (dropP l ((k : Int) + 1, 1)) (newF l (cf k c now))) ∧ got (insP (dropP l ((k : Int) + 1, 1)) (newF l (cf k c now))) ((k : Int) + 1, 1) = some (cf2 k c now (nextSpan sp ch k c)) := by
  have hs := h.ok.sorted
  have hf := h.few
  have hd := h.ok.dropP ((k : Int) + 1, 1)
  have hdl : (dropP l ((k : Int) + 1, 1)).length ≤ 8 := by
    cases hg : got l ((k : Int) + 1, 1) with
    | none => rw [dropP_none hg]; exact hf
    | some f => have := len_dropP hg; omega
  have hb := h.bounds hk hc
  have hnew : newF l (cf k c now) = cf2 k c now (nextSpan sp ch k c) := by
    unfold newF cf cf2
    dsimp only
    rw [h.span hk hc]
  rw [hnew]
  have hne : ∀ g ∈ dropP l ((k : Int) + 1, 1), g.h ≠ ((k : Int) + 1, 1) := fun g hg => ((mem_dropP hs).1 hg).2
  have hok : Ok (insP (dropP l ((k : Int) + 1, 1)) (cf2 k c now (nextSpan sp ch k c))) := hd.insP hne (fine_mk (show now ≤ 1099511627776 by omega) hb.1 hb.2) h0 (by omega)
  have hgot : got (insP (dropP l ((k : Int) + 1, 1)) (cf2 k c now (nextSpan sp ch k c))) ((k : Int) + 1, 1) = some (cf2 k c now (nextSpan sp ch k c)) := (got_iff hok.sorted).2 ⟨mem_insP.2 (.inl rfl), rfl⟩
  refine ⟨by omega, ⟨hok, ?_, ?_⟩, hgot⟩
  · intro f hfm
    rcases mem_insP.1 hfm with rfl | hfm
    · exact ⟨k, hk, rfl⟩
    · exact h.mem f ((mem_dropP hs).1 hfm).1
  · intro j hj
    by_cases e : j = k
    · subst e
      right
      rw [upd_same, upd_same]
      exact ⟨hc, _, hgot, rfl, rfl⟩
    · rw [upd_other _ _ e, upd_other _ _ e]
      have hjk : ((j : Int) + 1, (1 : Int)) ≠ ((k : Int) + 1, 1) := fun e2 => e (by have := (Prod.mk.inj e2).1; omega)
      rcases h.told j hj with ⟨a1, a2⟩ | ⟨a1, f, a2, a3, a4⟩
      · left
        refine ⟨a1, (got_none hok.sorted).2 fun g hg e2 => ?_⟩
        rcases mem_insP.1 hg with rfl | hg
        · exact hjk e2.symm
        · exact (got_none hs).1 a2 g ((mem_dropP hs).1 hg).1 e2
      · right
        obtain ⟨b1, b2⟩ := (got_iff hs).1 a2
        exact ⟨a1, f, (got_iff hok.sorted).2 ⟨mem_insP.2 (.inr ((mem_dropP hs).2 ⟨b1, by rw [b2]; exact hjk⟩)), b2⟩, a3, a4⟩
theorem got_dropP {l : List F} (hs : Ok l) (h : Int × Int) : got (dropP l h) h = none := (got_none (hs.dropP h).sorted).2 fun g hg => ((mem_dropP hs.sorted).1 hg).2
/-- An array of eight numbers. -/
def Arr (w : World) (b : Nat) (f : Nat → Int) : Prop := b < w.heap.size ∧ ∀ k, k < 8 → w.cell? ⟨b, k, none⟩ = some (.int .u64 (f k)) ∧ w.frozen? ⟨b, k, none⟩ = false
theorem Arr.below {w w' : World} {b : Nat} {f : Nat → Int} (h : Arr w b f) (hb : Below w.heap.size w w') : Arr w' b f :=
  ⟨Nat.lt_of_lt_of_le h.1 hb.size, fun k hk => ⟨(hb.cell (p := ⟨b, k, none⟩) h.1).trans (h.2 k hk).1, (hb.frozen (p := ⟨b, k, none⟩) h.1).trans (h.2 k hk).2⟩⟩
theorem Arr.set {w : World} {b : Nat} {f : Nat → Int} (h : Arr w b f) {k : Nat} (hk : k < 8) (v : Int) : Arr (w.setCell ⟨b, k, none⟩ (.int .u64 v)) b (upd f k v) := by
  refine ⟨by simpa using h.1, fun j hj => ?_⟩
  have hfz : (w.setCell ⟨b, k, none⟩ (.int .u64 v)).frozen? ⟨b, j, none⟩ = w.frozen? ⟨b, j, none⟩ := by simp
  refine ⟨?_, hfz.trans (h.2 j hj).2⟩
  by_cases e : j = k
  · subst e
    rw [upd_same]
    exact World.cell?_setCell_same' _ _ _ (by rw [(h.2 j hj).1]; rfl)
  · rw [upd_other _ _ e]
    rw [show (w.setCell ⟨b, k, none⟩ (.int .u64 v)).cell? ⟨b, j, none⟩ = w.cell? ⟨b, j, none⟩ from World.cell?_setCell_other _ _ _ _ (fun e2 => e (congrArg Addr.off e2).symm)]
    exact (h.2 j hj).1
theorem Arr.other {w : World} {b c : Nat} {f : Nat → Int} (h : Arr w b f) (hc : b ≠ c) (k : Nat) (v : Value) : Arr (w.setCell ⟨c, k, none⟩ v) b f := by
  refine ⟨by simpa using h.1, fun j hj => ?_⟩
  have e := heap_setCell_other w ⟨c, k, none⟩ b v hc
  exact ⟨(World.cell?_of_block (a := ⟨b, j, none⟩) e).trans (h.2 j hj).1, (World.frozen?_of_block (a := ⟨b, j, none⟩) e).trans (h.2 j hj).2⟩
theorem Own.low {w : World} {B : Nat} {v : Value} {l : List F} (h : Own w B v l) {c : Nat} (hc : c < B) (k : Nat) (u : Value) : Own (w.setCell ⟨c, k, none⟩ u) B v l := by
  refine ⟨h.1, ?_⟩
  rcases h.2 with hn | ⟨g, cap, cur, rfl, h1, h2, h3⟩
  · exact .inl hn
  · exact .inr ⟨g, cap, cur, rfl, h1, (heap_setCell_other w ⟨c, k, none⟩ g u (by show g ≠ c; omega)).trans h2, h3⟩
end Go.Proofs.Ytpnhjckjmpkbfaa

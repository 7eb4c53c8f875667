/- NamePaths, walked. -/
import Derived.Test.YtmnfihdbibjijaaDoorNai
import Derived.Laws.MakeOwn
import Derived.Laws.OwnMore
set_option linter.unusedVariables false
set_option linter.unusedSimpArgs false
namespace Go.Proofs.YtmnfihdbibjijaaDoor
open Go.RowKit Go.Proofs.YtmnfihdbibjijaaDoorW.PrintWords Go.Proofs.YtmnfihdbibjijaaDoor.PNamePaths
open Go.Lib (splitB countB splitK count index Utf8Tabs join joinTail)

theorem pathP_len (s : ByteArray) : (pathP s).1.length ≤ 4 := by
  unfold pathP
  split
  · simp
  · split
    · split
      · assumption
      · simp
    · simp
theorem sameL_self (l : List ByteArray) : sameL l l = true := by unfold sameL; simp
theorem Path_ref (w : World) (s : ByteArray) (hs : s.size < 4294967281) : Calls Tryd.prog 13 #[.string s] w (PathPost s w) :=
  (wharfageref02_Path.calls (s.size + 200) s _ _ w (Path_f s hs _ (Nat.le_refl _))).mono fun e w' ⟨v, h1, h2, h3⟩ => by
    obtain ⟨A, c, rfl, hc, hr⟩ := Kd.R_reads h2
    exact ⟨A, c, h1, hr, hc, h3⟩
section
variable {P : Program}
theorem wpList_append_own {ops : Array Oper} {rest : List Oper} {o : Oper} {a : Act} {w : World} {Q : Exit → Act → World → Prop} (hgd : o.guard = none) (s x : Operand) (t : TypeId)
    (ho : o.op = .call { callee := .builtin .append, args := #[s, x], argTypes := #[t, t] })
    (base : Nat) (e : TypeId) (i : TypeInfo) (z : Value) (size bytes : Nat) (ht : P.underlying t = some (.slice e)) (hi : P.info? e = some i) (hz : i.zero = some z)
    (hsize : i.size = size) (hby : i.bytes = bytes) (hzs : z.cells.size = size) (hsz : 0 < size)
    (v : Value) (n : Nat) (xs : List Value) (hs : a.eval s = v) (hown : w.ownsRow base e size v n xs)
    (ad : Addr) (m c : Nat) (news : List Value) (hx : a.eval x = .slice (some ad) m c) (hl : news.length = m * size) (hnews : ∀ j u, news[j]? = some u → w.cell? (ad.add j) = some u) (h1 : ∀ u ∈ news, u.oneCell' = true)
    (h63 : n + m ≤ maxLen) (hbytes : (n + m) * bytes ≤ 140737488355328) (hbase : base ≤ w.heap.size)
    (h : ∀ v' w', w'.ownsRow base e size v' (n + m) (xs ++ news) → w.grownBy w' v.ownBlock → (v' = .slice none 0 0 ↔ v = .slice none 0 0 ∧ m = 0) → wpList P ops Q rest (a.put o.dst v') w') : wpList P ops Q (o :: rest) a w := by
  refine wpList_plain hgd fun K hK => ?_
  obtain ⟨v', w', hr, h2, h3, h4, h5⟩ := run_append_own_at (P := P) (w := w) base t o.type e i z size bytes ht hi hz hsize hby hzs hsz v n xs hown ad m c news hl hnews h1 h63 hbytes hbase
  unfold Oper.wp execOp
  simp only [ho, resolve, invoke, builtin]
  simp [hs, hx, hr, Result.andThen]
  exact hK _ _ (h v' w' h2 h3 h4)
end
theorem info_string : (Tryd.prog.info? 9).map (fun i => (i.zero, i.size, i.bytes)) = some (some (.string ⟨#[]⟩), 1, 16) := by kernel_rfl
theorem info_parts {P : Program} {t : TypeId} {z : Value} {s b : Nat} (h : (P.info? t).map (fun i => (i.zero, i.size, i.bytes)) = some (some z, s, b)) : ∃ i, P.info? t = some i ∧ i.zero = some z ∧ i.size = s ∧ i.bytes = b := by
  cases hi : P.info? t with
  | none => rw [hi] at h; simp at h
  | some i => rw [hi] at h; simp at h; exact ⟨i, rfl, h.1, h.2.1, h.2.2⟩
theorem texts_own {w : World} {base : Nat} {v : Value} {l : List ByteArray} (h : w.ownsRow base 9 1 v l.length (l.map Value.string)) (hn : l.length ≤ 9223372036854775807) : ∃ A c, v = .slice A l.length c ∧ TextsAt w A l ∧ l.length ≤ c := by
  rcases h.2 with ⟨rfl, h0⟩ | ⟨g, cap, cur, rfl, hb1, hb2, hb3, hb4, hb5, hb6⟩
  · have hl : l = [] := List.eq_nil_of_length_eq_zero (by simpa using h0)
    subst hl
    exact ⟨none, 0, rfl, textsAt_nil w, Nat.le_refl _⟩
  · refine ⟨_, cap, rfl, ⟨rfl, hn, fun _ => ⟨_, rfl, fun j p hj => ⟨[.string p], rfl, rfl, fun i u hu => ?_⟩⟩⟩, hb3⟩
    have hi : i = 0 := by
      have := (List.getElem?_eq_some_iff.1 hu).1; simpa using this
    subst hi
    simp at hu; subst hu
    show World.cell? _ ((⟨g, 0, none⟩ : Addr).add (j * 1 + 0)) = _
    rw [Addr.add_mid]
    unfold World.cell?
    simp only [hb2]
    have hjl : j < l.length := (List.getElem?_eq_some_iff.1 hj).1
    have h2 : (cur.toList.take (l.length * 1))[j]? = some (.string p) := by rw [hb6]; simp [hj]
    rw [List.getElem?_take, if_pos (by omega)] at h2
    simpa using h2

set_option maxRecDepth 100000 in
set_option maxHeartbeats 2000000 in
theorem paths_any (w : World) (s : ByteArray) (A : Option Addr) (c : Nat) (l : List ByteArray) (hs : s.size < 4294967281) (hl : TextsAt w A l) (hc : l.length ≤ c) (hA : A = none → c = 0) (hos : okS l) (h : Laid w) :
    Calls Tryd.prog 4 #[.string s, .slice A l.length c] w fun e w' => e = .returned (.bool true) ∧ Below w.heap.size w w' := by
  have hn := hl.len
  have H := Lib.hid h; clear h
  have HL := Lib.hid hl; clear hl
  have HOS := Lib.hid hos; clear hos
  by_cases h100 : (l.length : Int) > 100
  · go_enter Tryd.func4, Tryd.ntmps4
    go_wp2_with fail
    refine (lives_any w H.out).mono ?_
    rintro e w1 ⟨rfl, hb1⟩
    go_wp2_with fail
    go_ret
    exact ⟨rfl, hb1⟩
  · have hn100 : l.length ≤ 100 := by omega
    obtain ⟨i0, hi0, hz0, hz1, hz2⟩ := info_parts info_string
    cases A with
    | none =>
      obtain rfl : c = 0 := hA rfl
      have hl0 : l.length = 0 := by omega
      have hl00 : l = [] := List.eq_nil_of_length_eq_zero hl0
      subst hl00
      have happ : ∀ W : World, (Builtin.append_ #[26, 26] 26 #[.slice none 0 0, .slice none 0 0]).run Tryd.prog W = .ok (.slice none 0 0) W := fun W => by kernel_rfl
      have hB1 : Below w.heap.size w w := Below.refl _ _
      have HO1 := Lib.hid (textsAt_nil w)
      have HC1 := Lib.hid (show ([] : List ByteArray).length ≤ 0 from Nat.le_refl _)
      go_enter Tryd.func4, Tryd.ntmps4
      go_wp2_with fail
      refine (Path_laid w s hs (H.out.below hB1)).mono ?_
      rintro e w2 ⟨A2, c2, rfl, ht2, hc2, hb2⟩
      have hB2 := hB1.trans (hb2.mono hB1.size)
      have HT2 := Lib.hid ht2; clear ht2
      have HC2 := Lib.hid hc2; clear hc2
      have HO2 := Lib.hid (HO1.out.below hb2)
      go_wp2_with fail
      refine (Path_ref w2 s hs).mono ?_
      rintro e w3 ⟨A3, c3, rfl, ht3, hc3, hb3⟩
      have hB3 := hB2.trans (hb3.mono hB2.size)
      have HT3 := Lib.hid ht3; clear ht3
      have HC3 := Lib.hid hc3; clear hc3
      have HT2' := Lib.hid (HT2.out.below hb3)
      have HO3 := Lib.hid (HO2.out.below hb3)
      go_wp2_with fail
      refine (Write_any w3 none 0 [] HO3.out HC1.out HOS.out (H.out.below hB3).1).mono ?_
      rintro e w4 ⟨rfl, hb4⟩
      have hB4 := hB3.trans (hb4.mono hB3.size)
      have HT24 := Lib.hid (HT2'.out.below hb4)
      have HT34 := Lib.hid (HT3.out.below hb4)
      have HO4 := Lib.hid (HO3.out.below hb4)
      go_wp2_with fail
      refine (Write_ref w4 none 0 [] (HL.out.below hB4) hc HOS.out (by omega)).mono ?_
      rintro e w5 ⟨rfl, hb5⟩
      have hB5 := hB4.trans (hb5.mono hB4.size)
      have HO5 := Lib.hid (HO4.out.below hb5)
      have hpl := pathP_len s
      go_wp2_with fail
      refine (Texts_any w5 A2 A3 c2 c3 _ _ (HT24.out.below hb5) (HT34.out.below hb5) HC2.out HC3.out (by omega)).mono ?_
      rw [sameL_self]
      rintro e w6 ⟨rfl, hb6⟩
      have hB6 := hB5.trans (hb6.mono hB5.size)
      have HO6 := Lib.hid (HO5.out.below hb6)
      go_wp2_with fail
      refine (May_any w6 none 0 [] HO6.out HOS.out (H.out.below hB6).1).mono ?_
      rintro e w7 ⟨rfl, hb7⟩
      have hB7 := hB6.trans (hb7.mono hB6.size)
      have HO7 := Lib.hid (HO6.out.below hb7)
      go_wp2_with fail
      refine (May_ref w7 none 0 [] (HL.out.below hB7) hc HOS.out (by omega)).mono ?_
      rintro e w8 ⟨rfl, hb8⟩
      have hB8 := hB7.trans (hb8.mono hB7.size)
      have HO8 := Lib.hid (HO7.out.below hb8)
      go_wp2_with fail
      refine (Texts_any w8 none none 0 0 [] [] HO8.out (HL.out.below hB8) HC1.out hc (by omega)).mono ?_
      rw [sameL_self]
      rintro e w9 ⟨rfl, hb9⟩
      have hB9 := hB8.trans (hb9.mono hB8.size)
      go_wp2_with fail
      refine (lives_any w9 (H.out.below hB9)).mono ?_
      rintro e wa ⟨rfl, hba⟩
      go_wp2_with fail
      go_ret
      exact ⟨rfl, hB9.trans (hba.mono hB9.size)⟩
    | some ad =>
      have hnews : ∀ j u, (l.map Value.string)[j]? = some u → w.cell? (ad.add j) = some u := fun j u hu => by
        rw [List.getElem?_map] at hu
        cases hj : l[j]? with
        | none => rw [hj] at hu; cases hu
        | some p =>
          rw [hj] at hu
          simp at hu; subst hu
          obtain ⟨b', o', e, hcl⟩ := HL.out.get hj
          injection e with e; subst e
          rw [Addr.add_mid]; exact hcl
      have HN := Lib.hid hnews; clear hnews
      have h1c : ∀ u ∈ l.map Value.string, u.oneCell' = true := fun u hu => by obtain ⟨p, _, rfl⟩ := List.mem_map.1 hu; rfl
      have H1 := Lib.hid h1c; clear h1c
      go_enter Tryd.func4, Tryd.ntmps4
      go_wp2_with (first
        | (refine wpList_append_own rfl (.tmp 18) (.tmp 19) _ rfl w.heap.size 9 i0 _ 1 16 Tryd.underlying26 hi0 hz0 hz1 hz2 rfl (by decide) _ 0 [] rfl (World.ownsRow_nil _ _ _ _) ad l.length c (l.map Value.string) (by rfl) (by simp) HN.out H1.out (by unfold maxLen; omega) (by omega) (Nat.le_refl _) ?_
           intro v1 w1 hv hgr hnil)
        | fail)
      have hB1 : Below w.heap.size w w1 := (Below.refl _ _).grown hgr (Nat.le_refl _) (fun k hk => by cases hk)
      rw [Nat.zero_add, List.nil_append] at hv
      obtain ⟨A1, c1, rfl, hO1, hC1⟩ := texts_own hv hn
      have HO1 := Lib.hid hO1; clear hO1
      have HC1 := Lib.hid hC1; clear hC1
      clear hv hgr hnil HN H1
      have hlen1 : l.length ≤ 9223372036854775806 := by omega
      go_wp2_with fail
      refine (Path_laid w1 s hs (H.out.below hB1)).mono ?_
      rintro e w2 ⟨A2, c2, rfl, ht2, hc2, hb2⟩
      have hB2 := hB1.trans (hb2.mono hB1.size)
      have HT2 := Lib.hid ht2; clear ht2
      have HC2 := Lib.hid hc2; clear hc2
      have HO2 := Lib.hid (HO1.out.below hb2)
      go_wp2_with fail
      refine (Path_ref w2 s hs).mono ?_
      rintro e w3 ⟨A3, c3, rfl, ht3, hc3, hb3⟩
      have hB3 := hB2.trans (hb3.mono hB2.size)
      have HT3 := Lib.hid ht3; clear ht3
      have HC3 := Lib.hid hc3; clear hc3
      have HT2' := Lib.hid (HT2.out.below hb3)
      have HO3 := Lib.hid (HO2.out.below hb3)
      go_wp2_with fail
      refine (Write_any w3 A1 c1 l HO3.out HC1.out HOS.out (H.out.below hB3).1).mono ?_
      rintro e w4 ⟨rfl, hb4⟩
      have hB4 := hB3.trans (hb4.mono hB3.size)
      have HT24 := Lib.hid (HT2'.out.below hb4)
      have HT34 := Lib.hid (HT3.out.below hb4)
      have HO4 := Lib.hid (HO3.out.below hb4)
      go_wp2_with fail
      refine (Write_ref w4 _ c l (HL.out.below hB4) hc HOS.out (by omega)).mono ?_
      rintro e w5 ⟨rfl, hb5⟩
      have hB5 := hB4.trans (hb5.mono hB4.size)
      have HO5 := Lib.hid (HO4.out.below hb5)
      have hpl := pathP_len s
      go_wp2_with fail
      refine (Texts_any w5 A2 A3 c2 c3 _ _ (HT24.out.below hb5) (HT34.out.below hb5) HC2.out HC3.out (by omega)).mono ?_
      rw [sameL_self]
      rintro e w6 ⟨rfl, hb6⟩
      have hB6 := hB5.trans (hb6.mono hB5.size)
      have HO6 := Lib.hid (HO5.out.below hb6)
      go_wp2_with fail
      refine (May_any w6 A1 c1 l HO6.out HOS.out (H.out.below hB6).1).mono ?_
      rintro e w7 ⟨rfl, hb7⟩
      have hB7 := hB6.trans (hb7.mono hB6.size)
      have HO7 := Lib.hid (HO6.out.below hb7)
      go_wp2_with fail
      refine (May_ref w7 _ c l (HL.out.below hB7) hc HOS.out (by omega)).mono ?_
      rintro e w8 ⟨rfl, hb8⟩
      have hB8 := hB7.trans (hb8.mono hB7.size)
      have HO8 := Lib.hid (HO7.out.below hb8)
      go_wp2_with fail
      refine (Texts_any w8 A1 _ c1 c l l HO8.out (HL.out.below hB8) HC1.out hc (by omega)).mono ?_
      rw [sameL_self]
      rintro e w9 ⟨rfl, hb9⟩
      have hB9 := hB8.trans (hb9.mono hB8.size)
      go_wp2_with fail
      refine (lives_any w9 (H.out.below hB9)).mono ?_
      rintro e wa ⟨rfl, hba⟩
      go_wp2_with fail
      go_ret
      exact ⟨rfl, hB9.trans (hba.mono hB9.size)⟩
end Go.Proofs.YtmnfihdbibjijaaDoor

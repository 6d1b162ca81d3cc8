/- Plain lemmas on what the printed functions compute (seat Ytegnghbgkiddoaa, module Qd). Conditions: each lemma's own. -/
import Derived.Test.YtegnghbgkiddoaaQc
import Derived.Test.YtegnghbgkiddoaaPA0
import Derived.Test.YtegnghbgkiddoaaPA12
import Derived.Test.YtegnghbgkiddoaaPA7
import Derived.Test.YtegnghbgkiddoaaPA9
set_option linter.unusedVariables false
set_option linter.unusedSimpArgs false
namespace Go.Proofs.Ytegnghbgkiddoaa.Q
open Go Go.RowKit Go.Proofs.Ytegnghbgkiddoaa.PA Go.Proofs.YtegnghbgkiddoaaW.PrintWords Go.Proofs.YtegnghbgkiddoaaW.PrintLast

/-! costs -/
def BdC (s : List Int) : Prop := ∀ j, 0 ≤ s.getD j 0 ∧ s.getD j 0 ≤ 1073741824
theorem BdC.step {s : List Int} (h : BdC s) {x : Cb} (ha : x.a < s.length) (hb : x.b < s.length) (hne : x.a ≠ x.b) (h1 : 1 ≤ x.c) : BdC (coS s x) := by
  intro j
  rw [coS_at s x ha hb hne]
  have := h x.a
  have := h x.b
  have := h j
  repeat' split
  all_goals omega
theorem coFold {m : Nat} {L : List Cb} (hL : Okc m L) : ∀ (s : List Int), s.length = m → BdC s → (L.foldl coS s).length = m ∧ BdC (L.foldl coS s) := by
  induction L with
  | nil => exact fun s h k => ⟨h, k⟩
  | cons x L ih =>
    intro s hs hB
    obtain ⟨ha, hb, hne, h1, _⟩ := hL x (by simp)
    rw [List.foldl_cons]
    exact ih (fun y hy => hL y (by simp [hy])) _ (by rw [coS_len, hs]) (hB.step (by omega) (by omega) hne h1)
theorem coS_print {m : Nat} {s : List Int} (hs : s.length = m) (hB : BdC s) {a b : Nat} {c : Int} (ha : a < m) (hb : b < m) (hne : a ≠ b) (h1 : 1 ≤ c) (h2 : c ≤ 99) :
    ((s.set ((a : Int)).toNat (mn (rd s (a : Int)) (wrap64 ((rd s (b : Int)) + c)))).set ((b : Int)).toNat (mn (rd (s.set ((a : Int)).toNat (mn (rd s (a : Int)) (wrap64 ((rd s (b : Int)) + c)))) (b : Int)) (wrap64 ((rd (s.set ((a : Int)).toNat (mn (rd s (a : Int)) (wrap64 ((rd s (b : Int)) + c)))) (a : Int)) + c)))) = coS s ⟨a, b, c⟩ := by
  have e1 := hB a
  have e2 := hB b
  simp only [rd_getD, mn_min, Int.toNat_natCast]
  rw [getD_set _ _ _ _ (by omega), getD_set _ _ _ _ (by omega), if_neg hne, if_pos rfl, w64 (x := s.getD b 0 + c) (by omega) (by omega), w64 (by omega) (by omega)]
  rfl
theorem implCosts_l2 {m : Nat} {l : List S44} (hV : Vd m l) (x29 x30 : Int) {R : List Int} : ∀ (d i : Nat) (s : List Int), i + d = l.length → s.length = m → BdC s →
    Ev (fun k => impl_costsOf.l1 k l (((l.map cbOf).drop i).foldl coS s) x29 (wrap64 (x30 + 1))) R → Ev (fun k => impl_costsOf.l2 k l s x29 x30 l (l.length : Int) (i : Int)) R := by
  have hlen := hV.len
  intro d
  induction d with
  | zero =>
    intro i s hi hs hB hR
    refine Ev.step (fun k => by rw [impl_costsOf.l2]) ?_
    rw [List.drop_of_length_le (by simp; omega)] at hR
    exact evF (by omega) hR
  | succ d ih =>
    intro i s hi hs hB hR
    have e : wrap64 ((i : Int) + 1) = ((i + 1 : Nat) : Int) := by rw [w64 (by omega) (by omega)]; omega
    obtain ⟨a, b, c, hx, ha, hb, hne, hc1, hc2, _, hdr⟩ := hV.map i (by omega)
    rw [hdr, List.foldl_cons] at hR
    refine Ev.step (fun k => by rw [impl_costsOf.l2]) ?_
    rw [hx, e]
    dsimp only
    refine evT (by omega) (evT (by omega) (evT (by omega) (evT (by omega) (evT (by omega) (evT (by omega) (evT (by omega) (evS rfl ?_)))))))
    have hp := coS_print hs hB ha hb hne hc1 hc2
    rw [hp]
    exact ih (i + 1) (coS s ⟨a, b, c⟩) (by omega) (by rw [coS_len]; exact hs) (hB.step (by rw [hs]; exact ha) (by rw [hs]; exact hb) hne hc1) hR
theorem implCosts_l1 {m : Nat} {l : List S44} (hV : Vd m l) : ∀ (d r : Nat) (s : List Int), r + d = m → s.length = m → BdC s →
    Ev (fun k => impl_costsOf.l1 k l s (m : Int) (r : Int)) (iter (fun s => (l.map cbOf).foldl coS s) d s) := by
  have hm8 := hV.m8
  intro d
  induction d with
  | zero =>
    intro r s hr hs hB
    refine Ev.step (fun k => by rw [impl_costsOf.l1]) ?_
    exact evF (by omega) (Ev.now _)
  | succ d ih =>
    intro r s hr hs hB
    refine Ev.step (fun k => by rw [impl_costsOf.l1]) ?_
    refine evT (by omega) ?_
    refine implCosts_l2 hV _ _ l.length 0 s (by omega) hs hB ?_
    rw [w64 (by omega) (by omega), show (r : Int) + 1 = ((r + 1 : Nat) : Int) by omega, List.drop_zero]
    obtain ⟨h1, h2⟩ := coFold hV.okc s hs hB
    exact ih (r + 1) _ (by omega) h1 h2
theorem specCosts_l2 {m : Nat} {l : List S44} (hV : Vd m l) (x29 x30 : Int) {R : List Int} : ∀ (d i : Nat) (s : List Int), i + d = l.length → s.length = m → BdC s →
    Ev (fun k => spec_l7Costs.l1 k l (((l.map cbOf).drop i).foldl coS s) x29 (wrap64 (x30 + 1))) R → Ev (fun k => spec_l7Costs.l2 k l s (i : Int) x29 x30) R := by
  have hlen := hV.len
  intro d
  induction d with
  | zero =>
    intro i s hi hs hB hR
    refine Ev.step (fun k => by rw [spec_l7Costs.l2]) ?_
    rw [List.drop_of_length_le (by simp; omega)] at hR
    exact evF (by omega) hR
  | succ d ih =>
    intro i s hi hs hB hR
    have e : wrap64 ((i : Int) + 1) = ((i + 1 : Nat) : Int) := by rw [w64 (by omega) (by omega)]; omega
    obtain ⟨a, b, c, hx, ha, hb, hne, hc1, hc2, _, hdr⟩ := hV.map i (by omega)
    rw [hdr, List.foldl_cons] at hR
    refine Ev.step (fun k => by rw [spec_l7Costs.l2]) ?_
    rw [hx, e]
    dsimp only
    refine evT (by omega) (evT (by omega) (evT (by omega) (evT (by omega) (evT (by omega) (evT (by omega) (evS rfl ?_))))))
    have hp := coS_print hs hB ha hb hne hc1 hc2
    rw [hp]
    exact ih (i + 1) (coS s ⟨a, b, c⟩) (by omega) (by rw [coS_len]; exact hs) (hB.step (by rw [hs]; exact ha) (by rw [hs]; exact hb) hne hc1) hR
theorem specCosts_l1 {m : Nat} {l : List S44} (hV : Vd m l) : ∀ (d r : Nat) (s : List Int), r + d = m → s.length = m → BdC s →
    Ev (fun k => spec_l7Costs.l1 k l s (m : Int) (r : Int)) (iter (fun s => (l.map cbOf).foldl coS s) d s) := by
  have hm8 := hV.m8
  intro d
  induction d with
  | zero =>
    intro r s hr hs hB
    refine Ev.step (fun k => by rw [spec_l7Costs.l1]) ?_
    exact evF (by omega) (Ev.now _)
  | succ d ih =>
    intro r s hr hs hB
    refine Ev.step (fun k => by rw [spec_l7Costs.l1]) ?_
    refine evT (by omega) ?_
    refine specCosts_l2 hV _ _ l.length 0 s (by omega) hs hB ?_
    rw [w64 (by omega) (by omega), show (r : Int) + 1 = ((r + 1 : Nat) : Int) by omega, List.drop_zero]
    obtain ⟨h1, h2⟩ := coFold hV.okc s hs hB
    exact ih (r + 1) _ (by omega) h1 h2
/-- what the costs begin with: 0 at a root, far away elsewhere -/
def Beg (m : Nat) (L : List Cb) (far : Int) (i : Nat) (s : List Int) : Prop := ∀ b, b < i → ∀ r, Rt L b r → s.getD b 0 = if b = r then 0 else far
theorem Beg.final {m : Nat} {l : List S44} (hV : Vd m l) {far : Int} (hf : 792 ≤ far) (hf2 : far ≤ 1073741824) {s : List Int} (hs : s.length = m) (hb : Beg m (l.map cbOf) far m s) :
    BdC s ∧ Cs m (l.map cbOf) (iter (fun s => (l.map cbOf).foldl coS s) m s) := by
  have hm8 := hV.m8
  have hB : BdC s := by
    intro j
    by_cases h : j < m
    · obtain ⟨r, hr⟩ := Rt.ex (l.map cbOf) j
      rw [hb j h r hr]
      split <;> omega
    · rw [show s.getD j 0 = 0 by simp [List.getD_eq_getElem?_getD, List.getElem?_eq_none (show s.length ≤ j by omega)]]; omega
  obtain ⟨h1, h2⟩ := costs_final hV.okc s ⟨hs, fun b hbm d hd => by
      obtain ⟨r, hr⟩ := Rt.ex (l.map cbOf) b
      rw [hb b hbm r hr]
      have h3 := hd.small hV.okc hbm
      have h4 := hd.zero_iff hV.okc hr
      split
      · rename_i e; rw [h4.2 e]; omega
      · omega⟩ (fun b hbm hr => by rw [hb b hbm b hr, if_pos rfl]) (k := m) (by omega)
  exact ⟨hB, Cs.of hV.okc h1 h2⟩
theorem implCosts_l0 {m : Nat} {l : List S44} (hV : Vd m l) {rs : List Int} (hrs : rs.length = m) (hr : ∀ b r, b < m → Rt (l.map cbOf) b r → rs.getD b 0 = (r : Int)) : ∀ (d i : Nat) (s : List Int), i + d = m → s.length = m →
    Beg m (l.map cbOf) 1073741824 i s → (∀ j, i ≤ j → j < m → s.getD j 0 = 1073741824) → ∃ ds, Cs m (l.map cbOf) ds ∧ Ev (fun k => impl_costsOf.l0 k (m : Int) l s rs (rs.length : Int) (i : Int)) ds := by
  have hm8 := hV.m8
  intro d
  induction d with
  | zero =>
    intro i s hi hs hb _
    obtain rfl : i = m := by omega
    obtain ⟨hB, hc⟩ := hb.final hV (by omega) (by omega) hs
    refine ⟨_, hc, Ev.step (fun k => by rw [impl_costsOf.l0]) ?_⟩
    exact evF (by omega) (implCosts_l1 hV i 0 s (by omega) hs hB)
  | succ d ih =>
    intro i s hi hs hb hrest
    have e : wrap64 ((i : Int) + 1) = ((i + 1 : Nat) : Int) := by rw [w64 (by omega) (by omega)]; omega
    obtain ⟨r, hri⟩ := Rt.ex (l.map cbOf) i
    have hv := hr i r (by omega) hri
    by_cases c : i = r
    · obtain ⟨ds, hc, hev⟩ := ih (i + 1) (s.set i 0) (by omega) (by rw [List.length_set]; exact hs) (fun b hbi r' hr' => by
          rw [getD_set _ _ _ _ (by omega)]
          by_cases e2 : i = b
          · subst e2
            rw [if_pos rfl, if_pos (c.trans (hri.uniq hr'))]
          · rw [if_neg e2]; exact hb b (by omega) r' hr') (fun j h1 h2 => by rw [getD_set _ _ _ _ (by omega), if_neg (by omega)]; exact hrest j (by omega) h2)
      refine ⟨ds, hc, Ev.step (fun k => by rw [impl_costsOf.l0]) ?_⟩
      refine evT (by omega) (evT (by omega) (evT (by omega) (evT ?_ (evT (by omega) ?_))))
      · rw [rd_getD, hv]; omega
      · rw [e, Int.toNat_natCast]; exact hev
    · obtain ⟨ds, hc, hev⟩ := ih (i + 1) s (by omega) hs (fun b hbi r' hr' => by
          by_cases e2 : i = b
          · subst e2
            rw [if_neg (fun e3 => c (e3.trans (hr'.uniq hri))), hrest i (by omega) (by omega)]
          · exact hb b (by omega) r' hr') (fun j h1 h2 => hrest j (by omega) h2)
      refine ⟨ds, hc, Ev.step (fun k => by rw [impl_costsOf.l0]) ?_⟩
      refine evT (by omega) (evT (by omega) (evT (by omega) (evF ?_ ?_)))
      · rw [rd_getD, hv]; omega
      · rw [e]; exact hev
theorem specCosts_l0 {m : Nat} {l : List S44} (hV : Vd m l) : ∀ (d i : Nat) (s : List Int), i + d = m → s.length = i →
    Beg m (l.map cbOf) 10000 i s → ∃ ds, Cs m (l.map cbOf) ds ∧ Ev (fun k => spec_l7Costs.l0 k (m : Int) l s (i : Int)) ds := by
  have hm8 := hV.m8
  intro d
  induction d with
  | zero =>
    intro i s hi hs hb
    obtain rfl : i = m := by omega
    obtain ⟨hB, hc⟩ := hb.final hV (by omega) (by omega) hs
    refine ⟨_, hc, Ev.step (fun k => by rw [spec_l7Costs.l0]) ?_⟩
    exact evF (by omega) (specCosts_l1 hV i 0 s (by omega) hs hB)
  | succ d ih =>
    intro i s hi hs hb
    have e : wrap64 ((i : Int) + 1) = ((i + 1 : Nat) : Int) := by rw [w64 (by omega) (by omega)]; omega
    obtain ⟨r, hri⟩ := Rt.ex (l.map cbOf) i
    have hbeg : ∀ v : Int, v = (if i = r then 0 else 10000) → Beg m (l.map cbOf) 10000 (i + 1) (s ++ [v]) := fun v hv b hbi r' hr' => by
      by_cases e2 : b = i
      · subst e2
        rw [hri.uniq hr'] at hv
        rw [← hv]
        simp [List.getD_eq_getElem?_getD, ← hs]
      · have := hb b (by omega) r' hr'
        rw [← this]
        simp only [List.getD_eq_getElem?_getD]
        rw [List.getElem?_append_left (by omega)]
    by_cases c : i = r
    · obtain ⟨ds, hc, hev⟩ := ih (i + 1) (s ++ [0]) (by omega) (by simp [hs]) (hbeg 0 (by rw [if_pos c]))
      refine ⟨ds, hc, Ev.step (fun k => by rw [spec_l7Costs.l0]) ?_⟩
      refine evT (by omega) (Ev.bind (specRoot_ev hV (by omega) hri) (evT (by omega) (evT (by omega) ?_)))
      rw [e]; exact hev
    · obtain ⟨ds, hc, hev⟩ := ih (i + 1) (s ++ [10000]) (by omega) (by simp [hs]) (hbeg 10000 (by rw [if_neg c]))
      refine ⟨ds, hc, Ev.step (fun k => by rw [spec_l7Costs.l0]) ?_⟩
      refine evT (by omega) (Ev.bind (specRoot_ev hV (by omega) hri) (evF (by omega) (evT (by omega) ?_)))
      rw [e]; exact hev
theorem costs_ev {m : Nat} {l : List S44} (hV : Vd m l) : ∃ ds, Cs m (l.map cbOf) ds ∧ Ev (fun k => impl_costsOf.f k (m : Int) l) ds ∧ Ev (fun k => spec_l7Costs.f k (m : Int) l) ds := by
  have hm8 := hV.m8
  have hm1 := hV.m1
  obtain ⟨rs, hrs, hl, hr⟩ := implRoots_ev hV
  obtain ⟨d1, c1, e1⟩ := implCosts_l0 hV hl hr m 0 (List.replicate m 1073741824) (by omega) (by simp) (fun b hb => by omega) (fun j _ hj => by simp [List.getD_eq_getElem?_getD, hj])
  obtain ⟨d2, c2, e2⟩ := specCosts_l0 hV m 0 [] (by omega) rfl (fun b hb => by omega)
  refine ⟨d1, c1, ?_, ?_⟩
  · simp only [impl_costsOf.f]
    refine evS (show slices_Repeat_int_int.f [1073741824] (m : Int) = some (List.replicate m 1073741824) by unfold slices_Repeat_int_int.f; rw [if_pos (by simp; omega)]; simp [rd]) ?_
    exact Ev.bind hrs e1
  · rw [c1.uniq c2]
    simp only [spec_l7Costs.f]
    exact e2

end Go.Proofs.Ytegnghbgkiddoaa.Q

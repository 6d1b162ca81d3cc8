/- Plain lemmas on what the printed functions compute (seat Ytegkgandlpiobaa, module QLevelsBack). Conditions: each lemma's own. -/
import Derived.Test.YtegkgandlpiobaaQe
import Derived.Test.YtegkgandlpiobaaQg
import Derived.Test.YtegkgandlpiobaaPA0
import Derived.Test.YtegkgandlpiobaaPA12
import Derived.Test.YtegkgandlpiobaaPA13
set_option linter.unusedVariables false
set_option linter.unusedSimpArgs false
namespace Go.Proofs.Ytegkgandlpiobaa.Q
open Go Go.RowKit Go.Proofs.Ytegkgandlpiobaa.PA Go.Proofs.YtegkgandlpiobaaW.PrintWords Go.Proofs.YtegkgandlpiobaaW.PrintLast

/-! ### the sum of levels -/
def sumL : List Int → Int
  | [] => 0
  | x :: xs => x + sumL xs
theorem sumL_app (a b : List Int) : sumL (a ++ b) = sumL a + sumL b := by
  induction a with
  | nil => simp [sumL]
  | cons x a ih => simp only [List.cons_append, sumL, ih]; omega
theorem sumL_lvTo (l : List Int) : ∀ n : Nat, sumL (lvTo l n) = n := by
  intro n
  induction n with
  | zero => rfl
  | succ n ih =>
    simp only [lvTo, sumL_app, ih, sumL]
    omega
theorem levelsBack_l0 (b lv : List Int) (hl : lv.length ≤ 400) (hbit : lv.all bit1 = true) (hbk : bitsOf lv = (b, true)) (hs : 2 * sumL lv = (lv.length : Int)) : ∀ (d i : Nat) (acc : Int), i + d = lv.length → 0 ≤ acc → acc ≤ i → acc + sumL (lv.drop i) = sumL lv →
    Ev (fun k => laws_FnLevelsBack.l0 k b lv acc lv (lv.length : Int) (i : Int)) true := by
  intro d
  induction d with
  | zero =>
    intro i acc hi h0 h1 h2
    rw [List.drop_of_length_le (by omega)] at h2
    have h2' : acc = sumL lv := by simpa [sumL] using h2
    have hbl := bits_len lv
    rw [hbk] at hbl
    replace hbl : b.length ≤ 200 := hbl
    have e : wrap64 (2 * acc) = 2 * acc := w64 (by omega) (by omega)
    refine Ev.step (fun k => by rw [laws_FnLevelsBack.l0]) ?_
    refine evF (by omega) (evS ((implBits_eq lv).trans (congrArg some hbk)) ?_)
    refine evT rfl (Ev.bind (evE (wnInts_ev b b (by omega)) (show decide (b = b) = true by simp)) ?_)
    refine evT rfl (evE (Ev.now _) ?_)
    rw [e, h2', hs]; simp
  | succ d ih =>
    intro i acc hi h0 h1 h2
    have e : wrap64 ((i : Int) + 1) = ((i + 1 : Nat) : Int) := by rw [w64 (by omega) (by omega)]; omega
    have il : i < lv.length := by omega
    have hx := bit1_of hbit (List.getElem_mem il)
    rw [List.drop_eq_getElem_cons il] at h2
    simp only [sumL] at h2
    obtain ⟨x, hxe⟩ : ∃ x, x = lv[i]'il := ⟨_, rfl⟩
    obtain ⟨T, hT⟩ : ∃ T, T = sumL (lv.drop (i + 1)) := ⟨_, rfl⟩
    obtain ⟨U, hU⟩ : ∃ U, U = sumL lv := ⟨_, rfl⟩
    rw [← hxe] at hx h2
    rw [← hT, ← hU] at h2
    have i1 : (i : Int) < (lv.length : Int) := by omega
    have i0 : (0 : Int) ≤ (i : Int) := by omega
    refine Ev.step (fun k => by rw [laws_FnLevelsBack.l0]) ?_
    refine evT i1 (evT i0 (evT i1 ?_))
    rw [rd_at lv i il, e, ← hxe]
    have b0 : 0 ≤ acc + x := by clear hT hU hs ih hxe hbk; omega
    have b1 : acc + x ≤ ((i + 1 : Nat) : Int) := by clear hT hU hs ih hxe hbk; omega
    have b2 : acc + x + T = U := by clear hT hU hs ih hxe hbk; omega
    rw [w64 (x := acc + x) (by clear hT hU hs ih hxe hbk; omega) (by clear hT hU hs ih hxe hbk; omega)]
    exact ih (i + 1) (acc + x) (by omega) b0 b1 (by rw [← hT, ← hU]; exact b2)
theorem q_FnLevelsBack : laws_FnLevelsBack.Pure := by
  intro l hl1 hl2 hb
  refine Ev.rounds ?_
  simp only [laws_FnLevelsBack.f]
  by_cases h0 : (l.length : Int) > 1048576
  · exact evT h0 (Ev.now _)
  obtain ⟨b, ho, hl⟩ := open_ev l hb
  obtain ⟨xs, q, hd, k1, k2, k3, k4⟩ := l8Draw_ev b hl 0 (by omega) (by omega)
  have hdr : Ev (fun k => spec_DrawLevelsOf.f k l) xs := by
    simp only [spec_DrawLevelsOf.f]
    exact evS ho (Ev.bind hd (Ev.now _))
  have hlv := levels_len xs
  have hq : Ev (fun k => laws_wnInts.f k (levels xs) (levels xs)) true := evE (wnInts_ev _ _ (by omega)) (by simp)
  refine evF h0 (Ev.bind hdr (Ev.bind (implLevels_ev xs (by omega)) (Ev.bind (specLevels_ev xs (by omega)) (Ev.bind hq ?_))))
  refine evT rfl ?_
  by_cases hz : (levels xs).length = 0
  · rw [show (((levels xs).length : Int) == 0) = true by simpa using hz]
    refine Ev.step (fun k => by rw [laws_FnLevelsBack.j0]) ?_
    exact evT rfl (Ev.bind (specLevels_ev xs (by omega)) (Ev.bind hq (Ev.now _)))
  · rw [show (((levels xs).length : Int) == 0) = false by simpa using hz]
    refine Ev.step (fun k => by rw [laws_FnLevelsBack.j0]) ?_
    refine evF (by simp) ?_
    have hc : xs.length ≤ 200 ∧ xs.all bit1 = true := by
      rcases Classical.em (xs.length ≤ 200 ∧ xs.all bit1 = true) with h | h
      · exact h
      · exfalso; apply hz; unfold levels; rw [if_neg h]; rfl
    have hv : levels xs = lvTo xs xs.length := by unfold levels; rw [if_pos hc]
    have hbits := levels_bits xs
    have hsum : 2 * sumL (levels xs) = ((levels xs).length : Int) := by
      rw [hv, sumL_lvTo, lvTo_length]; omega
    have hbk : bitsOf (levels xs) = (xs, true) := by rw [hv]; exact bits_back hc.1 hc.2
    have := levelsBack_l0 xs (levels xs) hlv hbits hbk hsum (levels xs).length 0 0 (by omega) (by omega) (by omega) (by simp)
    exact this

end Go.Proofs.Ytegkgandlpiobaa.Q

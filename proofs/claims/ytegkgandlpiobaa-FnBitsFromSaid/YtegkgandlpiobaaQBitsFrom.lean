/- Plain lemmas on what the printed functions compute (seat Ytegkgandlpiobaa, module QBitsFrom). Conditions: each lemma's own. -/
import Derived.Test.YtegkgandlpiobaaQe
import Derived.Test.YtegkgandlpiobaaQg
import Derived.Test.YtegkgandlpiobaaPA0
import Derived.Test.YtegkgandlpiobaaPA12
import Derived.Test.YtegkgandlpiobaaPA20
import Derived.Test.YtegkgandlpiobaaPA21
set_option linter.unusedVariables false
set_option linter.unusedSimpArgs false
namespace Go.Proofs.Ytegkgandlpiobaa.Q
open Go Go.RowKit Go.Proofs.Ytegkgandlpiobaa.PA Go.Proofs.YtegkgandlpiobaaW.PrintWords Go.Proofs.YtegkgandlpiobaaW.PrintLast

theorem drawBits_ev (l : List Int) (hb : ∀ x ∈ l, (Lit.int .u8 x).wf = true) : ∃ xs, Ev (fun k => spec_DrawBitsFrom.f k l) xs ∧ xs.length ≤ 401 := by
  obtain ⟨b, ho, hl⟩ := open_ev l hb
  obtain ⟨xs, q, hd, k1, k2, k3, k4⟩ := l8Draw_ev b hl 0 (by omega) (by omega)
  have hlv := levels_len xs
  have tailF : ∀ p : Int, 0 ≤ p → p ≤ 400000 → ∃ ys, Ev (fun k => spec_DrawBitsFrom.j0 k (levels xs) false b p) ys ∧ ys.length ≤ 401 := by
    intro p h0 h1
    obtain ⟨v, hv, _⟩ := pick_ev b hl p 12 h0 (by omega) (by omega)
    have hlt : (levels xs).length < 17592186044416 := by omega
    by_cases c : v = 0
    · refine ⟨levels xs ++ [1], Ev.step (fun k => by rw [spec_DrawBitsFrom.j0]) ?_, by simp; omega⟩
      refine evF (by simp) (Ev.bind hv ?_)
      refine evT c ?_
      exact evT hlt (Ev.now _)
    · refine ⟨levels xs, Ev.step (fun k => by rw [spec_DrawBitsFrom.j0]) ?_, by omega⟩
      refine evF (by simp) (Ev.bind hv ?_)
      exact evF c (Ev.now _)
  by_cases hz : ((levels xs).length : Int) > 0
  · obtain ⟨v, hv, _⟩ := pick_ev b hl q 4 (by omega) (by omega) (by omega)
    by_cases c : v = 0
    · obtain ⟨i, hi, i0, i1⟩ := pick_ev b hl (q + 1) ((levels xs).length : Int) (by omega) (by omega) (by omega)
      obtain ⟨u, hu, _⟩ := pick_ev b hl (q + 1 + 1) 3 (by omega) (by omega) (by omega)
      obtain ⟨t, ht, _⟩ := pick_ev b hl (q + 1 + 1 + 1) 12 (by omega) (by omega) (by omega)
      have pre : ∀ {r : List Int}, Ev (fun k => spec_DrawBitsFrom.j0 k (levels xs) true b (q + 1)) r → Ev (fun k => spec_DrawBitsFrom.f k l) r := by
        intro r h
        simp only [spec_DrawBitsFrom.f]
        refine evS ho (Ev.bind hd (Ev.bind (specLevels_ev xs (by omega)) (evT hz (Ev.bind hv ?_))))
        rw [show (v == 0) = true by simpa using c]; exact h
      by_cases c2 : t = 0
      · refine ⟨(levels xs).set i.toNat u ++ [1], pre (Ev.step (fun k => by rw [spec_DrawBitsFrom.j0]) ?_), by simp; omega⟩
        have hlt : ((levels xs).set i.toNat u).length < 17592186044416 := by rw [List.length_set]; omega
        have hi1 : i < ((levels xs).length : Int) := i1 (by omega)
        refine evT rfl (Ev.bind hi (Ev.bind hu ?_))
        refine evT i0 ?_
        refine evT hi1 (evS rfl (Ev.bind ht ?_))
        refine evT c2 ?_
        exact evT hlt (Ev.now _)
      · refine ⟨(levels xs).set i.toNat u, pre (Ev.step (fun k => by rw [spec_DrawBitsFrom.j0]) ?_), by simp; omega⟩
        have hi1 : i < ((levels xs).length : Int) := i1 (by omega)
        refine evT rfl (Ev.bind hi (Ev.bind hu ?_))
        refine evT i0 ?_
        refine evT hi1 (evS rfl (Ev.bind ht ?_))
        exact evF c2 (Ev.now _)
    · obtain ⟨ys, h1, h2⟩ := tailF (q + 1) (by omega) (by omega)
      refine ⟨ys, ?_, h2⟩
      simp only [spec_DrawBitsFrom.f]
      refine evS ho (Ev.bind hd (Ev.bind (specLevels_ev xs (by omega)) (evT hz (Ev.bind hv ?_))))
      rw [show (v == 0) = false by simpa using c]; exact h1
  · obtain ⟨ys, h1, h2⟩ := tailF q (by omega) (by omega)
    refine ⟨ys, ?_, h2⟩
    simp only [spec_DrawBitsFrom.f]
    exact evS ho (Ev.bind hd (Ev.bind (specLevels_ev xs (by omega)) (evF hz h1)))
theorem q_FnBitsFrom : laws_FnBitsFrom.Pure := by
  intro l hl1 hl2 hb
  refine Ev.rounds ?_
  simp only [laws_FnBitsFrom.f]
  by_cases h0 : (l.length : Int) > 1048576
  · exact evT h0 (Ev.now _)
  obtain ⟨xs, hd, k1⟩ := drawBits_ev l hb
  have hs := bits_len xs
  have hi := implBits_eq xs
  have hsp := specBits_ev xs (by omega)
  have hno := @bits_no xs
  have hlv := @bits_levels xs
  generalize bitsOf xs = g at hs hi hsp hno hlv
  obtain ⟨g0, g1⟩ := g
  replace hs : g0.length ≤ 200 := hs
  have hq : Ev (fun k => laws_wnInts.f k g0 g0) true := evE (wnInts_ev _ _ (by omega)) (by simp)
  refine evF h0 (Ev.bind hd (evS hi (Ev.bind hsp ?_)))
  refine evF (by simp) (Ev.bind hq ?_)
  refine evT rfl ?_
  refine Ev.step (fun k => by rw [laws_FnBitsFrom.j0]) ?_
  cases g1 with
  | false =>
    refine evT rfl (evT (by simp) (Ev.bind hq (evT rfl (evE (Ev.now _) ?_))))
    rw [hno rfl]; rfl
  | true =>
    refine evF (by simp) (Ev.bind (implLevels_ev g0 (by omega)) ?_)
    rw [hlv rfl]
    exact Ev.bind (evE (wnInts_ev xs xs (by omega)) (show decide (xs = xs) = true by simp)) (Ev.now _)

end Go.Proofs.Ytegkgandlpiobaa.Q

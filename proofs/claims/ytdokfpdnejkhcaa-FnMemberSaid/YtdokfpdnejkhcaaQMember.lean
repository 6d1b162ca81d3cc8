/- Plain lemmas on what the printed functions compute (seat Ytdokfpdnejkhcaa, module QMember). Conditions: each lemma's own. -/
import Derived.Test.YtdokfpdnejkhcaaQd
import Derived.Test.YtdokfpdnejkhcaaPA0
import Derived.Test.YtdokfpdnejkhcaaPA1
import Derived.Test.YtdokfpdnejkhcaaPA9
set_option linter.unusedVariables false
set_option linter.unusedSimpArgs false
namespace Go.Proofs.Ytdokfpdnejkhcaa.Q
open Go Go.RowKit Go.Proofs.Ytdokfpdnejkhcaa.PA Go.Proofs.YtdokfpdnejkhcaaW.PrintWords Go.Proofs.YtdokfpdnejkhcaaW.PrintLast

theorem member_law (up : List Bool) (f : Int) (hup : up.length ≤ 9) : ∀ (d i : Nat) (s : Bool), i + d = up.length → (s = true ↔ ∃ j : Nat, j < i ∧ up[j]? = some true) →
    Ev (fun k => laws_FnMember.l0 k up f (member up f) s up (up.length : Int) (i : Int)) true := by
  have hbd := member_bd up f
  intro d
  induction d with
  | zero =>
    intro i s hi hs
    have hi' : i = up.length := by omega
    subst hi'
    refine Ev.step (fun k => by rw [laws_FnMember.l0]) ?_
    refine evF (by omega) ?_
    by_cases h1 : member up f < 0
    · refine evT h1 ?_
      by_cases h2 : s = true
      · refine evT h2 ?_
        by_cases h3 : (up.length : Int) > 8
        · exact evT h3 (Ev.now _)
        refine evF h3 ?_
        by_cases h4 : f < 0
        · exact evT h4 (Ev.now _)
        refine evF h4 ?_
        by_cases h5 : f > 239
        · exact evT h5 (Ev.now _)
        exfalso
        obtain ⟨j, hj, hju⟩ := hs.1 h2
        have hm := member_best up f ⟨by omega, by omega⟩ ⟨by omega, by omega⟩
        rcases hm with ⟨_, h⟩ | ⟨j', h, _⟩
        · exact h j hj hju
        · omega
      · exact evF h2 (Ev.now _)
    · refine evF h1 (evT (by omega) (evT (by omega) (evT (by omega) ?_)))
      by_cases hB : isB up ∧ isFl f
      · rcases member_best up f hB.1 hB.2 with ⟨h, _⟩ | ⟨j, h, hj, hju, _⟩
        · omega
        · rw [h, rdOf_at false up j hj]
          rw [List.getElem?_eq_getElem hj] at hju
          exact evE (Ev.now _) (by simpa using hju)
      · exact absurd (show member up f = -1 from if_neg hB) (by omega)
  | succ d ih =>
    intro i s hi hs
    have e : wrap64 ((i : Int) + 1) = ((i + 1 : Nat) : Int) := by rw [w64 (by omega) (by omega)]; omega
    have hg : up[i]? = some (up[i]'(by omega)) := List.getElem?_eq_getElem (by omega)
    have hs' : (s || up[i]'(by omega)) = true ↔ ∃ j : Nat, j < i + 1 ∧ up[j]? = some true := by
      rw [Bool.or_eq_true]
      constructor
      · rintro (h | h)
        · obtain ⟨j, hj, hju⟩ := hs.1 h
          exact ⟨j, by omega, hju⟩
        · exact ⟨i, by omega, by rw [hg, h]⟩
      · rintro ⟨j, hj, hju⟩
        rcases Nat.lt_or_ge j i with h9 | h9
        · exact .inl (hs.2 ⟨j, h9, hju⟩)
        · have : j = i := by omega
          subst this
          rw [hg] at hju
          exact .inr (by simpa using hju)
    have key : Ev (fun k => laws_FnMember.j2 k up f (member up f) (s || up[i]'(by omega)) (i : Int) (up[i]'(by omega)) up (up.length : Int) (i : Int)) true := by
      have hnext := ih (i + 1) (s || up[i]'(by omega)) (by omega) hs'
      refine Ev.step (fun k => by rw [laws_FnMember.j2]) ?_
      rw [e]
      by_cases h1 : member up f ≥ 0
      · refine evT h1 ?_
        by_cases h2 : up[i]'(by omega) = true
        · refine evT h2 ?_
          by_cases hB : isB up ∧ isFl f
          · rcases member_best up f hB.1 hB.2 with ⟨h, _⟩ | ⟨j, h, hj, hju, hbest⟩
            · omega
            · have h8 := hB.1.2
              have hbi := hbest i (by omega) (by rw [hg, h2])
              have s1 := implScore_eq f i hB.2 (by omega) (by omega)
              have s2 := implScore_eq f j hB.2 (by omega) (by omega)
              rw [h] at hnext ⊢
              refine evS s1 (evS s2 (evF (by omega) ?_))
              by_cases h4 : score f i = score f j
              · exact evT h4 (evF (by omega) hnext)
              · exact evF h4 hnext
          · exact absurd (show member up f = -1 from if_neg hB) (by omega)
        · exact evF h2 hnext
      · exact evF h1 hnext
    refine Ev.step (fun k => by rw [laws_FnMember.l0]) ?_
    refine evT (by omega) (evT (by omega) (evT (by omega) ?_))
    rw [rdOf_at false up i (by omega)]
    by_cases h : s = true
    · subst h
      exact evT rfl key
    · have h' : s = false := by simpa using h
      subst h'
      exact evF (by simp) key
theorem q_FnMember : laws_FnMember.Pure := by
  intro l l1 hl1 hl2 hb hl3 hl4 hb1
  refine Ev.rounds ?_
  simp only [laws_FnMember.f]
  obtain ⟨up, f, hd, hup⟩ := drawMember_ev l hb
  obtain ⟨f2, m2, hd2⟩ := drawScore_ev l1 hb1
  by_cases h0 : (l.length : Int) > 1048576
  · exact evT h0 (Ev.step (fun k => by rw [laws_FnMember.j0]) (evT rfl (Ev.now _)))
  refine evF h0 ?_
  by_cases h1 : (l1.length : Int) > 1048576
  · refine Ev.step (fun k => by rw [laws_FnMember.j0]) ?_
    exact evT (by simpa using h1) (Ev.now _)
  refine Ev.step (fun k => by rw [laws_FnMember.j0]) ?_
  refine evF (by simpa using h1) (Ev.bind hd (Ev.bind (implMember_ev up f) (Ev.bind (specMember_ev up f) (evT rfl (Ev.bind hd2 ?_)))))
  have hs : ∃ v, impl_ScoreOf.f f2 m2 = some v := by
    by_cases h : isFl f2 ∧ 0 ≤ m2 ∧ m2 ≤ 7
    · exact ⟨_, implScore_eq f2 m2 h.1 h.2.1 h.2.2⟩
    · exact ⟨_, implScore_none f2 m2 h⟩
  obtain ⟨v, hv⟩ := hs
  refine evS hv (evS ((specScoreOf_eq f2 m2).trans hv) (evT rfl ?_))
  exact member_law up f hup up.length 0 false (by omega) (by constructor; · intro h; cases h
                                                             · rintro ⟨j, hj, _⟩; exact absurd hj (Nat.not_lt_zero _))

end Go.Proofs.Ytdokfpdnejkhcaa.Q

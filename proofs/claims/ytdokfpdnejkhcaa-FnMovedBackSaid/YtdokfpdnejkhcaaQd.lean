/- Plain lemmas on what the printed functions compute (seat Ytdokfpdnejkhcaa, module Qd). Conditions: each lemma's own. -/
import Derived.Test.YtdokfpdnejkhcaaQc
import Derived.Test.YtdokfpdnejkhcaaPA0
import Derived.Test.YtdokfpdnejkhcaaPA10
import Derived.Test.YtdokfpdnejkhcaaPA15
import Derived.Test.YtdokfpdnejkhcaaPA2
import Derived.Test.YtdokfpdnejkhcaaPA8
set_option linter.unusedVariables false
set_option linter.unusedSimpArgs false
namespace Go.Proofs.Ytdokfpdnejkhcaa.Q
open Go Go.RowKit Go.Proofs.Ytdokfpdnejkhcaa.PA Go.Proofs.YtdokfpdnejkhcaaW.PrintWords Go.Proofs.YtdokfpdnejkhcaaW.PrintLast

/-! ### draws of bundles -/
theorem l11Up_l0 (l : List Int) (hl : Bs l) : ∀ (d : Nat) (acc : List Bool) (p : Int), 0 ≤ p → p + d ≤ 500000 → acc.length + d ≤ 1000000 →
    ∃ up, Ev (fun k => spec_l11Up.l0 k acc (d : Int) l p) (up, p + d) ∧ up.length = acc.length + d := by
  intro d
  induction d with
  | zero =>
    intro acc p h0 h1 h2
    exact ⟨acc, Ev.step (fun k => by rw [spec_l11Up.l0]) (evF (by omega) (evE (Ev.now _) (by simp))), by omega⟩
  | succ d ih =>
    intro acc p h0 h1 h2
    obtain ⟨v, hv, _⟩ := pick_ev l hl p 4 h0 (by omega) (by omega)
    obtain ⟨up, hu, hul⟩ := ih (acc ++ [decide (v > 0)]) (p + 1) (by omega) (by omega) (by simp; omega)
    have e : wrap64 (((d + 1 : Nat) : Int) - 1) = (d : Int) := by rw [w64 (by omega) (by omega)]; omega
    refine ⟨up, Ev.step (fun k => by rw [spec_l11Up.l0]) ?_, by simp at hul; omega⟩
    refine evT (by omega) (Ev.bind hv ?_)
    refine evT (by omega) ?_
    rw [e]
    exact evE hu (by simp; omega)
theorem l11Up_ev (l : List Int) (hl : Bs l) (p : Int) (h0 : 0 ≤ p) (h1 : p ≤ 400000) :
    ∃ up q, Ev (fun k => spec_l11Up.f k l p) (up, q) ∧ up.length ≤ 9 ∧ p ≤ q ∧ q ≤ p + 10 := by
  obtain ⟨v, hv, hm⟩ := num_ev l hl p ([3, 4, 2, 8, 1, 5, 3, 4, 2, 8, 1, 5, 3, 0, 9] : List Int) h0 (by omega) (by simp) (by simp)
  have hb : 0 ≤ v ∧ v ≤ 9 := by simp at hm; omega
  obtain ⟨n, rfl⟩ := Int.eq_ofNat_of_zero_le hb.1
  obtain ⟨up, hu, hul⟩ := l11Up_l0 l hl n [] (p + 1) (by omega) (by omega) (by simp; omega)
  refine ⟨up, p + 1 + (n : Int), ?_, by simp at hul; omega, by omega, by omega⟩
  · simp only [spec_l11Up.f]
    exact Ev.bind hv hu
theorem drawShares_ev (l : List Int) (hb : ∀ x ∈ l, (Lit.int .u8 x).wf = true) : ∃ up, Ev (fun k => spec_DrawSharesOf.f k l) up ∧ up.length ≤ 9 := by
  obtain ⟨b, ho, hl⟩ := open_ev l hb
  obtain ⟨up, q, hu, hul, _⟩ := l11Up_ev b hl 0 (by omega) (by omega)
  refine ⟨up, ?_, hul⟩
  simp only [spec_DrawSharesOf.f]
  exact evS ho (Ev.bind hu (Ev.now _))
theorem drawMember_ev (l : List Int) (hb : ∀ x ∈ l, (Lit.int .u8 x).wf = true) : ∃ up f, Ev (fun k => spec_DrawMemberFor.f k l) (up, f) ∧ up.length ≤ 9 := by
  obtain ⟨b, ho, hl⟩ := open_ev l hb
  obtain ⟨up, q, hu, hul, _⟩ := l11Up_ev b hl 0 (by omega) (by omega)
  obtain ⟨v, hv, _⟩ := pick_ev b hl q 240 (by omega) (by omega) (by omega)
  obtain ⟨v2, hv2, _⟩ := pick_ev b hl (q + 1) 240 (by omega) (by omega) (by omega)
  obtain ⟨v3, hv3, _⟩ := num_ev b hl (q + 1 + 1) ([v, v2, 0, 239, 240, (-1)] : List Int) (by omega) (by omega) (by simp) (by simp)
  refine ⟨up, v3, ?_, hul⟩
  simp only [spec_DrawMemberFor.f]
  exact evS ho (Ev.bind hu (Ev.bind hv (Ev.bind hv2 (Ev.bind hv3 (Ev.now _)))))
theorem drawScore_ev (l : List Int) (hb : ∀ x ∈ l, (Lit.int .u8 x).wf = true) : ∃ f m, Ev (fun k => spec_DrawScoreOf.f k l) (f, m) := by
  obtain ⟨b, ho, hl⟩ := open_ev l hb
  obtain ⟨v, hv, _⟩ := pick_ev b hl 0 240 (by omega) (by omega) (by omega)
  obtain ⟨v2, hv2, _⟩ := num_ev b hl (0 + 1) ([v, 0, 239, 240, (-1)] : List Int) (by omega) (by omega) (by simp) (by simp)
  obtain ⟨v3, hv3, _⟩ := pick_ev b hl (0 + 1 + 1) 10 (by omega) (by omega) (by omega)
  refine ⟨v2, wrap64 (v3 - 1), ?_⟩
  simp only [spec_DrawScoreOf.f]
  exact evS ho (Ev.bind hv (Ev.bind hv2 (Ev.bind hv3 (Ev.now _))))
theorem drawFlow_ev (l : List Int) (hb : ∀ x ∈ l, (Lit.int .u8 x).wf = true) : ∃ a b, Ev (fun k => spec_DrawFlowOf.f k l) (a, b) := by
  obtain ⟨b, ho, hl⟩ := open_ev l hb
  obtain ⟨v, hv, _⟩ := pick_ev b hl 0 17 (by omega) (by omega) (by omega)
  obtain ⟨v2, hv2, _⟩ := pick_ev b hl (0 + 1) 18 (by omega) (by omega) (by omega)
  refine ⟨wrap64 (v - 1), wrap64 (v2 - 1), ?_⟩
  simp only [spec_DrawFlowOf.f]
  exact evS ho (Ev.bind hv (Ev.bind hv2 (Ev.now _)))
theorem drawMoved_ev (l : List Int) (hb : ∀ x ∈ l, (Lit.int .u8 x).wf = true) : ∃ a b, Ev (fun k => spec_DrawMovedFlows.f k l) (a, b) ∧ a.length ≤ 9 ∧ b.length ≤ 9 := by
  obtain ⟨c, ho, hl⟩ := open_ev l hb
  obtain ⟨a, q, hu, hul, _, _⟩ := l11Up_ev c hl 0 (by omega) (by omega)
  have last : ∀ (b : List Bool) (p : Int), b.length ≤ 9 → 0 ≤ p → p ≤ 1000 → ∃ b', Ev (fun k => spec_DrawMovedFlows.j0 k a b c p) (a, b') ∧ b'.length ≤ 9 := by
    intro b p hbl h0 h1
    obtain ⟨v, hv, _⟩ := pick_ev c hl p 8 h0 (by omega) (by omega)
    by_cases e : v = 0
    · obtain ⟨b', q', hu', hul', _⟩ := l11Up_ev c hl (p + 1) (by omega) (by omega)
      refine ⟨b', Ev.step (fun k => by rw [spec_DrawMovedFlows.j0]) ?_, hul'⟩
      refine Ev.bind hv (evT e ?_)
      exact Ev.bind hu' (Ev.now _)
    · exact ⟨b, Ev.step (fun k => by rw [spec_DrawMovedFlows.j0]) (Ev.bind hv (evF e (Ev.now _))), hbl⟩
  by_cases hz : (a.length : Int) > 0
  · obtain ⟨v, hv, h0, h1⟩ := pick_ev c hl q (a.length : Int) (by omega) (by omega) (by omega)
    obtain ⟨b', hj, hbl⟩ := last (a.set (v : Int).toNat (!(rdOf false a v))) (q + 1) (by simpa using hul) (by omega) (by omega)
    refine ⟨a, b', ?_, hul, hbl⟩
    simp only [spec_DrawMovedFlows.f]
    refine evS ho (Ev.bind hu (evS rfl (evT (by simp; omega) (evS rfl ?_))))
    simp only [List.nil_append]
    exact evT hz (Ev.bind hv (evT h0 (evT (h1 (by omega)) hj)))
  · obtain ⟨b', hj, hbl⟩ := last a q hul (by omega) (by omega)
    refine ⟨a, b', ?_, hul, hbl⟩
    simp only [spec_DrawMovedFlows.f]
    refine evS ho (Ev.bind hu (evS rfl (evT (by simp; omega) (evS rfl ?_))))
    simp only [List.nil_append]
    exact evF hz hj

end Go.Proofs.Ytdokfpdnejkhcaa.Q

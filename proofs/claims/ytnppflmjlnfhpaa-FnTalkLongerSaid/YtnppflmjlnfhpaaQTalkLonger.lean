/- Plain lemmas on what the printed functions compute (seat Ytnppflmjlnfhpaa, module QTalkLonger). Conditions: each lemma's own. -/
import Derived.Test.YtnppflmjlnfhpaaQu
import Derived.Test.YtnppflmjlnfhpaaPA0
import Derived.Test.YtnppflmjlnfhpaaPA2
import Derived.Test.YtnppflmjlnfhpaaPA5
import Derived.Test.YtnppflmjlnfhpaaPA7
set_option linter.unusedVariables false
set_option linter.unusedSimpArgs false
namespace Go.Proofs.Ytnppflmjlnfhpaa.Q
open Go Go.RowKit Go.Proofs.Ytnppflmjlnfhpaa.PA Go.Proofs.YtnppflmjlnfhpaaW.PrintWords Go.Proofs.YtnppflmjlnfhpaaW.PrintLast

theorem talk_ok {l0 l1 : List Int} {a2 : Int} (h : Tc l0 l1 a2) : ∃ dn : Bool, impl_RunTalk.f l0 l1 a2 = some ((spec_RunTalk.fin l0 l1 a2).order, (spec_RunTalk.fin l0 l1 a2).hits, (spec_RunTalk.fin l0 l1 a2).slots, dn, true) ∧ dn = decide ((spec_RunTalk.fin l0 l1 a2).qs.sum = 0) := by
  obtain ⟨p, dn, ok, h1, _, _, h3, h4⟩ := talk_ev l0 l1 a2
  cases ok with
  | false => exact absurd h (h4 rfl)
  | true =>
    obtain ⟨_, rfl, e⟩ := h3 rfl
    exact ⟨dn, h1, e⟩
theorem q_FnTalkLonger : laws_FnTalkLonger.Pure := by
  intro l hl1 hl2 hb
  refine Ev.rounds ?_
  simp only [laws_FnTalkLonger.f]
  by_cases h0 : (l.length : Int) > 1048576
  · exact evT h0 (Ev.now _)
  obtain ⟨qs, ds, m, hd, _⟩ := drawTalk_ev l hb
  obtain ⟨p, dn, ok, hi, hsp, hlen, hok, _⟩ := talk_ev qs ds m
  have hq : Ev (fun k => laws_wnInts.f k p.order p.order) true := evE (wnInts_ev _ _ (by omega)) (by simp)
  refine evF h0 (Ev.bind hd (evS hi (evS hsp ?_)))
  refine evF (by simp) (Ev.bind hq ?_)
  refine evT rfl ?_
  refine Ev.step (fun k => by rw [laws_FnTalkLonger.j0]) ?_
  cases ok with
  | false => exact evT rfl (evT (by simp) (Ev.bind hq (Ev.now _)))
  | true =>
    obtain ⟨hT, hp, hdn⟩ := hok rfl
    have ha := hT.a
    obtain ⟨a', ha'⟩ : ∃ a', a' = mn (wrap64 (2 * m)) 2000 := ⟨_, rfl⟩
    have hb' : m ≤ a' ∧ a' ≤ 2000 := by
      rw [ha', w64 (by omega) (by omega)]; unfold mn; split <;> omega
    have hT' : Tc qs ds a' := ⟨hT.1, hT.2.1, hT.2.2.1, decide_eq_true (by omega)⟩
    obtain ⟨dn2, hi2, _⟩ := talk_ok hT'
    have hf : spec_RunTalk.fin qs ds a' = Sk.run qs.length (a'.toNat - m.toNat) p := by
      rw [hp]
      unfold spec_RunTalk.fin
      rw [← run_add, show m.toNat + (a'.toNat - m.toNat) = a'.toNat by omega]
    refine evF (by simp) ?_
    rw [← ha']
    refine evS hi2 ?_
    rw [hf]
    have hlen2 : (Sk.run qs.length (a'.toNat - m.toNat) p).order.length ≤ 2000 := by
      have h1 := fin_inv hT'
      rw [hf] at h1
      have := h1.od
      have := h1.sl
      omega
    cases dn with
    | true =>
      have hz : p.qs.sum = 0 := of_decide_eq_true hdn.symm
      have hs := Sk.run_stop qs.length (s := p) (by omega) (a'.toNat - m.toNat)
      rw [hs]
      exact evT rfl (evT rfl (Ev.bind hq (evT rfl (evE (Ev.now _) (by simp)))))
    | false =>
      obtain ⟨⟨t, ht⟩, hh, _⟩ := run_pre qs.length (a'.toNat - m.toNat) p
      have hle : p.order.length ≤ (Sk.run qs.length (a'.toNat - m.toNat) p).order.length := by rw [ht, List.length_append]; omega
      have htk : (Sk.run qs.length (a'.toNat - m.toNat) p).order.take (((p.order.length : Int) : Int).toNat) = p.order := by
        rw [ht, Int.toNat_natCast, List.take_left']
        rfl
      refine evF (by simp) (evT rfl (evT (Int.ofNat_le.2 hle) (evT (Int.natCast_nonneg _) (evT (Int.ofNat_le.2 hle) ?_))))
      rw [htk]
      exact Ev.bind hq (evT rfl (evE (Ev.now _) (decide_eq_true hh)))

end Go.Proofs.Ytnppflmjlnfhpaa.Q

/- Plain lemmas on what the printed functions compute (seat Ytjnopjnickcloaa, module QToken). Conditions: each lemma's own. -/
import Derived.Test.YtjnopjnickcloaaQu
import Derived.Test.YtjnopjnickcloaaPA0
import Derived.Test.YtjnopjnickcloaaPA14
import Derived.Test.YtjnopjnickcloaaPA15
set_option linter.unusedVariables false
set_option linter.unusedSimpArgs false
namespace Go.Proofs.Ytjnopjnickcloaa.Q
open Go Go.RowKit Go.Proofs.Ytjnopjnickcloaa.PA Go.Proofs.YtjnopjnickcloaaW.PrintWords Go.Proofs.YtjnopjnickcloaaW.PrintLast

theorem fnToken_l0 (l : List Int) (hv : ∀ x ∈ l, 0 ≤ x ∧ x ≤ 9) (hl : l.length ≤ 6) (s : Int) (ro : List Int) (sl : Int) (h1 : (ro.length : Int) = sl) (h2 : sl = mn (tot l) s) : ∀ (d i : Nat) (acc : Int), i + d = l.length → 0 ≤ acc → acc ≤ 9 * i → acc + tot (l.drop i) = tot l →
    Ev (fun k => laws_FnToken.l0 k s acc l (l.length : Int) (i : Int) ro 0 sl (decide (s ≥ tot l))) true := by
  intro d
  induction d with
  | zero =>
    intro i acc hi h0 hb h3
    rw [List.drop_of_length_le (by omega)] at h3
    have : acc = tot l := by simpa [tot] using h3
    subst this
    refine Ev.step (fun k => by rw [laws_FnToken.l0]) ?_
    exact evF (by omega) (evT rfl (evT h1 (evT h2 (evE (Ev.now _) (by simp)))))
  | succ d ih =>
    intro i acc hi h0 hb h3
    have e : wrap64 ((i : Int) + 1) = ((i + 1 : Nat) : Int) := by rw [w64 (by omega) (by omega)]; omega
    have i1 : (i : Int) < (l.length : Int) := by omega
    have i0 : (0 : Int) ≤ (i : Int) := by omega
    have il : i < l.length := by omega
    have hx := hv (l[i]'il) (List.getElem_mem _)
    rw [List.drop_eq_getElem_cons il] at h3
    simp only [tot] at h3
    obtain ⟨x, hxe⟩ : ∃ x, x = l[i]'il := ⟨_, rfl⟩
    obtain ⟨T, hT⟩ : ∃ T, T = tot (l.drop (i + 1)) := ⟨_, rfl⟩
    obtain ⟨U, hU⟩ : ∃ U, U = tot l := ⟨_, rfl⟩
    rw [← hxe] at hx h3
    rw [← hT, ← hU] at h3
    refine Ev.step (fun k => by rw [laws_FnToken.l0]) ?_
    refine evT i1 (evT i0 (evT i1 ?_))
    rw [rd_at l i il, e, ← hxe]
    have b1 : acc + x ≤ 9 * ((i + 1 : Nat) : Int) := by clear hT hU h1 h2 ih hxe; omega
    have b0 : 0 ≤ acc + x := by clear hT hU h1 h2 ih hxe; omega
    have b2 : acc + x + T = U := by clear hT hU h1 h2 ih hxe; omega
    have b3 : i + 1 + d = l.length := by omega
    rw [w64 (x := acc + x) (by clear hT hU h1 h2 ih hxe; omega) (by clear hT hU h1 h2 ih hxe; omega)]
    exact ih (i + 1) (acc + x) b3 b0 b1 (by rw [← hT, ← hU]; exact b2)
theorem q_FnToken : laws_FnToken.Pure := by
  intro l hl1 hl2 hb
  refine Ev.rounds ?_
  simp only [laws_FnToken.f]
  by_cases h0 : (l.length : Int) > 1048576
  · exact evT h0 (Ev.now _)
  obtain ⟨qs, hold, s, hd, k1, _⟩ := drawToken_ev l hb
  obtain ⟨ro, sl, dn, ok, hi, hsp, hlen, hok⟩ := token_ev qs hold s (by omega)
  have hq : Ev (fun k => laws_wnInts.f k ro ro) true := evE (wnInts_ev _ _ (by omega)) (by simp)
  refine evF h0 (Ev.bind hd (Ev.bind hi (Ev.bind hsp ?_)))
  refine evF (by simp) (Ev.bind hq ?_)
  refine evT rfl (evT rfl (evF (by simp) ?_))
  cases ok with
  | false =>
    refine Ev.step (fun k => by rw [laws_FnToken.j0]) ?_
    refine evT rfl (evT rfl (Ev.bind hq ?_))
    exact evT rfl (evT rfl (evE (Ev.now _) (by simp)))
  | true =>
    obtain ⟨hv, hl6, e1, e2, e3⟩ := hok rfl
    refine Ev.step (fun k => by rw [laws_FnToken.j0]) ?_
    refine evF (by simp) ?_
    rw [e3]
    exact fnToken_l0 qs hv hl6 s ro sl e1 e2 qs.length 0 0 (by omega) (by omega) (by omega) (by simp)

end Go.Proofs.Ytjnopjnickcloaa.Q

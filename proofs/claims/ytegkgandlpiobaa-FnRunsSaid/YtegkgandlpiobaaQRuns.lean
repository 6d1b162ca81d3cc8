/- Plain lemmas on what the printed functions compute (seat Ytegkgandlpiobaa, module QRuns). Conditions: each lemma's own. -/
import Derived.Test.YtegkgandlpiobaaQe
import Derived.Test.YtegkgandlpiobaaPA0
import Derived.Test.YtegkgandlpiobaaPA13
import Derived.Test.YtegkgandlpiobaaPA14
set_option linter.unusedVariables false
set_option linter.unusedSimpArgs false
namespace Go.Proofs.Ytegkgandlpiobaa.Q
open Go Go.RowKit Go.Proofs.Ytegkgandlpiobaa.PA Go.Proofs.YtegkgandlpiobaaW.PrintWords Go.Proofs.YtegkgandlpiobaaW.PrintLast

theorem fnRuns_l1 (l rs : List Int) (s : Nat) (n : Nat) (i : Int) (h1 : 1 ≤ n) (he : s + n ≤ l.length) (hl : l.length ≤ 1000000000000)
    (heq : ∀ j, j < n → l.getD (s + j) 0 = l.getD s 0) (hne : 0 < s → l.getD (s - 1) 0 ≠ l.getD s 0) (len : Int) {r : Bool}
    (h : Ev (fun k => laws_FnRuns.l0 k l ((s + n : Nat) : Int) rs len (wrap64 (i + 1))) r) :
    ∀ (d j : Nat), j + d = n → Ev (fun k => laws_FnRuns.l1 k l (s : Int) (n : Int) rs len i (n : Int) (j : Int)) r := by
  intro d
  induction d with
  | zero =>
    intro j hj
    have e : wrap64 ((s : Int) + (n : Int)) = ((s + n : Nat) : Int) := by rw [w64 (by omega) (by omega)]; omega
    refine Ev.step (fun k => by rw [laws_FnRuns.l1]) ?_
    refine evF (by omega) (evF (by omega) ?_)
    by_cases h0 : 0 < s
    · have e2 : wrap64 ((s : Int) - 1) = ((s - 1 : Nat) : Int) := by rw [w64 (by omega) (by omega)]; omega
      refine evT (by omega) ?_
      rw [e2, rdN, rdN, e]
      exact evT (by omega) (evT (by omega) (evT (by omega) (evT (by omega) (evF (hne h0) h))))
    · refine evF (by omega) ?_
      rw [e]
      exact h
  | succ d ih =>
    intro j hj
    have e : wrap64 ((s : Int) + (j : Int)) = ((s + j : Nat) : Int) := by rw [w64 (by omega) (by omega)]; omega
    have e2 : wrap64 ((j : Int) + 1) = ((j + 1 : Nat) : Int) := by rw [w64 (by omega) (by omega)]; omega
    refine Ev.step (fun k => by rw [laws_FnRuns.l1]) ?_
    rw [e, rdN, rdN, e2]
    exact evT (by omega) (evT (by omega) (evT (by omega) (evT (by omega) (evT (by omega) (evT (heq j (by omega)) (ih (j + 1) (by omega)))))))
theorem fnRuns_l0 (l : List Int) (hl : l.length ≤ 1000000000000) (rs : List Int) (hrl : rs.length ≤ 1000000000000) : ∀ (post pre : List Int) (s : Nat), rs = pre ++ post → IsRuns l s post l.length →
    Ev (fun k => laws_FnRuns.l0 k l (s : Int) rs (rs.length : Int) (pre.length : Int)) true := by
  intro post
  induction post with
  | nil =>
    intro pre s hp h
    have h' : s = l.length := h
    refine Ev.step (fun k => by rw [laws_FnRuns.l0]) ?_
    refine evF (by simp [hp]) (evE (Ev.now _) ?_)
    subst h'; simp
  | cons n post ih =>
    intro pre s hp h
    have hlen : rs.length = pre.length + (post.length + 1) := by simp [hp]
    have e : rd rs (pre.length : Int) = n := by rw [rd_at rs pre.length (by omega)]; simp [hp]
    have hle := h.2.2.2.le
    have h1 := h.1
    obtain ⟨m, rfl⟩ := Int.eq_ofNat_of_zero_le (show 0 ≤ n by omega)
    have e2 : wrap64 ((pre.length : Int) + 1) = (((pre ++ [((m : Nat) : Int)]).length : Nat) : Int) := by rw [w64 (by omega) (by omega)]; simp
    refine Ev.step (fun k => by rw [laws_FnRuns.l0]) ?_
    refine evT (by omega) (evT (by omega) (evT (by omega) ?_))
    rw [e]
    refine fnRuns_l1 l rs s m (pre.length : Int) (by omega) (by simpa using hle) hl (by simpa using h.2.1) h.2.2.1 _ ?_ m 0 (by omega)
    rw [e2]
    have := ih (pre ++ [((m : Nat) : Int)]) (s + m) (by simp [hp]) (by simpa using h.2.2.2)
    exact this
theorem q_FnRuns : laws_FnRuns.Pure := by
  intro l hl1 hl2 hb
  refine Ev.rounds ?_
  simp only [laws_FnRuns.f]
  by_cases h0 : (l.length : Int) > 1048576
  · exact evT h0 (Ev.now _)
  obtain ⟨ts, w, hd, k1, _⟩ := drawLevelsFrom_ev l hb
  have hd2 : Ev (fun k => spec_DrawRunsOf.f k l) ts := by
    simp only [spec_DrawRunsOf.f]
    exact Ev.bind hd (Ev.now _)
  have hs := (runsTo_len ts ts.length).1
  have hs' : (runs ts).length ≤ ts.length := hs
  refine evF h0 (Ev.bind hd2 (Ev.bind (implRuns_ev ts (by omega)) (Ev.bind (specRuns_ev ts (by omega)) (Ev.bind (evE (wnInts_ev _ _ (by omega)) (by simp : _ = true)) ?_))))
  refine evT rfl ?_
  exact fnRuns_l0 ts (by omega) (runs ts) (by omega) (runs ts) [] 0 (by simp) (runs_is ts)

end Go.Proofs.Ytegkgandlpiobaa.Q

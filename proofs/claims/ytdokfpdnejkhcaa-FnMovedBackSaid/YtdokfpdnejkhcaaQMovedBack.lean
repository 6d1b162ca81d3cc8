/- Plain lemmas on what the printed functions compute (seat Ytdokfpdnejkhcaa, module QMovedBack). Conditions: each lemma's own. -/
import Derived.Test.YtdokfpdnejkhcaaQd
import Derived.Test.YtdokfpdnejkhcaaPA0
import Derived.Test.YtdokfpdnejkhcaaPA10
import Derived.Test.YtdokfpdnejkhcaaPA17
set_option linter.unusedVariables false
set_option linter.unusedSimpArgs false
namespace Go.Proofs.Ytdokfpdnejkhcaa.Q
open Go Go.RowKit Go.Proofs.Ytdokfpdnejkhcaa.PA Go.Proofs.YtdokfpdnejkhcaaW.PrintWords Go.Proofs.YtdokfpdnejkhcaaW.PrintLast

theorem q_FnMovedBack : laws_FnMovedBack.Pure := by
  intro l hl1 hl2 hb
  refine Ev.rounds ?_
  simp only [laws_FnMovedBack.f]
  by_cases h0 : (l.length : Int) > 1048576
  · exact evT h0 (Ev.now _)
  obtain ⟨a, b, hd, hal, _⟩ := drawMoved_ev l hb
  have hlen := shares_length a
  have hle : (shares a).length ≤ 1000000000000 := by rw [hlen]; split <;> omega
  have hw : Ev (fun k => laws_wnInts.f k (shares a) (shares a)) true := evE (wnInts_ev _ _ hle) (by simp)
  refine evF h0 (Ev.bind hd (Ev.bind (implShares_ev a) (Ev.bind (specShares_ev a) (Ev.bind hw (evT rfl ?_)))))
  refine Ev.step (fun k => by rw [laws_FnMovedBack.j0]) ?_
  by_cases hB : isB a
  · have h1 := hB.1
    have h8 := hB.2
    refine evF (fun e => by rw [hlen, if_pos hB, beq_iff_eq] at e; omega) ?_
    have hq : 0 ≤ (l.length : Int) % (a.length : Int) ∧ (l.length : Int) % (a.length : Int) < (a.length : Int) := ⟨Int.emod_nonneg _ (by omega), Int.emod_lt_of_pos _ (by omega)⟩
    obtain ⟨q, hqe⟩ := Int.eq_ofNat_of_zero_le hq.1
    rw [hqe] at hq ⊢
    have hqa : q < a.length := by omega
    have hq2 : (q : Int) < (a.length : Int) := hq.2
    refine evS rfl (evT (by simp; omega) ?_)
    refine evS rfl ?_
    refine evF (show ¬ ((a.length : Int) = 0) by omega) ?_
    refine evT (by omega) ?_
    refine evT (by simpa using hqa) (evS rfl (evS rfl ?_))
    refine evT (by simp; omega) (evS rfl ?_)
    refine evT (by simpa using hqa) (evS rfl ?_)
    simp only [List.nil_append]
    have eb : a.set ((q : Int) : Int).toNat (!(rdOf false a (q : Int))) = a.set q (!(a[q]'hqa)) := by rw [rdOf_at false a q hqa]; rfl
    rw [eb]
    have ec : (a.set q (!(a[q]'hqa))).set ((q : Int) : Int).toNat (!(rdOf false (a.set q (!(a[q]'hqa))) (q : Int))) = a := by
      rw [rdOf_at false _ q (by simpa using hqa)]
      simp
    rw [ec]
    have hself : moved a a = 0 := by
      rcases moved_self a with h | h
      · exact absurd h (by unfold moved; rw [if_pos ⟨hB, rfl⟩]; have := sumTo_bd (mv_bd a a) 225; omega)
      · exact h
    refine Ev.bind (implMoved_ev a a) (evT hself (Ev.bind (implMoved_ev a _) (Ev.bind (implMoved_ev _ a) (evT (moved_comm _ _) (Ev.bind (implMoved_ev a a) (evE (Ev.now _) (by rw [hself]; rfl)))))))
  · have e : (shares a).length = 0 := by rw [hlen, if_neg hB]
    refine evT (by simp [e]) (Ev.bind (specShares_ev a) (Ev.bind hw (Ev.now _)))

end Go.Proofs.Ytdokfpdnejkhcaa.Q

/- Plain lemmas on what the printed functions compute (seat Ytjnopjnickcloaa, module QTokenFair). Conditions: each lemma's own. -/
import Derived.Test.YtjnopjnickcloaaQFair
import Derived.Test.YtjnopjnickcloaaPA0
import Derived.Test.YtjnopjnickcloaaPA10
import Derived.Test.YtjnopjnickcloaaPA11
import Derived.Test.YtjnopjnickcloaaPA13
import Derived.Test.YtjnopjnickcloaaPA14
import Derived.Test.YtjnopjnickcloaaPA20
import Derived.Test.YtjnopjnickcloaaPA9
set_option linter.unusedVariables false
set_option linter.unusedSimpArgs false
namespace Go.Proofs.Ytjnopjnickcloaa.Q
open Go Go.RowKit Go.Proofs.Ytjnopjnickcloaa.PA Go.Proofs.YtjnopjnickcloaaW.PrintWords Go.Proofs.YtjnopjnickcloaaW.PrintLast

theorem cn_bd (o : List Int) (k : Nat) : 0 ≤ cn o k ∧ cn o k ≤ o.length := sumTo_bd (isAt_bd o k) o.length
theorem token_fair_ev (l : List Int) (hold s : Int) (hl : l.length ≤ 1000000000000) : ∃ ro : List Int, ∃ sl : Int, ∃ dn ok : Bool, Ev (fun k => impl_RunToken.f k l hold s) (ro, 0, sl, dn, ok) ∧ Ev (fun k => spec_RunToken.f k l hold s) (ro, 0, sl, dn, ok) ∧ ro.length ≤ 2000 ∧
    (ok = true → (∀ x ∈ l, 0 ≤ x ∧ x ≤ 9) ∧ l.length ≤ 6 ∧ (ro.length : Int) = sl ∧ sl = mn (tot l) s ∧ dn = decide (s ≥ tot l) ∧ 1 ≤ hold ∧ hold ≤ 9 ∧ PF l hold.toNat ro) := by
  have hsl : impl_slotsOk.f s = some (decide (0 ≤ s ∧ s ≤ 2000)) := by unfold impl_slotsOk.f; rw [within_eq]; rfl
  by_cases hc : tv l = true ∧ (1 ≤ hold ∧ hold ≤ 9) ∧ (0 ≤ s ∧ s ≤ 2000)
  · obtain ⟨c1, c2, c3⟩ := hc
    obtain ⟨hl6, hv'⟩ := tv_elim l c1
    have hv : ∀ x ∈ l, 0 ≤ x ∧ x ≤ 9 := fun x hx => by
      obtain ⟨i, hi', rfl⟩ := List.getElem_of_mem hx
      exact hv' i hi'
    obtain ⟨h, rfl⟩ := Int.eq_ofNat_of_zero_le (show 0 ≤ hold by omega)
    have hg : Good s l [] := ⟨hv, by simp; omega⟩
    obtain ⟨rl, ro, ht⟩ := tok_ex (h := h) (s := s) (by omega) (tot l).toNat l [] hg (Nat.le_refl _)
    obtain ⟨g1, g2, g3⟩ := tok_end ht hg
    have hb := tot_bd g1.1
    have hro := g1.2
    refine ⟨ro, (ro.length : Int), (tot rl == 0), true, ?_, ?_, by omega, fun _ => ⟨hv, hl6, rfl, ?_, ?_, by omega, by omega, ?_⟩⟩
    · simp only [impl_RunToken.f]
      refine evS (implTalk_eq l) (evT c1 (evS (within_eq _ _ _) (evT (decide_eq_true c2) (evS hsl ?_))))
      rw [decide_eq_true c3]
      refine Ev.step (fun k => by rw [impl_RunToken.j0]) ?_
      refine evF (by simp) (evS (show slices_Clone_int_int.f l = some l by unfold slices_Clone_int_int.f; rw [if_pos (by omega)]) ?_)
      exact implTot_l0 _ s l hv hl6 (implTok (by omega) (by omega) ht hl6 (fun h => h) hg) l.length 0 0 (by omega) (by omega) (by omega) (by simp)
    · simp only [spec_RunToken.f]
      refine Ev.bind (specTalk_ev l hl) (evT c1 (evS (l1In_eq _ _ _) (evT (decide_eq_true c2) (evS (l1In_eq _ _ _) ?_))))
      rw [decide_eq_true c3]
      refine Ev.step (fun k => by rw [spec_RunToken.j0]) ?_
      refine evF (by simp) (evS rfl (evT (by simp; omega) ?_))
      exact specStart (by omega) (by omega) ht hl6 hg
    · simp only [List.length_nil] at g3
      unfold mn
      rcases g2 with g2 | g2
      · split <;> omega
      · split <;> omega
    · simp only [List.length_nil] at g3
      rw [Bool.eq_iff_iff, beq_iff_eq, decide_eq_true_eq]
      rcases g2 with g2 | g2 <;> omega
    · refine tok_fair (by omega) ht hg ⟨rfl, fun k hk => by rw [cn_nil]; omega⟩ (fun i hi a b ha hb hne hlt => ?_) (by omega) 0 (fun k hk => ?_)
      · have : i = 0 := by simpa using hi
        subst this
        rw [List.take_zero]
        have h1 := cn_nil a
        have h2 := cn_nil b
        omega
      · rw [cn_nil, if_neg (by omega)]
        have := hv' k hk
        rw [getD_at l k hk]
        omega
  · refine ⟨[], 0, false, false, ?_, ?_, by simp, fun h => by cases h⟩
    · have out : Ev (fun k => impl_RunToken.j0 k l hold s true) (([] : List Int), (0 : Int), (0 : Int), false, false) := by
        refine Ev.step (fun k => by rw [impl_RunToken.j0]) ?_
        exact evT rfl (Ev.now _)
      simp only [impl_RunToken.f]
      refine evS (implTalk_eq l) ?_
      by_cases c1 : tv l = true
      · refine evT c1 (evS (within_eq _ _ _) ?_)
        by_cases c2 : 1 ≤ hold ∧ hold ≤ 9
        · refine evT (decide_eq_true c2) (evS hsl ?_)
          rw [decide_eq_false (fun c3 => hc ⟨c1, c2, c3⟩)]
          exact out
        · exact evF (by simpa using c2) out
      · exact evF c1 out
    · have out : Ev (fun k => spec_RunToken.j0 k l hold s true) (([] : List Int), (0 : Int), (0 : Int), false, false) := by
        refine Ev.step (fun k => by rw [spec_RunToken.j0]) ?_
        exact evT rfl (Ev.now _)
      simp only [spec_RunToken.f]
      refine Ev.bind (specTalk_ev l hl) ?_
      by_cases c1 : tv l = true
      · refine evT c1 (evS (l1In_eq _ _ _) ?_)
        by_cases c2 : 1 ≤ hold ∧ hold ≤ 9
        · refine evT (decide_eq_true c2) (evS (l1In_eq _ _ _) ?_)
          rw [decide_eq_false (fun c3 => hc ⟨c1, c2, c3⟩)]
          exact out
        · exact evF (by simpa using c2) out
      · exact evF c1 out

theorem sent_eq (o : List Int) (n : Nat) (hn : n ≤ 6) : sent o (n : Int) = row (isAt o) n o.length := by
  unfold sent
  rw [if_pos (by omega)]
  simp
theorem row_cn (o : List Int) (n k : Nat) (hk : k < n) : (row (isAt o) n o.length).getD k 0 = cn o k := by
  rw [getD_at _ _ (by rw [row_length]; exact hk), row_get]
  rfl
theorem fair_l2 (q : List Int) (h : Nat) (o ro : List Int) (x66 x67 c1 c2 : Int) (c3 : Bool) (hq : q.length ≤ 6) (hh : h ≤ 9) (hol : o.length ≤ 2000) (hf : FairO q h o) (a : Nat) (ha : a < q.length)
    (hn : Ev (fun k => laws_FnTokenFair.l1 k q (h : Int) (row (isAt o) q.length o.length) x66 x67 (row (isAt o) q.length o.length) ((row (isAt o) q.length o.length).length : Int) ((a + 1 : Nat) : Int) ro c1 c2 c3) true) : ∀ (d b : Nat), b + d = q.length →
    Ev (fun k => laws_FnTokenFair.l2 k q (h : Int) (row (isAt o) q.length o.length) (a : Int) (rd (row (isAt o) q.length o.length) (a : Int)) x66 x67 (row (isAt o) q.length o.length) ((row (isAt o) q.length o.length).length : Int) (a : Int) (row (isAt o) q.length o.length) ((row (isAt o) q.length o.length).length : Int) (b : Int) ro c1 c2 c3) true := by
  intro d
  induction d with
  | zero =>
    intro b hb
    refine Ev.step (fun k => by rw [laws_FnTokenFair.l2]) ?_
    refine evF (by rw [row_length]; omega) ?_
    rw [w64 (by omega) (by omega), show (a : Int) + 1 = ((a + 1 : Nat) : Int) by omega]
    exact hn
  | succ d ih =>
    intro b hb
    have e : wrap64 ((b : Int) + 1) = ((b + 1 : Nat) : Int) := by rw [w64 (by omega) (by omega)]; omega
    have nx := ih (b + 1) (by omega)
    refine Ev.step (fun k => by rw [laws_FnTokenFair.l2]) ?_
    refine evT (by rw [row_length]; omega) (evT (by omega) (evT (by rw [row_length]; omega) (evT (by omega) ?_)))
    rw [e, rd_getD, rd_getD, rd_getD, row_cn o q.length b (by omega), row_cn o q.length a ha]
    rw [rd_getD, row_cn o q.length a ha] at nx
    have hb0 := cn_bd o b
    by_cases g1 : cn o b < q.getD b 0
    · refine evT g1 ?_
      rw [w64 (by omega) (by omega)]
      by_cases g2 : cn o a > cn o b + (h : Int)
      · refine evT g2 ?_
        have : (a : Int) = (b : Int) := by
          rcases Decidable.em (a = b) with e' | e'
          · omega
          · have := hf a b ha (by omega) e' g1
            omega
        exact evT this nx
      · exact evF g2 nx
    · exact evF g1 nx
theorem fair_l1 (q : List Int) (h : Nat) (o ro : List Int) (x66 x67 c1 c2 : Int) (c3 : Bool) (hq : q.length ≤ 6) (hh : h ≤ 9) (hol : o.length ≤ 2000) (hf : FairO q h o)
    (hn : Ev (fun k => laws_FnTokenFair.l0 k q (h : Int) x66 (wrap64 (x67 + 1)) ro c1 c2 c3) true) : ∀ (d a : Nat), a + d = q.length →
    Ev (fun k => laws_FnTokenFair.l1 k q (h : Int) (row (isAt o) q.length o.length) x66 x67 (row (isAt o) q.length o.length) ((row (isAt o) q.length o.length).length : Int) (a : Int) ro c1 c2 c3) true := by
  intro d
  induction d with
  | zero =>
    intro a ha
    refine Ev.step (fun k => by rw [laws_FnTokenFair.l1]) ?_
    exact evF (by rw [row_length]; omega) hn
  | succ d ih =>
    intro a ha
    refine Ev.step (fun k => by rw [laws_FnTokenFair.l1]) ?_
    refine evT (by rw [row_length]; omega) (evT (by omega) (evT (by rw [row_length]; omega) ?_))
    have := fair_l2 q h o ro x66 x67 c1 c2 c3 hq hh hol hf a (by omega) (ih (a + 1) (by omega)) q.length 0 (by omega)
    exact this
theorem fair_l0 (q : List Int) (h : Nat) (ro : List Int) (c1 c2 : Int) (c3 : Bool) (hq : q.length ≤ 6) (hh : h ≤ 9) (hol : ro.length ≤ 2000) (hf : PF q h ro) : ∀ (d i : Nat), i + d = ro.length →
    Ev (fun k => laws_FnTokenFair.l0 k q (h : Int) (ro.length : Int) (i : Int) ro c1 c2 c3) true := by
  intro d
  induction d with
  | zero =>
    intro i hi
    refine Ev.step (fun k => by rw [laws_FnTokenFair.l0]) ?_
    exact evF (by omega) (Ev.now _)
  | succ d ih =>
    intro i hi
    have e : wrap64 ((i : Int) + 1) = ((i + 1 : Nat) : Int) := by rw [w64 (by omega) (by omega)]; omega
    have htl : (ro.take i).length ≤ 2000 := by rw [List.length_take]; omega
    refine Ev.step (fun k => by rw [laws_FnTokenFair.l0]) ?_
    refine evT (by omega) (evT (by omega) (evT (by omega) ?_))
    rw [Int.toNat_natCast]
    refine Ev.bind (implSent_ev (ro.take i) (by omega) (q.length : Int)) ?_
    rw [sent_eq _ _ hq]
    exact fair_l1 q h (ro.take i) ro _ _ c1 c2 c3 hq hh htl (hf i (by omega)) (by rw [e]; exact ih (i + 1) (by omega)) q.length 0 (by omega)
theorem q_FnTokenFair : laws_FnTokenFair.Pure := by
  intro l hl1 hl2 hb
  refine Ev.rounds ?_
  simp only [laws_FnTokenFair.f]
  by_cases h0 : (l.length : Int) > 1048576
  · exact evT h0 (Ev.now _)
  obtain ⟨qs, hold, s, hd, k1, _⟩ := drawToken_ev l hb
  obtain ⟨ro, sl, dn, ok, hi, hsp, hlen, hok⟩ := token_fair_ev qs hold s (by omega)
  have hq : Ev (fun k => laws_wnInts.f k ro ro) true := evE (wnInts_ev _ _ (by omega)) (by simp)
  refine evF h0 (Ev.bind hd (Ev.bind hi (Ev.bind hsp ?_)))
  refine evF (by simp) (Ev.bind hq ?_)
  refine evT rfl ?_
  cases ok with
  | false =>
    refine Ev.step (fun k => by rw [laws_FnTokenFair.j0]) ?_
    refine evT rfl (evT rfl (Ev.bind hq ?_))
    exact Ev.now _
  | true =>
    obtain ⟨hv, hl6, e1, e2, e3, g1, g2, g3⟩ := hok rfl
    obtain ⟨h, rfl⟩ := Int.eq_ofNat_of_zero_le (show 0 ≤ hold by omega)
    refine Ev.step (fun k => by rw [laws_FnTokenFair.j0]) ?_
    refine evF (by simp) ?_
    exact fair_l0 qs h ro 0 sl dn hl6 (by omega) hlen g3 ro.length 0 (by omega)

end Go.Proofs.Ytjnopjnickcloaa.Q

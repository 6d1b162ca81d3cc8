/- Plain lemmas on what the printed functions compute (seat Ytnppflmjlnfhpaa, module QTalkAlone). Conditions: each lemma's own. -/
import Derived.Test.YtnppflmjlnfhpaaQu
import Derived.Test.YtnppflmjlnfhpaaPA0
import Derived.Test.YtnppflmjlnfhpaaPA1
import Derived.Test.YtnppflmjlnfhpaaPA6
set_option linter.unusedVariables false
set_option linter.unusedSimpArgs false
namespace Go.Proofs.Ytnppflmjlnfhpaa.Q
open Go Go.RowKit Go.Proofs.Ytnppflmjlnfhpaa.PA Go.Proofs.YtnppflmjlnfhpaaW.PrintWords Go.Proofs.YtnppflmjlnfhpaaW.PrintLast

theorem l1In_eq (a b c : Int) : spec_l1In.f a b c = some (decide (b ≤ a ∧ a ≤ c)) := by
  unfold spec_l1In.f
  by_cases h : a ≥ b
  · rw [if_pos h]; simp; omega
  · rw [if_neg h]; simp; omega
/-- are these queues? -/
def tv (l : List Int) : Bool := decide ((l.length : Int) ≤ 6) && l.all (fun n => decide (0 ≤ n ∧ n ≤ 9))
theorem implTalk_eq (l : List Int) : impl_TalkValid.f l = some (tv l) := rfl
theorem specTalk_l0 (l : List Int) (hl : l.length ≤ 1000000000000) : ∀ (d i : Nat), i + d = l.length →
    Ev (fun k => spec_TalkValid.l0 k l (i : Int)) (decide ((l.length : Int) ≤ 6) && (l.drop i).all (fun n => decide (0 ≤ n ∧ n ≤ 9))) := by
  intro d
  induction d with
  | zero =>
    intro i hi
    refine Ev.step (fun k => by rw [spec_TalkValid.l0]) ?_
    refine evF (by omega) (evE (Ev.now _) ?_)
    rw [List.drop_of_length_le (by omega)]
    simp
  | succ d ih =>
    intro i hi
    have ha : l.drop i = l[i]'(by omega) :: l.drop (i + 1) := List.drop_eq_getElem_cons (by omega)
    have e : wrap64 ((i : Int) + 1) = ((i + 1 : Nat) : Int) := by rw [w64 (by omega) (by omega)]; omega
    refine Ev.step (fun k => by rw [spec_TalkValid.l0]) ?_
    refine evT (by omega) (evT (by omega) ?_)
    rw [rd_at l i (by omega), e, ha]
    refine evS (l1In_eq _ _ _) ?_
    by_cases h : 0 ≤ l[i]'(by omega) ∧ l[i]'(by omega) ≤ 9
    · refine evT (decide_eq_true h) (evE (ih (i + 1) (by omega)) ?_)
      rw [List.all_cons, decide_eq_true h]; simp
    · refine evF (by simpa using h) (evE (Ev.now _) ?_)
      rw [List.all_cons, decide_eq_false h]; simp
theorem specTalk_ev (l : List Int) (hl : l.length ≤ 1000000000000) : Ev (fun k => spec_TalkValid.f k l) (tv l) := by
  simp only [spec_TalkValid.f]
  exact specTalk_l0 l hl l.length 0 (by omega)
theorem tv_elim (l : List Int) (h : tv l = true) : l.length ≤ 6 ∧ ∀ (i : Nat) (hi : i < l.length), 0 ≤ l[i] ∧ l[i] ≤ 9 := by
  unfold tv at h
  rw [Bool.and_eq_true] at h
  refine ⟨by have := of_decide_eq_true h.1; omega, fun i hi => ?_⟩
  have := List.all_eq_true.1 h.2 l[i] (List.getElem_mem _)
  exact of_decide_eq_true this

/-! ### a station alone -/
theorem getD_rep (n i : Nat) : (List.replicate n (0 : Int)).getD i 0 = 0 := by
  rw [List.getD_eq_getElem?_getD, List.getElem?_replicate]; split <;> rfl
theorem set_rep (n k : Nat) : (List.replicate n (0 : Int)).set k 0 = List.replicate n 0 := by
  have := Rk.set_same (List.replicate n (0 : Int)) k
  rw [getD_rep] at this
  exact this
theorem sum_rep (n : Nat) : (List.replicate n (0 : Int)).sum = 0 := by
  induction n with
  | zero => rfl
  | succ n ih => rw [List.replicate_succ, List.sum_cons, ih]; rfl
theorem sum_one (v : Int) : ∀ n k : Nat, k < n → ((List.replicate n (0 : Int)).set k v).sum = v := by
  intro n
  induction n with
  | zero => intro k h; omega
  | succ n ih =>
    intro k h
    rw [List.replicate_succ]
    match k with
    | 0 => rw [List.set_cons_zero, List.sum_cons, sum_rep]; omega
    | k + 1 => rw [List.set_cons_succ, List.sum_cons, ih k (by omega)]; omega
theorem getD_one (n k i : Nat) (v : Int) (h : k < n) : ((List.replicate n (0 : Int)).set k v).getD i 0 = if k = i then v else 0 := by
  rw [Sk.getD_set _ k i v (by rw [List.length_replicate]; exact h), getD_rep]
/-- the state after j slots: k has sent j of its Q -/
def al (n k Q : Nat) (ds : List Int) (j : Nat) : Sk.Sp := ⟨List.replicate j (k : Int), 0, (j : Int), (List.replicate n (0 : Int)).set k ((Q - j : Nat) : Int), List.replicate n 0, List.replicate n 0, ds⟩
theorem al_now (n k Q : Nat) (ds : List Int) (j : Nat) (hk : k < n) (hj : j < Q) : ∀ m : Nat, Sk.now (al n k Q ds j).qs (al n k Q ds j).ws m = if k < m then [(k : Int)] else [] := by
  intro m
  induction m with
  | zero => rfl
  | succ m ih =>
    rw [Sk.now, ih]
    have e : Sk.nowP ((al n k Q ds j).qs.getD m 0) ((al n k Q ds j).ws.getD m 0) = decide (k = m) := by
      show Sk.nowP (((List.replicate n (0 : Int)).set k ((Q - j : Nat) : Int)).getD m 0) ((List.replicate n (0 : Int)).getD m 0) = _
      rw [getD_one n k m _ hk, getD_rep]
      unfold Sk.nowP
      by_cases c : k = m
      · rw [if_pos c, decide_eq_true (show (0 : Int) < ((Q - j : Nat) : Int) by omega), decide_eq_true c]; rfl
      · rw [if_neg c, decide_eq_false c]; rfl
    rw [e]
    by_cases c : k = m
    · subst c
      rw [if_neg (Nat.lt_irrefl k), decide_eq_true rfl, if_pos rfl, if_pos (Nat.lt_succ_self k)]; rfl
    · rw [decide_eq_false c, if_neg Bool.false_ne_true, List.append_nil]
      by_cases c2 : k < m
      · rw [if_pos c2, if_pos (by omega)]
      · rw [if_neg c2, if_neg (by omega)]
theorem al_dec (n : Nat) (s : Sk.Sp) : ∀ j, Sk.decL (List.replicate n 0) s j = s := by
  intro j
  induction j with
  | zero => rfl
  | succ j ih =>
    rw [Sk.decL, ih]
    unfold Sk.decS
    rw [getD_rep, if_neg (by omega)]
theorem al_slot (n k Q : Nat) (ds : List Int) (j : Nat) (hk : k < n) (hj : j < Q) : Sk.slot n (al n k Q ds j) = al n k Q ds (j + 1) := by
  have hm := Sk.mid_def n (al n k Q ds j) _ (al_now n k Q ds j hk hj n)
  rw [if_pos hk, if_pos (by rfl)] at hm
  unfold Sk.slot
  rw [hm]
  show ({ Sk.decL (List.replicate n 0) _ n with slots := _ } : Sk.Sp) = _
  rw [al_dec]
  unfold al
  simp only [List.headD_cons, Int.toNat_natCast, set_rep]
  rw [getD_one n k k _ hk, if_pos rfl, List.set_set, show (((Q - j : Nat) : Int) - 1) = ((Q - (j + 1) : Nat) : Int) by omega, List.replicate_succ' (n := j)]
  congr 1
theorem al_run (n k Q : Nat) (ds : List Int) (hk : k < n) (e : Nat) : ∀ d j : Nat, j + d = Q → Sk.run n (d + e) (al n k Q ds j) = al n k Q ds Q := by
  intro d
  induction d with
  | zero =>
    intro j hj
    obtain rfl : j = Q := by omega
    rw [Nat.zero_add]
    refine Sk.run_stop n ?_ e
    show ¬ 0 < ((List.replicate n (0 : Int)).set k ((j - j : Nat) : Int)).sum
    rw [sum_one _ n k hk]
    omega
  | succ d ih =>
    intro j hj
    rw [show d + 1 + e = (d + e) + 1 by omega, Sk.run, if_pos (by
      show 0 < ((List.replicate n (0 : Int)).set k ((Q - j : Nat) : Int)).sum
      rw [sum_one _ n k hk]
      omega), al_slot n k Q ds j hk (by omega)]
    exact ih (j + 1) (by omega)
theorem al_fin (n k Q : Nat) (ds : List Int) (hk : k < n) (hQ : Q ≤ 9) : spec_RunTalk.fin ((List.replicate n (0 : Int)).set k (Q : Int)) ds 2000 = al n k Q ds Q := by
  unfold spec_RunTalk.fin
  rw [List.length_set, List.length_replicate, show (2000 : Int).toNat = Q + (2000 - Q) by omega]
  exact al_run n k Q ds hk (2000 - Q) Q 0 (by omega)
theorem q_FnTalkAlone : laws_FnTalkAlone.Pure := by
  intro l hl1 hl2 hb
  refine Ev.rounds ?_
  simp only [laws_FnTalkAlone.f]
  by_cases h0 : (l.length : Int) > 1048576
  · exact evT h0 (Ev.now _)
  obtain ⟨qs, ds, m, hd, hqs⟩ := drawTalk_ev l hb
  have hst := specTalk_ev qs (by omega)
  have hbad : Ev (fun k => laws_FnTalkAlone.j0 k l qs ds true) true := by
    refine Ev.step (fun k => by rw [laws_FnTalkAlone.j0]) ?_
    exact evT rfl (evS (implTalk_eq qs) (Ev.bind hst (evE (Ev.now _) (by simp))))
  refine evF h0 (Ev.bind hd (evS (implTalk_eq qs) ?_))
  dsimp only
  by_cases hv : tv qs = true
  rotate_left 1
  · exact evF hv hbad
  refine evT hv ?_
  obtain ⟨h6, hx⟩ := tv_elim qs hv
  by_cases hn : qs.length = 0
  · rw [show ((qs.length : Int) == 0) = true from beq_iff_eq.mpr (by omega)]
    exact hbad
  rw [show ((qs.length : Int) == 0) = false from beq_eq_false_iff_ne.mpr (by omega)]
  obtain ⟨K, hK⟩ : ∃ K : Nat, (l.length : Int) % (qs.length : Int) = (K : Int) := Int.eq_ofNat_of_zero_le (Int.emod_nonneg _ (by omega))
  have hKn : K < qs.length := by
    have := Int.emod_lt_of_pos (l.length : Int) (show (0 : Int) < (qs.length : Int) by omega)
    omega
  obtain ⟨Q, hQ⟩ : ∃ Q : Nat, qs[K] = (Q : Int) := Int.eq_ofNat_of_zero_le (hx K hKn).1
  have hQ9 : Q ≤ 9 := by have := (hx K hKn).2; omega
  refine Ev.step (fun k => by rw [laws_FnTalkAlone.j0]) ?_
  refine evF (by simp) (evT (by omega) (evT (by omega) ?_))
  rw [hK]
  refine evS rfl (evF (by omega) (evT (by omega) (evT (by omega) (evT (by rw [List.length_replicate]; omega) ?_))))
  rw [rd_at qs K hKn, hQ, Int.toNat_natCast, Int.toNat_natCast]
  refine evS rfl ?_
  obtain ⟨p, dn, ok, hi, hsp, hlen, hok, _⟩ := talk_ev ((List.replicate qs.length (0 : Int)).set K (Q : Int)) ds 2000
  refine evS hi (evS hsp (evF (by simp) (evT rfl ?_)))
  refine Ev.step (fun k => by rw [laws_FnTalkAlone.j1]) ?_
  cases ok with
  | false => exact evT rfl (evT (by simp) (evE (Ev.now _) (by simp)))
  | true =>
    obtain ⟨hT, hp, hdn⟩ := hok rfl
    rw [al_fin qs.length K Q ds hKn hQ9] at hp
    have hz : p.qs.sum = 0 := by
      rw [hp]
      show ((List.replicate qs.length (0 : Int)).set K ((Q - Q : Nat) : Int)).sum = 0
      rw [sum_one _ _ _ hKn]; omega
    have hd1 : dn = true := by rw [hdn]; exact decide_eq_true hz
    subst hd1
    refine evF (by simp) (evT rfl (evT (by rw [hp]; rfl) (evT (by omega) (evT (by omega) ?_))))
    rw [rd_at qs K hKn, hQ]
    refine evT (by rw [hp]; rfl) (evE (Ev.now _) ?_)
    rw [hp]
    show (((List.replicate Q (K : Int)).length : Int) == (Q : Int)) = true
    rw [List.length_replicate]
    simp

end Go.Proofs.Ytnppflmjlnfhpaa.Q

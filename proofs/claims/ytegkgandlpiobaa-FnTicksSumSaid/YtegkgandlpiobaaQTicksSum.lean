/- Plain lemmas on what the printed functions compute (seat Ytegkgandlpiobaa, module QTicksSum). Conditions: each lemma's own. -/
import Derived.Test.YtegkgandlpiobaaQf
import Derived.Test.YtegkgandlpiobaaPA0
import Derived.Test.YtegkgandlpiobaaPA11
import Derived.Test.YtegkgandlpiobaaPA23
set_option linter.unusedVariables false
set_option linter.unusedSimpArgs false
namespace Go.Proofs.Ytegkgandlpiobaa.Q
open Go Go.RowKit Go.Proofs.Ytegkgandlpiobaa.PA Go.Proofs.YtegkgandlpiobaaW.PrintWords Go.Proofs.YtegkgandlpiobaaW.PrintLast

theorem tkTo_pre (l ws : List Int) (i : Nat) : ∀ d : Nat, ∃ rest, tkTo l ws (i + d) = tkTo l ws i ++ rest := by
  intro d
  induction d with
  | zero => exact ⟨[], by simp⟩
  | succ d ih =>
    obtain ⟨r, h⟩ := ih
    exact ⟨r ++ List.replicate (wd ws (i + d)).toNat (l.getD (i + d) 0), by show tkTo l ws (i + d) ++ List.replicate (wd ws (i + d)).toNat (l.getD (i + d) 0) = _; rw [h, List.append_assoc]⟩
theorem fnTicks_l1 (l ws T : List Int) (a n : Nat) (v i len : Int) (hat : ∀ j, j < n → T.getD (a + j) 0 = v) (hT : a + n ≤ T.length) (hT2 : T.length ≤ 1000000) {r : Bool}
    (h : Ev (fun k => laws_FnTicksSum.l0 k ws T ((a + n : Nat) : Int) l len (wrap64 (i + 1))) r) :
    ∀ (d j : Nat), j + d = n → Ev (fun k => laws_FnTicksSum.l1 k ws T ((a + j : Nat) : Int) v l len i (n : Int) (j : Int)) r := by
  intro d
  induction d with
  | zero =>
    intro j hj
    refine Ev.step (fun k => by rw [laws_FnTicksSum.l1]) ?_
    refine evF (by omega) ?_
    rw [show a + j = a + n by omega]
    exact h
  | succ d ih =>
    intro j hj
    have h1 : (j : Int) < (n : Int) := by omega
    have h2 : (0 : Int) ≤ ((a + j : Nat) : Int) := Int.natCast_nonneg _
    have h3 : ((a + j : Nat) : Int) < (T.length : Int) := by omega
    have e2 : wrap64 ((j : Int) + 1) = ((j + 1 : Nat) : Int) := by rw [w64 (by omega) (by omega)]; omega
    have e3 : wrap64 (((a + j : Nat) : Int) + 1) = ((a + (j + 1) : Nat) : Int) := by rw [w64 (by omega) (by omega)]; omega
    have e4 : rd T ((a + j : Nat) : Int) = v := by rw [rdN]; exact hat j (by omega)
    refine Ev.step (fun k => by rw [laws_FnTicksSum.l1]) ?_
    rw [e2, e3, e4]
    exact evT h1 (evT h2 (evT h3 (evT rfl (ih (j + 1) (by omega)))))
theorem tkTo_at (l ws : List Int) (i : Nat) (hi : i < l.length) : (∀ j, j < (wd ws i).toNat → (tkTo l ws l.length).getD ((tkTo l ws i).length + j) 0 = l.getD i 0) ∧ (tkTo l ws i).length + (wd ws i).toNat ≤ (tkTo l ws l.length).length := by
  obtain ⟨rest, hr⟩ := tkTo_pre l ws (i + 1) (l.length - (i + 1))
  rw [show i + 1 + (l.length - (i + 1)) = l.length by omega] at hr
  have h1 : tkTo l ws (i + 1) = tkTo l ws i ++ List.replicate (wd ws i).toNat (l.getD i 0) := rfl
  rw [hr, h1]
  generalize tkTo l ws i = p
  generalize (wd ws i).toNat = n
  generalize l.getD i 0 = v
  refine ⟨fun j hj => ?_, by simp⟩
  rw [List.append_assoc, List.getD_eq_getElem?_getD, List.getElem?_append_right (by omega), List.getElem?_append_left (by rw [List.length_replicate]; omega), List.getElem?_replicate, if_pos (by omega)]
  rfl
theorem fnTicks_l0 (l ws : List Int) (hl : l.length ≤ 400) (hw : ws ≠ []) (hwl : ws.length ≤ 1000000000000) (hb : ws.all wid1 = true) : ∀ (d i : Nat), i + d = l.length →
    Ev (fun k => laws_FnTicksSum.l0 k ws (tkTo l ws l.length) (((tkTo l ws i).length : Nat) : Int) l (l.length : Int) (i : Int)) true := by
  intro d
  have hlen := (tkTo_len (l := l) hw hb l.length).2
  induction d with
  | zero =>
    intro i hi
    obtain rfl : i = l.length := by omega
    refine Ev.step (fun k => by rw [laws_FnTicksSum.l0]) ?_
    exact evF (by omega) (evE (Ev.now _) (by simp))
  | succ d ih =>
    intro i hi
    have hp := List.length_pos_iff.2 hw
    have e : wrap64 ((i : Int) + 1) = ((i + 1 : Nat) : Int) := by rw [w64 (by omega) (by omega)]; omega
    have em : mn (i : Int) (wrap64 ((ws.length : Int) - 1)) = ((min i (ws.length - 1) : Nat) : Int) := by
      rw [w64 (by omega) (by omega)]; unfold mn; split <;> omega
    have hb1 := wid1_of hb (wd_mem hw i)
    refine Ev.step (fun k => by rw [laws_FnTicksSum.l0]) ?_
    rw [em, rdN, rdN]
    refine evT (by omega) (evT (by omega) (evT (by omega) (evT (by omega) (evT (by omega) ?_))))
    have hat := tkTo_at l ws i (by omega)
    have hw0 : wd ws i = (((wd ws i).toNat : Nat) : Int) := by omega
    have hnext := ih (i + 1) (by omega)
    have hlen1 : (tkTo l ws (i + 1)).length = (tkTo l ws i).length + (wd ws i).toNat := by
      show (tkTo l ws i ++ List.replicate (wd ws i).toNat (l.getD i 0)).length = _
      rw [List.length_append, List.length_replicate]
    rw [hlen1] at hnext
    show Ev (fun k => laws_FnTicksSum.l1 k ws (tkTo l ws l.length) (((tkTo l ws i).length : Nat) : Int) (l.getD i 0) l (l.length : Int) (i : Int) (wd ws i) 0) true
    have hT2 : (tkTo l ws l.length).length ≤ 1000000 := by omega
    revert hat hnext hT2
    generalize tkTo l ws l.length = T
    generalize (tkTo l ws i).length = a
    intro hat hnext hT2
    rw [hw0]
    refine fnTicks_l1 l ws T a (wd ws i).toNat (l.getD i 0) (i : Int) (l.length : Int) hat.1 hat.2 hT2 ?_ (wd ws i).toNat 0 (by omega)
    rw [e]
    exact hnext
theorem q_FnTicksSum : laws_FnTicksSum.Pure := by
  intro l hl1 hl2 hb
  refine Ev.rounds ?_
  simp only [laws_FnTicksSum.f]
  by_cases h0 : (l.length : Int) > 1048576
  · exact evT h0 (Ev.now _)
  obtain ⟨ls, ws, hd, k1, k2⟩ := drawTicks_ev l hb
  have ht := ticks_len ls ws
  have hq : Ev (fun k => laws_wnInts.f k (ticks ls ws) (ticks ls ws)) true := evE (wnInts_ev _ _ (by omega)) (by simp)
  have hsp := specTicks_ev ls ws (by omega) (by omega)
  refine evF h0 (Ev.bind hd (Ev.bind (implTicks_ev ls ws (by omega) (by omega)) (Ev.bind hsp (Ev.bind hq ?_))))
  refine evT rfl ?_
  refine Ev.step (fun k => by rw [laws_FnTicksSum.j0]) ?_
  by_cases hz : (ticks ls ws).length = 0
  · refine evT (by simpa using hz) ?_
    exact Ev.bind hsp (Ev.bind hq (Ev.now _))
  · refine evF (by simpa using hz) ?_
    by_cases hok : tkOk ls ws
    · have e : ticks ls ws = tkTo ls ws ls.length := if_pos hok
      rw [e]
      exact fnTicks_l0 ls ws k1 hok.2.2.1 (by omega) hok.2.2.2 ls.length 0 (by omega)
    · exfalso
      apply hz
      unfold ticks
      rw [if_neg hok]
      rfl

end Go.Proofs.Ytegkgandlpiobaa.Q

/- Plain lemmas on what the printed functions compute (seat Ytdokfpdnejkhcaa, module QShares). Conditions: each lemma's own. -/
import Derived.Test.YtdokfpdnejkhcaaQd
import Derived.Test.YtdokfpdnejkhcaaPA0
import Derived.Test.YtdokfpdnejkhcaaPA10
import Derived.Test.YtdokfpdnejkhcaaPA12
set_option linter.unusedVariables false
set_option linter.unusedSimpArgs false
namespace Go.Proofs.Ytdokfpdnejkhcaa.Q
open Go Go.RowKit Go.Proofs.Ytdokfpdnejkhcaa.PA Go.Proofs.YtdokfpdnejkhcaaW.PrintWords Go.Proofs.YtdokfpdnejkhcaaW.PrintLast

theorem sumTo_add (g h : Nat → Int) (n : Nat) : sumTo (fun i => g i + h i) n = sumTo g n + sumTo h n := by
  induction n with
  | zero => rfl
  | succ n ih => simp only [sumTo]; omega
theorem sumTo_single (m : Int) (n : Nat) : sumTo (fun w => if m = (w : Int) then 1 else 0) n = if 0 ≤ m ∧ m < n then 1 else 0 := by
  induction n with
  | zero => simp only [sumTo]; rw [if_neg (by omega)]
  | succ n ih =>
    simp only [sumTo]
    rw [ih]
    by_cases h : m = (n : Int)
    · rw [if_pos h, if_neg (by omega), if_pos (by omega)]; rfl
    · rw [if_neg h]
      by_cases h2 : 0 ≤ m ∧ m < n
      · rw [if_pos h2, if_pos (by omega)]; rfl
      · rw [if_neg h2, if_neg (by omega)]; rfl
theorem shares_total (up : List Bool) (v : Int) (hv : ∀ f : Nat, f < 225 → (if 0 ≤ member up f then (1 : Int) else 0) = v) : ∀ n, n ≤ 225 → sumTo (fun w => sumTo (has up w) n) up.length = n * v := by
  intro n
  induction n with
  | zero => intro _; rw [sumTo_zero (g := fun w => sumTo (has up w) 0) _ (fun i _ => rfl)]; simp
  | succ n ih =>
    intro hn
    have e : (fun w => sumTo (has up w) (n + 1)) = fun w => sumTo (has up w) n + has up w n := rfl
    have hb := member_bd up n
    rw [e, sumTo_add, ih (by omega), show (fun w => has up w n) = fun w => if member up n = ((w : Nat) : Int) then (1 : Int) else 0 from rfl, sumTo_single, ← hv n (by omega)]
    by_cases h : 0 ≤ member up n
    · rw [if_pos h, if_pos (by omega)]; simp
    · rw [if_neg h, if_neg (by omega)]; simp
theorem down_no_share (up : List Bool) (i : Nat) (hB : isB up) (h : up[i]? ≠ some true) : sumTo (has up i) 225 = 0 := by
  refine sumTo_zero 225 (fun f hf => ?_)
  unfold has
  refine if_neg (fun e => ?_)
  rcases member_best up f hB ⟨by omega, by omega⟩ with ⟨h1, _⟩ | ⟨j, h1, _, h2, _⟩
  · omega
  · have : j = i := by omega
    subst this
    exact h h2
theorem shares_law (up : List Bool) (hB : isB up) : ∀ (d i : Nat) (s : Bool), i + d = up.length → (s = true ↔ ∃ j : Nat, j < i ∧ up[j]? = some true) →
    Ev (fun k => laws_FnShares.l0 k up (sumTo (fun w => sumTo (has up w) 225) i) s (sh up 225) ((sh up 225).length : Int) (i : Int)) true := by
  have h8 := hB.2
  intro d
  induction d with
  | zero =>
    intro i s hi hs
    have hi' : i = up.length := by omega
    subst hi'
    refine Ev.step (fun k => by rw [laws_FnShares.l0]) ?_
    refine evF (by rw [sh_length]; omega) ?_
    by_cases h : s = true
    · obtain ⟨j, hj, hju⟩ := hs.1 h
      refine evT h (evT ?_ (Ev.now _))
      rw [shares_total up 1 (fun f hf => ?_) 225 (by omega)]
      · rfl
      · rcases member_best up f hB ⟨by omega, by omega⟩ with ⟨_, h2⟩ | ⟨j', h1, _⟩
        · exact absurd hju (h2 j hj)
        · rw [if_pos (by omega)]
    · refine evF h (evE (Ev.now _) ?_)
      rw [shares_total up 0 (fun f hf => ?_) 225 (by omega)]
      · rfl
      · rcases member_best up f hB ⟨by omega, by omega⟩ with ⟨h2, _⟩ | ⟨j', _, h3, h4, _⟩
        · rw [if_neg (by omega)]
        · exact absurd (hs.2 ⟨j', h3, h4⟩) h
  | succ d ih =>
    intro i s hi hs
    have e : wrap64 ((i : Int) + 1) = ((i + 1 : Nat) : Int) := by rw [w64 (by omega) (by omega)]; omega
    have hg : up[i]? = some (up[i]'(by omega)) := List.getElem?_eq_getElem (by omega)
    have hl : i < (sh up 225).length := by rw [sh_length]; omega
    have hr : rd (sh up 225) (i : Int) = sumTo (has up i) 225 := by rw [rd_at _ i hl, sh_get]
    have hbd := sumTo_bd (has_bd up i) 225
    have hS : ∀ n, n ≤ up.length → 0 ≤ sumTo (fun w => sumTo (has up w) 225) n ∧ sumTo (fun w => sumTo (has up w) 225) n ≤ 225 * n := by
      intro n
      induction n with
      | zero => intro _; exact ⟨Int.le_refl _, Int.le_refl _⟩
      | succ n ih2 =>
        intro hn
        have h1 := ih2 (by omega)
        have h2 := sumTo_bd (has_bd up n) 225
        have h3 : sumTo (fun w => sumTo (has up w) 225) (n + 1) = sumTo (fun w => sumTo (has up w) 225) n + sumTo (has up n) 225 := rfl
        rw [h3]
        omega
    have hSi := hS i (by omega)
    have hnext : sumTo (fun w => sumTo (has up w) 225) (i + 1) = sumTo (fun w => sumTo (has up w) 225) i + sumTo (has up i) 225 := rfl
    have hs' : ∀ s' : Bool, s' = (s || up[i]'(by omega)) → (s' = true ↔ ∃ j : Nat, j < i + 1 ∧ up[j]? = some true) := by
      rintro _ rfl
      rw [Bool.or_eq_true]
      constructor
      · rintro (h | h)
        · obtain ⟨j, hj, hju⟩ := hs.1 h
          exact ⟨j, by omega, hju⟩
        · exact ⟨i, by omega, by rw [hg, h]⟩
      · rintro ⟨j, hj, hju⟩
        rcases Nat.lt_or_ge j i with h9 | h9
        · exact .inl (hs.2 ⟨j, h9, hju⟩)
        · have : j = i := by omega
          subst this
          rw [hg] at hju
          exact .inr (by simpa using hju)
    have key : ∀ s' : Bool, s' = (s || up[i]'(by omega)) → Ev (fun k => laws_FnShares.l0 k up (sumTo (fun w => sumTo (has up w) 225) i + sumTo (has up i) 225) s' (sh up 225) ((sh up 225).length : Int) ((i + 1 : Nat) : Int)) true :=
      fun s' e' => ih (i + 1) s' (by omega) (hs' s' e')
    refine Ev.step (fun k => by rw [laws_FnShares.l0]) ?_
    refine evT (by rw [sh_length]; omega) (evT (by omega) (evT (by rw [sh_length]; omega) ?_))
    rw [hr, rdOf_at false up i (by omega), e, w64 (x := sumTo (fun w => sumTo (has up w) 225) i + sumTo (has up i) 225) (by omega) (by omega)]
    have hup : sumTo (has up i) 225 > 0 → up[i]'(by omega) = true := by
      intro h
      refine Classical.byContradiction fun h2 => ?_
      have := down_no_share up i hB (by rw [hg]; simpa using h2)
      omega
    by_cases h : s = true
    · refine evT h ?_
      by_cases h1 : sumTo (has up i) 225 > 0
      · exact evT h1 (evT (by omega) (evT (hup h1) (key true (by rw [h]; rfl))))
      · exact evF h1 (key true (by rw [h]; rfl))
    · have h' : s = false := by simpa using h
      refine evF h (evT (by omega) ?_)
      by_cases h1 : sumTo (has up i) 225 > 0
      · exact evT h1 (evT (hup h1) (key _ (by rw [h']; rfl)))
      · exact evF h1 (key _ (by rw [h']; rfl))
theorem q_FnShares : laws_FnShares.Pure := by
  intro l hl1 hl2 hb
  refine Ev.rounds ?_
  simp only [laws_FnShares.f]
  by_cases h0 : (l.length : Int) > 1048576
  · exact evT h0 (Ev.now _)
  obtain ⟨up, hd, hup⟩ := drawShares_ev l hb
  have hlen := shares_length up
  have hle : (shares up).length ≤ 1000000000000 := by rw [hlen]; split <;> omega
  have hw : Ev (fun k => laws_wnInts.f k (shares up) (shares up)) true := evE (wnInts_ev _ _ hle) (by simp)
  refine evF h0 (Ev.bind hd (Ev.bind (implShares_ev up) (Ev.bind (specShares_ev up) (Ev.bind hw (evT rfl ?_)))))
  refine Ev.step (fun k => by rw [laws_FnShares.j0]) ?_
  by_cases hB : isB up
  · have h1 := hB.1
    have e : shares up = sh up 225 := if_pos hB
    rw [e]
    refine evF (fun e => by rw [sh_length, beq_iff_eq] at e; omega) ?_
    exact shares_law up hB up.length 0 false (by omega) (by constructor; · intro h; cases h
                                                            · rintro ⟨j, hj, _⟩; exact absurd hj (Nat.not_lt_zero _))
  · have e : (shares up).length = 0 := by rw [hlen, if_neg hB]
    refine evT (by simp [e]) (Ev.bind (specShares_ev up) (Ev.bind hw (Ev.now _)))

end Go.Proofs.Ytdokfpdnejkhcaa.Q

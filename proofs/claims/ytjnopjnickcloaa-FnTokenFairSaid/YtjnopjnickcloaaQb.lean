/- Plain lemmas on what the printed functions compute (seat Ytjnopjnickcloaa, module Qb). Conditions: each lemma's own. -/
import Derived.Test.YtjnopjnickcloaaQa
import Derived.Test.YtjnopjnickcloaaPA0
import Derived.Test.YtjnopjnickcloaaPA1
import Derived.Test.YtjnopjnickcloaaPA14
import Derived.Test.YtjnopjnickcloaaPA2
import Derived.Test.YtjnopjnickcloaaPA4
import Derived.Test.YtjnopjnickcloaaPA6
set_option linter.unusedVariables false
set_option linter.unusedSimpArgs false
namespace Go.Proofs.Ytjnopjnickcloaa.Q
open Go Go.RowKit Go.Proofs.Ytjnopjnickcloaa.PA Go.Proofs.YtjnopjnickcloaaW.PrintWords Go.Proofs.YtjnopjnickcloaaW.PrintLast

theorem open_ev (l : List Int) (hb : ∀ x ∈ l, (Lit.int .u8 x).wf = true) : ∃ b, spec_l21Open.f l = some (b, 0) ∧ Bs b := by
  unfold spec_l21Open.f
  by_cases h : (l.length : Int) > 2000
  · refine ⟨l.take 2000, by rw [if_pos h, if_pos (by omega)], by simp; omega, fun x hx => lit_u8 (hb x (List.mem_of_mem_take hx))⟩
  · exact ⟨l, by rw [if_neg h], by omega, fun x hx => lit_u8 (hb x hx)⟩
theorem pick_ev (l : List Int) (hl : Bs l) (p n : Int) (hp : 0 ≤ p) (hp2 : p ≤ 500000) (hn : n ≤ 1000000000) :
    ∃ v, Ev (fun k => spec_l21Rd_pick.f k l p n) (v, p + 1) ∧ 0 ≤ v ∧ (1 ≤ n → v < n) := by
  obtain ⟨hl1, hb⟩ := hl
  have e1 : wrap64 (p + 1) = p + 1 := w64 (by omega) (by omega)
  simp only [spec_l21Rd_pick.f, e1]
  by_cases h1 : n < 1
  · refine ⟨0, evT h1 (Ev.step (fun k => by rw [spec_l21Rd_pick.j0]) (evT rfl (Ev.now _))), by omega, by omega⟩
  · by_cases h2 : l.length = 0
    · have e2 : ((l.length : Int) == 0) = true := by simpa using h2
      refine ⟨0, evF h1 (Ev.step (fun k => by rw [spec_l21Rd_pick.j0]) (evT e2 (Ev.now _))), by omega, by omega⟩
    · have e2 : ¬ (((l.length : Int) == 0) = true) := by simpa using h2
      have e3 : wrap64 (p + 1 - 1) = p := by rw [w64 (by omega) (by omega)]; omega
      by_cases h3 : p < (l.length : Int)
      · have hr := hb _ (rd_mem l p hp h3)
        have hv := tmod_bounds (wrap64 (rd l p)) n (by rw [w64 (by omega) (by omega)]; omega) (by omega)
        refine ⟨Int.tmod (wrap64 (rd l p)) n, evF h1 (Ev.step (fun k => by rw [spec_l21Rd_pick.j0]) ?_), hv.1, fun _ => hv.2⟩
        rw [e3]
        exact evF e2 (evT h3 (evT hp (evF (by omega) (Ev.now _))))
      · have e4 : wrap64 (p * 7) = p * 7 := w64 (by omega) (by omega)
        have e5 : wrap64 (p * 7 + 3) = p * 7 + 3 := w64 (by omega) (by omega)
        have b1 := tmod_bounds p (l.length : Int) hp (by omega)
        have b2 := tmod_bounds (p * 7 + 3) (l.length : Int) (by omega) (by omega)
        have r1 := hb _ (rd_mem l _ b1.1 b1.2)
        have r2 := hb _ (rd_mem l _ b2.1 b2.2)
        have q1 := tdiv_bounds p hp (l.length : Int) (by omega)
        have hx := mix_ok _ _ p _ r1 r2 hp (by omega) q1.1 (by omega)
        generalize hX : wrap64 ((wrap64 ((wrap64 ((wrap64 ((wrap64 (rd l (Int.tmod p (l.length : Int)))) * 131)) + (wrap64 ((wrap64 (rd l (Int.tmod (p * 7 + 3) (l.length : Int)))) * 1117)))) + (wrap64 (p * 29)))) + (wrap64 ((wrap64 (Int.tdiv p (l.length : Int))) * 53))) = X at hx
        have q2 := tdiv_bounds X hx.1 64 (by omega)
        have q3 : wrap64 (X.tdiv 64) = X.tdiv 64 := w64 (by omega) (by omega)
        have hz := bits_xor_i64_nonneg X (wrap64 (X.tdiv 64)) hx.1 (by omega) (by omega) (by omega)
        have hv := tmod_bounds _ n hz (by omega)
        refine ⟨Int.tmod (Go.bits .xor .i64 X (wrap64 (X.tdiv 64))) n, evF h1 (Ev.step (fun k => by rw [spec_l21Rd_pick.j0]) ?_), hv.1, fun _ => hv.2⟩
        simp only [e3, e4, e5, hX]
        exact evF e2 (evF h3 (evF (by omega) (evT b1.1 (evT b1.2 (evT b2.1 (evT b2.2 (evF (by omega) (Ev.now _))))))))
theorem num_ev (l : List Int) (hl : Bs l) (p : Int) (xs : List Int) (hp : 0 ≤ p) (hp2 : p ≤ 500000) (hn : 1 ≤ xs.length) (hn2 : xs.length ≤ 1000) :
    ∃ v, Ev (fun k => spec_l21Rd_num.f k l p xs) (v, p + 1) ∧ v ∈ xs := by
  obtain ⟨v, h, h0, h1⟩ := pick_ev l hl p (xs.length : Int) hp hp2 (by omega)
  refine ⟨rd xs v, ?_, rd_mem xs v h0 (h1 (by omega))⟩
  simp only [spec_l21Rd_num.f]
  exact Ev.bind h (evT h0 (evT (h1 (by omega)) (Ev.now _)))

/-! ### lists that are compared, copied, marked -/
theorem wnInts_l0 (a b : List Int) (hl : a.length = b.length) (hb : a.length ≤ 1000000000000) : ∀ d i : Nat, i + d = a.length →
    Ev (fun k => laws_wnInts.l0 k b a (a.length : Int) (i : Int)) (decide (a.drop i = b.drop i)) := by
  intro d
  induction d with
  | zero =>
    intro i hi
    refine Ev.step (fun k => by rw [laws_wnInts.l0]) ?_
    refine evF (by omega) (evE (Ev.now _) ?_)
    rw [List.drop_of_length_le (by omega), List.drop_of_length_le (by omega)]
    simp
  | succ d ih =>
    intro i hi
    have ha : a.drop i = a[i]'(by omega) :: a.drop (i + 1) := List.drop_eq_getElem_cons (by omega)
    have hb' : b.drop i = b[i]'(by omega) :: b.drop (i + 1) := List.drop_eq_getElem_cons (by omega)
    have e : wrap64 ((i : Int) + 1) = ((i + 1 : Nat) : Int) := by rw [w64 (by omega) (by omega)]; omega
    refine Ev.step (fun k => by rw [laws_wnInts.l0]) ?_
    refine evT (by omega) (evT (by omega) (evT (by omega) (evT (by omega) ?_)))
    rw [rd_at b i (by omega), rd_at a i (by omega), e]
    by_cases h : b[i]'(by omega) = a[i]'(by omega)
    · refine evT h (evE (ih (i + 1) (by omega)) ?_)
      rw [ha, hb']
      exact decide_eq_decide.2 ⟨fun e => by rw [h, e], fun e => (List.cons.inj e).2⟩
    · refine evF h (evE (Ev.now _) ?_)
      rw [ha, hb']
      exact (decide_eq_false (fun e => h (List.cons.inj e).1.symm)).symm
theorem wnInts_ev (a b : List Int) (hb : a.length ≤ 1000000000000) : Ev (fun k => laws_wnInts.f k a b) (decide (a = b)) := by
  simp only [laws_wnInts.f]
  by_cases h : a.length = b.length
  · exact evT (by omega) (evE (wnInts_l0 a b h hb a.length 0 (by omega)) (by simp))
  · exact evF (by omega) (evE (Ev.now _) (by simp; intro e; exact h (by rw [e])))

theorem eqIntS_l0 (a b : List Int) (hl : a.length = b.length) (hb : a.length ≤ 1000000000000) : ∀ d i : Nat, i + d = a.length →
    Ev (fun k => laws_eqIntS.l0 k a b (i : Int)) (decide (a.drop i = b.drop i)) := by
  intro d
  induction d with
  | zero =>
    intro i hi
    refine Ev.step (fun k => by rw [laws_eqIntS.l0]) ?_
    refine evF (by omega) (evE (Ev.now _) ?_)
    rw [List.drop_of_length_le (by omega), List.drop_of_length_le (by omega)]
    simp
  | succ d ih =>
    intro i hi
    have ha : a.drop i = a[i]'(by omega) :: a.drop (i + 1) := List.drop_eq_getElem_cons (by omega)
    have hb' : b.drop i = b[i]'(by omega) :: b.drop (i + 1) := List.drop_eq_getElem_cons (by omega)
    have e : wrap64 ((i : Int) + 1) = ((i + 1 : Nat) : Int) := by rw [w64 (by omega) (by omega)]; omega
    refine Ev.step (fun k => by rw [laws_eqIntS.l0]) ?_
    refine evT (by omega) (evT (by omega) (evT (by omega) ?_))
    rw [rd_at b i (by omega), rd_at a i (by omega), e]
    by_cases h : a[i]'(by omega) = b[i]'(by omega)
    · refine evT h (evE (ih (i + 1) (by omega)) ?_)
      rw [ha, hb']
      exact decide_eq_decide.2 ⟨fun e => by rw [h, e], fun e => (List.cons.inj e).2⟩
    · refine evF h (evE (Ev.now _) ?_)
      rw [ha, hb']
      exact (decide_eq_false (fun e => h (List.cons.inj e).1)).symm
theorem eqIntS_ev (a b : List Int) (hb : a.length ≤ 1000000000000) : Ev (fun k => laws_eqIntS.f k a b) (decide (a = b)) := by
  simp only [laws_eqIntS.f]
  by_cases h : a.length = b.length
  · exact evT (by omega) (evE (eqIntS_l0 a b h hb a.length 0 (by omega)) (by simp))
  · exact evF (by omega) (evE (Ev.now _) (by simp; intro e; exact h (by rw [e])))
/-- m, m + 1, .. -/
def cnt (m : Int) : Nat → List Int
  | 0 => []
  | n + 1 => m :: cnt (m + 1) n
theorem cnt_length (m : Int) (n : Nat) : (cnt m n).length = n := by
  induction n generalizing m with
  | zero => rfl
  | succ n ih => simp [cnt, ih]
theorem markIntS_l0 : ∀ (d : Nat) (pre post : List Int) (m : Int), post.length = d → 0 ≤ m → m + d ≤ 1000000000000 → pre.length + d ≤ 1000000000000 →
    Ev (fun k => laws_markIntS.l0 k (pre ++ post) m (pre.length : Int)) (m + d, pre ++ cnt m d) := by
  intro d
  induction d with
  | zero =>
    intro pre post m hp h0 h1 h2
    obtain rfl : post = [] := List.eq_nil_of_length_eq_zero hp
    refine Ev.step (fun k => by rw [laws_markIntS.l0]) ?_
    refine evF (by simp) (evE (Ev.now _) (by simp [cnt]))
  | succ d ih =>
    intro pre post m hp h0 h1 h2
    match post, hp with
    | x :: post, hp =>
      have hp' : post.length = d := by simpa using hp
      have e : wrap64 ((pre.length : Int) + 1) = (((pre ++ [m]).length : Nat) : Int) := by rw [w64 (by omega) (by omega)]; simp
      have e2 : wrap64 (m + 1) = m + 1 := w64 (by omega) (by omega)
      refine Ev.step (fun k => by rw [laws_markIntS.l0]) ?_
      refine evT (by simp; omega) (evT (by omega) ?_)
      have e3 : (pre ++ x :: post).set ((pre.length : Int) : Int).toNat m = (pre ++ [m]) ++ post := by simp
      rw [e, e2, e3]
      refine evE (ih (pre ++ [m]) post (m + 1) hp' (by omega) (by omega) (by simp; omega)) ?_
      simp [cnt]; omega
theorem markIntS_ev (l : List Int) (m : Int) (h0 : 0 ≤ m) (h1 : m + l.length ≤ 1000000000000) : Ev (fun k => laws_markIntS.f k l m) (m + l.length, cnt m l.length) := by
  simp only [laws_markIntS.f]
  exact markIntS_l0 l.length [] l m rfl h0 h1 (by simp; omega)
theorem heldIntS_l0 : ∀ (d : Nat) (pre : List Int) (m : Int), 0 ≤ m → m + d ≤ 1000000000000 → pre.length + d ≤ 1000000000000 →
    Ev (fun k => laws_heldIntS.l0 k (pre ++ cnt m d) m (pre.length : Int)) (m + d) := by
  intro d
  induction d with
  | zero =>
    intro pre m h0 h1 h2
    refine Ev.step (fun k => by rw [laws_heldIntS.l0]) ?_
    refine evF (by simp [cnt]) (evE (Ev.now _) (by simp))
  | succ d ih =>
    intro pre m h0 h1 h2
    have e : wrap64 ((pre.length : Int) + 1) = (((pre ++ [m]).length : Nat) : Int) := by rw [w64 (by omega) (by omega)]; simp
    have e2 : wrap64 (m + 1) = m + 1 := w64 (by omega) (by omega)
    have e3 : pre ++ cnt m (d + 1) = (pre ++ [m]) ++ cnt (m + 1) d := by simp [cnt]
    refine Ev.step (fun k => by rw [laws_heldIntS.l0]) ?_
    refine evT (by simp [cnt_length]; omega) (evT (by omega) (evT ?_ ?_))
    · rw [rd_at _ _ (by simp [cnt_length])]
      simp [cnt]
    · rw [e, e2, e3]
      exact evE (ih (pre ++ [m]) (m + 1) (by omega) (by omega) (by simp; omega)) (by omega)
theorem heldIntS_ev (n : Nat) (m : Int) (h0 : 0 ≤ m) (h1 : m + n ≤ 1000000000000) : Ev (fun k => laws_heldIntS.f k (cnt m n) m) (m + n) := by
  simp only [laws_heldIntS.f]
  exact heldIntS_l0 n [] m h0 h1 (by simp; omega)

theorem toIntS_l0 (l : List Int) (hl : l.length ≤ 1000000000000) : ∀ (d : Nat) (pre post : List Int), pre.length + d = l.length → post.length = d → pre = l.take pre.length →
    Ev (fun k => laws_toIntS.l0 k l (pre ++ post) (pre.length : Int)) l := by
  intro d
  induction d with
  | zero =>
    intro pre post h1 h2 h3
    obtain rfl : post = [] := List.eq_nil_of_length_eq_zero h2
    refine Ev.step (fun k => by rw [laws_toIntS.l0]) ?_
    refine evF (by omega) (evE (Ev.now _) ?_)
    rw [List.append_nil, h3, List.take_of_length_le (by omega)]
  | succ d ih =>
    intro pre post h1 h2 h3
    match post, h2 with
    | x :: post, h2 =>
      have e : wrap64 ((pre.length : Int) + 1) = (((pre ++ [l[pre.length]'(by omega)]).length : Nat) : Int) := by rw [w64 (by omega) (by omega)]; simp
      have e3 : (pre ++ x :: post).set ((pre.length : Int) : Int).toNat (l[pre.length]'(by omega)) = (pre ++ [l[pre.length]'(by omega)]) ++ post := by simp
      refine Ev.step (fun k => by rw [laws_toIntS.l0]) ?_
      refine evT (by omega) (evT (by omega) (evT (by simp; omega) ?_))
      rw [rd_at l pre.length (by omega), e, e3]
      refine ih (pre ++ [l[pre.length]'(by omega)]) post (by simp; omega) (by simpa using h2) ?_
      rw [List.length_append, List.length_singleton, List.take_succ_eq_append_getElem (by omega), ← h3]
theorem toIntS_ev (l : List Int) (hl : l.length ≤ 1000000000000) : Ev (fun k => laws_toIntS.f k l) l := by
  simp only [laws_toIntS.f]
  exact evT (by omega) (evT (by simp; omega) (toIntS_l0 l hl l.length [] _ (by simp) (by simp) rfl))

end Go.Proofs.Ytjnopjnickcloaa.Q

/- Plain lemmas on what the printed functions compute (seat Ytegnghbgkiddoaa, module Qrb). Conditions: each lemma's own. -/
import Derived.Test.YtegnghbgkiddoaaQa
import Derived.Test.YtegnghbgkiddoaaPA0
import Derived.Test.YtegnghbgkiddoaaPA13
import Derived.Test.YtegnghbgkiddoaaPA29
import Derived.Test.YtegnghbgkiddoaaPA55
import Derived.Test.YtegnghbgkiddoaaPA56
set_option linter.unusedVariables false
set_option linter.unusedSimpArgs false
namespace Go.Proofs.Ytegnghbgkiddoaa.Q
open Go Go.RowKit Go.Proofs.Ytegnghbgkiddoaa.PA Go.Proofs.YtegnghbgkiddoaaW.PrintWords Go.Proofs.YtegnghbgkiddoaaW.PrintLast

theorem eqIntS_l0 (a b : List Int) (hl : a.length = b.length) (hb : a.length ≤ 1000000000000) : ∀ d i : Nat, i + d = a.length →
    Ev (fun k => laws_eqIntS.l0 k a b (i : Int)) (decide (a.drop i = b.drop i)) := by
  intro d
  induction d with
  | zero =>
    intro i hi
    refine Ev.step (fun k => by rw [laws_eqIntS.l0]) ?_
    refine evF (by omega) (evE (Ev.now _) ?_)
    rw [List.drop_of_length_le (by omega), List.drop_of_length_le (by omega)]
    simp
  | succ d ih =>
    intro i hi
    have ha : a.drop i = a[i]'(by omega) :: a.drop (i + 1) := List.drop_eq_getElem_cons (by omega)
    have hb' : b.drop i = b[i]'(by omega) :: b.drop (i + 1) := List.drop_eq_getElem_cons (by omega)
    have e : wrap64 ((i : Int) + 1) = ((i + 1 : Nat) : Int) := by rw [w64 (by omega) (by omega)]; omega
    refine Ev.step (fun k => by rw [laws_eqIntS.l0]) ?_
    refine evT (by omega) (evT (by omega) (evT (by omega) ?_))
    rw [rd_at b i (by omega), rd_at a i (by omega), e]
    by_cases h : a[i]'(by omega) = b[i]'(by omega)
    · refine evT h (evE (ih (i + 1) (by omega)) ?_)
      rw [ha, hb']
      exact decide_eq_decide.2 ⟨fun e => by rw [h, e], fun e => (List.cons.inj e).2⟩
    · refine evF h (evE (Ev.now _) ?_)
      rw [ha, hb']
      exact (decide_eq_false (fun e => h (List.cons.inj e).1)).symm
theorem eqIntS_ev (a b : List Int) (hb : a.length ≤ 1000000000000) : Ev (fun k => laws_eqIntS.f k a b) (decide (a = b)) := by
  simp only [laws_eqIntS.f]
  by_cases h : a.length = b.length
  · exact evT (by omega) (evE (eqIntS_l0 a b h hb a.length 0 (by omega)) (by simp))
  · exact evF (by omega) (evE (Ev.now _) (by simp; intro e; exact h (by rw [e])))
/-- m, m + 1, .. -/
def cnt (m : Int) : Nat → List Int
  | 0 => []
  | n + 1 => m :: cnt (m + 1) n
theorem cnt_length (m : Int) (n : Nat) : (cnt m n).length = n := by
  induction n generalizing m with
  | zero => rfl
  | succ n ih => simp [cnt, ih]
theorem markIntS_l0 : ∀ (d : Nat) (pre post : List Int) (m : Int), post.length = d → 0 ≤ m → m + d ≤ 1000000000000 → pre.length + d ≤ 1000000000000 →
    Ev (fun k => laws_markIntS.l0 k (pre ++ post) m (pre.length : Int)) (m + d, pre ++ cnt m d) := by
  intro d
  induction d with
  | zero =>
    intro pre post m hp h0 h1 h2
    obtain rfl : post = [] := List.eq_nil_of_length_eq_zero hp
    refine Ev.step (fun k => by rw [laws_markIntS.l0]) ?_
    refine evF (by simp) (evE (Ev.now _) (by simp [cnt]))
  | succ d ih =>
    intro pre post m hp h0 h1 h2
    match post, hp with
    | x :: post, hp =>
      have hp' : post.length = d := by simpa using hp
      have e : wrap64 ((pre.length : Int) + 1) = (((pre ++ [m]).length : Nat) : Int) := by rw [w64 (by omega) (by omega)]; simp
      have e2 : wrap64 (m + 1) = m + 1 := w64 (by omega) (by omega)
      refine Ev.step (fun k => by rw [laws_markIntS.l0]) ?_
      refine evT (by simp; omega) (evT (by omega) ?_)
      have e3 : (pre ++ x :: post).set ((pre.length : Int) : Int).toNat m = (pre ++ [m]) ++ post := by simp
      rw [e, e2, e3]
      refine evE (ih (pre ++ [m]) post (m + 1) hp' (by omega) (by omega) (by simp; omega)) ?_
      simp [cnt]; omega
theorem markIntS_ev (l : List Int) (m : Int) (h0 : 0 ≤ m) (h1 : m + l.length ≤ 1000000000000) : Ev (fun k => laws_markIntS.f k l m) (m + l.length, cnt m l.length) := by
  simp only [laws_markIntS.f]
  exact markIntS_l0 l.length [] l m rfl h0 h1 (by simp; omega)
theorem heldIntS_l0 : ∀ (d : Nat) (pre : List Int) (m : Int), 0 ≤ m → m + d ≤ 1000000000000 → pre.length + d ≤ 1000000000000 →
    Ev (fun k => laws_heldIntS.l0 k (pre ++ cnt m d) m (pre.length : Int)) (m + d) := by
  intro d
  induction d with
  | zero =>
    intro pre m h0 h1 h2
    refine Ev.step (fun k => by rw [laws_heldIntS.l0]) ?_
    refine evF (by simp [cnt]) (evE (Ev.now _) (by simp))
  | succ d ih =>
    intro pre m h0 h1 h2
    have e : wrap64 ((pre.length : Int) + 1) = (((pre ++ [m]).length : Nat) : Int) := by rw [w64 (by omega) (by omega)]; simp
    have e2 : wrap64 (m + 1) = m + 1 := w64 (by omega) (by omega)
    have e3 : pre ++ cnt m (d + 1) = (pre ++ [m]) ++ cnt (m + 1) d := by simp [cnt]
    refine Ev.step (fun k => by rw [laws_heldIntS.l0]) ?_
    refine evT (by simp [cnt_length]; omega) (evT (by omega) (evT ?_ ?_))
    · rw [rd_at _ _ (by simp [cnt_length])]
      simp [cnt]
    · rw [e, e2, e3]
      exact evE (ih (pre ++ [m]) (m + 1) (by omega) (by omega) (by simp; omega)) (by omega)
theorem heldIntS_ev (n : Nat) (m : Int) (h0 : 0 ≤ m) (h1 : m + n ≤ 1000000000000) : Ev (fun k => laws_heldIntS.f k (cnt m n) m) (m + n) := by
  simp only [laws_heldIntS.f]
  exact heldIntS_l0 n [] m h0 h1 (by simp; omega)

/-! ### rows of rows: compared, marked, held -/
theorem ssAt (pre post : List (List Int)) (c : List Int) : rd_L5 (pre ++ c :: post) (pre.length : Int) = c := by
  simp [rd_L5, List.getD_eq_getElem?_getD]
theorem ss_next (pre : List (List Int)) (c : List Int) (h : pre.length + 1 ≤ 1000000000000) : wrap64 ((pre.length : Int) + 1) = (((pre ++ [c]).length : Nat) : Int) := by
  rw [w64 (by omega) (by omega)]; simp
/-- some rows, and not many -/
structure Few (l : List (List Int)) : Prop where
  len : l.length ≤ 1000
  row : ∀ c ∈ l, c.length ≤ 1000000

/-! ### rows of rows: compared, marked, held -/
def tot : List (List Int) → Nat
  | [] => 0
  | c :: r => c.length + tot r
def cntSS : Int → List (List Int) → List (List Int)
  | _, [] => []
  | m, c :: r => cnt m c.length :: cntSS (m + c.length) r
theorem cntSS_length (l : List (List Int)) (m : Int) : (cntSS m l).length = l.length := by
  induction l generalizing m with
  | nil => rfl
  | cons c r ih => simp [cntSS, ih]
theorem eqIntSS_l0 : ∀ (post pre : List (List Int)), pre.length + post.length ≤ 1000000000000 → (∀ c ∈ post, c.length ≤ 1000000000000) →
    Ev (fun k => laws_eqIntSS.l0 k (pre ++ post) (pre ++ post) (pre.length : Int)) true := by
  intro post
  induction post with
  | nil =>
    intro pre h hr
    refine Ev.step (fun k => by rw [laws_eqIntSS.l0]) ?_
    exact evF (by simp) (Ev.now _)
  | cons c post ih =>
    intro pre h hr
    rw [List.length_cons] at h
    refine Ev.step (fun k => by rw [laws_eqIntSS.l0]) ?_
    refine evT (by rw [List.length_append, List.length_cons]; omega) (evT (by omega) (evT (by rw [List.length_append, List.length_cons]; omega) ?_))
    rw [ssAt, ss_next pre c (by omega)]
    refine Ev.bind (eqIntS_ev c c (hr c (by simp))) (evT (by simp) ?_)
    have := ih (pre ++ [c]) (by simp; omega) (fun x hx => hr x (by simp [hx]))
    rw [List.append_assoc] at this
    exact this
theorem eqIntSS_ev (a : List (List Int)) (h : a.length ≤ 1000000000000) (hr : ∀ c ∈ a, c.length ≤ 1000000000000) : Ev (fun k => laws_eqIntSS.f k a a) true := by
  simp only [laws_eqIntSS.f]
  exact evT (by trivial) (eqIntSS_l0 a [] (by simpa using h) hr)
theorem markIntSS_l0 : ∀ (post pre : List (List Int)) (m : Int), pre.length + post.length ≤ 1000000000000 → 0 ≤ m → m + tot post ≤ 1000000000000 →
    Ev (fun k => laws_markIntSS.l0 k (pre ++ post) m (pre.length : Int)) (m + tot post, pre ++ cntSS m post) := by
  intro post
  induction post with
  | nil =>
    intro pre m h h0 h1
    refine Ev.step (fun k => by rw [laws_markIntSS.l0]) ?_
    exact evF (by simp) (evE (Ev.now _) (by simp [tot, cntSS]))
  | cons c post ih =>
    intro pre m h h0 h1
    rw [List.length_cons] at h
    have ht : (tot (c :: post) : Int) = (c.length : Int) + tot post := by show ((c.length + tot post : Nat) : Int) = _; omega
    refine Ev.step (fun k => by rw [laws_markIntSS.l0]) ?_
    refine evT (by rw [List.length_append, List.length_cons]; omega) (evT (by omega) ?_)
    rw [ssAt, ss_next pre (cnt m c.length) (by omega)]
    refine Ev.bind (markIntS_ev c m h0 (by omega)) ?_
    dsimp only
    have e : (pre ++ c :: post).set ((pre.length : Int) : Int).toNat (cnt m c.length) = (pre ++ [cnt m c.length]) ++ post := by simp
    rw [e]
    refine evE (ih (pre ++ [cnt m c.length]) (m + c.length) (by simp; omega) (by omega) (by omega)) ?_
    rw [ht, List.append_assoc]
    show (m + c.length + (tot post : Int), pre ++ (cnt m c.length :: cntSS (m + c.length) post)) = _
    rw [Int.add_assoc]
    rfl
theorem markIntSS_ev (l : List (List Int)) (m : Int) (h : l.length ≤ 1000000000000) (h0 : 0 ≤ m) (h1 : m + tot l ≤ 1000000000000) : Ev (fun k => laws_markIntSS.f k l m) (m + tot l, cntSS m l) := by
  simp only [laws_markIntSS.f]
  exact markIntSS_l0 l [] m (by simpa using h) h0 h1
theorem heldIntSS_l0 : ∀ (post pre : List (List Int)) (m : Int), pre.length + post.length ≤ 1000000000000 → 0 ≤ m → m + tot post ≤ 1000000000000 →
    Ev (fun k => laws_heldIntSS.l0 k (pre ++ cntSS m post) m (pre.length : Int)) (m + tot post) := by
  intro post
  induction post with
  | nil =>
    intro pre m h h0 h1
    refine Ev.step (fun k => by rw [laws_heldIntSS.l0]) ?_
    exact evF (by simp [cntSS]) (evE (Ev.now _) (by simp [tot]))
  | cons c post ih =>
    intro pre m h h0 h1
    rw [List.length_cons] at h
    have ht : (tot (c :: post) : Int) = (c.length : Int) + tot post := by show ((c.length + tot post : Nat) : Int) = _; omega
    refine Ev.step (fun k => by rw [laws_heldIntSS.l0]) ?_
    show Ev (fun k => if (pre.length : Int) < ((pre ++ (cnt m c.length :: cntSS (m + c.length) post)).length : Int) then _ else _) _
    refine evT (by rw [List.length_append, List.length_cons]; omega) (evT (by omega) ?_)
    show Ev (fun k => (laws_heldIntS.f k (rd_L5 (pre ++ (cnt m c.length :: cntSS (m + c.length) post)) (pre.length : Int)) m).bind fun t => if t < 0 then some (-1) else laws_heldIntSS.l0 k (pre ++ (cnt m c.length :: cntSS (m + c.length) post)) t (wrap64 ((pre.length : Int) + 1))) _
    rw [ssAt, ss_next pre (cnt m c.length) (by omega)]
    refine Ev.bind (heldIntS_ev c.length m h0 (by omega)) (evF (by omega) ?_)
    have := ih (pre ++ [cnt m c.length]) (m + c.length) (by simp; omega) (by omega) (by omega)
    rw [List.append_assoc] at this
    refine evE this ?_
    rw [ht]
    omega
theorem heldIntSS_ev (l : List (List Int)) (m : Int) (h : l.length ≤ 1000000000000) (h0 : 0 ≤ m) (h1 : m + tot l ≤ 1000000000000) : Ev (fun k => laws_heldIntSS.f k (cntSS m l) m) (m + tot l) := by
  simp only [laws_heldIntSS.f]
  exact heldIntSS_l0 l [] m (by simpa using h) h0 h1
theorem tot_le (B : Nat) : ∀ l : List (List Int), (∀ c ∈ l, c.length ≤ B) → tot l ≤ B * l.length := by
  intro l
  induction l with
  | nil => intro _; simp [tot]
  | cons c r ih =>
    intro h
    have h1 := h c (by simp)
    have h2 := ih (fun x hx => h x (by simp [hx]))
    show c.length + tot r ≤ B * (r.length + 1)
    rw [Nat.mul_succ]
    omega
theorem Few.tot {l : List (List Int)} (h : Few l) : tot l ≤ 1000000000 := by
  have h1 := tot_le 1000000 l h.row
  have h2 := h.len
  have : 1000000 * l.length ≤ 1000000 * 1000 := Nat.mul_le_mul_left _ h2
  omega

/-! ### a bridge's steps (plain) -/
def tv (t : List Int) (p : Int) : Bool := decide (1 ≤ p ∧ p ≤ 6) && (decide ((t.length : Int) = 15) && t.all (fun x => decide (-1 ≤ x ∧ x ≤ p - 1)))
theorem tv_elim {t : List Int} {p : Int} (h : tv t p = true) : 1 ≤ p ∧ p ≤ 6 ∧ t.length = 15 ∧ ∀ x ∈ t, -1 ≤ x ∧ x ≤ p - 1 := by
  simp only [tv, Bool.and_eq_true, decide_eq_true_eq, List.all_eq_true] at h
  exact ⟨h.1.1, h.1.2, by omega, h.2.2⟩
theorem implTable_eq (t : List Int) (p : Int) : impl_TableValid.f t p = some (tv t p) := rfl
theorem specTable_l0 (t : List Int) (p : Int) (hp : 1 ≤ p ∧ p ≤ 6) (hl : t.length ≤ 1000) : ∀ d i : Nat, i + d = t.length → Ev (fun k => spec_TableValid.l0 k t p (i : Int)) ((t.drop i).all (fun x => decide (-1 ≤ x ∧ x ≤ p - 1))) := by
  intro d
  induction d with
  | zero =>
    intro i hi
    rw [List.drop_of_length_le (by omega)]
    refine Ev.step (fun k => by rw [spec_TableValid.l0]) ?_
    exact evF (by omega) (Ev.now _)
  | succ d ih =>
    intro i hi
    rw [List.drop_eq_getElem_cons (show i < t.length by omega), List.all_cons]
    refine Ev.step (fun k => by rw [spec_TableValid.l0]) ?_
    refine evT (by omega) (evT (by omega) ?_)
    rw [rd_at t i (by omega), w64 (x := p - 1) (by omega) (by omega), show wrap64 ((i : Int) + 1) = ((i + 1 : Nat) : Int) by rw [w64 (by omega) (by omega)]; omega]
    refine evS (l1In_eq _ _ _) ?_
    by_cases h : -1 ≤ t[i] ∧ t[i] ≤ p - 1
    · rw [decide_eq_true h, Bool.true_and]
      exact evT rfl (ih (i + 1) (by omega))
    · rw [decide_eq_false h, Bool.false_and]
      exact evF (by decide) (Ev.now _)
theorem specTable_ev (t : List Int) (p : Int) : Ev (fun k => spec_TableValid.f k t p) (tv t p) := by
  simp only [spec_TableValid.f]
  have bad : Ev (fun k => spec_TableValid.j0 k t p true) false := by
    refine Ev.step (fun k => by rw [spec_TableValid.j0]) ?_
    exact evT rfl (Ev.now _)
  by_cases hl : (t.length : Int) = 15
  · refine evT hl (evS (l1In_eq _ _ _) ?_)
    by_cases hp : 1 ≤ p ∧ p ≤ 6
    · rw [decide_eq_true hp]
      refine Ev.step (fun k => by rw [spec_TableValid.j0]) ?_
      refine evF (by decide) (evE (specTable_l0 t p hp (by omega) t.length 0 (by omega)) ?_)
      rw [List.drop_zero]
      unfold tv
      rw [decide_eq_true hp, decide_eq_true hl, Bool.true_and, Bool.true_and]
    · rw [decide_eq_false hp]
      exact evE bad (by unfold tv; rw [decide_eq_false hp, Bool.false_and])
  · refine evF hl (evE bad ?_)
    unfold tv
    rw [decide_eq_false hl, Bool.false_and, Bool.and_false]
def learn (t : List Int) (p f q : Int) : List Int × Bool := if tv t p = true ∧ (0 ≤ f ∧ f ≤ 14) ∧ (0 ≤ q ∧ q ≤ p - 1) then (t.set f.toNat q, true) else ([], false)
theorem learn_tv {t : List Int} {p f q : Int} (h : (learn t p f q).2 = true) : tv (learn t p f q).1 p = true := by
  unfold learn at h ⊢
  by_cases c : tv t p = true ∧ (0 ≤ f ∧ f ≤ 14) ∧ (0 ≤ q ∧ q ≤ p - 1)
  · rw [if_pos c]
    obtain ⟨h1, h2, h3, h4⟩ := tv_elim c.1
    simp only [tv, Bool.and_eq_true, decide_eq_true_eq, List.all_eq_true]
    refine ⟨⟨h1, h2⟩, by rw [List.length_set]; omega, fun x hx => ?_⟩
    rcases List.mem_or_eq_of_mem_set hx with hx | rfl
    · exact h4 x hx
    · omega
  · rw [if_neg c] at h
    cases h
theorem implLearn_eq (t : List Int) (p f q : Int) : impl_LearnPort.f t p f q = some (learn t p f q) := by
  unfold impl_LearnPort.f learn
  rw [implTable_eq, Option.bind_some]
  by_cases h : tv t p = true
  · obtain ⟨h1, h2, h3, h4⟩ := tv_elim h
    rw [if_pos h]
    unfold impl_isStation.f
    rw [within_eq, Option.bind_some, Option.bind_some]
    by_cases hf : 0 ≤ f ∧ f ≤ 14
    · rw [if_pos (decide_eq_true hf), within_eq, Option.bind_some, w64 (x := p - 1) (by omega) (by omega)]
      by_cases hq : 0 ≤ q ∧ q ≤ p - 1
      · have hcl : slices_Clone_int_int.f t = some t := by
          unfold slices_Clone_int_int.f
          rw [if_pos (by omega)]
        rw [if_pos (decide_eq_true hq), if_pos ⟨h, hf, hq⟩, hcl, Option.bind_some]
        show (if 0 ≤ f then (if f < (t.length : Int) then some (t.set f.toNat q, true) else none) else none) = _
        rw [if_pos hf.1, if_pos (by omega)]
      · rw [if_neg (by simp only [decide_eq_true_eq]; exact hq), if_neg (fun c => hq c.2.2)]
    · rw [if_neg (by simp only [decide_eq_true_eq]; exact hf), if_neg (fun c => hf c.2.1)]
  · rw [if_neg h, if_neg (fun c => h c.1)]
theorem learn_yes {t : List Int} {p f q : Int} (h : tv t p = true ∧ (0 ≤ f ∧ f ≤ 14) ∧ (0 ≤ q ∧ q ≤ p - 1)) : learn t p f q = (t.set f.toNat q, true) := by unfold learn; rw [if_pos h]
theorem learn_no {t : List Int} {p f q : Int} (h : ¬ (tv t p = true ∧ (0 ≤ f ∧ f ≤ 14) ∧ (0 ≤ q ∧ q ≤ p - 1))) : learn t p f q = ([], false) := by unfold learn; rw [if_neg h]
theorem specLearn_ev (t : List Int) (p f q : Int) : Ev (fun k => spec_LearnPort.f k t p f q) (learn t p f q) := by
  simp only [spec_LearnPort.f]
  refine Ev.bind (specTable_ev t p) ?_
  by_cases h : tv t p = true
  · obtain ⟨h1, h2, h3, h4⟩ := tv_elim h
    refine evT h (evS (l1In_eq _ _ _) ?_)
    by_cases hf : 0 ≤ f ∧ f ≤ 14
    · refine evT (decide_eq_true hf) (evS (l1In_eq _ _ _) ?_)
      rw [w64 (x := p - 1) (by omega) (by omega)]
      by_cases hq : 0 ≤ q ∧ q ≤ p - 1
      · rw [learn_yes ⟨h, hf, hq⟩]
        refine evT (decide_eq_true hq) (evS (a := t.set f.toNat q) ?_ (Ev.now _))
        unfold spec_l6Learn.f
        simp only [Option.bind_some, List.nil_append, List.length_nil]
        rw [if_pos (by omega), if_pos hf.1, if_pos (by omega)]
      · rw [learn_no (fun c => hq c.2.2)]
        exact evF (by simp only [decide_eq_true_eq]; exact hq) (Ev.now _)
    · rw [learn_no (fun c => hf c.2.1)]
      exact evF (by simp only [decide_eq_true_eq]; exact hf) (Ev.now _)
  · rw [learn_no (fun c => h c.1)]
    exact evF h (Ev.now _)
def sp (q kn : Int) : Nat → List Int
  | 0 => []
  | P + 1 => sp q kn P ++ (if (P : Int) ≠ q ∧ (kn < 0 ∨ kn = (P : Int)) then [(P : Int)] else [])
theorem sp_len (q kn : Int) (P : Nat) : (sp q kn P).length ≤ P := by
  induction P with
  | zero => exact Nat.le_refl _
  | succ P ih =>
    show (sp q kn P ++ _).length ≤ P + 1
    rw [List.length_append]
    split <;> simp <;> omega
theorem sp_q (q : Int) (hq : 0 ≤ q) (P : Nat) : sp q q P = [] := by
  induction P with
  | zero => rfl
  | succ P ih =>
    show sp q q P ++ _ = []
    rw [ih, if_neg (by omega)]
    rfl
theorem sp_one (q kn : Int) (hk : 0 ≤ kn) (hne : kn ≠ q) (P : Nat) : sp q kn P = if kn < (P : Int) then [kn] else [] := by
  induction P with
  | zero => rw [if_neg (by omega)]; rfl
  | succ P ih =>
    show sp q kn P ++ _ = _
    rw [ih]
    by_cases h1 : kn < (P : Int)
    · rw [if_pos h1, if_neg (by omega), if_pos (by omega)]
      rfl
    · rw [if_neg h1]
      by_cases h2 : kn = (P : Int)
      · rw [if_pos (by omega), if_pos (by omega), h2]
        rfl
      · rw [if_neg (by omega), if_neg (by omega)]
        rfl
def kn (t : List Int) (ds : Int) : Int := if ds < 15 then rd t ds else -1
def ports (t : List Int) (p ds q : Int) : List Int := if tv t p = true ∧ (0 ≤ ds ∧ ds ≤ 15) ∧ (0 ≤ q ∧ q ≤ p - 1) then sp q (kn t ds) p.toNat else []
theorem ports_yes {t : List Int} {p ds q : Int} (h : tv t p = true ∧ (0 ≤ ds ∧ ds ≤ 15) ∧ (0 ≤ q ∧ q ≤ p - 1)) : ports t p ds q = sp q (kn t ds) p.toNat := by unfold ports; rw [if_pos h]
theorem ports_no {t : List Int} {p ds q : Int} (h : ¬ (tv t p = true ∧ (0 ≤ ds ∧ ds ≤ 15) ∧ (0 ≤ q ∧ q ≤ p - 1))) : ports t p ds q = [] := by unfold ports; rw [if_neg h]
theorem kn_in {t : List Int} {p ds : Int} (h : tv t p = true) (ht : 0 ≤ ds) : -1 ≤ kn t ds ∧ kn t ds ≤ p - 1 := by
  obtain ⟨h1, h2, h3, h4⟩ := tv_elim h
  unfold kn
  split
  · exact h4 _ (rd_mem t ds ht (by omega))
  · omega
theorem specPorts_l0 (P : Nat) (hP : P ≤ 6) (q kn : Int) : ∀ d i : Nat, i + d = P → Ev (fun k => spec_PortsFor.l0 k (P : Int) q (sp q kn i) kn (i : Int)) (sp q kn P) := by
  intro d
  induction d with
  | zero =>
    intro i hi
    obtain rfl : i = P := by omega
    refine Ev.step (fun k => by rw [spec_PortsFor.l0]) ?_
    exact evF (by omega) (Ev.now _)
  | succ d ih =>
    intro i hi
    have hl := sp_len q kn i
    have hn := ih (i + 1) (by omega)
    have e : sp q kn (i + 1) = sp q kn i ++ (if (i : Int) ≠ q ∧ (kn < 0 ∨ kn = (i : Int)) then [(i : Int)] else []) := rfl
    rw [e] at hn
    refine Ev.step (fun k => by rw [spec_PortsFor.l0]) ?_
    refine evT (by omega) ?_
    rw [show wrap64 ((i : Int) + 1) = ((i + 1 : Nat) : Int) by rw [w64 (by omega) (by omega)]; omega]
    by_cases c1 : (i : Int) = q
    · rw [if_neg (by omega), List.append_nil] at hn
      exact evT c1 hn
    · refine evF c1 ?_
      by_cases c2 : kn < 0
      · rw [if_pos ⟨c1, .inl c2⟩] at hn
        exact evT c2 (evT (by omega) hn)
      · refine evF c2 ?_
        by_cases c3 : kn = (i : Int)
        · rw [if_pos ⟨c1, .inr c3⟩] at hn
          exact evT c3 (evT (by omega) hn)
        · rw [if_neg (by omega), List.append_nil] at hn
          exact evF c3 hn
theorem specPorts_ev (t : List Int) (p ds q : Int) : Ev (fun k => spec_PortsFor.f k t p ds q) (ports t p ds q) := by
  simp only [spec_PortsFor.f]
  refine evS (a := ([] : List Int)) rfl (Ev.bind (specTable_ev t p) ?_)
  have bad : Ev (fun k => spec_PortsFor.j0 k t p ds q [] true) ([] : List Int) := by
    refine Ev.step (fun k => by rw [spec_PortsFor.j0]) ?_
    exact evT rfl (Ev.now _)
  by_cases h : tv t p = true
  · obtain ⟨h1, h2, h3, h4⟩ := tv_elim h
    refine evT h (evS (l1In_eq _ _ _) ?_)
    by_cases ht : 0 ≤ ds ∧ ds ≤ 15
    · refine evT (decide_eq_true ht) (evS (l1In_eq _ _ _) ?_)
      rw [w64 (x := p - 1) (by omega) (by omega)]
      by_cases hq : 0 ≤ q ∧ q ≤ p - 1
      · rw [ports_yes ⟨h, ht, hq⟩, decide_eq_true hq]
        obtain ⟨P, rfl⟩ := Int.eq_ofNat_of_zero_le (show 0 ≤ p by omega)
        have hr := specPorts_l0 P (by omega) q (kn t ds) P 0 (by omega)
        refine Ev.step (fun k => by rw [spec_PortsFor.j0]) ?_
        refine evF (by decide) ?_
        unfold kn at hr ⊢
        by_cases c : ds < 15
        · rw [if_pos c] at hr ⊢
          refine evT c (evT ht.1 (evT (by omega) (Ev.step (fun k => by rw [spec_PortsFor.j1]) ?_)))
          exact hr
        · rw [if_neg c] at hr ⊢
          refine evF c (Ev.step (fun k => by rw [spec_PortsFor.j1]) ?_)
          exact hr
      · rw [ports_no (fun c => hq c.2.2), decide_eq_false hq]
        exact bad
    · rw [ports_no (fun c => ht c.2.1)]
      exact evF (by simp only [decide_eq_true_eq]; exact ht) bad
  · rw [ports_no (fun c => h c.1)]
    exact evF h bad
theorem implPorts_l0 (P : Nat) (hP : P ≤ 6) (q : Int) : ∀ d i : Nat, i + d = P → Ev (fun k => impl_PortsFor.l0 k q (sp q (-1) i) (P : Int) (i : Int)) (sp q (-1) P) := by
  intro d
  induction d with
  | zero =>
    intro i hi
    obtain rfl : i = P := by omega
    refine Ev.step (fun k => by rw [impl_PortsFor.l0]) ?_
    exact evF (by omega) (Ev.now _)
  | succ d ih =>
    intro i hi
    have hl := sp_len q (-1) i
    have hn := ih (i + 1) (by omega)
    have e : sp q (-1) (i + 1) = sp q (-1) i ++ (if (i : Int) ≠ q ∧ ((-1 : Int) < 0 ∨ (-1 : Int) = (i : Int)) then [(i : Int)] else []) := rfl
    rw [e] at hn
    refine Ev.step (fun k => by rw [impl_PortsFor.l0]) ?_
    refine evT (by omega) ?_
    rw [show wrap64 ((i : Int) + 1) = ((i + 1 : Nat) : Int) by rw [w64 (by omega) (by omega)]; omega]
    by_cases c1 : (i : Int) = q
    · rw [if_neg (by omega), List.append_nil] at hn
      exact evT c1 hn
    · rw [if_pos ⟨c1, .inl (by omega)⟩] at hn
      exact evF c1 (evT (by omega) hn)
theorem implPorts_j1 (P : Nat) (hP : P ≤ 6) (q kn : Int) (hq : 0 ≤ q) (hk : -1 ≤ kn ∧ kn ≤ (P : Int) - 1) : Ev (fun k => impl_PortsFor.j1 k (P : Int) q kn) (sp q kn P) := by
  refine Ev.step (fun k => by rw [impl_PortsFor.j1]) ?_
  by_cases c1 : kn = q
  · subst c1
    rw [sp_q kn hq]
    exact evT rfl (Ev.now _)
  · refine evF c1 ?_
    by_cases c2 : kn = -1
    · subst c2
      exact evT rfl (implPorts_l0 P hP q P 0 (by omega))
    · rw [sp_one q kn (by omega) c1, if_pos (by omega)]
      exact evF c2 (Ev.now _)
theorem implPorts_ev (t : List Int) (p ds q : Int) : Ev (fun k => impl_PortsFor.f k t p ds q) (ports t p ds q) := by
  simp only [impl_PortsFor.f]
  refine evS (implTable_eq t p) ?_
  have bad : Ev (fun k => impl_PortsFor.j0 k t p ds q true) ([] : List Int) := by
    refine Ev.step (fun k => by rw [impl_PortsFor.j0]) ?_
    exact evT rfl (Ev.now _)
  by_cases h : tv t p = true
  · obtain ⟨h1, h2, h3, h4⟩ := tv_elim h
    refine evT h (evS (within_eq _ _ _) ?_)
    by_cases ht : 0 ≤ ds ∧ ds ≤ 15
    · refine evT (decide_eq_true ht) (evS (within_eq _ _ _) ?_)
      rw [w64 (x := p - 1) (by omega) (by omega)]
      by_cases hq : 0 ≤ q ∧ q ≤ p - 1
      · have hk := kn_in h ht.1
        rw [ports_yes ⟨h, ht, hq⟩, decide_eq_true hq]
        obtain ⟨P, rfl⟩ := Int.eq_ofNat_of_zero_le (show 0 ≤ p by omega)
        have hr := implPorts_j1 P (by omega) q (kn t ds) hq.1 hk
        refine Ev.step (fun k => by rw [impl_PortsFor.j0]) ?_
        refine evF (by decide) ?_
        unfold kn at hr ⊢
        by_cases c : ds < 15
        · rw [if_pos c] at hr ⊢
          exact evF (by omega) (evT ht.1 (evT (by omega) hr))
        · rw [if_neg c] at hr ⊢
          exact evT (by omega) hr
      · rw [ports_no (fun c => hq c.2.2), decide_eq_false hq]
        exact bad
    · rw [ports_no (fun c => ht c.2.1)]
      exact evF (by simp only [decide_eq_true_eq]; exact ht) bad
  · rw [ports_no (fun c => h c.1)]
    exact evF h bad
def bstep (t : List Int) (p : Int) (h : S93) : List Int × List Int × Bool :=
  if (learn t p h.f0 h.f2).2 = true ∧ (0 ≤ h.f1 ∧ h.f1 ≤ 15) then ((learn t p h.f0 h.f2).1, ports (learn t p h.f0 h.f2).1 p h.f1 h.f2, true) else ([], [], false)
theorem bstep_yes {t : List Int} {p : Int} {h : S93} (c : (learn t p h.f0 h.f2).2 = true ∧ (0 ≤ h.f1 ∧ h.f1 ≤ 15)) : bstep t p h = ((learn t p h.f0 h.f2).1, ports (learn t p h.f0 h.f2).1 p h.f1 h.f2, true) := by unfold bstep; rw [if_pos c]
theorem bstep_no {t : List Int} {p : Int} {h : S93} (c : ¬ ((learn t p h.f0 h.f2).2 = true ∧ (0 ≤ h.f1 ∧ h.f1 ≤ 15))) : bstep t p h = ([], [], false) := by unfold bstep; rw [if_neg c]
theorem implStep_ev (t : List Int) (p : Int) (h : S93) : Ev (fun k => impl_BridgeStep.f k t p h.f0 h.f1 h.f2) (bstep t p h) := by
  simp only [impl_BridgeStep.f]
  refine evS (implLearn_eq _ _ _ _) ?_
  by_cases c : (learn t p h.f0 h.f2).2 = true
  · refine evT c (evS (within_eq _ _ _) ?_)
    by_cases ht : 0 ≤ h.f1 ∧ h.f1 ≤ 15
    · rw [bstep_yes ⟨c, ht⟩]
      exact evT (decide_eq_true ht) (Ev.bind (implPorts_ev _ _ _ _) (Ev.now _))
    · rw [bstep_no (fun z => ht z.2)]
      exact evF (by simp only [decide_eq_true_eq]; exact ht) (Ev.now _)
  · rw [bstep_no (fun z => c z.1)]
    exact evF c (Ev.now _)
theorem specStep_ev (t : List Int) (p : Int) (h : S93) : Ev (fun k => spec_BridgeStep.f k t p h.f0 h.f1 h.f2) (bstep t p h) := by
  simp only [spec_BridgeStep.f]
  refine Ev.bind (specLearn_ev _ _ _ _) ?_
  by_cases c : (learn t p h.f0 h.f2).2 = true
  · refine evT c (evS (l1In_eq _ _ _) ?_)
    by_cases ht : 0 ≤ h.f1 ∧ h.f1 ≤ 15
    · rw [bstep_yes ⟨c, ht⟩]
      exact evT (decide_eq_true ht) (Ev.bind (specPorts_ev _ _ _ _) (Ev.now _))
    · rw [bstep_no (fun z => ht z.2)]
      exact evF (by simp only [decide_eq_true_eq]; exact ht) (Ev.now _)
  · rw [bstep_no (fun z => c z.1)]
    exact evF c (Ev.now _)
def runB (p : Int) : List S93 → List Int → List (List Int) → List Int × List (List Int) × Bool
  | [], t, o => (t, o, true)
  | h :: r, t, o => if (bstep t p h).2.2 = true then runB p r (bstep t p h).1 (o ++ [(bstep t p h).2.1]) else ([], [], false)
theorem rd93_at (l : List S93) (i : Nat) (h : i < l.length) : rd_T93 l (i : Int) = l[i] := by
  simp [rd_T93, List.getD_eq_getElem?_getD, h]
theorem implRun_l0 (p : Int) (l : List S93) (hl : l.length ≤ 60) : ∀ (d i : Nat) (t : List Int) (o : List (List Int)), i + d = l.length → o.length ≤ i →
    Ev (fun k => impl_RunBridge.l0 k p t o l (l.length : Int) (i : Int)) (runB p (l.drop i) t o) := by
  intro d
  induction d with
  | zero =>
    intro i t o hi ho
    rw [List.drop_of_length_le (by omega)]
    refine Ev.step (fun k => by rw [impl_RunBridge.l0]) ?_
    exact evF (by omega) (Ev.now _)
  | succ d ih =>
    intro i t o hi ho
    rw [List.drop_eq_getElem_cons (show i < l.length by omega)]
    refine Ev.step (fun k => by rw [impl_RunBridge.l0]) ?_
    refine evT (by omega) (evT (by omega) (evT (by omega) ?_))
    rw [rd93_at l i (by omega), show wrap64 ((i : Int) + 1) = ((i + 1 : Nat) : Int) by rw [w64 (by omega) (by omega)]; omega]
    refine Ev.bind (implStep_ev t p _) ?_
    show Ev _ (if (bstep t p l[i]).2.2 = true then _ else _)
    by_cases c : (bstep t p l[i]).2.2 = true
    · rw [if_pos c]
      exact evT c (evT (by omega) (ih (i + 1) _ _ (by omega) (by simp; omega)))
    · rw [if_neg c]
      exact evF c (Ev.now _)
theorem specRun_l0 (p : Int) (l : List S93) (hl : l.length ≤ 60) : ∀ (d i : Nat) (t : List Int) (o : List (List Int)), i + d = l.length → o.length ≤ i →
    Ev (fun k => spec_RunBridge.l0 k p l t o (i : Int)) (runB p (l.drop i) t o) := by
  intro d
  induction d with
  | zero =>
    intro i t o hi ho
    rw [List.drop_of_length_le (by omega)]
    refine Ev.step (fun k => by rw [spec_RunBridge.l0]) ?_
    exact evF (by omega) (Ev.now _)
  | succ d ih =>
    intro i t o hi ho
    rw [List.drop_eq_getElem_cons (show i < l.length by omega)]
    refine Ev.step (fun k => by rw [spec_RunBridge.l0]) ?_
    refine evT (by omega) (evT (by omega) ?_)
    rw [rd93_at l i (by omega), show wrap64 ((i : Int) + 1) = ((i + 1 : Nat) : Int) by rw [w64 (by omega) (by omega)]; omega]
    refine Ev.bind (specStep_ev t p _) ?_
    show Ev _ (if (bstep t p l[i]).2.2 = true then _ else _)
    by_cases c : (bstep t p l[i]).2.2 = true
    · rw [if_pos c]
      exact evT c (evT (by omega) (ih (i + 1) _ _ (by omega) (by simp; omega)))
    · rw [if_neg c]
      exact evF c (Ev.now _)
def fresh : List Int := List.replicate 15 (-1)
def runR (p : Int) (l : List S93) : List Int × List (List Int) × Bool := if (1 ≤ p ∧ p ≤ 6) ∧ l.length ≤ 60 then runB p l fresh [] else ([], [], false)
theorem specFresh_l0 : ∀ d i : Nat, i + d = 15 → Ev (fun k => spec_FreshTable.l0 k (List.replicate i (-1)) (i : Int)) fresh := by
  intro d
  induction d with
  | zero =>
    intro i hi
    obtain rfl : i = 15 := by omega
    refine Ev.step (fun k => by rw [spec_FreshTable.l0]) ?_
    exact evF (by omega) (Ev.now _)
  | succ d ih =>
    intro i hi
    refine Ev.step (fun k => by rw [spec_FreshTable.l0]) ?_
    refine evT (by omega) (evT (by simp; omega) ?_)
    rw [show wrap64 ((i : Int) + 1) = ((i + 1 : Nat) : Int) by rw [w64 (by omega) (by omega)]; omega, show List.replicate i (-1 : Int) ++ [(-1)] = List.replicate (i + 1) (-1) by rw [List.replicate_succ']]
    exact ih (i + 1) (by omega)
theorem implFresh_eq : impl_FreshTable.f = some fresh := by
  unfold impl_FreshTable.f fresh
  decide
theorem runR_yes {p : Int} {l : List S93} (c : (1 ≤ p ∧ p ≤ 6) ∧ l.length ≤ 60) : runR p l = runB p l fresh [] := by unfold runR; rw [if_pos c]
theorem runR_no {p : Int} {l : List S93} (c : ¬ ((1 ≤ p ∧ p ≤ 6) ∧ l.length ≤ 60)) : runR p l = ([], [], false) := by unfold runR; rw [if_neg c]
theorem implRun_ev (p : Int) (l : List S93) : Ev (fun k => impl_RunBridge.f k p l) (runR p l) := by
  simp only [impl_RunBridge.f]
  have bad : Ev (fun k => impl_RunBridge.j0 k p l true) (([] : List Int), ([] : List (List Int)), false) := by
    refine Ev.step (fun k => by rw [impl_RunBridge.j0]) ?_
    exact evT rfl (Ev.now _)
  refine evS (a := decide (1 ≤ p ∧ p ≤ 6)) (by unfold impl_portsOk.f; rw [within_eq]; rfl) ?_
  by_cases hp : 1 ≤ p ∧ p ≤ 6
  · refine evT (decide_eq_true hp) ?_
    by_cases hl : l.length ≤ 60
    · rw [runR_yes ⟨hp, hl⟩, decide_eq_false (show ¬ ((l.length : Int) > 60) by omega)]
      refine Ev.step (fun k => by rw [impl_RunBridge.j0]) ?_
      exact evF (by decide) (evS implFresh_eq (implRun_l0 p l hl l.length 0 fresh [] (by omega) (by simp)))
    · rw [runR_no (fun c => hl c.2), decide_eq_true (show (l.length : Int) > 60 by omega)]
      exact bad
  · rw [runR_no (fun c => hp c.1)]
    exact evF (by simp only [decide_eq_true_eq]; exact hp) bad
theorem specRun_ev (p : Int) (l : List S93) : Ev (fun k => spec_RunBridge.f k p l) (runR p l) := by
  simp only [spec_RunBridge.f, spec_FreshTable.f]
  refine Ev.bind (specFresh_l0 15 0 (by omega)) (evS (a := ([] : List (List Int))) rfl (evS (l1In_eq _ _ _) ?_))
  have bad : Ev (fun k => spec_RunBridge.j0 k p l fresh [] true) (([] : List Int), ([] : List (List Int)), false) := by
    refine Ev.step (fun k => by rw [spec_RunBridge.j0]) ?_
    exact evT rfl (Ev.now _)
  by_cases hp : 1 ≤ p ∧ p ≤ 6
  · refine evT (decide_eq_true hp) ?_
    by_cases hl : l.length ≤ 60
    · rw [runR_yes ⟨hp, hl⟩, decide_eq_false (show ¬ ((l.length : Int) > 60) by omega)]
      refine Ev.step (fun k => by rw [spec_RunBridge.j0]) ?_
      exact evF (by decide) (specRun_l0 p l hl l.length 0 fresh [] (by omega) (by simp))
    · rw [runR_no (fun c => hl c.2), decide_eq_true (show (l.length : Int) > 60 by omega)]
      exact bad
  · rw [runR_no (fun c => hp c.1)]
    exact evF (by simp only [decide_eq_true_eq]; exact hp) bad
/-- what is returned is small -/
structure Smal (x : List Int × List (List Int) × Bool) : Prop where
  t : x.1.length ≤ 1000
  o : Few x.2.1
theorem runB_small (p : Int) (hp : 1 ≤ p ∧ p ≤ 6) : ∀ (l : List S93) (t : List Int) (o : List (List Int)), t.length = 15 → o.length + l.length ≤ 1000 → (∀ c ∈ o, c.length ≤ 1000000) → Smal (runB p l t o) := by
  have e0 : Smal (([] : List Int), ([] : List (List Int)), false) := ⟨by simp, ⟨by simp, fun c hc => by simp at hc⟩⟩
  intro l
  induction l with
  | nil => intro t o ht ho hr; exact ⟨by show t.length ≤ 1000; omega, ⟨by show o.length ≤ 1000; simpa using ho, hr⟩⟩
  | cons h r ih =>
    intro t o ht ho hr
    rw [List.length_cons] at ho
    show Smal (if (bstep t p h).2.2 = true then _ else _)
    by_cases c : (bstep t p h).2.2 = true
    · rw [if_pos c]
      unfold bstep at c ⊢
      by_cases d : (learn t p h.f0 h.f2).2 = true ∧ (0 ≤ h.f1 ∧ h.f1 ≤ 15)
      · rw [if_pos d]
        refine ih _ _ (tv_elim (learn_tv d.1)).2.2.1 (by simp; omega) (fun c hc => ?_)
        rcases List.mem_append.1 hc with hc | hc
        · exact hr c hc
        · obtain rfl := List.mem_singleton.1 hc
          show (ports _ p h.f1 h.f2).length ≤ 1000000
          unfold ports
          split
          · have := sp_len h.f2 (kn (learn t p h.f0 h.f2).1 h.f1) p.toNat
            omega
          · simp
      · rw [if_neg d] at c
        cases c
    · rw [if_neg c]
      exact e0
theorem runR_small (p : Int) (l : List S93) : Smal (runR p l) := by
  unfold runR
  split
  · rename_i h
    exact runB_small p h.1 l fresh [] (by simp [fresh]) (by simp; omega) (fun c hc => by simp at hc)
  · exact ⟨by simp, ⟨by simp, fun c hc => by simp at hc⟩⟩

end Go.Proofs.Ytegnghbgkiddoaa.Q

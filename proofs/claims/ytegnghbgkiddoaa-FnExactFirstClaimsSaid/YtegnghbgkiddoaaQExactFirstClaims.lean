/- Plain lemmas on what the printed functions compute (seat Ytegnghbgkiddoaa, module QExactFirstClaims). Conditions: each lemma's own. -/
import Derived.Test.YtegnghbgkiddoaaQn
import Derived.Test.YtegnghbgkiddoaaPA0
import Derived.Test.YtegnghbgkiddoaaPA13
import Derived.Test.YtegnghbgkiddoaaPA29
import Derived.Test.YtegnghbgkiddoaaPA41
set_option linter.unusedVariables false
set_option linter.unusedSimpArgs false
namespace Go.Proofs.Ytegnghbgkiddoaa.Q
open Go Go.RowKit Go.Proofs.Ytegnghbgkiddoaa.PA Go.Proofs.YtegnghbgkiddoaaW.PrintWords Go.Proofs.YtegnghbgkiddoaaW.PrintLast

theorem eqIntS_l0 (a b : List Int) (hl : a.length = b.length) (hb : a.length ≤ 1000000000000) : ∀ d i : Nat, i + d = a.length →
    Ev (fun k => laws_eqIntS.l0 k a b (i : Int)) (decide (a.drop i = b.drop i)) := by
  intro d
  induction d with
  | zero =>
    intro i hi
    refine Ev.step (fun k => by rw [laws_eqIntS.l0]) ?_
    refine evF (by omega) (evE (Ev.now _) ?_)
    rw [List.drop_of_length_le (by omega), List.drop_of_length_le (by omega)]
    simp
  | succ d ih =>
    intro i hi
    have ha : a.drop i = a[i]'(by omega) :: a.drop (i + 1) := List.drop_eq_getElem_cons (by omega)
    have hb' : b.drop i = b[i]'(by omega) :: b.drop (i + 1) := List.drop_eq_getElem_cons (by omega)
    have e : wrap64 ((i : Int) + 1) = ((i + 1 : Nat) : Int) := by rw [w64 (by omega) (by omega)]; omega
    refine Ev.step (fun k => by rw [laws_eqIntS.l0]) ?_
    refine evT (by omega) (evT (by omega) (evT (by omega) ?_))
    rw [rd_at b i (by omega), rd_at a i (by omega), e]
    by_cases h : a[i]'(by omega) = b[i]'(by omega)
    · refine evT h (evE (ih (i + 1) (by omega)) ?_)
      rw [ha, hb']
      exact decide_eq_decide.2 ⟨fun e => by rw [h, e], fun e => (List.cons.inj e).2⟩
    · refine evF h (evE (Ev.now _) ?_)
      rw [ha, hb']
      exact (decide_eq_false (fun e => h (List.cons.inj e).1)).symm
theorem eqIntS_ev (a b : List Int) (hb : a.length ≤ 1000000000000) : Ev (fun k => laws_eqIntS.f k a b) (decide (a = b)) := by
  simp only [laws_eqIntS.f]
  by_cases h : a.length = b.length
  · exact evT (by omega) (evE (eqIntS_l0 a b h hb a.length 0 (by omega)) (by simp))
  · exact evF (by omega) (evE (Ev.now _) (by simp; intro e; exact h (by rw [e])))
/-- m, m + 1, .. -/
def cnt (m : Int) : Nat → List Int
  | 0 => []
  | n + 1 => m :: cnt (m + 1) n
theorem cnt_length (m : Int) (n : Nat) : (cnt m n).length = n := by
  induction n generalizing m with
  | zero => rfl
  | succ n ih => simp [cnt, ih]
theorem markIntS_l0 : ∀ (d : Nat) (pre post : List Int) (m : Int), post.length = d → 0 ≤ m → m + d ≤ 1000000000000 → pre.length + d ≤ 1000000000000 →
    Ev (fun k => laws_markIntS.l0 k (pre ++ post) m (pre.length : Int)) (m + d, pre ++ cnt m d) := by
  intro d
  induction d with
  | zero =>
    intro pre post m hp h0 h1 h2
    obtain rfl : post = [] := List.eq_nil_of_length_eq_zero hp
    refine Ev.step (fun k => by rw [laws_markIntS.l0]) ?_
    refine evF (by simp) (evE (Ev.now _) (by simp [cnt]))
  | succ d ih =>
    intro pre post m hp h0 h1 h2
    match post, hp with
    | x :: post, hp =>
      have hp' : post.length = d := by simpa using hp
      have e : wrap64 ((pre.length : Int) + 1) = (((pre ++ [m]).length : Nat) : Int) := by rw [w64 (by omega) (by omega)]; simp
      have e2 : wrap64 (m + 1) = m + 1 := w64 (by omega) (by omega)
      refine Ev.step (fun k => by rw [laws_markIntS.l0]) ?_
      refine evT (by simp; omega) (evT (by omega) ?_)
      have e3 : (pre ++ x :: post).set ((pre.length : Int) : Int).toNat m = (pre ++ [m]) ++ post := by simp
      rw [e, e2, e3]
      refine evE (ih (pre ++ [m]) post (m + 1) hp' (by omega) (by omega) (by simp; omega)) ?_
      simp [cnt]; omega
theorem markIntS_ev (l : List Int) (m : Int) (h0 : 0 ≤ m) (h1 : m + l.length ≤ 1000000000000) : Ev (fun k => laws_markIntS.f k l m) (m + l.length, cnt m l.length) := by
  simp only [laws_markIntS.f]
  exact markIntS_l0 l.length [] l m rfl h0 h1 (by simp; omega)
theorem heldIntS_l0 : ∀ (d : Nat) (pre : List Int) (m : Int), 0 ≤ m → m + d ≤ 1000000000000 → pre.length + d ≤ 1000000000000 →
    Ev (fun k => laws_heldIntS.l0 k (pre ++ cnt m d) m (pre.length : Int)) (m + d) := by
  intro d
  induction d with
  | zero =>
    intro pre m h0 h1 h2
    refine Ev.step (fun k => by rw [laws_heldIntS.l0]) ?_
    refine evF (by simp [cnt]) (evE (Ev.now _) (by simp))
  | succ d ih =>
    intro pre m h0 h1 h2
    have e : wrap64 ((pre.length : Int) + 1) = (((pre ++ [m]).length : Nat) : Int) := by rw [w64 (by omega) (by omega)]; simp
    have e2 : wrap64 (m + 1) = m + 1 := w64 (by omega) (by omega)
    have e3 : pre ++ cnt m (d + 1) = (pre ++ [m]) ++ cnt (m + 1) d := by simp [cnt]
    refine Ev.step (fun k => by rw [laws_heldIntS.l0]) ?_
    refine evT (by simp [cnt_length]; omega) (evT (by omega) (evT ?_ ?_))
    · rw [rd_at _ _ (by simp [cnt_length])]
      simp [cnt]
    · rw [e, e2, e3]
      exact evE (ih (pre ++ [m]) (m + 1) (by omega) (by omega) (by simp; omega)) (by omega)
theorem heldIntS_ev (n : Nat) (m : Int) (h0 : 0 ≤ m) (h1 : m + n ≤ 1000000000000) : Ev (fun k => laws_heldIntS.f k (cnt m n) m) (m + n) := by
  simp only [laws_heldIntS.f]
  exact heldIntS_l0 n [] m h0 h1 (by simp; omega)

/-! ### rows of rows: compared, marked, held -/
theorem ssAt (pre post : List (List Int)) (c : List Int) : rd_L5 (pre ++ c :: post) (pre.length : Int) = c := by
  simp [rd_L5, List.getD_eq_getElem?_getD]
def tot : List (List Int) → Nat
  | [] => 0
  | c :: r => c.length + tot r
def cntSS : Int → List (List Int) → List (List Int)
  | _, [] => []
  | m, c :: r => cnt m c.length :: cntSS (m + c.length) r
theorem cntSS_length (l : List (List Int)) (m : Int) : (cntSS m l).length = l.length := by
  induction l generalizing m with
  | nil => rfl
  | cons c r ih => simp [cntSS, ih]
theorem ss_next (pre : List (List Int)) (c : List Int) (h : pre.length + 1 ≤ 1000000000000) : wrap64 ((pre.length : Int) + 1) = (((pre ++ [c]).length : Nat) : Int) := by
  rw [w64 (by omega) (by omega)]; simp
theorem eqIntSS_l0 : ∀ (post pre : List (List Int)), pre.length + post.length ≤ 1000000000000 → (∀ c ∈ post, c.length ≤ 1000000000000) →
    Ev (fun k => laws_eqIntSS.l0 k (pre ++ post) (pre ++ post) (pre.length : Int)) true := by
  intro post
  induction post with
  | nil =>
    intro pre h hr
    refine Ev.step (fun k => by rw [laws_eqIntSS.l0]) ?_
    exact evF (by simp) (Ev.now _)
  | cons c post ih =>
    intro pre h hr
    rw [List.length_cons] at h
    refine Ev.step (fun k => by rw [laws_eqIntSS.l0]) ?_
    refine evT (by rw [List.length_append, List.length_cons]; omega) (evT (by omega) (evT (by rw [List.length_append, List.length_cons]; omega) ?_))
    rw [ssAt, ss_next pre c (by omega)]
    refine Ev.bind (eqIntS_ev c c (hr c (by simp))) (evT (by simp) ?_)
    have := ih (pre ++ [c]) (by simp; omega) (fun x hx => hr x (by simp [hx]))
    rw [List.append_assoc] at this
    exact this
theorem eqIntSS_ev (a : List (List Int)) (h : a.length ≤ 1000000000000) (hr : ∀ c ∈ a, c.length ≤ 1000000000000) : Ev (fun k => laws_eqIntSS.f k a a) true := by
  simp only [laws_eqIntSS.f]
  exact evT (by trivial) (eqIntSS_l0 a [] (by simpa using h) hr)
theorem markIntSS_l0 : ∀ (post pre : List (List Int)) (m : Int), pre.length + post.length ≤ 1000000000000 → 0 ≤ m → m + tot post ≤ 1000000000000 →
    Ev (fun k => laws_markIntSS.l0 k (pre ++ post) m (pre.length : Int)) (m + tot post, pre ++ cntSS m post) := by
  intro post
  induction post with
  | nil =>
    intro pre m h h0 h1
    refine Ev.step (fun k => by rw [laws_markIntSS.l0]) ?_
    exact evF (by simp) (evE (Ev.now _) (by simp [tot, cntSS]))
  | cons c post ih =>
    intro pre m h h0 h1
    rw [List.length_cons] at h
    have ht : (tot (c :: post) : Int) = (c.length : Int) + tot post := by show ((c.length + tot post : Nat) : Int) = _; omega
    refine Ev.step (fun k => by rw [laws_markIntSS.l0]) ?_
    refine evT (by rw [List.length_append, List.length_cons]; omega) (evT (by omega) ?_)
    rw [ssAt, ss_next pre (cnt m c.length) (by omega)]
    refine Ev.bind (markIntS_ev c m h0 (by omega)) ?_
    dsimp only
    have e : (pre ++ c :: post).set ((pre.length : Int) : Int).toNat (cnt m c.length) = (pre ++ [cnt m c.length]) ++ post := by simp
    rw [e]
    refine evE (ih (pre ++ [cnt m c.length]) (m + c.length) (by simp; omega) (by omega) (by omega)) ?_
    rw [ht, List.append_assoc]
    show (m + c.length + (tot post : Int), pre ++ (cnt m c.length :: cntSS (m + c.length) post)) = _
    rw [Int.add_assoc]
    rfl
theorem markIntSS_ev (l : List (List Int)) (m : Int) (h : l.length ≤ 1000000000000) (h0 : 0 ≤ m) (h1 : m + tot l ≤ 1000000000000) : Ev (fun k => laws_markIntSS.f k l m) (m + tot l, cntSS m l) := by
  simp only [laws_markIntSS.f]
  exact markIntSS_l0 l [] m (by simpa using h) h0 h1
theorem heldIntSS_l0 : ∀ (post pre : List (List Int)) (m : Int), pre.length + post.length ≤ 1000000000000 → 0 ≤ m → m + tot post ≤ 1000000000000 →
    Ev (fun k => laws_heldIntSS.l0 k (pre ++ cntSS m post) m (pre.length : Int)) (m + tot post) := by
  intro post
  induction post with
  | nil =>
    intro pre m h h0 h1
    refine Ev.step (fun k => by rw [laws_heldIntSS.l0]) ?_
    exact evF (by simp [cntSS]) (evE (Ev.now _) (by simp [tot]))
  | cons c post ih =>
    intro pre m h h0 h1
    rw [List.length_cons] at h
    have ht : (tot (c :: post) : Int) = (c.length : Int) + tot post := by show ((c.length + tot post : Nat) : Int) = _; omega
    refine Ev.step (fun k => by rw [laws_heldIntSS.l0]) ?_
    show Ev (fun k => if (pre.length : Int) < ((pre ++ (cnt m c.length :: cntSS (m + c.length) post)).length : Int) then _ else _) _
    refine evT (by rw [List.length_append, List.length_cons]; omega) (evT (by omega) ?_)
    show Ev (fun k => (laws_heldIntS.f k (rd_L5 (pre ++ (cnt m c.length :: cntSS (m + c.length) post)) (pre.length : Int)) m).bind fun t => if t < 0 then some (-1) else laws_heldIntSS.l0 k (pre ++ (cnt m c.length :: cntSS (m + c.length) post)) t (wrap64 ((pre.length : Int) + 1))) _
    rw [ssAt, ss_next pre (cnt m c.length) (by omega)]
    refine Ev.bind (heldIntS_ev c.length m h0 (by omega)) (evF (by omega) ?_)
    have := ih (pre ++ [cnt m c.length]) (m + c.length) (by simp; omega) (by omega) (by omega)
    rw [List.append_assoc] at this
    refine evE this ?_
    rw [ht]
    omega
theorem heldIntSS_ev (l : List (List Int)) (m : Int) (h : l.length ≤ 1000000000000) (h0 : 0 ≤ m) (h1 : m + tot l ≤ 1000000000000) : Ev (fun k => laws_heldIntSS.f k (cntSS m l) m) (m + tot l) := by
  simp only [laws_heldIntSS.f]
  exact heldIntSS_l0 l [] m (by simpa using h) h0 h1
/-- some rows, and not many -/
structure Few (l : List (List Int)) : Prop where
  len : l.length ≤ 1000
  row : ∀ c ∈ l, c.length ≤ 1000000
theorem tot_le (B : Nat) : ∀ l : List (List Int), (∀ c ∈ l, c.length ≤ B) → tot l ≤ B * l.length := by
  intro l
  induction l with
  | nil => intro _; simp [tot]
  | cons c r ih =>
    intro h
    have h1 := h c (by simp)
    have h2 := ih (fun x hx => h x (by simp [hx]))
    show c.length + tot r ≤ B * (r.length + 1)
    rw [Nat.mul_succ]
    omega
theorem Few.tot {l : List (List Int)} (h : Few l) : tot l ≤ 1000000000 := by
  have h1 := tot_le 1000000 l h.row
  have h2 := h.len
  have : 1000000 * l.length ≤ 1000000 * 1000 := Nat.mul_le_mul_left _ h2
  omega

theorem stC_few (m : Nat) (hm : m ≤ 8) (f : Nat → Cm) : Few (stC m f) := by
  refine ⟨by rw [stC_len]; omega, fun c hc => ?_⟩
  obtain ⟨j, _, rfl⟩ := List.mem_map.1 hc
  show 4 ≤ 1000000
  omega
theorem rows0_few (n : Int) : Few (rows0 n) := by
  unfold rows0
  split
  · exact stC_few _ (by omega) _
  · exact ⟨by simp, fun c hc => by simp at hc⟩
theorem q_FnExactFirstClaims : ∀ (a0 : Int) (w0 : (Lit.int .i64 a0).wf = true), ∃ k, laws_FnExactFirstClaims.f k a0 = some true := by
  intro n w0
  refine Ev.rounds ?_
  have hF := rows0_few n
  have hl := hF.len
  have ht := hF.tot
  have hq := eqIntSS_ev (rows0 n) (by omega) (fun c hc => by have := hF.row c hc; omega)
  have hh := heldIntSS_ev (rows0 n) 1 (by omega) (by omega) (by omega)
  simp only [laws_FnExactFirstClaims.f]
  refine Ev.bind (specFirst_ev n) (Ev.bind (implFirst_ev n) (Ev.bind hq (evT rfl (Ev.bind (markIntSS_ev (rows0 n) 1 (by omega) (by omega) (by omega)) ?_))))
  refine Ev.bind hh (evF (by omega) (evT rfl (Ev.bind (implFirst_ev n) (Ev.bind hq (evT rfl (Ev.bind hh (evF (by omega) (evT rfl (Ev.now _)))))))))

end Go.Proofs.Ytegnghbgkiddoaa.Q

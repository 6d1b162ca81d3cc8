/- Plain lemmas on what the printed functions compute (seat Ytegnghbgkiddoaa, module QExactNextClaims). Conditions: each lemma's own. -/
import Derived.Test.YtegnghbgkiddoaaQp
import Derived.Test.YtegnghbgkiddoaaPA0
import Derived.Test.YtegnghbgkiddoaaPA11
import Derived.Test.YtegnghbgkiddoaaPA13
import Derived.Test.YtegnghbgkiddoaaPA25
import Derived.Test.YtegnghbgkiddoaaPA29
import Derived.Test.YtegnghbgkiddoaaPA51
set_option linter.unusedVariables false
set_option linter.unusedSimpArgs false
namespace Go.Proofs.Ytegnghbgkiddoaa.Q
open Go Go.RowKit Go.Proofs.Ytegnghbgkiddoaa.PA Go.Proofs.YtegnghbgkiddoaaW.PrintWords Go.Proofs.YtegnghbgkiddoaaW.PrintLast

theorem eqIntS_l0 (a b : List Int) (hl : a.length = b.length) (hb : a.length ≤ 1000000000000) : ∀ d i : Nat, i + d = a.length →
    Ev (fun k => laws_eqIntS.l0 k a b (i : Int)) (decide (a.drop i = b.drop i)) := by
  intro d
  induction d with
  | zero =>
    intro i hi
    refine Ev.step (fun k => by rw [laws_eqIntS.l0]) ?_
    refine evF (by omega) (evE (Ev.now _) ?_)
    rw [List.drop_of_length_le (by omega), List.drop_of_length_le (by omega)]
    simp
  | succ d ih =>
    intro i hi
    have ha : a.drop i = a[i]'(by omega) :: a.drop (i + 1) := List.drop_eq_getElem_cons (by omega)
    have hb' : b.drop i = b[i]'(by omega) :: b.drop (i + 1) := List.drop_eq_getElem_cons (by omega)
    have e : wrap64 ((i : Int) + 1) = ((i + 1 : Nat) : Int) := by rw [w64 (by omega) (by omega)]; omega
    refine Ev.step (fun k => by rw [laws_eqIntS.l0]) ?_
    refine evT (by omega) (evT (by omega) (evT (by omega) ?_))
    rw [rd_at b i (by omega), rd_at a i (by omega), e]
    by_cases h : a[i]'(by omega) = b[i]'(by omega)
    · refine evT h (evE (ih (i + 1) (by omega)) ?_)
      rw [ha, hb']
      exact decide_eq_decide.2 ⟨fun e => by rw [h, e], fun e => (List.cons.inj e).2⟩
    · refine evF h (evE (Ev.now _) ?_)
      rw [ha, hb']
      exact (decide_eq_false (fun e => h (List.cons.inj e).1)).symm
theorem eqIntS_ev (a b : List Int) (hb : a.length ≤ 1000000000000) : Ev (fun k => laws_eqIntS.f k a b) (decide (a = b)) := by
  simp only [laws_eqIntS.f]
  by_cases h : a.length = b.length
  · exact evT (by omega) (evE (eqIntS_l0 a b h hb a.length 0 (by omega)) (by simp))
  · exact evF (by omega) (evE (Ev.now _) (by simp; intro e; exact h (by rw [e])))
/-- m, m + 1, .. -/
def cnt (m : Int) : Nat → List Int
  | 0 => []
  | n + 1 => m :: cnt (m + 1) n
theorem cnt_length (m : Int) (n : Nat) : (cnt m n).length = n := by
  induction n generalizing m with
  | zero => rfl
  | succ n ih => simp [cnt, ih]
theorem markIntS_l0 : ∀ (d : Nat) (pre post : List Int) (m : Int), post.length = d → 0 ≤ m → m + d ≤ 1000000000000 → pre.length + d ≤ 1000000000000 →
    Ev (fun k => laws_markIntS.l0 k (pre ++ post) m (pre.length : Int)) (m + d, pre ++ cnt m d) := by
  intro d
  induction d with
  | zero =>
    intro pre post m hp h0 h1 h2
    obtain rfl : post = [] := List.eq_nil_of_length_eq_zero hp
    refine Ev.step (fun k => by rw [laws_markIntS.l0]) ?_
    refine evF (by simp) (evE (Ev.now _) (by simp [cnt]))
  | succ d ih =>
    intro pre post m hp h0 h1 h2
    match post, hp with
    | x :: post, hp =>
      have hp' : post.length = d := by simpa using hp
      have e : wrap64 ((pre.length : Int) + 1) = (((pre ++ [m]).length : Nat) : Int) := by rw [w64 (by omega) (by omega)]; simp
      have e2 : wrap64 (m + 1) = m + 1 := w64 (by omega) (by omega)
      refine Ev.step (fun k => by rw [laws_markIntS.l0]) ?_
      refine evT (by simp; omega) (evT (by omega) ?_)
      have e3 : (pre ++ x :: post).set ((pre.length : Int) : Int).toNat m = (pre ++ [m]) ++ post := by simp
      rw [e, e2, e3]
      refine evE (ih (pre ++ [m]) post (m + 1) hp' (by omega) (by omega) (by simp; omega)) ?_
      simp [cnt]; omega
theorem markIntS_ev (l : List Int) (m : Int) (h0 : 0 ≤ m) (h1 : m + l.length ≤ 1000000000000) : Ev (fun k => laws_markIntS.f k l m) (m + l.length, cnt m l.length) := by
  simp only [laws_markIntS.f]
  exact markIntS_l0 l.length [] l m rfl h0 h1 (by simp; omega)
theorem heldIntS_l0 : ∀ (d : Nat) (pre : List Int) (m : Int), 0 ≤ m → m + d ≤ 1000000000000 → pre.length + d ≤ 1000000000000 →
    Ev (fun k => laws_heldIntS.l0 k (pre ++ cnt m d) m (pre.length : Int)) (m + d) := by
  intro d
  induction d with
  | zero =>
    intro pre m h0 h1 h2
    refine Ev.step (fun k => by rw [laws_heldIntS.l0]) ?_
    refine evF (by simp [cnt]) (evE (Ev.now _) (by simp))
  | succ d ih =>
    intro pre m h0 h1 h2
    have e : wrap64 ((pre.length : Int) + 1) = (((pre ++ [m]).length : Nat) : Int) := by rw [w64 (by omega) (by omega)]; simp
    have e2 : wrap64 (m + 1) = m + 1 := w64 (by omega) (by omega)
    have e3 : pre ++ cnt m (d + 1) = (pre ++ [m]) ++ cnt (m + 1) d := by simp [cnt]
    refine Ev.step (fun k => by rw [laws_heldIntS.l0]) ?_
    refine evT (by simp [cnt_length]; omega) (evT (by omega) (evT ?_ ?_))
    · rw [rd_at _ _ (by simp [cnt_length])]
      simp [cnt]
    · rw [e, e2, e3]
      exact evE (ih (pre ++ [m]) (m + 1) (by omega) (by omega) (by simp; omega)) (by omega)
theorem heldIntS_ev (n : Nat) (m : Int) (h0 : 0 ≤ m) (h1 : m + n ≤ 1000000000000) : Ev (fun k => laws_heldIntS.f k (cnt m n) m) (m + n) := by
  simp only [laws_heldIntS.f]
  exact heldIntS_l0 n [] m h0 h1 (by simp; omega)

/-! ### rows of rows: compared, marked, held -/
theorem ssAt (pre post : List (List Int)) (c : List Int) : rd_L5 (pre ++ c :: post) (pre.length : Int) = c := by
  simp [rd_L5, List.getD_eq_getElem?_getD]
def tot : List (List Int) → Nat
  | [] => 0
  | c :: r => c.length + tot r
def cntSS : Int → List (List Int) → List (List Int)
  | _, [] => []
  | m, c :: r => cnt m c.length :: cntSS (m + c.length) r
theorem cntSS_length (l : List (List Int)) (m : Int) : (cntSS m l).length = l.length := by
  induction l generalizing m with
  | nil => rfl
  | cons c r ih => simp [cntSS, ih]
theorem ss_next (pre : List (List Int)) (c : List Int) (h : pre.length + 1 ≤ 1000000000000) : wrap64 ((pre.length : Int) + 1) = (((pre ++ [c]).length : Nat) : Int) := by
  rw [w64 (by omega) (by omega)]; simp
theorem eqIntSS_l0 : ∀ (post pre : List (List Int)), pre.length + post.length ≤ 1000000000000 → (∀ c ∈ post, c.length ≤ 1000000000000) →
    Ev (fun k => laws_eqIntSS.l0 k (pre ++ post) (pre ++ post) (pre.length : Int)) true := by
  intro post
  induction post with
  | nil =>
    intro pre h hr
    refine Ev.step (fun k => by rw [laws_eqIntSS.l0]) ?_
    exact evF (by simp) (Ev.now _)
  | cons c post ih =>
    intro pre h hr
    rw [List.length_cons] at h
    refine Ev.step (fun k => by rw [laws_eqIntSS.l0]) ?_
    refine evT (by rw [List.length_append, List.length_cons]; omega) (evT (by omega) (evT (by rw [List.length_append, List.length_cons]; omega) ?_))
    rw [ssAt, ss_next pre c (by omega)]
    refine Ev.bind (eqIntS_ev c c (hr c (by simp))) (evT (by simp) ?_)
    have := ih (pre ++ [c]) (by simp; omega) (fun x hx => hr x (by simp [hx]))
    rw [List.append_assoc] at this
    exact this
theorem eqIntSS_ev (a : List (List Int)) (h : a.length ≤ 1000000000000) (hr : ∀ c ∈ a, c.length ≤ 1000000000000) : Ev (fun k => laws_eqIntSS.f k a a) true := by
  simp only [laws_eqIntSS.f]
  exact evT (by trivial) (eqIntSS_l0 a [] (by simpa using h) hr)
theorem markIntSS_l0 : ∀ (post pre : List (List Int)) (m : Int), pre.length + post.length ≤ 1000000000000 → 0 ≤ m → m + tot post ≤ 1000000000000 →
    Ev (fun k => laws_markIntSS.l0 k (pre ++ post) m (pre.length : Int)) (m + tot post, pre ++ cntSS m post) := by
  intro post
  induction post with
  | nil =>
    intro pre m h h0 h1
    refine Ev.step (fun k => by rw [laws_markIntSS.l0]) ?_
    exact evF (by simp) (evE (Ev.now _) (by simp [tot, cntSS]))
  | cons c post ih =>
    intro pre m h h0 h1
    rw [List.length_cons] at h
    have ht : (tot (c :: post) : Int) = (c.length : Int) + tot post := by show ((c.length + tot post : Nat) : Int) = _; omega
    refine Ev.step (fun k => by rw [laws_markIntSS.l0]) ?_
    refine evT (by rw [List.length_append, List.length_cons]; omega) (evT (by omega) ?_)
    rw [ssAt, ss_next pre (cnt m c.length) (by omega)]
    refine Ev.bind (markIntS_ev c m h0 (by omega)) ?_
    dsimp only
    have e : (pre ++ c :: post).set ((pre.length : Int) : Int).toNat (cnt m c.length) = (pre ++ [cnt m c.length]) ++ post := by simp
    rw [e]
    refine evE (ih (pre ++ [cnt m c.length]) (m + c.length) (by simp; omega) (by omega) (by omega)) ?_
    rw [ht, List.append_assoc]
    show (m + c.length + (tot post : Int), pre ++ (cnt m c.length :: cntSS (m + c.length) post)) = _
    rw [Int.add_assoc]
    rfl
theorem markIntSS_ev (l : List (List Int)) (m : Int) (h : l.length ≤ 1000000000000) (h0 : 0 ≤ m) (h1 : m + tot l ≤ 1000000000000) : Ev (fun k => laws_markIntSS.f k l m) (m + tot l, cntSS m l) := by
  simp only [laws_markIntSS.f]
  exact markIntSS_l0 l [] m (by simpa using h) h0 h1
theorem heldIntSS_l0 : ∀ (post pre : List (List Int)) (m : Int), pre.length + post.length ≤ 1000000000000 → 0 ≤ m → m + tot post ≤ 1000000000000 →
    Ev (fun k => laws_heldIntSS.l0 k (pre ++ cntSS m post) m (pre.length : Int)) (m + tot post) := by
  intro post
  induction post with
  | nil =>
    intro pre m h h0 h1
    refine Ev.step (fun k => by rw [laws_heldIntSS.l0]) ?_
    exact evF (by simp [cntSS]) (evE (Ev.now _) (by simp [tot]))
  | cons c post ih =>
    intro pre m h h0 h1
    rw [List.length_cons] at h
    have ht : (tot (c :: post) : Int) = (c.length : Int) + tot post := by show ((c.length + tot post : Nat) : Int) = _; omega
    refine Ev.step (fun k => by rw [laws_heldIntSS.l0]) ?_
    show Ev (fun k => if (pre.length : Int) < ((pre ++ (cnt m c.length :: cntSS (m + c.length) post)).length : Int) then _ else _) _
    refine evT (by rw [List.length_append, List.length_cons]; omega) (evT (by omega) ?_)
    show Ev (fun k => (laws_heldIntS.f k (rd_L5 (pre ++ (cnt m c.length :: cntSS (m + c.length) post)) (pre.length : Int)) m).bind fun t => if t < 0 then some (-1) else laws_heldIntSS.l0 k (pre ++ (cnt m c.length :: cntSS (m + c.length) post)) t (wrap64 ((pre.length : Int) + 1))) _
    rw [ssAt, ss_next pre (cnt m c.length) (by omega)]
    refine Ev.bind (heldIntS_ev c.length m h0 (by omega)) (evF (by omega) ?_)
    have := ih (pre ++ [cnt m c.length]) (m + c.length) (by simp; omega) (by omega) (by omega)
    rw [List.append_assoc] at this
    refine evE this ?_
    rw [ht]
    omega
theorem heldIntSS_ev (l : List (List Int)) (m : Int) (h : l.length ≤ 1000000000000) (h0 : 0 ≤ m) (h1 : m + tot l ≤ 1000000000000) : Ev (fun k => laws_heldIntSS.f k (cntSS m l) m) (m + tot l) := by
  simp only [laws_heldIntSS.f]
  exact heldIntSS_l0 l [] m (by simpa using h) h0 h1
/-- some rows, and not many -/
structure Few (l : List (List Int)) : Prop where
  len : l.length ≤ 1000
  row : ∀ c ∈ l, c.length ≤ 1000000
theorem tot_le (B : Nat) : ∀ l : List (List Int), (∀ c ∈ l, c.length ≤ B) → tot l ≤ B * l.length := by
  intro l
  induction l with
  | nil => intro _; simp [tot]
  | cons c r ih =>
    intro h
    have h1 := h c (by simp)
    have h2 := ih (fun x hx => h x (by simp [hx]))
    show c.length + tot r ≤ B * (r.length + 1)
    rw [Nat.mul_succ]
    omega
theorem Few.tot {l : List (List Int)} (h : Few l) : tot l ≤ 1000000000 := by
  have h1 := tot_le 1000000 l h.row
  have h2 := h.len
  have : 1000000 * l.length ≤ 1000000 * 1000 := Nat.mul_le_mul_left _ h2
  omega

theorem toIntS_l0 (l : List Int) (hl : l.length ≤ 1000000000000) : ∀ (d : Nat) (pre post : List Int), pre.length + d = l.length → post.length = d → pre = l.take pre.length →
    Ev (fun k => laws_toIntS.l0 k l (pre ++ post) (pre.length : Int)) l := by
  intro d
  induction d with
  | zero =>
    intro pre post h1 h2 h3
    obtain rfl : post = [] := List.eq_nil_of_length_eq_zero h2
    refine Ev.step (fun k => by rw [laws_toIntS.l0]) ?_
    refine evF (by omega) (evE (Ev.now _) ?_)
    rw [List.append_nil, h3, List.take_of_length_le (by omega)]
  | succ d ih =>
    intro pre post h1 h2 h3
    match post, h2 with
    | x :: post, h2 =>
      have e : wrap64 ((pre.length : Int) + 1) = (((pre ++ [l[pre.length]'(by omega)]).length : Nat) : Int) := by rw [w64 (by omega) (by omega)]; simp
      have e3 : (pre ++ x :: post).set ((pre.length : Int) : Int).toNat (l[pre.length]'(by omega)) = (pre ++ [l[pre.length]'(by omega)]) ++ post := by simp
      refine Ev.step (fun k => by rw [laws_toIntS.l0]) ?_
      refine evT (by omega) (evT (by omega) (evT (by simp; omega) ?_))
      rw [rd_at l pre.length (by omega), e, e3]
      refine ih (pre ++ [l[pre.length]'(by omega)]) post (by simp; omega) (by simpa using h2) ?_
      rw [List.length_append, List.length_singleton, List.take_succ_eq_append_getElem (by omega), ← h3]
theorem toIntS_ev (l : List Int) (hl : l.length ≤ 1000000000000) : Ev (fun k => laws_toIntS.f k l) l := by
  simp only [laws_toIntS.f]
  exact evT (by omega) (evT (by simp; omega) (toIntS_l0 l hl l.length [] _ (by simp) (by simp) rfl))

/-! ### lists of cables: taken over, compared, marked -/
def c68 (x : S68) : S44 := ⟨x.f0, x.f1, x.f2⟩
theorem toCableS_l0 (l : List S68) (hl : l.length ≤ 1048576) : ∀ (d i : Nat) (s : List S44), i + d = l.length → s.length = l.length → (∀ j, j < i → s[j]? = (l.map c68)[j]?) →
    Ev (fun k => laws_toCableS.l0 k l s (i : Int)) (l.map c68) := by
  intro d
  induction d with
  | zero =>
    intro i s hi hs hj
    refine Ev.step (fun k => by rw [laws_toCableS.l0]) ?_
    refine evF (by omega) (evE (Ev.now _) ?_)
    refine List.ext_getElem? fun j => ?_
    by_cases h : j < i
    · exact hj j h
    · rw [List.getElem?_eq_none (by omega), List.getElem?_eq_none (by rw [List.length_map]; omega)]
  | succ d ih =>
    intro i s hi hs hj
    have e : wrap64 ((i : Int) + 1) = ((i + 1 : Nat) : Int) := by rw [w64 (by omega) (by omega)]; omega
    have hil : i < l.length := by omega
    have hx : rd_T68 l (i : Int) = l[i] := by simp [rd_T68, List.getD_eq_getElem?_getD, hil]
    refine Ev.step (fun k => by rw [laws_toCableS.l0]) ?_
    refine evT (by omega) (evT (by omega) (evS rfl (evT (by omega) ?_)))
    rw [hx, e, Int.toNat_natCast]
    refine ih (i + 1) (s.set i (c68 l[i])) (by omega) (by rw [List.length_set, hs]) (fun j hj2 => ?_)
    rw [List.getElem?_set]
    by_cases e2 : i = j
    · subst e2
      rw [if_pos rfl, if_pos (by omega)]
      simp [hil]
    · rw [if_neg e2]; exact hj j (by omega)
theorem toCableS_ev (l : List S68) (hl : l.length ≤ 1048576) : Ev (fun k => laws_toCableS.f k l) (l.map c68) := by
  simp only [laws_toCableS.f]
  refine evT (by omega) (evT (by omega) ?_)
  exact toCableS_l0 l hl l.length 0 _ (by omega) (by simp) (fun j hj => by omega)
theorem eqCableS_l0 (l : List S44) (hl : l.length ≤ 1048576) : ∀ (d i : Nat), i + d = l.length → Ev (fun k => laws_eqCableS.l0 k l l (i : Int)) true := by
  intro d
  induction d with
  | zero =>
    intro i hi
    refine Ev.step (fun k => by rw [laws_eqCableS.l0]) ?_
    exact evF (by omega) (Ev.now _)
  | succ d ih =>
    intro i hi
    have e : wrap64 ((i : Int) + 1) = ((i + 1 : Nat) : Int) := by rw [w64 (by omega) (by omega)]; omega
    refine Ev.step (fun k => by rw [laws_eqCableS.l0]) ?_
    refine evT (by omega) (evT (by omega) (evT (by omega) (evS (a := true) (by unfold laws_eqCable.f; rw [if_pos rfl, if_pos rfl, if_pos rfl]) (evT rfl ?_))))
    rw [e]
    exact ih (i + 1) (by omega)
theorem eqCableS_ev (l : List S44) (hl : l.length ≤ 1048576) : Ev (fun k => laws_eqCableS.f k l l) true := by
  simp only [laws_eqCableS.f]
  exact evT (by trivial) (eqCableS_l0 l hl l.length 0 (by omega))
theorem sz_some (l : List S68) (h : l.length ≤ 1048576) : ∃ v : Int, laws_szCableS.f l 1048576 = some v ∧ ¬ v < 0 := by
  refine ⟨wrap64 (1048576 - (l.length : Int)), ?_, ?_⟩
  · unfold laws_szCableS.f
    rw [if_neg (by rw [w64 (by omega) (by omega)]; omega)]
  · rw [w64 (by omega) (by omega)]; omega
theorem sz_none (l : List S68) (h : ¬ l.length ≤ 1048576) (hm : l.length ≤ maxLen) : ∃ v : Int, laws_szCableS.f l 1048576 = some v ∧ v < 0 := by
  refine ⟨-1, ?_, by omega⟩
  unfold laws_szCableS.f
  unfold maxLen at hm
  rw [if_pos (by rw [w64 (by omega) (by omega)]; omega)]

theorem markCableS_l0 : ∀ (d i : Nat) (l : List S44) (m : Int), i + d = l.length → l.length ≤ 1048576 → 0 ≤ m → m + 3 * d ≤ 1000000000 → ∃ ys, Ev (fun k => laws_markCableS.l0 k l m (i : Int)) (m + 3 * d, ys) := by
  intro d
  induction d with
  | zero =>
    intro i l m hi hl h0 h1
    refine ⟨l, Ev.step (fun k => by rw [laws_markCableS.l0]) ?_⟩
    exact evF (by omega) (evE (Ev.now _) (by simp))
  | succ d ih =>
    intro i l m hi hl h0 h1
    have e : wrap64 ((i : Int) + 1) = ((i + 1 : Nat) : Int) := by rw [w64 (by omega) (by omega)]; omega
    have e2 : wrap64 (wrap64 (wrap64 (m + 1) + 1) + 1) = m + 3 := by rw [w64 (x := m + 1) (by omega) (by omega), w64 (x := m + 1 + 1) (by omega) (by omega), w64 (by omega) (by omega)]; omega
    have key : ∀ l' : List S44, l'.length = l.length → ∃ ys, Ev (fun k => laws_markCableS.l0 k l' (m + 3) ((i + 1 : Nat) : Int)) (m + 3 * ((d + 1 : Nat) : Int), ys) := fun l' hl' => by
      obtain ⟨ys, h⟩ := ih (i + 1) l' (m + 3) (by omega) (by omega) (by omega) (by omega)
      refine ⟨ys, evE h ?_⟩
      congr 1
      omega
    obtain ⟨l1, hl1⟩ : ∃ l1, l1 = l.set i (⟨m, (rd_T44 l (i : Int)).f1, (rd_T44 l (i : Int)).f2⟩ : S44) := ⟨_, rfl⟩
    obtain ⟨l2, hl2⟩ : ∃ l2, l2 = l1.set i (⟨(rd_T44 l1 (i : Int)).f0, wrap64 (m + 1), (rd_T44 l1 (i : Int)).f2⟩ : S44) := ⟨_, rfl⟩
    obtain ⟨ys, h⟩ := key (l2.set i (⟨(rd_T44 l2 (i : Int)).f0, (rd_T44 l2 (i : Int)).f1, wrap64 ((wrap64 (m + 1)) + 1)⟩ : S44)) (by rw [List.length_set, hl2, List.length_set, hl1, List.length_set])
    refine ⟨ys, Ev.step (fun k => by rw [laws_markCableS.l0]) ?_⟩
    refine evT (by omega) (evT (by omega) (evS (a := l1) (by rw [hl1, Int.toNat_natCast]) (evS (a := l2) (by rw [hl2, Int.toNat_natCast]) ?_)))
    rw [e, e2, Int.toNat_natCast]
    exact h
theorem markCableS_ev (l : List S44) (hl : l.length ≤ 1048576) : ∃ ys v, Ev (fun k => laws_markCableS.f k l 1) (v, ys) ∧ ¬ v < 0 := by
  obtain ⟨ys, h⟩ := markCableS_l0 l.length 0 l 1 (by omega) hl (by omega) (by omega)
  exact ⟨ys, _, h, by omega⟩

theorem stC_few (m : Nat) (hm : m ≤ 8) (f : Nat → Cm) : Few (stC m f) := by
  refine ⟨by rw [stC_len]; omega, fun c hc => ?_⟩
  obtain ⟨j, _, rfl⟩ := List.mem_map.1 hc
  show 4 ≤ 1000000
  omega
theorem nextR_few (n : Int) (l : List S44) (rows : List (List Int)) : Few (nextR n l rows) := by
  unfold nextR
  split
  · rename_i h
    obtain ⟨m, rfl, hV⟩ := cv_elim h.1
    have := hV.m8
    rw [Int.toNat_natCast]
    exact stC_few _ this _
  · exact ⟨by simp, fun c hc => by simp at hc⟩
theorem szIntS_eq (c : List Int) (v : Int) (hv : 0 ≤ v) (hv2 : v ≤ 1048576) (hc : c.length ≤ maxLen) : laws_szIntS.f c v = some (if (c.length : Int) ≤ v then v - c.length else -1) := by
  unfold laws_szIntS.f
  unfold maxLen at hc
  rw [w64 (by omega) (by omega)]
  split <;> split <;> first | rfl | omega
theorem szIntSS_l0 : ∀ (post pre : List (List Int)) (v : Int), pre.length + post.length ≤ 1000000000000 → 0 ≤ v → v ≤ 1048576 → (∀ c ∈ post, c.length ≤ maxLen) →
    ∃ u, Ev (fun k => laws_szIntSS.l0 k (pre ++ post) v (pre.length : Int)) u ∧ (u < 0 ∨ (0 ≤ u ∧ (tot post : Int) ≤ v)) := by
  intro post
  induction post with
  | nil =>
    intro pre v h h0 h1 hr
    refine ⟨v, Ev.step (fun k => by rw [laws_szIntSS.l0]) ?_, .inr ⟨h0, by simpa [tot] using h0⟩⟩
    exact evF (by simp) (Ev.now _)
  | cons c post ih =>
    intro pre v h h0 h1 hr
    rw [List.length_cons] at h
    have ht : (tot (c :: post) : Int) = (c.length : Int) + tot post := by show ((c.length + tot post : Nat) : Int) = _; omega
    by_cases hc : (c.length : Int) ≤ v
    · obtain ⟨u, hu, hu2⟩ := ih (pre ++ [c]) (v - c.length) (by simp; omega) (by omega) (by omega) (fun x hx => hr x (by simp [hx]))
      rw [List.append_assoc] at hu
      refine ⟨u, Ev.step (fun k => by rw [laws_szIntSS.l0]) ?_, by omega⟩
      refine evT (by rw [List.length_append, List.length_cons]; omega) (evT (by omega) ?_)
      rw [ssAt, ss_next pre c (by omega)]
      exact evS (a := v - c.length) (by rw [szIntS_eq c v h0 h1 (hr c (by simp)), if_pos hc]) (evF (by omega) hu)
    · refine ⟨-1, Ev.step (fun k => by rw [laws_szIntSS.l0]) ?_, .inl (by omega)⟩
      refine evT (by rw [List.length_append, List.length_cons]; omega) (evT (by omega) ?_)
      rw [ssAt]
      exact evS (a := -1) (by rw [szIntS_eq c v h0 h1 (hr c (by simp)), if_neg hc]) (evT (by omega) (Ev.now _))
theorem szIntSS_ev (l : List (List Int)) (v : Int) (h0 : 0 ≤ v) (h1 : v ≤ 1048576) (hl : l.length ≤ maxLen) (hr : ∀ c ∈ l, c.length ≤ maxLen) :
    ∃ u, Ev (fun k => laws_szIntSS.f k l v) u ∧ (u < 0 ∨ (0 ≤ u ∧ l.length ≤ 1048576 ∧ tot l ≤ 1048576)) := by
  simp only [laws_szIntSS.f]
  have hm := hl
  unfold maxLen at hm
  rw [w64 (x := v - (l.length : Int)) (by omega) (by omega)]
  by_cases h : v - (l.length : Int) < 0
  · exact ⟨-1, evT h (Ev.now _), .inl (by omega)⟩
  · obtain ⟨u, hu, hu2⟩ := szIntSS_l0 l [] (v - l.length) (by simp; omega) (by omega) (by omega) hr
    exact ⟨u, evF h hu, by omega⟩
theorem toIntSS_l0 (l : List (List Int)) (hl : l.length ≤ 1048576) (hr : ∀ c ∈ l, c.length ≤ 1000000000000) : ∀ (d : Nat) (pre post : List (List Int)), pre.length + d = l.length → post.length = d → pre = l.take pre.length →
    Ev (fun k => laws_toIntSS.l0 k l (pre ++ post) (pre.length : Int)) l := by
  intro d
  induction d with
  | zero =>
    intro pre post h1 h2 h3
    obtain rfl : post = [] := List.eq_nil_of_length_eq_zero h2
    refine Ev.step (fun k => by rw [laws_toIntSS.l0]) ?_
    refine evF (by omega) (evE (Ev.now _) ?_)
    rw [List.append_nil, h3, List.take_of_length_le (by omega)]
  | succ d ih =>
    intro pre post h1 h2 h3
    match post, h2 with
    | x :: post, h2 =>
      have e : wrap64 ((pre.length : Int) + 1) = (((pre ++ [l[pre.length]'(by omega)]).length : Nat) : Int) := by rw [w64 (by omega) (by omega)]; simp
      have e3 : (pre ++ x :: post).set ((pre.length : Int) : Int).toNat (l[pre.length]'(by omega)) = (pre ++ [l[pre.length]'(by omega)]) ++ post := by simp
      refine Ev.step (fun k => by rw [laws_toIntSS.l0]) ?_
      refine evT (by omega) (evT (by omega) ?_)
      rw [L5_at l pre.length (by omega), e]
      refine Ev.bind (toIntS_ev _ (hr _ (List.getElem_mem _))) (evT (by simp; omega) ?_)
      rw [e3]
      refine ih (pre ++ [l[pre.length]'(by omega)]) post (by simp; omega) (by simpa using h2) ?_
      rw [List.length_append, List.length_singleton, List.take_succ_eq_append_getElem (by omega), ← h3]
theorem toIntSS_ev (l : List (List Int)) (hl : l.length ≤ 1048576) (hr : ∀ c ∈ l, c.length ≤ 1000000000000) : Ev (fun k => laws_toIntSS.f k l) l := by
  simp only [laws_toIntSS.f]
  exact evT (by omega) (evT (by simp; omega) (toIntSS_l0 l hl hr l.length [] _ (by simp) (by simp) rfl))
theorem row_tot : ∀ (l : List (List Int)) (c : List Int), c ∈ l → c.length ≤ tot l := by
  intro l
  induction l with
  | nil => intro c hc; simp at hc
  | cons x r ih =>
    intro c hc
    show c.length ≤ x.length + tot r
    rcases List.mem_cons.1 hc with rfl | hc
    · omega
    · have := ih c hc; omega
theorem q_FnExactNextClaims : ∀ (a0 : Int) (w0 : (Lit.int .i64 a0).wf = true) (l : List S68) (hm : l.length ≤ maxLen) (hw : ∀ x ∈ l, (Lit.int .i64 x.f0).wf = true ∧ (Lit.int .i64 x.f1).wf = true ∧ (Lit.int .i64 x.f2).wf = true)
    (l2 : List (List Int)) (hm2 : l2.length ≤ maxLen) (hw2 : ∀ c ∈ l2, c.length ≤ maxLen ∧ ∀ x ∈ c, (Lit.int .i64 x).wf = true), ∃ k, laws_FnExactNextClaims.f k a0 l l2 = some true := by
  intro n w0 l hm hw l2 hm2 hw2
  refine Ev.rounds ?_
  simp only [laws_FnExactNextClaims.f]
  by_cases h : l.length ≤ 1048576
  · have hv : laws_szCableS.f l 1048576 = some (1048576 - (l.length : Int)) := by
      unfold laws_szCableS.f
      rw [if_neg (by rw [w64 (by omega) (by omega)]; omega), w64 (by omega) (by omega)]
    obtain ⟨u2, hu2, hcase⟩ := szIntSS_ev l2 (1048576 - (l.length : Int)) (by omega) (by omega) hm2 (fun c hc => (hw2 c hc).1)
    refine evS hv (evF (by omega) (Ev.bind hu2 ?_))
    rcases hcase with hneg | ⟨hpos, hl2, htot2⟩
    · exact evT hneg (Ev.now _)
    have ht := toCableS_ev l h
    have hml : (l.map c68).length ≤ 1048576 := by simpa using h
    have hrow : ∀ c ∈ l2, c.length ≤ 1000000000000 := fun c hc => by have := row_tot l2 c hc; omega
    have ht2 := toIntSS_ev l2 hl2 hrow
    have hF := nextR_few n (l.map c68) l2
    have hl := hF.len
    have htt := hF.tot
    have hi := implNext_ev n (l.map c68) l2
    have hs := specNext_ev n (l.map c68) l2
    generalize nextR n (l.map c68) l2 = X at hF hl htt hi hs
    have hq := eqIntSS_ev X (by omega) (fun c hc => by have := hF.row c hc; omega)
    have hq2 := eqIntSS_ev l2 (by omega) hrow
    have hh := heldIntSS_ev X 1 (by omega) (by omega) (by omega)
    obtain ⟨ys, hmk⟩ := markCableS_l0 (l.map c68).length 0 (l.map c68) 1 (by omega) hml (by omega) (by omega)
    refine evF (by omega) (Ev.bind ht (Ev.bind ht2 (Ev.bind hs (Ev.bind ht (Ev.bind ht2 (Ev.bind hi (Ev.bind hq (evT rfl (Ev.bind ht (Ev.bind (eqCableS_ev _ hml) (evT rfl (Ev.bind ht2 (Ev.bind hq2 (evT rfl (Ev.bind hmk ?_)))))))))))))))
    refine Ev.bind (markIntSS_ev l2 _ (by omega) (by dsimp only; omega) (by dsimp only; omega)) (evF (by dsimp only; omega) (Ev.bind hq (evT rfl ?_)))
    refine Ev.bind (markIntSS_ev X 1 (by omega) (by omega) (by omega)) ?_
    exact Ev.bind hh (evF (by omega) (evT rfl (Ev.bind ht (Ev.bind ht2 (Ev.bind hi (Ev.bind hq (evT rfl (Ev.bind hh (evF (by omega) (evT rfl (Ev.now _)))))))))))
  · obtain ⟨v, hv, hv2⟩ := sz_none l h hm
    exact evS hv (evT hv2 (Ev.now _))

end Go.Proofs.Ytegnghbgkiddoaa.Q

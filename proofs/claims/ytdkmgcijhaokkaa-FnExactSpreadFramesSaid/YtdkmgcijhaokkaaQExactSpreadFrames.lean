/- Plain lemmas on what the printed functions compute (seat Ytdkmgcijhaokkaa, module QExactSpreadFrames). Conditions: each lemma's own. -/
import Derived.Test.YtdkmgcijhaokkaaQs
import Derived.Test.YtdkmgcijhaokkaaPA0
import Derived.Test.YtdkmgcijhaokkaaPA5
import Derived.Test.YtdkmgcijhaokkaaPA6
set_option linter.unusedVariables false
set_option linter.unusedSimpArgs false
namespace Go.Proofs.Ytdkmgcijhaokkaa.Q
open Go Go.RowKit Go.Proofs.Ytdkmgcijhaokkaa.PA Go.Proofs.YtdkmgcijhaokkaaW.PrintWords Go.Proofs.YtdkmgcijhaokkaaW.PrintLast

theorem eqIntS_l0 (a b : List Int) (hl : a.length = b.length) (hb : a.length ≤ 1000000000000) : ∀ d i : Nat, i + d = a.length →
    Ev (fun k => laws_eqIntS.l0 k a b (i : Int)) (decide (a.drop i = b.drop i)) := by
  intro d
  induction d with
  | zero =>
    intro i hi
    refine Ev.step (fun k => by rw [laws_eqIntS.l0]) ?_
    refine evF (by omega) (evE (Ev.now _) ?_)
    rw [List.drop_of_length_le (by omega), List.drop_of_length_le (by omega)]
    simp
  | succ d ih =>
    intro i hi
    have ha : a.drop i = a[i]'(by omega) :: a.drop (i + 1) := List.drop_eq_getElem_cons (by omega)
    have hb' : b.drop i = b[i]'(by omega) :: b.drop (i + 1) := List.drop_eq_getElem_cons (by omega)
    have e : wrap64 ((i : Int) + 1) = ((i + 1 : Nat) : Int) := by rw [w64 (by omega) (by omega)]; omega
    refine Ev.step (fun k => by rw [laws_eqIntS.l0]) ?_
    refine evT (by omega) (evT (by omega) (evT (by omega) ?_))
    rw [rd_at b i (by omega), rd_at a i (by omega), e]
    by_cases h : a[i]'(by omega) = b[i]'(by omega)
    · refine evT h (evE (ih (i + 1) (by omega)) ?_)
      rw [ha, hb']
      exact decide_eq_decide.2 ⟨fun e => by rw [h, e], fun e => (List.cons.inj e).2⟩
    · refine evF h (evE (Ev.now _) ?_)
      rw [ha, hb']
      exact (decide_eq_false (fun e => h (List.cons.inj e).1)).symm
theorem eqIntS_ev (a b : List Int) (hb : a.length ≤ 1000000000000) : Ev (fun k => laws_eqIntS.f k a b) (decide (a = b)) := by
  simp only [laws_eqIntS.f]
  by_cases h : a.length = b.length
  · exact evT (by omega) (evE (eqIntS_l0 a b h hb a.length 0 (by omega)) (by simp))
  · exact evF (by omega) (evE (Ev.now _) (by simp; intro e; exact h (by rw [e])))
/-- m, m + 1, .. -/
def cnt (m : Int) : Nat → List Int
  | 0 => []
  | n + 1 => m :: cnt (m + 1) n
theorem cnt_length (m : Int) (n : Nat) : (cnt m n).length = n := by
  induction n generalizing m with
  | zero => rfl
  | succ n ih => simp [cnt, ih]
theorem markIntS_l0 : ∀ (d : Nat) (pre post : List Int) (m : Int), post.length = d → 0 ≤ m → m + d ≤ 1000000000000 → pre.length + d ≤ 1000000000000 →
    Ev (fun k => laws_markIntS.l0 k (pre ++ post) m (pre.length : Int)) (m + d, pre ++ cnt m d) := by
  intro d
  induction d with
  | zero =>
    intro pre post m hp h0 h1 h2
    obtain rfl : post = [] := List.eq_nil_of_length_eq_zero hp
    refine Ev.step (fun k => by rw [laws_markIntS.l0]) ?_
    refine evF (by simp) (evE (Ev.now _) (by simp [cnt]))
  | succ d ih =>
    intro pre post m hp h0 h1 h2
    match post, hp with
    | x :: post, hp =>
      have hp' : post.length = d := by simpa using hp
      have e : wrap64 ((pre.length : Int) + 1) = (((pre ++ [m]).length : Nat) : Int) := by rw [w64 (by omega) (by omega)]; simp
      have e2 : wrap64 (m + 1) = m + 1 := w64 (by omega) (by omega)
      refine Ev.step (fun k => by rw [laws_markIntS.l0]) ?_
      refine evT (by simp; omega) (evT (by omega) ?_)
      have e3 : (pre ++ x :: post).set ((pre.length : Int) : Int).toNat m = (pre ++ [m]) ++ post := by simp
      rw [e, e2, e3]
      refine evE (ih (pre ++ [m]) post (m + 1) hp' (by omega) (by omega) (by simp; omega)) ?_
      simp [cnt]; omega
theorem markIntS_ev (l : List Int) (m : Int) (h0 : 0 ≤ m) (h1 : m + l.length ≤ 1000000000000) : Ev (fun k => laws_markIntS.f k l m) (m + l.length, cnt m l.length) := by
  simp only [laws_markIntS.f]
  exact markIntS_l0 l.length [] l m rfl h0 h1 (by simp; omega)
theorem heldIntS_l0 : ∀ (d : Nat) (pre : List Int) (m : Int), 0 ≤ m → m + d ≤ 1000000000000 → pre.length + d ≤ 1000000000000 →
    Ev (fun k => laws_heldIntS.l0 k (pre ++ cnt m d) m (pre.length : Int)) (m + d) := by
  intro d
  induction d with
  | zero =>
    intro pre m h0 h1 h2
    refine Ev.step (fun k => by rw [laws_heldIntS.l0]) ?_
    refine evF (by simp [cnt]) (evE (Ev.now _) (by simp))
  | succ d ih =>
    intro pre m h0 h1 h2
    have e : wrap64 ((pre.length : Int) + 1) = (((pre ++ [m]).length : Nat) : Int) := by rw [w64 (by omega) (by omega)]; simp
    have e2 : wrap64 (m + 1) = m + 1 := w64 (by omega) (by omega)
    have e3 : pre ++ cnt m (d + 1) = (pre ++ [m]) ++ cnt (m + 1) d := by simp [cnt]
    refine Ev.step (fun k => by rw [laws_heldIntS.l0]) ?_
    refine evT (by simp [cnt_length]; omega) (evT (by omega) (evT ?_ ?_))
    · rw [rd_at _ _ (by simp [cnt_length])]
      simp [cnt]
    · rw [e, e2, e3]
      exact evE (ih (pre ++ [m]) (m + 1) (by omega) (by omega) (by simp; omega)) (by omega)
theorem heldIntS_ev (n : Nat) (m : Int) (h0 : 0 ≤ m) (h1 : m + n ≤ 1000000000000) : Ev (fun k => laws_heldIntS.f k (cnt m n) m) (m + n) := by
  simp only [laws_heldIntS.f]
  exact heldIntS_l0 n [] m h0 h1 (by simp; omega)

theorem toBoolS_l0 (l : List Bool) (hl : l.length ≤ 1000000000000) : ∀ (d : Nat) (pre post : List Bool), pre.length + d = l.length → post.length = d → pre = l.take pre.length →
    Ev (fun k => laws_toBoolS.l0 k l (pre ++ post) (pre.length : Int)) l := by
  intro d
  induction d with
  | zero =>
    intro pre post h1 h2 h3
    obtain rfl : post = [] := List.eq_nil_of_length_eq_zero h2
    refine Ev.step (fun k => by rw [laws_toBoolS.l0]) ?_
    refine evF (by omega) (evE (Ev.now _) ?_)
    rw [List.append_nil, h3, List.take_of_length_le (by omega)]
  | succ d ih =>
    intro pre post h1 h2 h3
    match post, h2 with
    | x :: post, h2 =>
      have e : wrap64 ((pre.length : Int) + 1) = (((pre ++ [l[pre.length]'(by omega)]).length : Nat) : Int) := by rw [w64 (by omega) (by omega)]; simp
      have e3 : (pre ++ x :: post).set ((pre.length : Int) : Int).toNat (l[pre.length]'(by omega)) = (pre ++ [l[pre.length]'(by omega)]) ++ post := by simp
      refine Ev.step (fun k => by rw [laws_toBoolS.l0]) ?_
      refine evT (by omega) (evT (by omega) (evT (by simp; omega) ?_))
      rw [rdOf_at false l pre.length (by omega), e, e3]
      refine ih (pre ++ [l[pre.length]'(by omega)]) post (by simp; omega) (by simpa using h2) ?_
      rw [List.length_append, List.length_singleton, List.take_succ_eq_append_getElem (by omega), ← h3]
theorem toBoolS_ev (l : List Bool) (hl : l.length ≤ 1000000000000) : Ev (fun k => laws_toBoolS.f k l) l := by
  simp only [laws_toBoolS.f]
  exact evT (by omega) (evT (by simp; omega) (toBoolS_l0 l hl l.length [] _ (by simp) (by simp) rfl))
theorem eqBoolS_l0 (a : List Bool) (hb : a.length ≤ 1000000000000) : ∀ d i : Nat, i + d = a.length →
    Ev (fun k => laws_eqBoolS.l0 k a a (i : Int)) true := by
  intro d
  induction d with
  | zero =>
    intro i hi
    refine Ev.step (fun k => by rw [laws_eqBoolS.l0]) ?_
    exact evF (by omega) (Ev.now _)
  | succ d ih =>
    intro i hi
    have e : wrap64 ((i : Int) + 1) = ((i + 1 : Nat) : Int) := by rw [w64 (by omega) (by omega)]; omega
    refine Ev.step (fun k => by rw [laws_eqBoolS.l0]) ?_
    refine evT (by omega) (evT (by omega) (evT (by omega) (evF (by simp) ?_)))
    rw [e]
    exact ih (i + 1) (by omega)
theorem eqBoolS_ev (a : List Bool) (hb : a.length ≤ 1000000000000) : Ev (fun k => laws_eqBoolS.f k a a) true := by
  simp only [laws_eqBoolS.f]
  exact evT (by trivial) (eqBoolS_l0 a hb a.length 0 (by omega))
theorem markBoolS_l0 : ∀ (d : Nat) (l : List Bool) (i : Nat) (m : Int), i + d = l.length → 0 ≤ m → m + d ≤ 1000000000000 → l.length ≤ 1000000000000 →
    ∃ l', Ev (fun k => laws_markBoolS.l0 k l m (i : Int)) (m + d, l') := by
  intro d
  induction d with
  | zero =>
    intro l i m hi h0 h1 h2
    exact ⟨l, Ev.step (fun k => by rw [laws_markBoolS.l0]) (evF (by omega) (evE (Ev.now _) (by simp)))⟩
  | succ d ih =>
    intro l i m hi h0 h1 h2
    have e : wrap64 ((i : Int) + 1) = ((i + 1 : Nat) : Int) := by rw [w64 (by omega) (by omega)]; omega
    have e2 : wrap64 (m + 1) = m + 1 := w64 (by omega) (by omega)
    obtain ⟨l', h⟩ := ih (l.set ((i : Int) : Int).toNat ((Int.tmod m 3) == 0)) (i + 1) (m + 1) (by simp; omega) (by omega) (by omega) (by simpa using h2)
    refine ⟨l', Ev.step (fun k => by rw [laws_markBoolS.l0]) (evT (by omega) (evT (by omega) ?_))⟩
    rw [e, e2]
    exact evE h (by simp; omega)
theorem markBoolS_ev (l : List Bool) (m : Int) (h0 : 0 ≤ m) (h1 : m + l.length ≤ 1000000000000) (h2 : l.length ≤ 1000000000000) : ∃ l', Ev (fun k => laws_markBoolS.f k l m) (m + l.length, l') := by
  simp only [laws_markBoolS.f]
  exact markBoolS_l0 l.length l 0 m (by omega) h0 h1 h2

/-! ### rows of rows: compared, marked, held -/
theorem ssAt (pre post : List (List Int)) (c : List Int) : rd_L4 (pre ++ c :: post) (pre.length : Int) = c := by
  simp [rd_L4, List.getD_eq_getElem?_getD]
theorem ss_next (pre : List (List Int)) (c : List Int) (h : pre.length + 1 ≤ 1000000000000) : wrap64 ((pre.length : Int) + 1) = (((pre ++ [c]).length : Nat) : Int) := by
  rw [w64 (by omega) (by omega)]; simp
/-- some rows, and not many -/
structure Few (l : List (List Int)) : Prop where
  len : l.length ≤ 1000
  row : ∀ c ∈ l, c.length ≤ 1000000

/-! ### rows of rows: compared, marked, held -/
def tot : List (List Int) → Nat
  | [] => 0
  | c :: r => c.length + tot r
def cntSS : Int → List (List Int) → List (List Int)
  | _, [] => []
  | m, c :: r => cnt m c.length :: cntSS (m + c.length) r
theorem cntSS_length (l : List (List Int)) (m : Int) : (cntSS m l).length = l.length := by
  induction l generalizing m with
  | nil => rfl
  | cons c r ih => simp [cntSS, ih]
theorem eqIntSS_l0 : ∀ (post pre : List (List Int)), pre.length + post.length ≤ 1000000000000 → (∀ c ∈ post, c.length ≤ 1000000000000) →
    Ev (fun k => laws_eqIntSS.l0 k (pre ++ post) (pre ++ post) (pre.length : Int)) true := by
  intro post
  induction post with
  | nil =>
    intro pre h hr
    refine Ev.step (fun k => by rw [laws_eqIntSS.l0]) ?_
    exact evF (by simp) (Ev.now _)
  | cons c post ih =>
    intro pre h hr
    rw [List.length_cons] at h
    refine Ev.step (fun k => by rw [laws_eqIntSS.l0]) ?_
    refine evT (by rw [List.length_append, List.length_cons]; omega) (evT (by omega) (evT (by rw [List.length_append, List.length_cons]; omega) ?_))
    rw [ssAt, ss_next pre c (by omega)]
    refine Ev.bind (eqIntS_ev c c (hr c (by simp))) (evT (by simp) ?_)
    have := ih (pre ++ [c]) (by simp; omega) (fun x hx => hr x (by simp [hx]))
    rw [List.append_assoc] at this
    exact this
theorem eqIntSS_ev (a : List (List Int)) (h : a.length ≤ 1000000000000) (hr : ∀ c ∈ a, c.length ≤ 1000000000000) : Ev (fun k => laws_eqIntSS.f k a a) true := by
  simp only [laws_eqIntSS.f]
  exact evT (by trivial) (eqIntSS_l0 a [] (by simpa using h) hr)
theorem markIntSS_l0 : ∀ (post pre : List (List Int)) (m : Int), pre.length + post.length ≤ 1000000000000 → 0 ≤ m → m + tot post ≤ 1000000000000 →
    Ev (fun k => laws_markIntSS.l0 k (pre ++ post) m (pre.length : Int)) (m + tot post, pre ++ cntSS m post) := by
  intro post
  induction post with
  | nil =>
    intro pre m h h0 h1
    refine Ev.step (fun k => by rw [laws_markIntSS.l0]) ?_
    exact evF (by simp) (evE (Ev.now _) (by simp [tot, cntSS]))
  | cons c post ih =>
    intro pre m h h0 h1
    rw [List.length_cons] at h
    have ht : (tot (c :: post) : Int) = (c.length : Int) + tot post := by show ((c.length + tot post : Nat) : Int) = _; omega
    refine Ev.step (fun k => by rw [laws_markIntSS.l0]) ?_
    refine evT (by rw [List.length_append, List.length_cons]; omega) (evT (by omega) ?_)
    rw [show laws_markIntSS.row (pre ++ c :: post) (pre.length : Int) = c from ssAt pre post c, ss_next pre (cnt m c.length) (by omega)]
    refine Ev.bind (markIntS_ev c m h0 (by omega)) ?_
    dsimp only
    have e : (pre ++ c :: post).set ((pre.length : Int) : Int).toNat (cnt m c.length) = (pre ++ [cnt m c.length]) ++ post := by simp
    rw [e]
    refine evE (ih (pre ++ [cnt m c.length]) (m + c.length) (by simp; omega) (by omega) (by omega)) ?_
    rw [ht, List.append_assoc]
    show (m + c.length + (tot post : Int), pre ++ (cnt m c.length :: cntSS (m + c.length) post)) = _
    rw [Int.add_assoc]
    rfl
theorem markIntSS_ev (l : List (List Int)) (m : Int) (h : l.length ≤ 1000000000000) (h0 : 0 ≤ m) (h1 : m + tot l ≤ 1000000000000) : Ev (fun k => laws_markIntSS.f k l m) (m + tot l, cntSS m l) := by
  simp only [laws_markIntSS.f]
  exact markIntSS_l0 l [] m (by simpa using h) h0 h1
theorem heldIntSS_l0 : ∀ (post pre : List (List Int)) (m : Int), pre.length + post.length ≤ 1000000000000 → 0 ≤ m → m + tot post ≤ 1000000000000 →
    Ev (fun k => laws_heldIntSS.l0 k (pre ++ cntSS m post) m (pre.length : Int)) (m + tot post) := by
  intro post
  induction post with
  | nil =>
    intro pre m h h0 h1
    refine Ev.step (fun k => by rw [laws_heldIntSS.l0]) ?_
    exact evF (by simp [cntSS]) (evE (Ev.now _) (by simp [tot]))
  | cons c post ih =>
    intro pre m h h0 h1
    rw [List.length_cons] at h
    have ht : (tot (c :: post) : Int) = (c.length : Int) + tot post := by show ((c.length + tot post : Nat) : Int) = _; omega
    refine Ev.step (fun k => by rw [laws_heldIntSS.l0]) ?_
    show Ev (fun k => if (pre.length : Int) < ((pre ++ (cnt m c.length :: cntSS (m + c.length) post)).length : Int) then _ else _) _
    refine evT (by rw [List.length_append, List.length_cons]; omega) (evT (by omega) ?_)
    show Ev (fun k => (laws_heldIntS.f k (rd_L4 (pre ++ (cnt m c.length :: cntSS (m + c.length) post)) (pre.length : Int)) m).bind fun t => if t < 0 then some (-1) else laws_heldIntSS.l0 k (pre ++ (cnt m c.length :: cntSS (m + c.length) post)) t (wrap64 ((pre.length : Int) + 1))) _
    rw [ssAt, ss_next pre (cnt m c.length) (by omega)]
    refine Ev.bind (heldIntS_ev c.length m h0 (by omega)) (evF (by omega) ?_)
    have := ih (pre ++ [cnt m c.length]) (m + c.length) (by simp; omega) (by omega) (by omega)
    rw [List.append_assoc] at this
    refine evE this ?_
    rw [ht]
    omega
theorem heldIntSS_ev (l : List (List Int)) (m : Int) (h : l.length ≤ 1000000000000) (h0 : 0 ≤ m) (h1 : m + tot l ≤ 1000000000000) : Ev (fun k => laws_heldIntSS.f k (cntSS m l) m) (m + tot l) := by
  simp only [laws_heldIntSS.f]
  exact heldIntSS_l0 l [] m (by simpa using h) h0 h1
theorem tot_le (B : Nat) : ∀ l : List (List Int), (∀ c ∈ l, c.length ≤ B) → tot l ≤ B * l.length := by
  intro l
  induction l with
  | nil => intro _; simp [tot]
  | cons c r ih =>
    intro h
    have h1 := h c (by simp)
    have h2 := ih (fun x hx => h x (by simp [hx]))
    show c.length + tot r ≤ B * (r.length + 1)
    rw [Nat.mul_succ]
    omega
theorem Few.tot {l : List (List Int)} (h : Few l) : tot l ≤ 1000000000 := by
  have h1 := tot_le 1000000 l h.row
  have h2 := h.len
  have : 1000000 * l.length ≤ 1000000 * 1000 := Nat.mul_le_mul_left _ h2
  omega

/-! ### lists of hops: taken over, compared, marked -/
def c55 (x : S55) : S34 := ⟨x.f0, x.f1, x.f2⟩
theorem toHopS_l0 (l : List S55) (hl : l.length ≤ 1048576) : ∀ (d i : Nat) (s : List S34), i + d = l.length → s.length = l.length → (∀ j, j < i → s[j]? = (l.map c55)[j]?) →
    Ev (fun k => laws_toHopS.l0 k l s (i : Int)) (l.map c55) := by
  intro d
  induction d with
  | zero =>
    intro i s hi hs hj
    refine Ev.step (fun k => by rw [laws_toHopS.l0]) ?_
    refine evF (by omega) (evE (Ev.now _) ?_)
    refine List.ext_getElem? fun j => ?_
    by_cases h : j < i
    · exact hj j h
    · rw [List.getElem?_eq_none (by omega), List.getElem?_eq_none (by rw [List.length_map]; omega)]
  | succ d ih =>
    intro i s hi hs hj
    have e : wrap64 ((i : Int) + 1) = ((i + 1 : Nat) : Int) := by rw [w64 (by omega) (by omega)]; omega
    have hil : i < l.length := by omega
    have hx : rd_T55 l (i : Int) = l[i] := by simp [rd_T55, List.getD_eq_getElem?_getD, hil]
    refine Ev.step (fun k => by rw [laws_toHopS.l0]) ?_
    refine evT (by omega) (evT (by omega) (evS rfl (evT (by omega) ?_)))
    rw [hx, e, Int.toNat_natCast]
    refine ih (i + 1) (s.set i (c55 l[i])) (by omega) (by rw [List.length_set, hs]) (fun j hj2 => ?_)
    rw [List.getElem?_set]
    by_cases e2 : i = j
    · subst e2
      rw [if_pos rfl, if_pos (by omega)]
      simp [hil]
    · rw [if_neg e2]; exact hj j (by omega)
theorem toHopS_ev (l : List S55) (hl : l.length ≤ 1048576) : Ev (fun k => laws_toHopS.f k l) (l.map c55) := by
  simp only [laws_toHopS.f]
  refine evT (by omega) (evT (by omega) ?_)
  exact toHopS_l0 l hl l.length 0 _ (by omega) (by simp) (fun j hj => by omega)
theorem eqHopS_l0 (l : List S34) (hl : l.length ≤ 1048576) : ∀ (d i : Nat), i + d = l.length → Ev (fun k => laws_eqHopS.l0 k l l (i : Int)) true := by
  intro d
  induction d with
  | zero =>
    intro i hi
    refine Ev.step (fun k => by rw [laws_eqHopS.l0]) ?_
    exact evF (by omega) (Ev.now _)
  | succ d ih =>
    intro i hi
    have e : wrap64 ((i : Int) + 1) = ((i + 1 : Nat) : Int) := by rw [w64 (by omega) (by omega)]; omega
    refine Ev.step (fun k => by rw [laws_eqHopS.l0]) ?_
    refine evT (by omega) (evT (by omega) (evT (by omega) (evS (a := true) (by unfold laws_eqHop.f; rw [if_pos rfl, if_pos rfl, if_pos rfl]) (evT rfl ?_))))
    rw [e]
    exact ih (i + 1) (by omega)
theorem eqHopS_ev (l : List S34) (hl : l.length ≤ 1048576) : Ev (fun k => laws_eqHopS.f k l l) true := by
  simp only [laws_eqHopS.f]
  exact evT (by trivial) (eqHopS_l0 l hl l.length 0 (by omega))
theorem sz_some (l : List S55) (h : l.length ≤ 1048576) : ∃ v : Int, laws_szHopS.f l 1048576 = some v ∧ ¬ v < 0 := by
  refine ⟨wrap64 (1048576 - (l.length : Int)), ?_, ?_⟩
  · unfold laws_szHopS.f
    rw [if_neg (by rw [w64 (by omega) (by omega)]; omega)]
  · rw [w64 (by omega) (by omega)]; omega
theorem sz_none (l : List S55) (h : ¬ l.length ≤ 1048576) (hm : l.length ≤ maxLen) : ∃ v : Int, laws_szHopS.f l 1048576 = some v ∧ v < 0 := by
  refine ⟨-1, ?_, by omega⟩
  unfold laws_szHopS.f
  unfold maxLen at hm
  rw [if_pos (by rw [w64 (by omega) (by omega)]; omega)]
theorem markHopS_l0 : ∀ (d i : Nat) (l : List S34) (m : Int), i + d = l.length → l.length ≤ 1048576 → 0 ≤ m → m + 3 * d ≤ 1000000000 → ∃ ys, Ev (fun k => laws_markHopS.l0 k l m (i : Int)) (m + 3 * d, ys) := by
  intro d
  induction d with
  | zero =>
    intro i l m hi hl h0 h1
    refine ⟨l, Ev.step (fun k => by rw [laws_markHopS.l0]) ?_⟩
    exact evF (by omega) (evE (Ev.now _) (by simp))
  | succ d ih =>
    intro i l m hi hl h0 h1
    have e : wrap64 ((i : Int) + 1) = ((i + 1 : Nat) : Int) := by rw [w64 (by omega) (by omega)]; omega
    have e2 : wrap64 (wrap64 (wrap64 (m + 1) + 1) + 1) = m + 3 := by rw [w64 (x := m + 1) (by omega) (by omega), w64 (x := m + 1 + 1) (by omega) (by omega), w64 (by omega) (by omega)]; omega
    have key : ∀ l' : List S34, l'.length = l.length → ∃ ys, Ev (fun k => laws_markHopS.l0 k l' (m + 3) ((i + 1 : Nat) : Int)) (m + 3 * ((d + 1 : Nat) : Int), ys) := fun l' hl' => by
      obtain ⟨ys, h⟩ := ih (i + 1) l' (m + 3) (by omega) (by omega) (by omega) (by omega)
      refine ⟨ys, evE h ?_⟩
      congr 1
      omega
    obtain ⟨l1, hl1⟩ : ∃ l1, l1 = l.set i (⟨m, (rd_T34 l (i : Int)).f1, (rd_T34 l (i : Int)).f2⟩ : S34) := ⟨_, rfl⟩
    obtain ⟨l2, hl2⟩ : ∃ l2, l2 = l1.set i (⟨(rd_T34 l1 (i : Int)).f0, wrap64 (m + 1), (rd_T34 l1 (i : Int)).f2⟩ : S34) := ⟨_, rfl⟩
    obtain ⟨ys, h⟩ := key (l2.set i (⟨(rd_T34 l2 (i : Int)).f0, (rd_T34 l2 (i : Int)).f1, wrap64 ((wrap64 (m + 1)) + 1)⟩ : S34)) (by rw [List.length_set, hl2, List.length_set, hl1, List.length_set])
    refine ⟨ys, Ev.step (fun k => by rw [laws_markHopS.l0]) ?_⟩
    refine evT (by omega) (evT (by omega) (evS (a := l1) (by rw [hl1, Int.toNat_natCast]) (evS (a := l2) (by rw [hl2, Int.toNat_natCast]) ?_)))
    rw [e, e2, Int.toNat_natCast]
    exact h
theorem markHopS_ev (l : List S34) (hl : l.length ≤ 1048576) : ∃ ys v, Ev (fun k => laws_markHopS.f k l 1) (v, ys) ∧ ¬ v < 0 := by
  obtain ⟨ys, h⟩ := markHopS_l0 l.length 0 l 1 (by omega) hl (by omega) (by omega)
  exact ⟨ys, _, h, by omega⟩

theorem spread_few (up : List Bool) (l : List S34) : Few (spread up l) := by
  unfold spread
  split
  · rename_i h
    simp only [spreadOk, Bool.and_eq_true, decide_eq_true_eq] at h
    have h8 := h.1.1.2
    have h6 := h.1.2
    refine ⟨by rw [rowsTo_len]; omega, fun c hc => ?_⟩
    obtain ⟨j, _, rfl⟩ := List.mem_map.1 hc
    have := rowTo_len up l (j : Int) l.length
    omega
  · exact ⟨by simp, fun c hc => by simp at hc⟩
theorem q_FnExactSpreadFrames : ∀ (u : List Bool) (hmu : u.length ≤ maxLen) (l : List S55) (hm : l.length ≤ maxLen) (hw : ∀ x ∈ l, (Lit.int .i64 x.f0).wf = true ∧ (Lit.int .i64 x.f1).wf = true ∧ (Lit.int .i64 x.f2).wf = true),
    ∃ k, laws_FnExactSpreadFrames.f k u l = some true := by
  intro u hmu l hm hw
  refine Ev.rounds ?_
  simp only [laws_FnExactSpreadFrames.f]
  by_cases h0 : (u.length : Int) > 1048576
  · exact evT h0 (Ev.now _)
  refine evF h0 ?_
  by_cases h : l.length ≤ 1048576
  · obtain ⟨v, hv, hv2⟩ := sz_some l h
    have hul : u.length ≤ 1000000000000 := by omega
    have ht := toHopS_ev l h
    have ht0 := toBoolS_ev u hul
    have hml : (l.map c55).length ≤ 1048576 := by simpa using h
    have hF := spread_few u (l.map c55)
    have hl := hF.len
    have htt := hF.tot
    have hi := implSpread_ev u (l.map c55)
    have hs := specSpread_ev u (l.map c55) (by omega)
    generalize spread u (l.map c55) = X at hF hl htt hi hs
    have hq := eqIntSS_ev X (by omega) (fun c hc => by have := hF.row c hc; omega)
    have hh := heldIntSS_ev X 1 (by omega) (by omega) (by omega)
    obtain ⟨us, hmu2⟩ := markBoolS_ev u 1 (by omega) (by omega) hul
    obtain ⟨ys, hmk⟩ := markHopS_l0 (l.map c55).length 0 (l.map c55) (1 + (u.length : Int)) (by omega) hml (by omega) (by omega)
    refine evS hv (evF hv2 (Ev.bind ht0 (Ev.bind ht (Ev.bind hs (Ev.bind ht0 (Ev.bind ht (Ev.bind hi (Ev.bind hq (evT rfl ?_)))))))))
    refine Ev.bind ht0 (Ev.bind (eqBoolS_ev u hul) (evT rfl (Ev.bind ht (Ev.bind (eqHopS_ev _ hml) (evT rfl (Ev.bind hmu2 ?_))))))
    refine Ev.bind (g := fun k => laws_markHopS.f k (l.map c55) (1 + (u.length : Int))) hmk (evF (by dsimp only; omega) (Ev.bind hq (evT rfl ?_)))
    refine Ev.bind (markIntSS_ev X 1 (by omega) (by omega) (by omega)) ?_
    exact Ev.bind hh (evF (by omega) (evT rfl (Ev.bind ht0 (Ev.bind ht (Ev.bind hi (Ev.bind hq (evT rfl (Ev.bind hh (evF (by omega) (evT rfl (Ev.now _)))))))))))
  · obtain ⟨v, hv, hv2⟩ := sz_none l h hm
    exact evS hv (evT hv2 (Ev.now _))

end Go.Proofs.Ytdkmgcijhaokkaa.Q

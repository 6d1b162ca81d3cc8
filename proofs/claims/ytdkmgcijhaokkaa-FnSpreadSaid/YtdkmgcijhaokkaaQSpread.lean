/- Plain lemmas on what the printed functions compute (seat Ytdkmgcijhaokkaa, module QSpread). Conditions: each lemma's own. -/
import Derived.Test.YtdkmgcijhaokkaaQs
import Derived.Test.YtdkmgcijhaokkaaPA0
import Derived.Test.YtdkmgcijhaokkaaPA1
import Derived.Test.YtdkmgcijhaokkaaPA3
import Derived.Test.YtdkmgcijhaokkaaPA4
set_option linter.unusedVariables false
set_option linter.unusedSimpArgs false
namespace Go.Proofs.Ytdkmgcijhaokkaa.Q
open Go Go.RowKit Go.Proofs.Ytdkmgcijhaokkaa.PA Go.Proofs.YtdkmgcijhaokkaaW.PrintWords Go.Proofs.YtdkmgcijhaokkaaW.PrintLast

/-! ### lists that are compared, copied, marked -/
theorem wnInts_l0 (a b : List Int) (hl : a.length = b.length) (hb : a.length ≤ 1000000000000) : ∀ d i : Nat, i + d = a.length →
    Ev (fun k => laws_wnInts.l0 k b a (a.length : Int) (i : Int)) (decide (a.drop i = b.drop i)) := by
  intro d
  induction d with
  | zero =>
    intro i hi
    refine Ev.step (fun k => by rw [laws_wnInts.l0]) ?_
    refine evF (by omega) (evE (Ev.now _) ?_)
    rw [List.drop_of_length_le (by omega), List.drop_of_length_le (by omega)]
    simp
  | succ d ih =>
    intro i hi
    have ha : a.drop i = a[i]'(by omega) :: a.drop (i + 1) := List.drop_eq_getElem_cons (by omega)
    have hb' : b.drop i = b[i]'(by omega) :: b.drop (i + 1) := List.drop_eq_getElem_cons (by omega)
    have e : wrap64 ((i : Int) + 1) = ((i + 1 : Nat) : Int) := by rw [w64 (by omega) (by omega)]; omega
    refine Ev.step (fun k => by rw [laws_wnInts.l0]) ?_
    refine evT (by omega) (evT (by omega) (evT (by omega) (evT (by omega) ?_)))
    rw [rd_at b i (by omega), rd_at a i (by omega), e]
    by_cases h : b[i]'(by omega) = a[i]'(by omega)
    · refine evT h (evE (ih (i + 1) (by omega)) ?_)
      rw [ha, hb']
      exact decide_eq_decide.2 ⟨fun e => by rw [h, e], fun e => (List.cons.inj e).2⟩
    · refine evF h (evE (Ev.now _) ?_)
      rw [ha, hb']
      exact (decide_eq_false (fun e => h (List.cons.inj e).1.symm)).symm
theorem wnInts_ev (a b : List Int) (hb : a.length ≤ 1000000000000) : Ev (fun k => laws_wnInts.f k a b) (decide (a = b)) := by
  simp only [laws_wnInts.f]
  by_cases h : a.length = b.length
  · exact evT (by omega) (evE (wnInts_l0 a b h hb a.length 0 (by omega)) (by simp))
  · exact evF (by omega) (evE (Ev.now _) (by simp; intro e; exact h (by rw [e])))

/-! ### rows of rows: compared, marked, held -/
theorem ssAt (pre post : List (List Int)) (c : List Int) : rd_L4 (pre ++ c :: post) (pre.length : Int) = c := by
  simp [rd_L4, List.getD_eq_getElem?_getD]
theorem ss_next (pre : List (List Int)) (c : List Int) (h : pre.length + 1 ≤ 1000000000000) : wrap64 ((pre.length : Int) + 1) = (((pre ++ [c]).length : Nat) : Int) := by
  rw [w64 (by omega) (by omega)]; simp
/-- some rows, and not many -/
structure Few (l : List (List Int)) : Prop where
  len : l.length ≤ 1000
  row : ∀ c ∈ l, c.length ≤ 1000000

/-! ### draws of bundles -/
theorem l11Up_l0 (l : List Int) (hl : Bs l) : ∀ (d : Nat) (acc : List Bool) (p : Int), 0 ≤ p → p + d ≤ 500000 → acc.length + d ≤ 1000000 →
    ∃ up, Ev (fun k => spec_l11Up.l0 k acc (d : Int) l p) (up, p + d) ∧ up.length = acc.length + d := by
  intro d
  induction d with
  | zero =>
    intro acc p h0 h1 h2
    exact ⟨acc, Ev.step (fun k => by rw [spec_l11Up.l0]) (evF (by omega) (evE (Ev.now _) (by simp))), by omega⟩
  | succ d ih =>
    intro acc p h0 h1 h2
    obtain ⟨v, hv, _⟩ := pick_ev l hl p 4 h0 (by omega) (by omega)
    obtain ⟨up, hu, hul⟩ := ih (acc ++ [decide (v > 0)]) (p + 1) (by omega) (by omega) (by simp; omega)
    have e : wrap64 (((d + 1 : Nat) : Int) - 1) = (d : Int) := by rw [w64 (by omega) (by omega)]; omega
    refine ⟨up, Ev.step (fun k => by rw [spec_l11Up.l0]) ?_, by simp at hul; omega⟩
    refine evT (by omega) (Ev.bind hv ?_)
    refine evT (by omega) ?_
    rw [e]
    exact evE hu (by simp; omega)
theorem l11Up_ev (l : List Int) (hl : Bs l) (p : Int) (h0 : 0 ≤ p) (h1 : p ≤ 400000) :
    ∃ up q, Ev (fun k => spec_l11Up.f k l p) (up, q) ∧ up.length ≤ 9 ∧ p ≤ q ∧ q ≤ p + 10 := by
  obtain ⟨v, hv, hm⟩ := num_ev l hl p ([3, 4, 2, 8, 1, 5, 3, 4, 2, 8, 1, 5, 3, 0, 9] : List Int) h0 (by omega) (by simp) (by simp)
  have hb : 0 ≤ v ∧ v ≤ 9 := by simp at hm; omega
  obtain ⟨n, rfl⟩ := Int.eq_ofNat_of_zero_le hb.1
  obtain ⟨up, hu, hul⟩ := l11Up_l0 l hl n [] (p + 1) (by omega) (by omega) (by simp; omega)
  refine ⟨up, p + 1 + (n : Int), ?_, by simp at hul; omega, by omega, by omega⟩
  · simp only [spec_l11Up.f]
    exact Ev.bind hv hu

theorem wnPairs_l0 : ∀ (post pre : List (List Int)) (n : Int), n = ((pre ++ post).length : Int) → pre.length + post.length ≤ 1000000000000 → (∀ c ∈ post, c.length ≤ 1000000000000) →
    Ev (fun k => laws_wnPairs.l0 k (pre ++ post) (pre ++ post) n (pre.length : Int)) true := by
  intro post
  induction post with
  | nil =>
    intro pre n hn h hr
    refine Ev.step (fun k => by rw [laws_wnPairs.l0]) ?_
    exact evF (by rw [hn]; simp) (Ev.now _)
  | cons c post ih =>
    intro pre n hn h hr
    have hn2 : n = ((pre ++ [c] ++ post).length : Int) := by rw [hn]; simp
    rw [List.length_cons] at h
    rw [List.length_append, List.length_cons] at hn
    refine Ev.step (fun k => by rw [laws_wnPairs.l0]) ?_
    refine evT (by omega) (evT (by omega) (evT (by rw [List.length_append, List.length_cons]; omega) (evT (by rw [List.length_append, List.length_cons]; omega) ?_)))
    rw [ssAt, ss_next pre c (by omega)]
    refine Ev.bind (wnInts_ev c c (hr c (by simp))) (evT (by simp) ?_)
    have := ih (pre ++ [c]) n hn2 (by simp; omega) (fun x hx => hr x (by simp [hx]))
    rw [List.append_assoc] at this
    exact this
theorem wnPairs_ev (a : List (List Int)) (h : a.length ≤ 1000000000000) (hr : ∀ c ∈ a, c.length ≤ 1000000000000) : Ev (fun k => laws_wnPairs.f k a a) true := by
  simp only [laws_wnPairs.f]
  exact evT (by trivial) (wnPairs_l0 a [] _ rfl (by simpa using h) hr)
/-! ### a draw -/
theorem hop_ev (b : List Int) (hl : Bs b) (p : Int) (hp : 0 ≤ p) (hp2 : p ≤ 400000) : ∃ x y z q, Ev (fun k => spec_l6Hop.f k b p 3) (x, y, z, q) ∧ p ≤ q ∧ q ≤ p + 5 := by
  obtain ⟨x, h1, _⟩ := pick_ev b hl p 6 hp (by omega) (by omega)
  obtain ⟨y, h2, _⟩ := num_ev b hl (p + 1) ([0, 1, 2, 3, 4, 5, 15, 14] : List Int) (by omega) (by omega) (by simp) (by simp)
  obtain ⟨z, h3, _⟩ := pick_ev b hl (p + 1 + 1) (mx 3 1) (by omega) (by omega) (by show (3 : Int) ≤ _; omega)
  obtain ⟨v, h4, _⟩ := pick_ev b hl (p + 1 + 1 + 1) 90 (by omega) (by omega) (by omega)
  simp only [spec_l6Hop.f]
  by_cases c0 : v = 0
  · obtain ⟨u, h5, _⟩ := num_ev b hl (p + 1 + 1 + 1 + 1) ([15, (-1)] : List Int) (by omega) (by omega) (by simp) (by simp)
    refine ⟨u, y, z, p + 1 + 1 + 1 + 1 + 1, ?_, by omega, by omega⟩
    exact Ev.bind h1 (Ev.bind h2 (Ev.bind h3 (Ev.bind h4 (evT c0 (Ev.bind h5 (Ev.now _))))))
  · by_cases c1 : v = 1
    · obtain ⟨u, h5, _⟩ := num_ev b hl (p + 1 + 1 + 1 + 1) ([16, (-1)] : List Int) (by omega) (by omega) (by simp) (by simp)
      refine ⟨x, u, z, p + 1 + 1 + 1 + 1 + 1, ?_, by omega, by omega⟩
      exact Ev.bind h1 (Ev.bind h2 (Ev.bind h3 (Ev.bind h4 (evF c0 (evT c1 (Ev.bind h5 (Ev.now _)))))))
    · by_cases c2 : v = 2
      · obtain ⟨u, h5, _⟩ := num_ev b hl (p + 1 + 1 + 1 + 1) ([3, (-1)] : List Int) (by omega) (by omega) (by simp) (by simp)
        refine ⟨x, y, u, p + 1 + 1 + 1 + 1 + 1, ?_, by omega, by omega⟩
        exact Ev.bind h1 (Ev.bind h2 (Ev.bind h3 (Ev.bind h4 (evF c0 (evF c1 (evT c2 (Ev.bind h5 (Ev.now _))))))))
      · refine ⟨x, y, z, p + 1 + 1 + 1 + 1, ?_, by omega, by omega⟩
        exact Ev.bind h1 (Ev.bind h2 (Ev.bind h3 (Ev.bind h4 (evF c0 (evF c1 (evF c2 (Ev.now _)))))))
theorem drawSpread_l0 (b : List Int) (hl : Bs b) (up : List Bool) : ∀ (d : Nat) (js : List S34) (p : Int), js.length + d ≤ 20 → 0 ≤ p → p + 5 * d ≤ 300000 →
    ∃ xs, Ev (fun k => spec_DrawSpreadFrames.l0 k up js (d : Int) b p) (up, xs) ∧ xs.length ≤ 20 := by
  intro d
  induction d with
  | zero =>
    intro js p hj hp hp2
    refine ⟨js, Ev.step (fun k => by rw [spec_DrawSpreadFrames.l0]) ?_, by omega⟩
    exact evF (by omega) (Ev.now _)
  | succ d ih =>
    intro js p hj hp hp2
    obtain ⟨x, y, z, q, h1, q0, q1⟩ := hop_ev b hl p hp (by omega)
    obtain ⟨xs, h, k1⟩ := ih (js ++ [(⟨x, y, z⟩ : S34)]) q (by simp; omega) (by omega) (by omega)
    refine ⟨xs, Ev.step (fun k => by rw [spec_DrawSpreadFrames.l0]) ?_, k1⟩
    refine evT (by omega) (Ev.bind h1 (evT (by omega) ?_))
    rw [show wrap64 (((d + 1 : Nat) : Int) - 1) = (d : Int) by rw [w64 (by omega) (by omega)]; omega]
    exact h
theorem drawSpread_ev (l : List Int) (hb : ∀ x ∈ l, (Lit.int .u8 x).wf = true) : ∃ up xs, Ev (fun k => spec_DrawSpreadFrames.f k l) (up, xs) ∧ xs.length ≤ 20 := by
  obtain ⟨b, ho, hl⟩ := open_ev l hb
  obtain ⟨up, q, h1, k1, k2, k3⟩ := l11Up_ev b hl 0 (by omega) (by omega)
  obtain ⟨n, h2, hm⟩ := num_ev b hl q ([5, 9, 2, 0, 20] : List Int) (by omega) (by omega) (by simp) (by simp)
  have hn : 0 ≤ n ∧ n ≤ 20 := by simp at hm; omega
  obtain ⟨d, rfl⟩ := Int.eq_ofNat_of_zero_le hn.1
  obtain ⟨xs, h, k⟩ := drawSpread_l0 b hl up d [] (q + 1) (by simp; omega) (by omega) (by omega)
  refine ⟨up, xs, ?_, k⟩
  simp only [spec_DrawSpreadFrames.f]
  exact evS ho (Ev.bind h1 (Ev.bind h2 h))
/-! ### each frame once, in order -/
/-- how many frames go over the first M members -/
def totM (up : List Bool) (l : List S34) (n : Nat) : Nat → Nat
  | 0 => 0
  | M + 1 => totM up l n M + (rowTo up l (M : Int) n).length
theorem totM_zero (up : List Bool) (l : List S34) (M : Nat) : totM up l 0 M = 0 := by
  induction M with
  | zero => rfl
  | succ M ih => show totM up l 0 M + 0 = 0; omega
theorem totM_succ (up : List Bool) (l : List S34) (n : Nat) (hm : -1 ≤ mem up l n) (M : Nat) : totM up l (n + 1) M = totM up l n M + (if 0 ≤ mem up l n ∧ mem up l n < (M : Int) then 1 else 0) := by
  induction M with
  | zero => rw [if_neg (by omega)]; rfl
  | succ M ih =>
    show totM up l (n + 1) M + (rowTo up l (M : Int) n ++ (if mem up l n = (M : Int) then [(n : Int)] else [])).length = totM up l n M + (rowTo up l (M : Int) n).length + _
    rw [ih, List.length_append]
    by_cases c : mem up l n = (M : Int)
    · rw [if_pos c, if_neg (by omega), if_pos (by omega)]
      simp
      omega
    · rw [if_neg c]
      by_cases c2 : 0 ≤ mem up l n ∧ mem up l n < (M : Int)
      · rw [if_pos c2, if_pos (by omega)]
        simp
        omega
      · rw [if_neg c2, if_neg (by omega)]
        simp
theorem fl_isFl (h : S34) (h0 : 0 ≤ fl h) : isFl (fl h) := by
  unfold fl flow at *
  split
  · rename_i c
    rw [if_pos c] at h0
    unfold isFl
    omega
  · rename_i c
    rw [if_neg c] at h0
    omega
theorem mem_some {up : List Bool} {l : List S34} (hB : isB up) (hf : ∀ h ∈ l, 0 ≤ fl h) {i : Nat} (hi : i < l.length) : (mem up l i = -1 ∧ ∀ j, j < up.length → up[j]? ≠ some true) ∨ (0 ≤ mem up l i ∧ mem up l i < (up.length : Int) ∧ ∃ j, j < up.length ∧ up[j]? = some true) := by
  have hg : l.getD i z34 = l[i] := by simp [List.getD_eq_getElem?_getD, hi]
  have h := member_best up (fl l[i]) hB (fl_isFl _ (hf _ (List.getElem_mem hi)))
  unfold mem
  rw [hg]
  rcases h with ⟨h1, h2⟩ | ⟨j, h1, h2, h3, _⟩
  · exact .inl ⟨h1, h2⟩
  · exact .inr ⟨by omega, by omega, j, h2, h3⟩
/-- rows: in order, and where they belong -/
theorem rowTo_at {up : List Bool} {l : List S34} {m : Int} : ∀ (n i : Nat) (h : i < (rowTo up l m n).length), ∃ j : Nat, (rowTo up l m n)[i] = (j : Int) ∧ j < n ∧ mem up l j = m := by
  intro n
  induction n with
  | zero => intro i h; simp [rowTo] at h
  | succ n ih =>
    intro i h
    have e : rowTo up l m (n + 1) = rowTo up l m n ++ (if mem up l n = m then [(n : Int)] else []) := rfl
    by_cases c : i < (rowTo up l m n).length
    · obtain ⟨j, h1, h2, h3⟩ := ih i c
      refine ⟨j, ?_, by omega, h3⟩
      rw [← h1]
      simp only [e]
      exact List.getElem_append_left c
    · by_cases d : mem up l n = m
      · have hl : (rowTo up l m (n + 1)).length = (rowTo up l m n).length + 1 := by rw [e, if_pos d]; simp
        have hi : i = (rowTo up l m n).length := by omega
        refine ⟨n, ?_, by omega, d⟩
        have e2 : rowTo up l m (n + 1) = rowTo up l m n ++ [(n : Int)] := by rw [e, if_pos d]
        simp only [e2, hi]
        exact List.getElem_concat_length rfl _
      · rw [e, if_neg d, List.append_nil] at h
        exact absurd h c
theorem rowTo_inc {up : List Bool} {l : List S34} {m : Int} : ∀ (n i : Nat) (h : i + 1 < (rowTo up l m n).length), (rowTo up l m n)[i] < (rowTo up l m n)[i + 1] := by
  intro n
  induction n with
  | zero => intro i h; simp [rowTo] at h
  | succ n ih =>
    intro i h
    have e : rowTo up l m (n + 1) = rowTo up l m n ++ (if mem up l n = m then [(n : Int)] else []) := rfl
    by_cases c : i + 1 < (rowTo up l m n).length
    · have := ih i c
      simp only [e]
      rw [List.getElem_append_left c, List.getElem_append_left (by omega)]
      exact this
    · by_cases d : mem up l n = m
      · have e2 : rowTo up l m (n + 1) = rowTo up l m n ++ [(n : Int)] := by rw [e, if_pos d]
        have hl : (rowTo up l m (n + 1)).length = (rowTo up l m n).length + 1 := by rw [e2]; simp
        have hi : i + 1 = (rowTo up l m n).length := by omega
        obtain ⟨j, h1, h2, _⟩ := rowTo_at (up := up) (l := l) (m := m) n i (by omega)
        simp only [e2, hi]
        rw [List.getElem_concat_length rfl, List.getElem_append_left (by omega), h1]
        omega
      · rw [e, if_neg d, List.append_nil] at h
        exact absurd h c
theorem spread_l1 {up : List Bool} {l : List S34} (hl : l.length ≤ 60) (hB : isB up) {sum : Int} {some_ : Bool} {X : List (List Int)} {n : Int} {m : Nat} (hm : m < up.length) {R : Bool} (row : List Int) (hrow : row = rowTo up l (m : Int) l.length)
    (hn : Ev (fun k => laws_FnSpread.l0 k up l (wrap64 (sum + (row.length : Int))) some_ X n (wrap64 ((m : Int) + 1))) R) : ∀ d i : Nat, i + d = row.length →
    Ev (fun k => laws_FnSpread.l1 k up l sum some_ (m : Int) row X n (m : Int) row (row.length : Int) (i : Int)) R := by
  have hrl : row.length ≤ 60 := by rw [hrow]; exact Nat.le_trans (rowTo_len _ _ _ _) hl
  intro d
  induction d with
  | zero =>
    intro i hi
    refine Ev.step (fun k => by rw [laws_FnSpread.l1]) ?_
    exact evF (by omega) hn
  | succ d ih =>
    intro i hi
    have hil : i < row.length := by omega
    have hr := ih (i + 1) (by omega)
    have n1 : (i : Int) < (row.length : Int) := by omega
    have n2 : 0 ≤ (i : Int) := by omega
    have e1 : wrap64 ((i : Int) + 1) = ((i + 1 : Nat) : Int) := by rw [w64 (by omega) (by omega)]; omega
    have n3 : (i : Int) > 0 → 0 ≤ wrap64 ((i : Int) - 1) ∧ wrap64 ((i : Int) - 1) < (row.length : Int) ∧ ∃ i' : Nat, i' + 1 = i ∧ wrap64 ((i : Int) - 1) = (i' : Int) := fun c => by
      rw [w64 (by omega) (by omega)]
      exact ⟨by omega, by omega, i - 1, by omega, by omega⟩
    obtain ⟨j, h1, h2, h3⟩ := rowTo_at (up := up) (l := l) (m := (m : Int)) l.length i (by rw [← hrow]; exact hil)
    have n4 : 0 ≤ (j : Int) := Int.natCast_nonneg j
    have n5 : (j : Int) < (l.length : Int) := Int.ofNat_lt.2 h2
    have hat : rd row (i : Int) = (j : Int) := by rw [rd_at row i hil]; simp only [hrow]; exact h1
    have hlt : ∀ i' : Nat, i' + 1 = i → ¬ rd row (i' : Int) ≥ (j : Int) := by
      intro i' hi'
      subst hi'
      rw [rd_at row i' (Nat.lt_of_succ_lt hil)]
      have := rowTo_inc (up := up) (l := l) (m := (m : Int)) l.length i' (by rw [← hrow]; exact hil)
      rw [h1] at this
      simp only [hrow]
      exact Int.not_le.2 this
    have hg : l.getD j z34 = l[j] := by simp [List.getD_eq_getElem?_getD, h2]
    have hme : member up (flow l[j].f0 l[j].f1) = (m : Int) := by rw [← h3]; unfold mem fl; rw [hg]
    refine Ev.step (fun k => by rw [laws_FnSpread.l1]) ?_
    refine evT n1 (evT n2 (evT n1 ?_))
    rw [hat, e1, rd34_at l j h2, hg]
    have last : Ev (fun k => (impl_FlowOf.f l[j].f0 l[j].f1).bind fun t => (impl_MemberFor.f k up t).bind fun u => if u = (m : Int) then laws_FnSpread.l1 k up l sum some_ (m : Int) row X n (m : Int) row (row.length : Int) ((i + 1 : Nat) : Int) else some false) R :=
      evS (implFlow_eq _ _) (Ev.bind (implMember_ev _ _) (evT hme hr))
    by_cases c : (i : Int) > 0
    · obtain ⟨m1, m2, i', hi', e2⟩ := n3 c
      refine evT c (evT m1 (evT m2 ?_))
      rw [e2]
      exact evF (hlt i' hi') (evT n4 (evT n5 last))
    · exact evF c (evT n4 (evT n5 last))
theorem rowTo_tot (up : List Bool) (l : List S34) (n M : Nat) (hM : M ≤ up.length) (hn : n ≤ 60) (h8 : up.length ≤ 8) : totM up l n M ≤ 60 * M := by
  induction M with
  | zero => exact Nat.le_refl _
  | succ M ih =>
    have := ih (by omega)
    have := rowTo_len up l (M : Int) n
    show totM up l n M + (rowTo up l (M : Int) n).length ≤ 60 * (M + 1)
    omega
theorem spread_l0 {up : List Bool} {l : List S34} (hl : l.length ≤ 60) (hB : isB up) {b : Bool} (hb : b = true ↔ ∃ j, j < up.length ∧ up[j]? = some true) (hs : (b = true → totM up l l.length up.length = l.length) ∧ (b = false → totM up l l.length up.length = 0)) : ∀ (d m : Nat) (s : Bool), m + d = up.length → (s = true ↔ ∃ j, j < m ∧ up[j]? = some true) →
    Ev (fun k => laws_FnSpread.l0 k up l (totM up l l.length m : Int) s (rowsTo up l l.length) (up.length : Int) (m : Int)) true := by
  have h8 := hB.2
  intro d
  induction d with
  | zero =>
    intro m s hm hsj
    obtain rfl : m = up.length := by omega
    have hsb : s = b := by rw [Bool.eq_iff_iff, hsj, hb]
    subst hsb
    refine Ev.step (fun k => by rw [laws_FnSpread.l0]) ?_
    refine evF (by omega) ?_
    cases s with
    | true => exact evT rfl (evT (by rw [hs.1 rfl]) (Ev.now _))
    | false => exact evF (by decide) (evE (Ev.now _) (by rw [hs.2 rfl]; rfl))
  | succ d ih =>
    intro m s hm hsj
    have hmu : m < up.length := by omega
    have htot := rowTo_tot up l l.length (m + 1) (by omega) hl h8
    have e : wrap64 ((totM up l l.length m : Int) + ((rowTo up l (m : Int) l.length).length : Int)) = (totM up l l.length (m + 1) : Int) := by
      have e2 : (totM up l l.length (m + 1) : Int) = (totM up l l.length m : Int) + ((rowTo up l (m : Int) l.length).length : Int) := by
        show ((totM up l l.length m + (rowTo up l (m : Int) l.length).length : Nat) : Int) = _
        omega
      rw [← e2, w64 (by omega) (by omega)]
    have hro : rd_L4 (rowsTo up l l.length) (m : Int) = rowTo up l (m : Int) l.length := by
      show (rowsTo up l l.length).getD (m : Int).toNat [] = _
      rw [Int.toNat_natCast]
      exact rowsTo_at up l l.length m hmu
    have hg : up[m]? = some up[m] := List.getElem?_eq_getElem hmu
    have hru : rdOf false up (m : Int) = up[m] := rdOf_at false up m hmu
    have e1 : wrap64 ((m : Int) + 1) = ((m + 1 : Nat) : Int) := by rw [w64 (by omega) (by omega)]; omega
    have next : ∀ s' : Bool, (s' = true ↔ ∃ j, j < m + 1 ∧ up[j]? = some true) → Ev (fun k => laws_FnSpread.l1 k up l (totM up l l.length m : Int) s' (m : Int) (rowTo up l (m : Int) l.length) (rowsTo up l l.length) (up.length : Int) (m : Int) (rowTo up l (m : Int) l.length) ((rowTo up l (m : Int) l.length).length : Int) 0) true := by
      intro s' h
      refine spread_l1 hl hB hmu _ rfl ?_ (rowTo up l (m : Int) l.length).length 0 (by omega)
      rw [e, e1]
      exact ih (m + 1) s' (by omega) h
    refine Ev.step (fun k => by rw [laws_FnSpread.l0]) ?_
    refine evT (by omega) (evT (by omega) (evT (by rw [rowsTo_len]; omega) ?_))
    rw [hro, hru]
    by_cases c : s = true
    · subst c
      refine evT rfl (next true ⟨fun _ => ?_, fun _ => rfl⟩)
      obtain ⟨j, h1, h2⟩ := hsj.1 rfl
      exact ⟨j, by omega, h2⟩
    · refine evF c (evT (by omega) (next up[m] ⟨fun h => ⟨m, by omega, by rw [hg, h]⟩, fun ⟨j, h1, h2⟩ => ?_⟩))
      by_cases e2 : j = m
      · subst e2
        rw [hg] at h2
        exact Option.some.inj h2
      · exact absurd (hsj.2 ⟨j, by omega, h2⟩) c
theorem tot_all {up : List Bool} {l : List S34} (hB : isB up) (hf : ∀ h ∈ l, 0 ≤ fl h) : ∀ n, n ≤ l.length →
    ((∃ j, j < up.length ∧ up[j]? = some true) → totM up l n up.length = n) ∧ ((¬ ∃ j, j < up.length ∧ up[j]? = some true) → totM up l n up.length = 0) := by
  intro n
  induction n with
  | zero => intro _; exact ⟨fun _ => totM_zero _ _ _, fun _ => totM_zero _ _ _⟩
  | succ n ih =>
    intro hn
    have h := ih (by omega)
    rcases mem_some hB hf (show n < l.length by omega) with ⟨h1, h2⟩ | ⟨h1, h2, h3⟩
    · have e := totM_succ up l n (by omega) up.length
      rw [if_neg (by omega)] at e
      refine ⟨fun ⟨j, hj, hj2⟩ => absurd hj2 (h2 j hj), fun hno => by rw [e, h.2 hno]⟩
    · have e := totM_succ up l n (by omega) up.length
      rw [if_pos ⟨h1, h2⟩] at e
      exact ⟨fun hy => by rw [e, h.1 hy], fun hno => absurd h3 hno⟩
theorem q_FnSpread : laws_FnSpread.Pure := by
  intro l hl1 hl2 hb
  refine Ev.rounds ?_
  simp only [laws_FnSpread.f]
  by_cases h0 : (l.length : Int) > 1048576
  · exact evT h0 (Ev.now _)
  obtain ⟨up, xs, hd, hxs⟩ := drawSpread_ev l hb
  have hi := implSpread_ev up xs
  have hs := specSpread_ev up xs (by omega)
  have hsm : (spread up xs).length ≤ 8 ∧ ∀ c ∈ spread up xs, c.length ≤ 60 := by
    unfold spread
    split
    · rename_i h
      simp only [spreadOk, Bool.and_eq_true, decide_eq_true_eq] at h
      have h8 := h.1.1.2
      refine ⟨by rw [rowsTo_len]; exact h8, fun c hc => ?_⟩
      obtain ⟨j, _, rfl⟩ := List.mem_map.1 hc
      have := rowTo_len up xs (j : Int) xs.length
      omega
    · exact ⟨by simp, fun c hc => by simp at hc⟩
  have hq := wnPairs_ev (spread up xs) (by omega) (fun c hc => by have := hsm.2 c hc; omega)
  refine evF h0 (Ev.bind hd (Ev.bind hi (Ev.bind hs (Ev.bind hq (evT rfl (Ev.step (fun k => by rw [laws_FnSpread.j0]) ?_))))))
  by_cases hz : ((spread up xs).length : Int) = 0
  · exact evT (by simpa using hz) (Ev.bind hs (Ev.bind hq (Ev.now _)))
  · refine evF (by simpa using hz) ?_
    have hok : spreadOk up xs = true := Classical.byContradiction fun hc => hz (by unfold spread; rw [if_neg hc]; rfl)
    have hR : spread up xs = rowsTo up xs xs.length := by unfold spread; rw [if_pos hok]
    rw [hR]
    simp only [spreadOk, Bool.and_eq_true, decide_eq_true_eq, List.all_eq_true] at hok
    obtain ⟨⟨hB, h6⟩, hf⟩ := hok
    have ht := tot_all hB hf xs.length (Nat.le_refl _)
    rw [rowsTo_len]
    refine spread_l0 h6 hB (b := decide (∃ j, j < up.length ∧ up[j]? = some true)) (by rw [decide_eq_true_eq]) ⟨fun h => ht.1 (of_decide_eq_true h), fun h => ht.2 (of_decide_eq_false h)⟩ up.length 0 false (by omega) ⟨fun h => Bool.noConfusion h, fun ⟨j, h, _⟩ => absurd h (Nat.not_lt_zero _)⟩

end Go.Proofs.Ytdkmgcijhaokkaa.Q

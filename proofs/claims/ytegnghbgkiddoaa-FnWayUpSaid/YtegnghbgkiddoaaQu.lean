/- Plain lemmas on what the printed functions compute (seat Ytegnghbgkiddoaa, module Qu). Conditions: each lemma's own. -/
import Derived.Test.YtegnghbgkiddoaaQd
import Derived.Test.YtegnghbgkiddoaaPA0
import Derived.Test.YtegnghbgkiddoaaPA16
import Derived.Test.YtegnghbgkiddoaaPA18
import Derived.Test.YtegnghbgkiddoaaPA35
import Derived.Test.YtegnghbgkiddoaaPA4
set_option linter.unusedVariables false
set_option linter.unusedSimpArgs false
namespace Go.Proofs.Ytegnghbgkiddoaa.Q
open Go Go.RowKit Go.Proofs.Ytegnghbgkiddoaa.PA Go.Proofs.YtegnghbgkiddoaaW.PrintWords Go.Proofs.YtegnghbgkiddoaaW.PrintLast

/-! the up cable -/
theorem implUp_l0 {m : Nat} {l : List S44} (hV : Vd m l) {ds : List Int} (hc : Cs m (l.map cbOf) ds) {b : Nat} (hb : b < m) : ∀ (d i : Nat) (s t : Int), i + d = l.length → Best (l.map cbOf) ds b i s t →
    ∃ s' t', Best (l.map cbOf) ds b l.length s' t' ∧ Ev (fun k => impl_upOf.l0 k ds (b : Int) s t l (l.length : Int) (i : Int)) (s', t') := by
  have hlen := hV.len
  have hm8 := hV.m8
  intro d
  induction d with
  | zero =>
    intro i s t hi hB
    obtain rfl : i = l.length := by omega
    refine ⟨s, t, hB, Ev.step (fun k => by rw [impl_upOf.l0]) ?_⟩
    exact evF (by omega) (Ev.now _)
  | succ d ih =>
    intro i s t hi hB
    have e : wrap64 ((i : Int) + 1) = ((i + 1 : Nat) : Int) := by rw [w64 (by omega) (by omega)]; omega
    obtain ⟨p, q, c, hx, hp, hq, hne, hc1, hc2, hat, _⟩ := hV.map i (by omega)
    have hbd : ∀ j, j < m → 0 ≤ ds.getD j 0 ∧ ds.getD j 0 ≤ 792 := fun j hj => by
      have h1 := (hc.2 j hj).nonneg hV.okc
      have h2 := (hc.2 j hj).small hV.okc hj
      omega
    have go : ∀ (o : Nat) (B : Bool), o < m → (∀ q', Ends ⟨p, q, c⟩ q' b → q' = o) → Ends ⟨p, q, c⟩ o b → ∃ s' t', Best (l.map cbOf) ds b l.length s' t' ∧
        Ev (fun k => if (0 : Int) ≤ (o : Int) then (if (o : Int) < (ds.length : Int) then (if 0 ≤ (b : Int) then (if (b : Int) < (ds.length : Int) then (if (wrap64 ((rd ds (o : Int)) + c)) = (rd ds (b : Int)) then (if s < 0 then (impl_upOf.l0 k ds (b : Int) (i : Int) (o : Int) l (l.length : Int) (wrap64 ((i : Int) + 1))) else (if (o : Int) < t then (impl_upOf.l0 k ds (b : Int) (i : Int) (o : Int) l (l.length : Int) (wrap64 ((i : Int) + 1))) else (impl_upOf.l0 k ds (b : Int) s t l (l.length : Int) (wrap64 ((i : Int) + 1))))) else (impl_upOf.l0 k ds (b : Int) s t l (l.length : Int) (wrap64 ((i : Int) + 1)))) else none) else none) else none) else none) (s', t') := by
      intro o B ho huniq hends
      have hlo := hbd o ho
      rw [e, rd_getD, rd_getD, w64 (x := ds.getD o 0 + c) (by omega) (by omega)]
      have huq : ∀ q', Cand (l.map cbOf) ds b i q' → q' = o := fun q' hq' => by
        obtain ⟨y, hy, he, _⟩ := hq'
        rw [hat] at hy
        obtain rfl := Option.some.inj hy
        exact huniq q' he
      by_cases c1 : ds.getD o 0 + c = ds.getD b 0
      · have hcand : Cand (l.map cbOf) ds b i o := ⟨_, hat, hends, c1⟩
        by_cases c2 : s < 0
        · obtain ⟨s', t', h1, h2⟩ := ih (i + 1) i o (by omega) (hB.take hcand huq (.inl c2))
          exact ⟨s', t', h1, evT (by omega) (evT (by rw [hc.1]; omega) (evT (by omega) (evT (by rw [hc.1]; omega) (evT c1 (evT c2 h2)))))⟩
        · by_cases c3 : (o : Int) < t
          · obtain ⟨s', t', h1, h2⟩ := ih (i + 1) i o (by omega) (hB.take hcand huq (.inr c3))
            exact ⟨s', t', h1, evT (by omega) (evT (by rw [hc.1]; omega) (evT (by omega) (evT (by rw [hc.1]; omega) (evT c1 (evF c2 (evT c3 h2))))))⟩
          · obtain ⟨s', t', h1, h2⟩ := ih (i + 1) s t (by omega) (hB.keep huq (fun h => h.elim c2 c3))
            exact ⟨s', t', h1, evT (by omega) (evT (by rw [hc.1]; omega) (evT (by omega) (evT (by rw [hc.1]; omega) (evT c1 (evF c2 (evF c3 h2))))))⟩
      · obtain ⟨s', t', h1, h2⟩ := ih (i + 1) s t (by omega) (hB.skip (fun q' hq' => by
          have := huq q' hq'
          subst this
          obtain ⟨y, hy, he, hz⟩ := hq'
          rw [hat] at hy
          obtain rfl := Option.some.inj hy
          exact c1 hz))
        exact ⟨s', t', h1, evT (by omega) (evT (by rw [hc.1]; omega) (evT (by omega) (evT (by rw [hc.1]; omega) (evF c1 h2))))⟩
    by_cases g1 : b = p
    · obtain ⟨s', t', h1, h2⟩ := go q true hq (fun q' h => by rcases h with ⟨h3, h4⟩ | ⟨h3, h4⟩ <;> simp only at h3 h4 <;> omega) (.inr ⟨g1.symm, rfl⟩)
      refine ⟨s', t', h1, Ev.step (fun k => by rw [impl_upOf.l0]) ?_⟩
      rw [hx]
      dsimp only
      refine evT (by omega) (evT (by omega) (evT (by omega) (evS (show impl_Cable_other.f (p : Int) (q : Int) c (b : Int) = some ((q : Int), true) by unfold impl_Cable_other.f; rw [if_pos (by omega)]) ?_)))
      exact evT rfl h2
    · by_cases g2 : b = q
      · obtain ⟨s', t', h1, h2⟩ := go p true hp (fun q' h => by rcases h with ⟨h3, h4⟩ | ⟨h3, h4⟩ <;> simp only at h3 h4 <;> omega) (.inl ⟨rfl, g2.symm⟩)
        refine ⟨s', t', h1, Ev.step (fun k => by rw [impl_upOf.l0]) ?_⟩
        rw [hx]
        dsimp only
        refine evT (by omega) (evT (by omega) (evT (by omega) (evS (show impl_Cable_other.f (p : Int) (q : Int) c (b : Int) = some ((p : Int), true) by unfold impl_Cable_other.f; rw [if_neg (by omega), if_pos (by omega)]) ?_)))
        exact evT rfl h2
      · obtain ⟨s', t', h1, h2⟩ := ih (i + 1) s t (by omega) (hB.skip (fun q' hq' => by
          obtain ⟨y, hy, he, hz⟩ := hq'
          rw [hat] at hy
          obtain rfl := Option.some.inj hy
          rcases he with ⟨h3, h4⟩ | ⟨h3, h4⟩ <;> simp only at h3 h4 <;> omega))
        refine ⟨s', t', h1, Ev.step (fun k => by rw [impl_upOf.l0]) ?_⟩
        rw [hx]
        dsimp only
        refine evT (by omega) (evT (by omega) (evT (by omega) (evS (show impl_Cable_other.f (p : Int) (q : Int) c (b : Int) = some ((0 : Int), false) by unfold impl_Cable_other.f; rw [if_neg (by omega), if_neg (by omega)]) ?_)))
        rw [e]
        exact evF (by simp) h2
theorem implUp_ev {m : Nat} {l : List S44} (hV : Vd m l) {ds : List Int} (hc : Cs m (l.map cbOf) ds) {b : Nat} (hb : b < m) : ∃ s t, Ev (fun k => impl_upOf.f k l ds (b : Int)) (s, t) ∧
    ((s = -1 ∧ t = -1 ∧ ∀ j q, ¬ Cand (l.map cbOf) ds b j q) ∨ ∃ j q : Nat, s = (j : Int) ∧ t = (q : Int) ∧ Up (l.map cbOf) ds b j q) := by
  obtain ⟨s, t, h1, h2⟩ := implUp_l0 hV hc hb l.length 0 (-1) (-1) (by omega) (Best.start _ _ _)
  refine ⟨s, t, ?_, ?_⟩
  · simp only [impl_upOf.f]
    exact h2
  · have : l.length = (l.map cbOf).length := by simp
    rw [this] at h1
    exact h1.end
theorem specOther_ends {p q : Nat} {c : Int} {b o : Nat} (hne : p ≠ q) (h : Ends ⟨p, q, c⟩ o b) : spec_l7Other.f (p : Int) (q : Int) c (b : Int) = some (o : Int) := by
  unfold spec_l7Other.f
  rcases h with ⟨h1, h2⟩ | ⟨h1, h2⟩ <;> simp only at h1 h2
  · subst h1 h2
    rw [if_neg (by omega), if_pos (by omega)]
  · subst h1 h2
    rw [if_pos (by omega)]
theorem specUp_l0 {m : Nat} {l : List S44} (hV : Vd m l) {ds : List Int} (hc : Cs m (l.map cbOf) ds) {b : Nat} (hb : b < m) : ∀ (d i : Nat) (s t : Int), i + d = l.length → Best (l.map cbOf) ds b i s t →
    ∃ s' t', Best (l.map cbOf) ds b l.length s' t' ∧ Ev (fun k => spec_l7Up.l0 k l ds (b : Int) s (i : Int)) s' := by
  have hlen := hV.len
  have hm8 := hV.m8
  intro d
  induction d with
  | zero =>
    intro i s t hi hB
    obtain rfl : i = l.length := by omega
    refine ⟨s, t, hB, Ev.step (fun k => by rw [spec_l7Up.l0]) ?_⟩
    exact evF (by omega) (Ev.now _)
  | succ d ih =>
    intro i s t hi hB
    have e : wrap64 ((i : Int) + 1) = ((i + 1 : Nat) : Int) := by rw [w64 (by omega) (by omega)]; omega
    obtain ⟨p, q, c, hx, hp, hq, hne, hc1, hc2, hat, _⟩ := hV.map i (by omega)
    have hbd : ∀ j, j < m → 0 ≤ ds.getD j 0 ∧ ds.getD j 0 ≤ 792 := fun j hj => by
      have h1 := (hc.2 j hj).nonneg hV.okc
      have h2 := (hc.2 j hj).small hV.okc hj
      omega
    by_cases g : ∃ o : Nat, Ends ⟨p, q, c⟩ o b
    · obtain ⟨o, hends⟩ := g
      have ho : o < m := by rcases hends with ⟨h3, h4⟩ | ⟨h3, h4⟩ <;> simp only at h3 h4 <;> omega
      have hlo := hbd o ho
      have hlb := hbd b hb
      have huq : ∀ q', Cand (l.map cbOf) ds b i q' → q' = o := fun q' hq' => by
        obtain ⟨y, hy, he, _⟩ := hq'
        rw [hat] at hy
        obtain rfl := Option.some.inj hy
        rcases hends with ⟨h3, h4⟩ | ⟨h3, h4⟩ <;> rcases he with ⟨h5, h6⟩ | ⟨h5, h6⟩ <;> simp only at h3 h4 h5 h6 <;> omega
      have fin : ∀ (s2 t2 : Int), Best (l.map cbOf) ds b (i + 1) s2 t2 → (∀ {s' : Int}, Ev (fun k => spec_l7Up.l0 k l ds (b : Int) s2 (wrap64 ((i : Int) + 1))) s' → Ev (fun k => spec_l7Up.j1 k l ds (b : Int) s (i : Int) (o : Int) (wrap64 (ds.getD o 0 + c) != ds.getD b 0)) s') →
          ∃ s' t', Best (l.map cbOf) ds b l.length s' t' ∧ Ev (fun k => spec_l7Up.l0 k l ds (b : Int) s (i : Int)) s' := fun s2 t2 hB2 hk => by
        obtain ⟨s', t', h1, h2⟩ := ih (i + 1) s2 t2 (by omega) hB2
        refine ⟨s', t', h1, Ev.step (fun k => by rw [spec_l7Up.l0]) ?_⟩
        rw [hx]
        dsimp only
        refine evT (by omega) (evT (by omega) (evS (specOther_ends hne hends) ?_))
        refine evF (by omega) (evT (by omega) (evT (by rw [hc.1]; omega) (evT (by omega) (evT (by rw [hc.1]; omega) ?_))))
        simp only [rd_getD]
        exact hk (by rw [e]; exact h2)
      by_cases c1 : ds.getD o 0 + c = ds.getD b 0
      · have hcand : Cand (l.map cbOf) ds b i o := ⟨_, hat, hends, c1⟩
        have hfl : (wrap64 (ds.getD o 0 + c) != ds.getD b 0) = false := by rw [w64 (by omega) (by omega), c1]; simp
        by_cases c2 : s < 0
        · refine fin i o (hB.take hcand huq (.inl c2)) (fun h => ?_)
          rw [hfl]
          refine Ev.step (fun k => by rw [spec_l7Up.j1]) ?_
          exact evF (by simp) (evT c2 h)
        · obtain ⟨j, q', hsj, htq, hji, hcj, _⟩ := hB.resolve_left (fun h => by omega)
          obtain ⟨p2, q2, cc, hx2, _, _, hne2, _, _, hat2, _⟩ := hV.map j (by omega)
          have hoth : spec_l7Other.f ((rd_T44 l s).f0) ((rd_T44 l s).f1) ((rd_T44 l s).f2) (b : Int) = some t := by
            rw [hsj, hx2, htq]
            obtain ⟨y, hy, he, _⟩ := hcj
            rw [hat2] at hy
            obtain rfl := Option.some.inj hy
            exact specOther_ends hne2 he
          by_cases c3 : (o : Int) < t
          · refine fin i o (hB.take hcand huq (.inr c3)) (fun h => ?_)
            rw [hfl]
            refine Ev.step (fun k => by rw [spec_l7Up.j1]) ?_
            exact evF (by simp) (evF c2 (evT (by omega) (evT (by omega) (evS hoth (evT c3 h)))))
          · refine fin s t (hB.keep huq (fun h => h.elim c2 c3)) (fun h => ?_)
            rw [hfl]
            refine Ev.step (fun k => by rw [spec_l7Up.j1]) ?_
            exact evF (by simp) (evF c2 (evT (by omega) (evT (by omega) (evS hoth (evF c3 h)))))
      · refine fin s t (hB.skip (fun q' hq' => by
          have := huq q' hq'
          subst this
          obtain ⟨y, hy, he, hz⟩ := hq'
          rw [hat] at hy
          obtain rfl := Option.some.inj hy
          exact c1 hz)) (fun h => ?_)
        rw [show (wrap64 (ds.getD o 0 + c) != ds.getD b 0) = true by rw [w64 (by omega) (by omega)]; simpa using c1]
        refine Ev.step (fun k => by rw [spec_l7Up.j1]) ?_
        exact evT rfl h
    · obtain ⟨s', t', h1, h2⟩ := ih (i + 1) s t (by omega) (hB.skip (fun q' hq' => by
        obtain ⟨y, hy, he, hz⟩ := hq'
        rw [hat] at hy
        obtain rfl := Option.some.inj hy
        exact g ⟨q', he⟩))
      refine ⟨s', t', h1, Ev.step (fun k => by rw [spec_l7Up.l0]) ?_⟩
      rw [hx]
      dsimp only
      refine evT (by omega) (evT (by omega) (evS (show spec_l7Other.f (p : Int) (q : Int) c (b : Int) = some (-1) by
        unfold spec_l7Other.f
        rw [if_neg (fun h => g ⟨q, .inr ⟨by simp only; omega, rfl⟩⟩), if_neg (fun h => g ⟨p, .inl ⟨rfl, by simp only; omega⟩⟩)]) ?_))
      refine evT (by omega) (Ev.step (fun k => by rw [spec_l7Up.j1]) ?_)
      rw [e]
      exact evT rfl h2
/-- the up cable: none of a root, the least neighbour's first cable else -/
theorem up_ev {m : Nat} {l : List S44} (hV : Vd m l) {ds : List Int} (hc : Cs m (l.map cbOf) ds) {b : Nat} (hb : b < m) :
    ((∀ j q, ¬ Cand (l.map cbOf) ds b j q) ∧ Ev (fun k => impl_upOf.f k l ds (b : Int)) (-1, -1) ∧ Ev (fun k => spec_l7Up.f k l ds (b : Int)) (-1)) ∨
    ∃ j q : Nat, Up (l.map cbOf) ds b j q ∧ Ev (fun k => impl_upOf.f k l ds (b : Int)) ((j : Int), (q : Int)) ∧ Ev (fun k => spec_l7Up.f k l ds (b : Int)) (j : Int) := by
  obtain ⟨s, t, h1, h2⟩ := implUp_ev hV hc hb
  have hsp : ∃ s' : Int, Ev (fun k => spec_l7Up.f k l ds (b : Int)) s' ∧ ((s' = -1 ∧ ∀ j q, ¬ Cand (l.map cbOf) ds b j q) ∨ ∃ j q : Nat, s' = (j : Int) ∧ Up (l.map cbOf) ds b j q) := by
    by_cases hz : ds.getD b 0 = 0
    · refine ⟨-1, ?_, .inl ⟨rfl, fun j q h => Cand.root hV.okc hc hz h⟩⟩
      simp only [spec_l7Up.f]
      exact evT (by omega) (evT (by rw [hc.1]; omega) (evT (by rw [rd_getD]; exact hz) (Ev.now _)))
    · obtain ⟨s', t', h3, h4⟩ := specUp_l0 hV hc hb l.length 0 (-1) (-1) (by omega) (Best.start _ _ _)
      have : l.length = (l.map cbOf).length := by simp
      rw [this] at h3
      refine ⟨s', ?_, h3.end.imp (fun h => ⟨h.1, h.2.2⟩) (fun ⟨j, q, h5, _, h6⟩ => ⟨j, q, h5, h6⟩)⟩
      simp only [spec_l7Up.f]
      exact evT (by omega) (evT (by rw [hc.1]; omega) (evF (by rw [rd_getD]; exact hz) h4))
  obtain ⟨s', h3, h4⟩ := hsp
  rcases h2 with ⟨rfl, rfl, h5⟩ | ⟨j, q, rfl, rfl, h5⟩
  · rcases h4 with ⟨rfl, h6⟩ | ⟨j, q, _, h6⟩
    · exact .inl ⟨h5, h1, h3⟩
    · exact (h5 _ _ h6.1).elim
  · rcases h4 with ⟨_, h6⟩ | ⟨j', q', rfl, h6⟩
    · exact (h6 _ _ h5.1).elim
    · obtain ⟨rfl, rfl⟩ := h5.uniq h6
      exact .inr ⟨j, q, h5, h1, h3⟩
/-! the way up -/
def ints (l : List Nat) : List Int := l.map fun (x : Nat) => (x : Int)
theorem implWay_l0 {m : Nat} {l : List S44} (hV : Vd m l) {ds : List Int} (hc : Cs m (l.map cbOf) ds) {b : Nat} {w : List Nat} (hw : Way (l.map cbOf) ds b w) : b < m → ∀ pre : List Int, pre.length + w.length ≤ 1000000 →
    Ev (fun k => impl_WayUp.l0 k l (b : Int) ds (pre ++ [(b : Int)])) (pre ++ ints w) := by
  induction hw with
  | @root b hr =>
    intro hb pre hl
    refine Ev.step (fun k => by rw [impl_WayUp.l0]) ?_
    rcases up_ev hV hc hb with ⟨_, h1, _⟩ | ⟨j, q, h1, _, _⟩
    · exact Ev.bind h1 (evT (by simp) (evE (Ev.now _) (by simp [ints])))
    · exact (hr _ _ h1.1).elim
  | @step b i o w hu hw ih =>
    intro hb pre hl
    simp only [List.length_cons] at hl
    refine Ev.step (fun k => by rw [impl_WayUp.l0]) ?_
    rcases up_ev hV hc hb with ⟨h0, _, _⟩ | ⟨j, q, h1, h2, _⟩
    · exact (h0 _ _ hu.1).elim
    · obtain ⟨rfl, rfl⟩ := h1.uniq hu
      refine Ev.bind h2 (evF (by omega) (evT (by simp; omega) ?_))
      exact evE (ih (hu.1.ends hV.okc).2.1 (pre ++ [(b : Int)]) (by simp; omega)) (by simp [ints])
theorem specWay_l0 {m : Nat} {l : List S44} (hV : Vd m l) {ds : List Int} (hc : Cs m (l.map cbOf) ds) {b : Nat} {w : List Nat} (hw : Way (l.map cbOf) ds b w) : b < m → ∀ (pre : List Int) (u : Int), pre.length + w.length ≤ 1000000 → Ev (fun k => spec_l7Up.f k l ds (b : Int)) u →
    Ev (fun k => spec_WayUp.l0 k l (b : Int) (pre ++ [(b : Int)]) ds u) (pre ++ ints w) := by
  induction hw with
  | @root b hr =>
    intro hb pre u hl hu2
    refine Ev.step (fun k => by rw [spec_WayUp.l0]) ?_
    rcases up_ev hV hc hb with ⟨_, _, h1⟩ | ⟨j, q, h1, _, _⟩
    · obtain rfl := ev_uniq hu2 h1
      exact evF (by simp) (evE (Ev.now _) (by simp [ints]))
    · exact (hr _ _ h1.1).elim
  | @step b i o w hu hw ih =>
    intro hb pre u hl hu2
    simp only [List.length_cons] at hl
    refine Ev.step (fun k => by rw [spec_WayUp.l0]) ?_
    rcases up_ev hV hc hb with ⟨h0, _, _⟩ | ⟨j, q, h1, _, h2⟩
    · exact (h0 _ _ hu.1).elim
    · obtain rfl := ev_uniq hu2 h2
      obtain ⟨rfl, rfl⟩ := h1.uniq hu
      have hj := h1.1.lt
      rw [List.length_map] at hj
      obtain ⟨p2, q2, cc, hx2, _, _, hne2, _, _, hat2, _⟩ := hV.map j hj
      obtain ⟨y, hy, he, _⟩ := h1.1
      rw [hat2] at hy
      obtain rfl := Option.some.inj hy
      refine evT (by omega) (evT (by omega) (evT (by omega) ?_))
      rw [hx2]
      refine evS (specOther_ends hne2 he) (evT (by simp; omega) ?_)
      have hq := (hu.1.ends hV.okc).2.1
      rcases up_ev hV hc hq with ⟨_, _, h5⟩ | ⟨_, _, _, _, h5⟩
      · exact Ev.bind h5 (evE (ih hq (pre ++ [(b : Int)]) _ (by simp; omega) h5) (by simp [ints]))
      · exact Ev.bind h5 (evE (ih hq (pre ++ [(b : Int)]) _ (by simp; omega) h5) (by simp [ints]))

end Go.Proofs.Ytegnghbgkiddoaa.Q

/- Plain lemmas on what the printed functions compute (seat Ytegnghbgkiddoaa, module QXu). Conditions: each lemma's own. -/
import Derived.Test.YtegnghbgkiddoaaQXc
import Derived.Test.YtegnghbgkiddoaaPA0
import Derived.Test.YtegnghbgkiddoaaPA16
import Derived.Test.YtegnghbgkiddoaaPA24
import Derived.Test.YtegnghbgkiddoaaPA26
import Derived.Test.YtegnghbgkiddoaaPA4
set_option linter.unusedVariables false
set_option linter.unusedSimpArgs false
namespace Go.Proofs.Ytegnghbgkiddoaa.Q
open Go Go.RowKit Go.Proofs.Ytegnghbgkiddoaa.PA Go.Proofs.YtegnghbgkiddoaaW.PrintWords Go.Proofs.YtegnghbgkiddoaaW.PrintLast

/-! the up cable -/
theorem implUp_l0 {m : Nat} {l : List S44} (hV : Vd m l) {ds : List Int} (hc : Cs m (l.map cbOf) ds) {b : Nat} (hb : b < m) : ∀ (d i : Nat) (s t : Int), i + d = l.length → Best (l.map cbOf) ds b i s t →
    ∃ s' t', Best (l.map cbOf) ds b l.length s' t' ∧ Ev (fun k => impl_upOf.l0 k ds (b : Int) s t l (l.length : Int) (i : Int)) (s', t') := by
  have hlen := hV.len
  have hm8 := hV.m8
  intro d
  induction d with
  | zero =>
    intro i s t hi hB
    obtain rfl : i = l.length := by omega
    refine ⟨s, t, hB, Ev.step (fun k => by rw [impl_upOf.l0]) ?_⟩
    exact evF (by omega) (Ev.now _)
  | succ d ih =>
    intro i s t hi hB
    have e : wrap64 ((i : Int) + 1) = ((i + 1 : Nat) : Int) := by rw [w64 (by omega) (by omega)]; omega
    obtain ⟨p, q, c, hx, hp, hq, hne, hc1, hc2, hat, _⟩ := hV.map i (by omega)
    have hbd : ∀ j, j < m → 0 ≤ ds.getD j 0 ∧ ds.getD j 0 ≤ 792 := fun j hj => by
      have h1 := (hc.2 j hj).nonneg hV.okc
      have h2 := (hc.2 j hj).small hV.okc hj
      omega
    have go : ∀ (o : Nat) (B : Bool), o < m → (∀ q', Ends ⟨p, q, c⟩ q' b → q' = o) → Ends ⟨p, q, c⟩ o b → ∃ s' t', Best (l.map cbOf) ds b l.length s' t' ∧
        Ev (fun k => if (0 : Int) ≤ (o : Int) then (if (o : Int) < (ds.length : Int) then (if 0 ≤ (b : Int) then (if (b : Int) < (ds.length : Int) then (if (wrap64 ((rd ds (o : Int)) + c)) = (rd ds (b : Int)) then (if s < 0 then (impl_upOf.l0 k ds (b : Int) (i : Int) (o : Int) l (l.length : Int) (wrap64 ((i : Int) + 1))) else (if (o : Int) < t then (impl_upOf.l0 k ds (b : Int) (i : Int) (o : Int) l (l.length : Int) (wrap64 ((i : Int) + 1))) else (impl_upOf.l0 k ds (b : Int) s t l (l.length : Int) (wrap64 ((i : Int) + 1))))) else (impl_upOf.l0 k ds (b : Int) s t l (l.length : Int) (wrap64 ((i : Int) + 1)))) else none) else none) else none) else none) (s', t') := by
      intro o B ho huniq hends
      have hlo := hbd o ho
      rw [e, rd_getD, rd_getD, w64 (x := ds.getD o 0 + c) (by omega) (by omega)]
      have huq : ∀ q', Cand (l.map cbOf) ds b i q' → q' = o := fun q' hq' => by
        obtain ⟨y, hy, he, _⟩ := hq'
        rw [hat] at hy
        obtain rfl := Option.some.inj hy
        exact huniq q' he
      by_cases c1 : ds.getD o 0 + c = ds.getD b 0
      · have hcand : Cand (l.map cbOf) ds b i o := ⟨_, hat, hends, c1⟩
        by_cases c2 : s < 0
        · obtain ⟨s', t', h1, h2⟩ := ih (i + 1) i o (by omega) (hB.take hcand huq (.inl c2))
          exact ⟨s', t', h1, evT (by omega) (evT (by rw [hc.1]; omega) (evT (by omega) (evT (by rw [hc.1]; omega) (evT c1 (evT c2 h2)))))⟩
        · by_cases c3 : (o : Int) < t
          · obtain ⟨s', t', h1, h2⟩ := ih (i + 1) i o (by omega) (hB.take hcand huq (.inr c3))
            exact ⟨s', t', h1, evT (by omega) (evT (by rw [hc.1]; omega) (evT (by omega) (evT (by rw [hc.1]; omega) (evT c1 (evF c2 (evT c3 h2))))))⟩
          · obtain ⟨s', t', h1, h2⟩ := ih (i + 1) s t (by omega) (hB.keep huq (fun h => h.elim c2 c3))
            exact ⟨s', t', h1, evT (by omega) (evT (by rw [hc.1]; omega) (evT (by omega) (evT (by rw [hc.1]; omega) (evT c1 (evF c2 (evF c3 h2))))))⟩
      · obtain ⟨s', t', h1, h2⟩ := ih (i + 1) s t (by omega) (hB.skip (fun q' hq' => by
          have := huq q' hq'
          subst this
          obtain ⟨y, hy, he, hz⟩ := hq'
          rw [hat] at hy
          obtain rfl := Option.some.inj hy
          exact c1 hz))
        exact ⟨s', t', h1, evT (by omega) (evT (by rw [hc.1]; omega) (evT (by omega) (evT (by rw [hc.1]; omega) (evF c1 h2))))⟩
    by_cases g1 : b = p
    · obtain ⟨s', t', h1, h2⟩ := go q true hq (fun q' h => by rcases h with ⟨h3, h4⟩ | ⟨h3, h4⟩ <;> simp only at h3 h4 <;> omega) (.inr ⟨g1.symm, rfl⟩)
      refine ⟨s', t', h1, Ev.step (fun k => by rw [impl_upOf.l0]) ?_⟩
      rw [hx]
      dsimp only
      refine evT (by omega) (evT (by omega) (evT (by omega) (evS (show impl_Cable_other.f (p : Int) (q : Int) c (b : Int) = some ((q : Int), true) by unfold impl_Cable_other.f; rw [if_pos (by omega)]) ?_)))
      exact evT rfl h2
    · by_cases g2 : b = q
      · obtain ⟨s', t', h1, h2⟩ := go p true hp (fun q' h => by rcases h with ⟨h3, h4⟩ | ⟨h3, h4⟩ <;> simp only at h3 h4 <;> omega) (.inl ⟨rfl, g2.symm⟩)
        refine ⟨s', t', h1, Ev.step (fun k => by rw [impl_upOf.l0]) ?_⟩
        rw [hx]
        dsimp only
        refine evT (by omega) (evT (by omega) (evT (by omega) (evS (show impl_Cable_other.f (p : Int) (q : Int) c (b : Int) = some ((p : Int), true) by unfold impl_Cable_other.f; rw [if_neg (by omega), if_pos (by omega)]) ?_)))
        exact evT rfl h2
      · obtain ⟨s', t', h1, h2⟩ := ih (i + 1) s t (by omega) (hB.skip (fun q' hq' => by
          obtain ⟨y, hy, he, hz⟩ := hq'
          rw [hat] at hy
          obtain rfl := Option.some.inj hy
          rcases he with ⟨h3, h4⟩ | ⟨h3, h4⟩ <;> simp only at h3 h4 <;> omega))
        refine ⟨s', t', h1, Ev.step (fun k => by rw [impl_upOf.l0]) ?_⟩
        rw [hx]
        dsimp only
        refine evT (by omega) (evT (by omega) (evT (by omega) (evS (show impl_Cable_other.f (p : Int) (q : Int) c (b : Int) = some ((0 : Int), false) by unfold impl_Cable_other.f; rw [if_neg (by omega), if_neg (by omega)]) ?_)))
        rw [e]
        exact evF (by simp) h2
theorem implUp_ev {m : Nat} {l : List S44} (hV : Vd m l) {ds : List Int} (hc : Cs m (l.map cbOf) ds) {b : Nat} (hb : b < m) : ∃ s t, Ev (fun k => impl_upOf.f k l ds (b : Int)) (s, t) ∧
    ((s = -1 ∧ t = -1 ∧ ∀ j q, ¬ Cand (l.map cbOf) ds b j q) ∨ ∃ j q : Nat, s = (j : Int) ∧ t = (q : Int) ∧ Up (l.map cbOf) ds b j q) := by
  obtain ⟨s, t, h1, h2⟩ := implUp_l0 hV hc hb l.length 0 (-1) (-1) (by omega) (Best.start _ _ _)
  refine ⟨s, t, ?_, ?_⟩
  · simp only [impl_upOf.f]
    exact h2
  · have : l.length = (l.map cbOf).length := by simp
    rw [this] at h1
    exact h1.end
/-! the way up -/
def ints (l : List Nat) : List Int := l.map fun (x : Nat) => (x : Int)
theorem iup_ev {m : Nat} {l : List S44} (hV : Vd m l) {ds : List Int} (hc : Cs m (l.map cbOf) ds) {b : Nat} (hb : b < m) :
    ((∀ j q, ¬ Cand (l.map cbOf) ds b j q) ∧ Ev (fun k => impl_upOf.f k l ds (b : Int)) (-1, -1)) ∨ ∃ j q : Nat, Up (l.map cbOf) ds b j q ∧ Ev (fun k => impl_upOf.f k l ds (b : Int)) ((j : Int), (q : Int)) := by
  obtain ⟨s, t, h1, h2⟩ := implUp_ev hV hc hb
  rcases h2 with ⟨rfl, rfl, h5⟩ | ⟨j, q, rfl, rfl, h5⟩
  · exact .inl ⟨h5, h1⟩
  · exact .inr ⟨j, q, h5, h1⟩
/-! ### the tree: what the printed functions compute -/
/-- what has been found of the up cables of the bridges below b -/
def TI (L : List Cb) (ds : List Int) (b : Nat) (acc : List Int) : Prop :=
  acc.Nodup ∧ acc.length + many (fun x => decide (ds.getD x 0 = 0)) b = b ∧ ∀ x, x ∈ acc ↔ ∃ b' i o : Nat, b' < b ∧ Up L ds b' i o ∧ x = (i : Int)
theorem TI.zero (L : List Cb) (ds : List Int) : TI L ds 0 [] := ⟨List.nodup_nil, rfl, fun x => ⟨fun h => by simp at h, fun ⟨_, _, _, h, _⟩ => by omega⟩⟩
theorem many_succ (p : Nat → Bool) (n : Nat) : many p (n + 1) = many p n + if p n = true then 1 else 0 := by
  simp only [many]
  try (split <;> simp_all)
theorem TI.skip {m : Nat} {L : List Cb} (hL : Okc m L) {ds : List Int} (hc : Cs m L ds) {b : Nat} (hb : b < m) {acc : List Int} (h : TI L ds b acc) (hn : ∀ j q, ¬ Cand L ds b j q) : TI L ds (b + 1) acc := by
  obtain ⟨h1, h2, h3⟩ := h
  have hz : ds.getD b 0 = 0 := by
    rcases Decidable.em (ds.getD b 0 = 0) with h | h
    · exact h
    · obtain ⟨i, o, hu⟩ := Cand.ex hL hc hb h
      exact (hn _ _ hu).elim
  refine ⟨h1, ?_, fun x => ?_⟩
  · rw [many_succ, if_pos (by simpa using hz)]
    omega
  · rw [h3]
    constructor
    · rintro ⟨b', i, o, hb', hu, rfl⟩
      exact ⟨b', i, o, by omega, hu, rfl⟩
    · rintro ⟨b', i, o, hb', hu, rfl⟩
      rcases Nat.lt_or_ge b' b with h | h
      · exact ⟨b', i, o, h, hu, rfl⟩
      · obtain rfl : b' = b := by omega
        exact (hn _ _ hu.1).elim
theorem TI.take {m : Nat} {L : List Cb} (hL : Okc m L) {ds : List Int} (hc : Cs m L ds) {b : Nat} (hb : b < m) {acc : List Int} (h : TI L ds b acc) {j q : Nat} (hu : Up L ds b j q) : TI L ds (b + 1) (acc ++ [(j : Int)]) := by
  obtain ⟨h1, h2, h3⟩ := h
  have hz : ¬ ds.getD b 0 = 0 := fun h => Cand.root hL hc h hu.1
  refine ⟨?_, ?_, fun x => ?_⟩
  · rw [List.nodup_append]
    refine ⟨h1, by simp, fun x hx y hy => ?_⟩
    have hy' : y = (j : Int) := by simpa using hy
    subst hy'
    rintro rfl
    obtain ⟨b', i, o, hb', hu', e⟩ := (h3 _).1 hx
    have : j = i := by omega
    subst this
    have := (hu.1.one hL hu'.1).1
    omega
  · rw [many_succ, if_neg (by simpa using hz), List.length_append, List.length_singleton]
    omega
  · rw [List.mem_append, h3]
    constructor
    · rintro (⟨b', i, o, hb', hu', rfl⟩ | hx)
      · exact ⟨b', i, o, by omega, hu', rfl⟩
      · exact ⟨b, j, q, by omega, hu, by simpa using hx⟩
    · rintro ⟨b', i, o, hb', hu', rfl⟩
      rcases Nat.lt_or_ge b' b with h | h
      · exact .inl ⟨b', i, o, h, hu', rfl⟩
      · obtain rfl : b' = b := by omega
        obtain ⟨rfl, _⟩ := hu'.uniq hu
        exact .inr (by simp)
theorem implTree_l0 {m : Nat} {l : List S44} (hV : Vd m l) {ds : List Int} (hc : Cs m (l.map cbOf) ds) : ∀ (d b : Nat) (acc : List Int), b + d = m → TI (l.map cbOf) ds b acc →
    ∃ xs, TI (l.map cbOf) ds m xs ∧ Ev (fun k => impl_TreeOf.l0 k l acc ds (m : Int) (b : Int)) (xs.mergeSort fun x y => decide (x ≤ y)) := by
  have hm8 := hV.m8
  intro d
  induction d with
  | zero =>
    intro b acc hb hT
    obtain rfl : b = m := by omega
    refine ⟨acc, hT, Ev.step (fun k => by rw [impl_TreeOf.l0]) ?_⟩
    refine evF (by omega) (evS (show slices_Sort_int_int.f acc = some (acc.mergeSort fun x y => decide (x ≤ y)) by unfold slices_Sort_int_int.f; rw [if_pos (by have := hT.2.1; omega)]) (Ev.now _))
  | succ d ih =>
    intro b acc hb hT
    have e : wrap64 ((b : Int) + 1) = ((b + 1 : Nat) : Int) := by rw [w64 (by omega) (by omega)]; omega
    have hal := hT.2.1
    rcases iup_ev hV hc (show b < m by omega) with ⟨hn, h1⟩ | ⟨j, q, hu, h1⟩
    · obtain ⟨xs, h2, h3⟩ := ih (b + 1) acc (by omega) (hT.skip hV.okc hc (by omega) hn)
      refine ⟨xs, h2, Ev.step (fun k => by rw [impl_TreeOf.l0]) ?_⟩
      refine evT (by omega) (Ev.bind h1 (evF (by simp) ?_))
      rw [e]; exact h3
    · obtain ⟨xs, h2, h3⟩ := ih (b + 1) (acc ++ [(j : Int)]) (by omega) (hT.take hV.okc hc (by omega) hu)
      refine ⟨xs, h2, Ev.step (fun k => by rw [impl_TreeOf.l0]) ?_⟩
      refine evT (by omega) (Ev.bind h1 (evT (by simp) (evT (by omega) ?_)))
      rw [e]; exact h3
theorem ints_mem {T : List Nat} {x : Int} : x ∈ ints T ↔ ∃ i, i ∈ T ∧ x = (i : Int) := by
  unfold ints
  rw [List.mem_map]
  constructor
  · rintro ⟨i, h, rfl⟩; exact ⟨i, h, rfl⟩
  · rintro ⟨i, h, rfl⟩; exact ⟨i, h, rfl⟩
theorem ints_sorted {T : List Nat} (h : T.Pairwise (· < ·)) : (ints T).Pairwise (· < ·) := by
  unfold ints
  rw [List.pairwise_map]
  exact h.imp (fun h => by omega)
theorem sorted_eq : ∀ {xs ys : List Int}, xs.Perm ys → xs.Pairwise (· ≤ ·) → ys.Pairwise (· ≤ ·) → xs = ys := by
  intro xs
  induction xs with
  | nil => intro ys hp _ _; exact (List.nil_perm.1 hp).symm
  | cons x xs ih =>
    intro ys hp hx hy
    cases ys with
    | nil => exact absurd hp.symm (by simp)
    | cons y ys =>
      have h1 : x ∈ y :: ys := hp.mem_iff.1 (by simp)
      have h2 : y ∈ x :: xs := hp.mem_iff.2 (by simp)
      rw [List.pairwise_cons] at hx hy
      have h3 : x = y := by
        rcases List.mem_cons.1 h1 with h | h
        · exact h
        · rcases List.mem_cons.1 h2 with h' | h'
          · exact h'.symm
          · have := hx.1 _ h'
            have := hy.1 _ h
            omega
      subst h3
      rw [ih (List.perm_cons x |>.1 hp) hx.2 hy.2]
theorem TI.sorted {m : Nat} {L : List Cb} {ds xs : List Int} (h : TI L ds m xs) : (xs.mergeSort fun x y => decide (x ≤ y)) = ints (treeL m L ds) := by
  refine sorted_eq ?_ ?_ ?_
  · refine (List.mergeSort_perm xs _).trans ?_
    rw [List.perm_ext_iff_of_nodup h.1 ((ints_sorted (tree_sorted m L ds)).imp (fun h => by omega))]
    intro x
    rw [h.2.2, ints_mem]
    constructor
    · rintro ⟨b, i, o, hb, hu, rfl⟩
      exact ⟨i, tree_mem.2 ⟨b, o, hb, hu⟩, rfl⟩
    · rintro ⟨i, hi, rfl⟩
      obtain ⟨b, o, hb, hu⟩ := tree_mem.1 hi
      exact ⟨b, i, o, hb, hu, rfl⟩
  · have := List.pairwise_mergeSort (le := fun x y : Int => decide (x ≤ y)) (fun a b c h1 h2 => by simp at *; omega) (fun a b => by simp; omega) xs
    exact this.imp (fun h => by simpa using h)
  · exact (ints_sorted (tree_sorted m L ds)).imp (fun h => by omega)
theorem TI.len {m : Nat} {L : List Cb} {ds xs : List Int} (h : TI L ds m xs) : (treeL m L ds).length + many (fun x => decide (ds.getD x 0 = 0)) m = m := by
  have h1 := h.2.1
  have h2 := congrArg List.length h.sorted
  rw [List.length_mergeSort] at h2
  unfold ints at h2
  rw [List.length_map] at h2
  omega
theorem icostsOf_ev {m : Nat} {l : List S44} (hV : Vd m l) : ∃ ds, Ev (fun k => impl_CostsOf.f k (m : Int) l) ds ∧ Cs m (l.map cbOf) ds := by
  obtain ⟨ds, h1, h2⟩ := icosts_ev hV
  refine ⟨ds, ?_, h1⟩
  simp only [impl_CostsOf.f]
  exact evS (implCables_eq _ _) (evT (cv_intro hV) (Ev.bind h2 (Ev.now _)))
theorem itreeOf_ev {m : Nat} {l : List S44} (hV : Vd m l) : ∃ ds, Cs m (l.map cbOf) ds ∧ Ev (fun k => impl_TreeOf.f k (m : Int) l) (ints (treeL m (l.map cbOf) ds)) := by
  obtain ⟨ds, h1, h2⟩ := icosts_ev hV
  obtain ⟨xs, h4, h5⟩ := implTree_l0 hV h1 m 0 [] (by omega) (TI.zero _ _)
  rw [h4.sorted] at h5
  refine ⟨ds, h1, ?_⟩
  simp only [impl_TreeOf.f]
  exact evS (implCables_eq _ _) (evT (cv_intro hV) (Ev.bind h2 h5))

end Go.Proofs.Ytegnghbgkiddoaa.Q

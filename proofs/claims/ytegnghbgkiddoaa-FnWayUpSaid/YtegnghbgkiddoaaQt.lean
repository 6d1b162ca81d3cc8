/- Plain lemmas on what the printed functions compute (seat Ytegnghbgkiddoaa, module Qt). Conditions: each lemma's own. -/
import Derived.Test.YtegnghbgkiddoaaQu
import Derived.Test.YtegnghbgkiddoaaQMc
import Derived.Test.YtegnghbgkiddoaaPA0
import Derived.Test.YtegnghbgkiddoaaPA24
import Derived.Test.YtegnghbgkiddoaaPA31
set_option linter.unusedVariables false
set_option linter.unusedSimpArgs false
namespace Go.Proofs.Ytegnghbgkiddoaa.Q
open Go Go.RowKit Go.Proofs.Ytegnghbgkiddoaa.PA Go.Proofs.YtegnghbgkiddoaaW.PrintWords Go.Proofs.YtegnghbgkiddoaaW.PrintLast

/-! ### the tree: what the printed functions compute -/
/-- what has been found of the up cables of the bridges below b -/
def TI (L : List Cb) (ds : List Int) (b : Nat) (acc : List Int) : Prop :=
  acc.Nodup ∧ acc.length + many (fun x => decide (ds.getD x 0 = 0)) b = b ∧ ∀ x, x ∈ acc ↔ ∃ b' i o : Nat, b' < b ∧ Up L ds b' i o ∧ x = (i : Int)
theorem TI.zero (L : List Cb) (ds : List Int) : TI L ds 0 [] := ⟨List.nodup_nil, rfl, fun x => ⟨fun h => by simp at h, fun ⟨_, _, _, h, _⟩ => by omega⟩⟩
theorem many_succ (p : Nat → Bool) (n : Nat) : many p (n + 1) = many p n + if p n = true then 1 else 0 := by
  simp only [many]
  try (split <;> simp_all)
theorem TI.skip {m : Nat} {L : List Cb} (hL : Okc m L) {ds : List Int} (hc : Cs m L ds) {b : Nat} (hb : b < m) {acc : List Int} (h : TI L ds b acc) (hn : ∀ j q, ¬ Cand L ds b j q) : TI L ds (b + 1) acc := by
  obtain ⟨h1, h2, h3⟩ := h
  have hz : ds.getD b 0 = 0 := by
    rcases Decidable.em (ds.getD b 0 = 0) with h | h
    · exact h
    · obtain ⟨i, o, hu⟩ := Cand.ex hL hc hb h
      exact (hn _ _ hu).elim
  refine ⟨h1, ?_, fun x => ?_⟩
  · rw [many_succ, if_pos (by simpa using hz)]
    omega
  · rw [h3]
    constructor
    · rintro ⟨b', i, o, hb', hu, rfl⟩
      exact ⟨b', i, o, by omega, hu, rfl⟩
    · rintro ⟨b', i, o, hb', hu, rfl⟩
      rcases Nat.lt_or_ge b' b with h | h
      · exact ⟨b', i, o, h, hu, rfl⟩
      · obtain rfl : b' = b := by omega
        exact (hn _ _ hu.1).elim
theorem TI.take {m : Nat} {L : List Cb} (hL : Okc m L) {ds : List Int} (hc : Cs m L ds) {b : Nat} (hb : b < m) {acc : List Int} (h : TI L ds b acc) {j q : Nat} (hu : Up L ds b j q) : TI L ds (b + 1) (acc ++ [(j : Int)]) := by
  obtain ⟨h1, h2, h3⟩ := h
  have hz : ¬ ds.getD b 0 = 0 := fun h => Cand.root hL hc h hu.1
  refine ⟨?_, ?_, fun x => ?_⟩
  · rw [List.nodup_append]
    refine ⟨h1, by simp, fun x hx y hy => ?_⟩
    have hy' : y = (j : Int) := by simpa using hy
    subst hy'
    rintro rfl
    obtain ⟨b', i, o, hb', hu', e⟩ := (h3 _).1 hx
    have : j = i := by omega
    subst this
    have := (hu.1.one hL hu'.1).1
    omega
  · rw [many_succ, if_neg (by simpa using hz), List.length_append, List.length_singleton]
    omega
  · rw [List.mem_append, h3]
    constructor
    · rintro (⟨b', i, o, hb', hu', rfl⟩ | hx)
      · exact ⟨b', i, o, by omega, hu', rfl⟩
      · exact ⟨b, j, q, by omega, hu, by simpa using hx⟩
    · rintro ⟨b', i, o, hb', hu', rfl⟩
      rcases Nat.lt_or_ge b' b with h | h
      · exact .inl ⟨b', i, o, h, hu', rfl⟩
      · obtain rfl : b' = b := by omega
        obtain ⟨rfl, _⟩ := hu'.uniq hu
        exact .inr (by simp)
theorem implTree_l0 {m : Nat} {l : List S44} (hV : Vd m l) {ds : List Int} (hc : Cs m (l.map cbOf) ds) : ∀ (d b : Nat) (acc : List Int), b + d = m → TI (l.map cbOf) ds b acc →
    ∃ xs, TI (l.map cbOf) ds m xs ∧ Ev (fun k => impl_TreeOf.l0 k l acc ds (m : Int) (b : Int)) (xs.mergeSort fun x y => decide (x ≤ y)) := by
  have hm8 := hV.m8
  intro d
  induction d with
  | zero =>
    intro b acc hb hT
    obtain rfl : b = m := by omega
    refine ⟨acc, hT, Ev.step (fun k => by rw [impl_TreeOf.l0]) ?_⟩
    refine evF (by omega) (evS (show slices_Sort_int_int.f acc = some (acc.mergeSort fun x y => decide (x ≤ y)) by unfold slices_Sort_int_int.f; rw [if_pos (by have := hT.2.1; omega)]) (Ev.now _))
  | succ d ih =>
    intro b acc hb hT
    have e : wrap64 ((b : Int) + 1) = ((b + 1 : Nat) : Int) := by rw [w64 (by omega) (by omega)]; omega
    have hal := hT.2.1
    rcases up_ev hV hc (show b < m by omega) with ⟨hn, h1, _⟩ | ⟨j, q, hu, h1, _⟩
    · obtain ⟨xs, h2, h3⟩ := ih (b + 1) acc (by omega) (hT.skip hV.okc hc (by omega) hn)
      refine ⟨xs, h2, Ev.step (fun k => by rw [impl_TreeOf.l0]) ?_⟩
      refine evT (by omega) (Ev.bind h1 (evF (by simp) ?_))
      rw [e]; exact h3
    · obtain ⟨xs, h2, h3⟩ := ih (b + 1) (acc ++ [(j : Int)]) (by omega) (hT.take hV.okc hc (by omega) hu)
      refine ⟨xs, h2, Ev.step (fun k => by rw [impl_TreeOf.l0]) ?_⟩
      refine evT (by omega) (Ev.bind h1 (evT (by simp) (evT (by omega) ?_)))
      rw [e]; exact h3
theorem ints_mem {T : List Nat} {x : Int} : x ∈ ints T ↔ ∃ i, i ∈ T ∧ x = (i : Int) := by
  unfold ints
  rw [List.mem_map]
  constructor
  · rintro ⟨i, h, rfl⟩; exact ⟨i, h, rfl⟩
  · rintro ⟨i, h, rfl⟩; exact ⟨i, h, rfl⟩
theorem ints_sorted {T : List Nat} (h : T.Pairwise (· < ·)) : (ints T).Pairwise (· < ·) := by
  unfold ints
  rw [List.pairwise_map]
  exact h.imp (fun h => by omega)
theorem sorted_eq : ∀ {xs ys : List Int}, xs.Perm ys → xs.Pairwise (· ≤ ·) → ys.Pairwise (· ≤ ·) → xs = ys := by
  intro xs
  induction xs with
  | nil => intro ys hp _ _; exact (List.nil_perm.1 hp).symm
  | cons x xs ih =>
    intro ys hp hx hy
    cases ys with
    | nil => exact absurd hp.symm (by simp)
    | cons y ys =>
      have h1 : x ∈ y :: ys := hp.mem_iff.1 (by simp)
      have h2 : y ∈ x :: xs := hp.mem_iff.2 (by simp)
      rw [List.pairwise_cons] at hx hy
      have h3 : x = y := by
        rcases List.mem_cons.1 h1 with h | h
        · exact h
        · rcases List.mem_cons.1 h2 with h' | h'
          · exact h'.symm
          · have := hx.1 _ h'
            have := hy.1 _ h
            omega
      subst h3
      rw [ih (List.perm_cons x |>.1 hp) hx.2 hy.2]
theorem TI.sorted {m : Nat} {L : List Cb} {ds xs : List Int} (h : TI L ds m xs) : (xs.mergeSort fun x y => decide (x ≤ y)) = ints (treeL m L ds) := by
  refine sorted_eq ?_ ?_ ?_
  · refine (List.mergeSort_perm xs _).trans ?_
    rw [List.perm_ext_iff_of_nodup h.1 ((ints_sorted (tree_sorted m L ds)).imp (fun h => by omega))]
    intro x
    rw [h.2.2, ints_mem]
    constructor
    · rintro ⟨b, i, o, hb, hu, rfl⟩
      exact ⟨i, tree_mem.2 ⟨b, o, hb, hu⟩, rfl⟩
    · rintro ⟨i, hi, rfl⟩
      obtain ⟨b, o, hb, hu⟩ := tree_mem.1 hi
      exact ⟨b, i, o, hb, hu, rfl⟩
  · have := List.pairwise_mergeSort (le := fun x y : Int => decide (x ≤ y)) (fun a b c h1 h2 => by simp at *; omega) (fun a b => by simp; omega) xs
    exact this.imp (fun h => by simpa using h)
  · exact (ints_sorted (tree_sorted m L ds)).imp (fun h => by omega)
theorem TI.len {m : Nat} {L : List Cb} {ds xs : List Int} (h : TI L ds m xs) : (treeL m L ds).length + many (fun x => decide (ds.getD x 0 = 0)) m = m := by
  have h1 := h.2.1
  have h2 := congrArg List.length h.sorted
  rw [List.length_mergeSort] at h2
  unfold ints at h2
  rw [List.length_map] at h2
  omega
open Classical in
theorem specTree_l1 {m : Nat} {l : List S44} (hV : Vd m l) {ds : List Int} (hc : Cs m (l.map cbOf) ds) (i : Nat) (hi : i < l.length) {R : List Int} : ∀ (d b : Nat) (acc : List Int), b + d = m → acc.length + d ≤ 1000 →
    Ev (fun k => spec_TreeOf.l0 k (m : Int) l (acc ++ if ∃ b' o, b ≤ b' ∧ b' < m ∧ Up (l.map cbOf) ds b' i o then [(i : Int)] else []) ds (wrap64 ((i : Int) + 1))) R →
    Ev (fun k => spec_TreeOf.l1 k (m : Int) l acc ds (i : Int) (b : Int)) R := by
  have hm8 := hV.m8
  intro d
  induction d with
  | zero =>
    intro b acc hb hal hR
    rw [if_neg (by rintro ⟨b', o, h1, h2, _⟩; omega), List.append_nil] at hR
    refine Ev.step (fun k => by rw [spec_TreeOf.l1]) ?_
    exact evF (by omega) hR
  | succ d ih =>
    intro b acc hb hal hR
    have e : wrap64 ((b : Int) + 1) = ((b + 1 : Nat) : Int) := by rw [w64 (by omega) (by omega)]; omega
    have rest : (∀ o, ¬ Up (l.map cbOf) ds b i o) → Ev (fun k => spec_TreeOf.l1 k (m : Int) l acc ds (i : Int) ((b + 1 : Nat) : Int)) R := fun hno => by
      refine ih (b + 1) acc (by omega) (by omega) ?_
      have : (∃ b' o, b + 1 ≤ b' ∧ b' < m ∧ Up (l.map cbOf) ds b' i o) ↔ (∃ b' o, b ≤ b' ∧ b' < m ∧ Up (l.map cbOf) ds b' i o) := by
        constructor
        · rintro ⟨b', o, h1, h2, h3⟩; exact ⟨b', o, by omega, h2, h3⟩
        · rintro ⟨b', o, h1, h2, h3⟩
          refine ⟨b', o, ?_, h2, h3⟩
          rcases Nat.lt_or_ge b b' with h | h
          · omega
          · obtain rfl : b' = b := by omega
            exact (hno _ h3).elim
      by_cases g : ∃ b' o, b ≤ b' ∧ b' < m ∧ Up (l.map cbOf) ds b' i o
      · rw [if_pos (this.2 g)]; rw [if_pos g] at hR; exact hR
      · rw [if_neg (fun h => g (this.1 h))]; rw [if_neg g] at hR; exact hR
    refine Ev.step (fun k => by rw [spec_TreeOf.l1]) ?_
    rcases up_ev hV hc (show b < m by omega) with ⟨hn, _, h1⟩ | ⟨j, q, hu, _, h1⟩
    · refine evT (by omega) (Ev.bind h1 (evF (by omega) ?_))
      rw [e]
      exact rest (fun o h => hn _ _ h.1)
    · by_cases g : j = i
      · subst g
        refine evT (by omega) (Ev.bind h1 (evT rfl (evT (by omega) ?_)))
        rw [e]
        refine ih (b + 1) (acc ++ [(j : Int)]) (by omega) (by simp; omega) ?_
        · rw [if_neg (by
            rintro ⟨b', o, h2, h3, h4⟩
            have := (hu.1.one hV.okc h4.1).1
            omega), List.append_nil]
          rw [if_pos ⟨b, q, by omega, by omega, hu⟩] at hR
          exact hR
      · refine evT (by omega) (Ev.bind h1 (evF (by omega) ?_))
        rw [e]
        exact rest (fun o h => g (hu.uniq h).1)
open Classical in
theorem specTree_l0 {m : Nat} {l : List S44} (hV : Vd m l) {ds : List Int} (hc : Cs m (l.map cbOf) ds) : ∀ (d i : Nat) (acc : List Int), i + d = l.length →
    acc = ints ((List.range i).filter fun i => decide (∃ b o, b < m ∧ Up (l.map cbOf) ds b i o)) → Ev (fun k => spec_TreeOf.l0 k (m : Int) l acc ds (i : Int)) (ints (treeL m (l.map cbOf) ds)) := by
  have hlen := hV.len
  have hm8 := hV.m8
  intro d
  induction d with
  | zero =>
    intro i acc hi ha
    refine Ev.step (fun k => by rw [spec_TreeOf.l0]) ?_
    refine evF (by omega) (evE (Ev.now _) ?_)
    rw [ha]
    unfold treeL
    rw [List.length_map, show i = l.length by omega]
  | succ d ih =>
    intro i acc hi ha
    have e : wrap64 ((i : Int) + 1) = ((i + 1 : Nat) : Int) := by rw [w64 (by omega) (by omega)]; omega
    have hal : acc.length ≤ 20 := by
      rw [ha]
      unfold ints
      rw [List.length_map]
      have := List.length_filter_le (fun i => decide (∃ b o, b < m ∧ Up (l.map cbOf) ds b i o)) (List.range i)
      rw [List.length_range] at this
      omega
    refine Ev.step (fun k => by rw [spec_TreeOf.l0]) ?_
    refine evT (by omega) ?_
    refine specTree_l1 hV hc i (by omega) m 0 acc (by omega) (by omega) ?_
    rw [e]
    refine ih (i + 1) _ (by omega) ?_
    rw [List.range_succ, List.filter_append, ha]
    unfold ints
    rw [List.map_append]
    congr 1
    by_cases g : ∃ b o, b < m ∧ Up (l.map cbOf) ds b i o
    · rw [if_pos (by obtain ⟨b, o, h1, h2⟩ := g; exact ⟨b, o, by omega, h1, h2⟩), List.filter_cons_of_pos (by simpa using g)]
      simp
    · rw [if_neg (by rintro ⟨b, o, _, h1, h2⟩; exact g ⟨b, o, h1, h2⟩), List.filter_cons_of_neg (by simpa using g)]
      simp
theorem treeOf_ev (n : Int) (l : List S44) : ∃ ts, Ev (fun k => impl_TreeOf.f k n l) ts ∧ Ev (fun k => spec_TreeOf.f k n l) ts ∧
    ((cv n l = false ∧ ts = []) ∨ ∃ m : Nat, ∃ ds, n = (m : Int) ∧ Vd m l ∧ Cs m (l.map cbOf) ds ∧ ts = ints (treeL m (l.map cbOf) ds) ∧ (treeL m (l.map cbOf) ds).length + many (fun x => decide (ds.getD x 0 = 0)) m = m) := by
  by_cases hc : cv n l = true
  · obtain ⟨m, rfl, hV⟩ := cv_elim hc
    obtain ⟨ds, h1, h2, h3⟩ := costs_ev hV
    obtain ⟨xs, h4, h5⟩ := implTree_l0 hV h1 m 0 [] (by omega) (TI.zero _ _)
    rw [h4.sorted] at h5
    refine ⟨_, ?_, ?_, .inr ⟨m, ds, rfl, hV, h1, rfl, h4.len⟩⟩
    · simp only [impl_TreeOf.f]
      exact evS (implCables_eq _ _) (evT hc (Ev.bind h2 h5))
    · simp only [spec_TreeOf.f]
      exact evS rfl (Ev.bind (specCables_ev _ _) (evT hc (Ev.bind h3 (specTree_l0 hV h1 l.length 0 [] (by omega) rfl))))
  · refine ⟨[], ?_, ?_, .inl ⟨by simpa using hc, rfl⟩⟩
    · simp only [impl_TreeOf.f]
      exact evS (implCables_eq _ _) (evF hc (Ev.now _))
    · simp only [spec_TreeOf.f]
      exact evS rfl (Ev.bind (specCables_ev _ _) (evF hc (Ev.now _)))

end Go.Proofs.Ytegnghbgkiddoaa.Q

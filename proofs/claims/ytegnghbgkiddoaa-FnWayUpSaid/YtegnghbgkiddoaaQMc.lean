/- Plain lemmas on what the printed functions compute (seat Ytegnghbgkiddoaa, module QMc). Conditions: each lemma's own. -/
import Derived.Test.YtegnghbgkiddoaaQMa
import Derived.Test.YtegnghbgkiddoaaPA0
set_option linter.unusedVariables false
set_option linter.unusedSimpArgs false
namespace Go.Proofs.Ytegnghbgkiddoaa.Q
open Go Go.RowKit Go.Proofs.Ytegnghbgkiddoaa.PA Go.Proofs.YtegnghbgkiddoaaW.PrintWords Go.Proofs.YtegnghbgkiddoaaW.PrintLast

/-! ### the tree (plain) -/
open Classical in
noncomputable def treeL (n : Nat) (L : List Cb) (ds : List Int) : List Nat := (List.range L.length).filter fun i => decide (∃ b o, b < n ∧ Up L ds b i o)
open Classical in
theorem tree_mem {n : Nat} {L : List Cb} {ds : List Int} {i : Nat} : i ∈ treeL n L ds ↔ ∃ b o, b < n ∧ Up L ds b i o := by
  unfold treeL
  rw [List.mem_filter, List.mem_range, decide_eq_true_eq]
  exact ⟨fun h => h.2, fun h => ⟨by obtain ⟨b, o, _, hu⟩ := h; exact hu.1.lt, h⟩⟩
theorem tree_lt {n : Nat} {L : List Cb} {ds : List Int} {i : Nat} (h : i ∈ treeL n L ds) : i < L.length := by
  unfold treeL at h
  exact List.mem_range.1 (List.mem_filter.1 h).1
theorem tree_sorted (n : Nat) (L : List Cb) (ds : List Int) : (treeL n L ds).Pairwise (· < ·) := by
  unfold treeL
  exact List.Pairwise.filter _ List.pairwise_lt_range
def noCb : Cb := ⟨0, 0, 0⟩
/-- the cables of a list of indices -/
def pickL (L : List Cb) (T : List Nat) : List Cb := T.map fun i => L.getD i noCb
theorem pick_mem {L : List Cb} {T : List Nat} (hT : ∀ i ∈ T, i < L.length) {x : Cb} : x ∈ pickL L T ↔ ∃ i ∈ T, L[i]? = some x := by
  unfold pickL
  rw [List.mem_map]
  constructor
  · rintro ⟨i, hi, rfl⟩
    exact ⟨i, hi, by simp [List.getD_eq_getElem?_getD, hT i hi]⟩
  · rintro ⟨i, hi, hx⟩
    exact ⟨i, hi, by rw [List.getD_eq_getElem?_getD, hx]; rfl⟩
theorem pick_ok {n : Nat} {L : List Cb} (hL : Okc n L) {T : List Nat} (hT : ∀ i ∈ T, i < L.length) : Okc n (pickL L T) ∧ ∀ x ∈ pickL L T, x ∈ L := by
  have h : ∀ x ∈ pickL L T, x ∈ L := fun x hx => by
    obtain ⟨i, _, hi⟩ := (pick_mem hT).1 hx
    exact List.mem_of_getElem? hi
  exact ⟨fun x hx => hL x (h x hx), h⟩
theorem tree_wk {n : Nat} {L : List Cb} (hL : Okc n L) {ds : List Int} (hds : Cs n L ds) : ∀ (m : Nat) (b r : Nat), b < n → Rt L b r → (ds.getD b 0).toNat ≤ m → Wk (pickL L (treeL n L ds)) r b (ds.getD b 0) := by
  intro m
  induction m with
  | zero =>
    intro b r hb hr hm
    have h0 := (hds.2 b hb).nonneg hL
    have hz : ds.getD b 0 = 0 := by omega
    have := ((hds.2 b hb).zero_iff hL hr).1 hz
    rw [hz, this]; exact .nil
  | succ m ih =>
    intro b r hb hr hm
    by_cases hz : ds.getD b 0 = 0
    · have := ((hds.2 b hb).zero_iff hL hr).1 hz
      rw [hz, this]; exact .nil
    · obtain ⟨i, o, hu⟩ := Up.ex hL hds hb hz
      have he := hu.1.ends hL
      have hd := hu.1.down hL
      have ho := (hds.2 o he.2.1).nonneg hL
      obtain ⟨x, hx, hxe, hxd⟩ := id hu.1
      have hm' := List.mem_of_getElem? hx
      have hro : Rt L o r := hr.to (.step (.refl _) hm' hxe.symm)
      have := ih o r he.2.1 hro (by omega)
      rw [← hxd]
      exact .step this ((pick_mem (fun i hi => tree_lt hi)).2 ⟨i, tree_mem.2 ⟨b, o, hb, hu⟩, hx⟩) hxe
theorem tree_keeps {n : Nat} {L : List Cb} (hL : Okc n L) {ds : List Int} (hds : Cs n L ds) {b r : Nat} (hb : b < n) (hr : Rt L b r) : Rt (pickL L (treeL n L ds)) b r ∧ Co (pickL L (treeL n L ds)) b (ds.getD b 0) := by
  have hw := tree_wk hL hds (ds.getD b 0).toNat b r hb hr (Nat.le_refl _)
  have hs := (pick_ok hL (T := treeL n L ds) (fun i hi => tree_lt hi)).2
  have h1 : Rt (pickL L (treeL n L ds)) b r := ⟨hw.jn.symm, fun x hx => hr.2 x (hx.sub hs)⟩
  refine ⟨h1, r, h1, hw, fun e he => ?_⟩
  obtain ⟨r', hr', hd'⟩ := hds.2 b hb
  obtain rfl := hr'.uniq hr
  exact hd'.2 e (he.sub hs)
theorem tree_cs {n : Nat} {L : List Cb} (hL : Okc n L) {ds : List Int} (hds : Cs n L ds) : Cs n (pickL L (treeL n L ds)) ds := ⟨hds.1, fun b hb => by
  obtain ⟨r, hr⟩ := Rt.ex L b
  exact (tree_keeps hL hds hb hr).2⟩
/-- x lies at b or above which b lies -/
inductive Des (L : List Cb) (ds : List Int) (b : Nat) : Nat → Prop
  | here : Des L ds b b
  | up {x i o : Nat} : Up L ds x i o → Des L ds b o → Des L ds b x
theorem Des.ge {n : Nat} {L : List Cb} (hL : Okc n L) {ds : List Int} {b x : Nat} (h : Des L ds b x) : ds.getD b 0 ≤ ds.getD x 0 := by
  induction h with
  | here => exact Int.le_refl _
  | up hu _ ih =>
    have := hu.1.down hL
    omega
/-- without a cable of the tree its ends are no longer joined -/
theorem tree_less {n : Nat} {L : List Cb} (hL : Okc n L) {ds : List Int} {T : List Nat} (hT : ∀ i ∈ T, i < L.length ∧ ∃ b o, b < n ∧ Up L ds b i o) {k b o : Nat} (hk : Up L ds b k o) (hkT : k ∉ T) : ¬ Jn (pickL L T) b o := by
  intro hj
  have key : ∀ u v, Jn (pickL L T) u v → (Des L ds b u ↔ Des L ds b v) := by
    intro u v h
    induction h with
    | refl => exact Iff.rfl
    | step _ hx he ih =>
      rename_i v w x
      refine ih.trans ?_
      obtain ⟨j, hjT, hxj⟩ := (pick_mem (fun i hi => (hT i hi).1)).1 hx
      obtain ⟨_, b', o', _, hu⟩ := hT j hjT
      have hjk : j ≠ k := fun e => hkT (e ▸ hjT)
      have base : Des L ds b b' ↔ Des L ds b o' := by
        constructor
        · intro hd
          cases hd with
          | here => exact (hjk (hu.uniq hk).1).elim
          | up hu' hd' =>
            obtain ⟨_, rfl⟩ := hu.uniq hu'
            exact hd'
        · intro hd; exact .up hu hd
      obtain ⟨y, hy, hye, _⟩ := hu.1
      rw [hxj] at hy
      obtain rfl := Option.some.inj hy
      rcases he with ⟨h1, h2⟩ | ⟨h1, h2⟩ <;> rcases hye with ⟨h3, h4⟩ | ⟨h3, h4⟩
      · rw [← h1, ← h2, h3, h4]; exact base.symm
      · rw [← h1, ← h2, h3, h4]; exact base
      · rw [← h1, ← h2, h3, h4]; exact base
      · rw [← h1, ← h2, h3, h4]; exact base.symm
  have h1 := ((key b o hj).1 .here).ge hL
  have := hk.1.down hL
  omega

end Go.Proofs.Ytegnghbgkiddoaa.Q

/- Plain lemmas on what the printed functions compute (seat Ytegnghbgkiddoaa, module QXm). Conditions: each lemma's own. -/
import Derived.Test.YtegnghbgkiddoaaPA0
set_option linter.unusedVariables false
set_option linter.unusedSimpArgs false
namespace Go.Proofs.Ytegnghbgkiddoaa.Q
open Go Go.RowKit Go.Proofs.Ytegnghbgkiddoaa.PA Go.Proofs.YtegnghbgkiddoaaW.PrintWords Go.Proofs.YtegnghbgkiddoaaW.PrintLast

/-! ### cables: what is joined, roots, costs (plain) -/
structure Cb where
  a : Nat
  b : Nat
  c : Int
def Okc (n : Nat) (L : List Cb) : Prop := ∀ x ∈ L, x.a < n ∧ x.b < n ∧ x.a ≠ x.b ∧ 1 ≤ x.c ∧ x.c ≤ 99
/-- x ends at v and at w -/
def Ends (x : Cb) (v w : Nat) : Prop := (x.a = v ∧ x.b = w) ∨ (x.a = w ∧ x.b = v)
theorem Ends.symm {x : Cb} {v w : Nat} (h : Ends x v w) : Ends x w v := h.elim .inr .inl
inductive Jn (L : List Cb) : Nat → Nat → Prop
  | refl (v : Nat) : Jn L v v
  | step {u v w : Nat} {x : Cb} : Jn L u v → x ∈ L → Ends x v w → Jn L u w
theorem Jn.trans {L : List Cb} {u v w : Nat} (h : Jn L u v) (k : Jn L v w) : Jn L u w := by
  induction k with
  | refl => exact h
  | step _ hx he ih => exact .step ih hx he
theorem Jn.symm {L : List Cb} {u v : Nat} (h : Jn L u v) : Jn L v u := by
  induction h with
  | refl => exact .refl _
  | step _ hx he ih => exact (Jn.step (.refl _) hx he.symm).trans ih
theorem Jn.lt {n : Nat} {L : List Cb} (hL : Okc n L) {u v : Nat} (h : Jn L u v) : u < n → v < n := by
  induction h with
  | refl => exact fun h => h
  | step _ hx he _ =>
    intro _
    have := hL _ hx
    rcases he with ⟨h1, h2⟩ | ⟨h1, h2⟩ <;> omega
theorem Jn.sub {L L' : List Cb} (hs : ∀ x ∈ L, x ∈ L') {u v : Nat} (h : Jn L u v) : Jn L' u v := by
  induction h with
  | refl => exact .refl _
  | step _ hx he ih => exact .step ih (hs _ hx) he
/-- r is the root of b -/
def Rt (L : List Cb) (b r : Nat) : Prop := Jn L b r ∧ ∀ x, Jn L b x → r ≤ x
theorem Rt.uniq {L : List Cb} {b r r' : Nat} (h : Rt L b r) (h' : Rt L b r') : r = r' := Nat.le_antisymm (h.2 _ h'.1) (h'.2 _ h.1)
theorem Rt.le {L : List Cb} {b r : Nat} (h : Rt L b r) : r ≤ b := h.2 _ (.refl _)
theorem Rt.to {L : List Cb} {b r v : Nat} (h : Rt L b r) (j : Jn L b v) : Rt L v r := ⟨j.symm.trans h.1, fun x hx => h.2 x (j.trans hx)⟩
theorem Rt.self {L : List Cb} {b r : Nat} (h : Rt L b r) : Rt L r r := h.to h.1
theorem least {P : Nat → Prop} : ∀ n : Nat, P n → ∃ m, P m ∧ ∀ k, P k → m ≤ k := by
  intro n
  induction n using Nat.strongRecOn with
  | _ n ih =>
    intro hn
    by_cases h : ∃ k, k < n ∧ P k
    · obtain ⟨k, hk, hp⟩ := h
      exact ih k hk hp
    · exact ⟨n, hn, fun k hk => by
        rcases Nat.lt_or_ge k n with h1 | h1
        · exact (h ⟨k, h1, hk⟩).elim
        · exact h1⟩
theorem Rt.ex (L : List Cb) (b : Nat) : ∃ r, Rt L b r := by
  obtain ⟨m, h1, h2⟩ := least (P := fun x => Jn L b x) b (.refl _)
  exact ⟨m, h1, h2⟩
/-- a way from r to b that costs d -/
inductive Wk (L : List Cb) (r : Nat) : Nat → Int → Prop
  | nil : Wk L r r 0
  | step {v w : Nat} {d : Int} {x : Cb} : Wk L r v d → x ∈ L → Ends x v w → Wk L r w (d + x.c)
theorem Wk.jn {L : List Cb} {r b : Nat} {d : Int} (h : Wk L r b d) : Jn L r b := by
  induction h with
  | nil => exact .refl _
  | step _ hx he ih => exact .step ih hx he
theorem Wk.of {L : List Cb} {r b : Nat} (h : Jn L r b) : ∃ d, Wk L r b d := by
  induction h with
  | refl => exact ⟨0, .nil⟩
  | step _ hx he ih =>
    obtain ⟨d, hd⟩ := ih
    exact ⟨_, .step hd hx he⟩
theorem Wk.nonneg {n : Nat} {L : List Cb} (hL : Okc n L) {r b : Nat} {d : Int} (h : Wk L r b d) : 0 ≤ d := by
  induction h with
  | nil => exact Int.le_refl _
  | step _ hx _ ih =>
    have := hL _ hx
    omega
theorem Wk.sub {L L' : List Cb} (hs : ∀ x ∈ L, x ∈ L') {r b : Nat} {d : Int} (h : Wk L r b d) : Wk L' r b d := by
  induction h with
  | nil => exact .nil
  | step _ hx he ih => exact .step ih (hs _ hx) he
/-- the least cost of a way from r to b -/
def Ds (L : List Cb) (r b : Nat) (d : Int) : Prop := Wk L r b d ∧ ∀ e, Wk L r b e → d ≤ e
theorem Ds.uniq {L : List Cb} {r b : Nat} {d e : Int} (h : Ds L r b d) (k : Ds L r b e) : d = e := Int.le_antisymm (h.2 _ k.1) (k.2 _ h.1)
theorem Ds.ex {n : Nat} {L : List Cb} (hL : Okc n L) {r b : Nat} (h : Jn L r b) : ∃ d, Ds L r b d := by
  obtain ⟨d, hd⟩ := Wk.of h
  obtain ⟨m, h1, h2⟩ := least (P := fun k => Wk L r b (k : Int)) d.toNat (by rw [Int.toNat_of_nonneg (hd.nonneg hL)]; exact hd)
  exact ⟨m, h1, fun e he => by
    have h3 := he.nonneg hL
    have := h2 e.toNat (by rw [Int.toNat_of_nonneg h3]; exact he)
    omega⟩
theorem Ds.zero {n : Nat} {L : List Cb} (hL : Okc n L) (r : Nat) : Ds L r r 0 := ⟨.nil, fun _ he => he.nonneg hL⟩
theorem Ds.nonneg {n : Nat} {L : List Cb} (hL : Okc n L) {r b : Nat} {d : Int} (h : Ds L r b d) : 0 ≤ d := h.1.nonneg hL
theorem Ds.edge {L : List Cb} {r v w : Nat} {d e : Int} {x : Cb} (h : Ds L r v d) (k : Ds L r w e) (hx : x ∈ L) (he : Ends x v w) : e ≤ d + x.c := k.2 _ (.step h.1 hx he)
theorem Ds.pred {n : Nat} {L : List Cb} (hL : Okc n L) {r b : Nat} {d : Int} (h : Ds L r b d) (hb : b ≠ r) : ∃ p x, x ∈ L ∧ Ends x p b ∧ Ds L r p (d - x.c) := by
  obtain ⟨hw, hm⟩ := h
  cases hw with
  | nil => exact (hb rfl).elim
  | @step v _ e x hv hx he =>
    refine ⟨v, x, hx, he, ?_, fun e' h' => ?_⟩
    · have : e + x.c - x.c = e := by omega
      rw [this]; exact hv
    · have := hm _ (.step h' hx he)
      omega
theorem Ds.pos {n : Nat} {L : List Cb} (hL : Okc n L) {r b : Nat} {d : Int} (h : Ds L r b d) (hb : b ≠ r) : 1 ≤ d := by
  obtain ⟨p, x, hx, _, hp⟩ := h.pred hL hb
  have := hL _ hx
  have := hp.nonneg hL
  omega
/-! ### rounds -/
def iter {σ : Type} (f : σ → σ) : Nat → σ → σ
  | 0, s => s
  | k + 1, s => iter f k (f s)
theorem iter_succ {σ : Type} (f : σ → σ) (k : Nat) (s : σ) : iter f (k + 1) s = f (iter f k s) := by
  induction k generalizing s with
  | zero => rfl
  | succ k ih => exact ih (f s)
theorem iter_inv {σ : Type} (f : σ → σ) (Inv : σ → Prop) (h : ∀ s, Inv s → Inv (f s)) (k : Nat) (s : σ) (hs : Inv s) : Inv (iter f k s) := by
  induction k generalizing s with
  | zero => exact hs
  | succ k ih => exact ih _ (h _ hs)
/-- how many of 0 .. n - 1 -/
def many (p : Nat → Bool) : Nat → Nat
  | 0 => 0
  | n + 1 => many p n + if p n then 1 else 0
theorem many_le (p : Nat → Bool) (n : Nat) : many p n ≤ n := by
  induction n with
  | zero => exact Nat.le_refl _
  | succ n ih => simp only [many]; split <;> omega
theorem many_mono {p q : Nat → Bool} (h : ∀ i, p i = true → q i = true) (n : Nat) : many p n ≤ many q n := by
  induction n with
  | zero => exact Nat.le_refl _
  | succ n ih =>
    simp only [many]
    have := h n
    cases hp : p n
    · simp; omega
    · rw [this hp]; simp; omega
theorem many_lt {p q : Nat → Bool} (h : ∀ i, p i = true → q i = true) {n b : Nat} (hb : b < n) (h1 : p b = false) (h2 : q b = true) : many p n < many q n := by
  induction n with
  | zero => omega
  | succ n ih =>
    simp only [many]
    by_cases e : b = n
    · subst e
      rw [h1, h2]
      have := many_mono h b
      simp; omega
    · have := ih (by omega)
      have := h n
      cases hp : p n
      · simp; omega
      · rw [this hp]; simp; omega
theorem many_pos {p : Nat → Bool} {n b : Nat} (hb : b < n) (h : p b = true) : 1 ≤ many p n := by
  have := many_lt (p := fun _ => false) (q := p) (fun _ h => by cases h) hb rfl h
  omega
theorem many_all {p : Nat → Bool} {n : Nat} (h : n ≤ many p n) : ∀ b, b < n → p b = true := by
  induction n with
  | zero => intro b hb; omega
  | succ n ih =>
    have h1 := many_le p n
    simp only [many] at h
    cases hp : p n with
    | false => rw [hp] at h; simp at h; omega
    | true =>
      rw [hp] at h
      intro b hb
      by_cases e : b = n
      · rw [e]; exact hp
      · exact ih (by simp at h; omega) b (by omega)
open Classical in
/-- a set that holds r and grows in each round till it holds all of T holds all of T behind n - 1 rounds -/
theorem rounds_full {σ : Type} (f : σ → σ) (n : Nat) (P : Nat → σ → Prop) (T : Nat → Prop) (hT : ∀ b, T b → b < n) (Inv : σ → Prop) (hInv : ∀ s, Inv s → Inv (f s)) (hm : ∀ s b, Inv s → P b s → P b (f s)) (r : Nat) (hr : r < n)
    (hstep : ∀ s, Inv s → P r s → (∀ b, T b → P b s) ∨ ∃ b, b < n ∧ P b (f s) ∧ ¬ P b s) (s : σ) (hs : Inv s) (h0 : P r s) : ∀ k, n - 1 ≤ k → ∀ b, T b → P b (iter f k s) := by
  have key : ∀ k, Inv (iter f k s) ∧ P r (iter f k s) ∧ ((∀ b, T b → P b (iter f k s)) ∨ k + 1 ≤ many (fun b => decide (P b (iter f k s))) n) := by
    intro k
    induction k with
    | zero => exact ⟨hs, h0, .inr (many_pos hr (decide_eq_true h0))⟩
    | succ k ih =>
      obtain ⟨i1, i2, i3⟩ := ih
      rw [iter_succ]
      refine ⟨hInv _ i1, hm _ _ i1 i2, ?_⟩
      rcases i3 with i3 | i3
      · exact .inl fun b hb => hm _ _ i1 (i3 b hb)
      · rcases hstep _ i1 i2 with h | ⟨b, hb, h1, h2⟩
        · exact .inl fun b hb => hm _ _ i1 (h b hb)
        · refine .inr ?_
          have := many_lt (p := fun b => decide (P b (iter f k s))) (q := fun b => decide (P b (f (iter f k s)))) (fun i hi => decide_eq_true (hm _ _ i1 (of_decide_eq_true hi))) hb (decide_eq_false h2) (decide_eq_true h1)
          omega
  intro k hk b hb
  obtain ⟨_, _, h | h⟩ := key k
  · exact h b hb
  · exact of_decide_eq_true (many_all (p := fun b => decide (P b (iter f k s))) (n := n) (by omega) b (hT b hb))
/-- a round over all cables: what it keeps and what it reaches -/
theorem fold_reach {σ : Type} (step : σ → Cb → σ) (P : Nat → σ → Prop) (Inv : σ → Prop) (G : Cb → Nat → Nat → Prop) (L : List Cb)
    (hInv : ∀ s x, x ∈ L → Inv s → Inv (step s x)) (hm : ∀ s x b, x ∈ L → Inv s → P b s → P b (step s x)) (hs : ∀ s x v w, x ∈ L → Inv s → Ends x v w → G x v w → P v s → P w (step s x)) :
    ∀ s, Inv s → Inv (L.foldl step s) ∧ (∀ b, P b s → P b (L.foldl step s)) ∧ ∀ x v w, x ∈ L → Ends x v w → G x v w → P v s → P w (L.foldl step s) := by
  induction L with
  | nil => intro s h; exact ⟨h, fun b hb => hb, fun x v w hx => by cases hx⟩
  | cons y L ih =>
    intro s h
    obtain ⟨i1, i2, i3⟩ := ih (fun s x hx => hInv s x (List.mem_cons_of_mem _ hx)) (fun s x b hx => hm s x b (List.mem_cons_of_mem _ hx)) (fun s x v w hx => hs s x v w (List.mem_cons_of_mem _ hx)) (step s y) (hInv s y List.mem_cons_self h)
    refine ⟨i1, fun b hb => i2 b (hm s y b List.mem_cons_self h hb), fun x v w hx he hg hp => ?_⟩
    rcases List.mem_cons.1 hx with rfl | hx
    · exact i2 w (hs s x v w List.mem_cons_self h he hg hp)
    · exact i3 x v w hx he hg (hm s y v List.mem_cons_self h hp)
/-! ### roots by the least label -/
def rrS (s : List Int) (x : Cb) : List Int := (s.set x.a (min (s.getD x.a 0) (s.getD x.b 0))).set x.b (min (s.getD x.a 0) (s.getD x.b 0))
theorem getD_set (l : List Int) (i j : Nat) (v : Int) (h : i < l.length) : (l.set i v).getD j 0 = if i = j then v else l.getD j 0 := by
  simp only [List.getD_eq_getElem?_getD, List.getElem?_set]
  by_cases e : i = j
  · subst e; simp [h]
  · simp [e]
theorem rrS_at (s : List Int) (x : Cb) (ha : x.a < s.length) (hb : x.b < s.length) (j : Nat) : (rrS s x).getD j 0 = if x.a = j ∨ x.b = j then min (s.getD x.a 0) (s.getD x.b 0) else s.getD j 0 := by
  unfold rrS
  rw [getD_set _ _ _ _ (by simpa using hb), getD_set _ _ _ _ ha]
  by_cases e : x.b = j
  · rw [if_pos e, if_pos (.inr e)]
  · rw [if_neg e]
    by_cases e2 : x.a = j
    · rw [if_pos e2, if_pos (.inl e2)]
    · rw [if_neg e2, if_neg (fun h => h.elim e2 e)]
theorem rrS_len (s : List Int) (x : Cb) : (rrS s x).length = s.length := by simp [rrS]
def RInv (n : Nat) (L : List Cb) (s : List Int) : Prop := s.length = n ∧ ∀ b, b < n → ∃ m : Nat, s.getD b 0 = (m : Int) ∧ Jn L b m
theorem RInv.step {n : Nat} {L : List Cb} (hL : Okc n L) {s : List Int} {x : Cb} (hx : x ∈ L) (h : RInv n L s) : RInv n L (rrS s x) := by
  obtain ⟨h1, h2⟩ := h
  obtain ⟨ha, hb, hne, _⟩ := hL x hx
  refine ⟨by rw [rrS_len]; exact h1, fun b hb' => ?_⟩
  rw [rrS_at s x (by omega) (by omega)]
  obtain ⟨ma, e1, j1⟩ := h2 _ ha
  obtain ⟨mb, e2, j2⟩ := h2 _ hb
  have jab : Jn L x.a x.b := .step (.refl _) hx (.inl ⟨rfl, rfl⟩)
  by_cases e : x.a = b ∨ x.b = b
  · rw [if_pos e, e1, e2]
    have hj : ∀ m, Jn L x.a m → Jn L b m := fun m hm => by
      rcases e with e | e
      · rw [← e]; exact hm
      · rw [← e]; exact jab.symm.trans hm
    by_cases hle : (ma : Int) ≤ mb
    · exact ⟨ma, Int.min_eq_left hle, hj _ j1⟩
    · exact ⟨mb, Int.min_eq_right (by omega), hj _ (jab.trans j2)⟩
  · rw [if_neg e]; exact h2 b hb'
def idl (n : Nat) : List Int := (List.range n).map fun (b : Nat) => (b : Int)
theorem idl_at (n b : Nat) (h : b < n) : (idl n).getD b 0 = (b : Int) := by simp [idl, List.getD_eq_getElem?_getD, h]
theorem idl_len (n : Nat) : (idl n).length = n := by simp [idl]
/-- behind n rounds (n - 1 suffice) each label is the root -/
theorem roots_final {n : Nat} {L : List Cb} (hL : Okc n L) {k : Nat} (hk : n - 1 ≤ k) : (iter (fun s => L.foldl rrS s) k (idl n)).length = n ∧ ∀ b r, b < n → Rt L b r → (iter (fun s => L.foldl rrS s) k (idl n)).getD b 0 = (r : Int) := by
  have hfold := fun (t : Int) => fold_reach rrS (fun b s => b < n ∧ s.getD b 0 ≤ t) (RInv n L) (fun _ _ _ => True) L
    (fun s x hx h => h.step hL hx)
    (fun s x b hx h hb => by
      obtain ⟨ha, hb', _⟩ := hL x hx
      refine ⟨hb.1, ?_⟩
      rw [rrS_at s x (by rw [h.1]; exact ha) (by rw [h.1]; exact hb')]
      split
      · rename_i e
        rcases e with e | e
        · rw [e]; exact Int.le_trans (Int.min_le_left _ _) hb.2
        · rw [e]; exact Int.le_trans (Int.min_le_right _ _) hb.2
      · exact hb.2)
    (fun s x v w hx h he _ hp => by
      obtain ⟨ha, hb', _⟩ := hL x hx
      refine ⟨by rcases he with ⟨h1, h2⟩ | ⟨h1, h2⟩ <;> omega, ?_⟩
      rw [rrS_at s x (by rw [h.1]; exact ha) (by rw [h.1]; exact hb')]
      rcases he with ⟨h1, h2⟩ | ⟨h1, h2⟩
      · rw [if_pos (.inr h2), h1]; exact Int.le_trans (Int.min_le_left _ _) hp.2
      · rw [if_pos (.inl h1), h2]; exact Int.le_trans (Int.min_le_right _ _) hp.2)
  have hinv : RInv n L (iter (fun s => L.foldl rrS s) k (idl n)) :=
    iter_inv _ (RInv n L) (fun s hs => (hfold 0 s hs).1) k _ ⟨idl_len n, fun b hb => ⟨b, idl_at n b hb, .refl _⟩⟩
  refine ⟨hinv.1, fun b r hb hr => ?_⟩
  have hrn : r < n := by have := hr.le; omega
  have h := rounds_full (fun s => L.foldl rrS s) n (fun b s => b < n ∧ s.getD b 0 ≤ (r : Int)) (fun v => Jn L r v) (fun v hv => hv.lt hL hrn) (RInv n L) (fun s hs => (hfold 0 s hs).1) (fun s v hs hv => (hfold r s hs).2.1 v hv) r hrn
    (fun s hs hp => by
      by_cases hc : ∃ x v w, x ∈ L ∧ Ends x v w ∧ (v < n ∧ s.getD v 0 ≤ (r : Int)) ∧ ¬ (w < n ∧ s.getD w 0 ≤ (r : Int))
      · obtain ⟨x, v, w, hx, he, hv, hw⟩ := hc
        have h1 := (hfold r s hs).2.2 x v w hx he trivial hv
        exact .inr ⟨w, h1.1, h1, hw⟩
      · refine .inl fun v hv => ?_
        induction hv with
        | refl => exact hp
        | step hj hx he ih =>
          rename_i v w x
          rcases Classical.em (w < n ∧ s.getD w 0 ≤ (r : Int)) with h1 | h1
          · exact h1
          · exact (hc ⟨x, v, w, hx, he, ih, h1⟩).elim)
    (idl n) ⟨idl_len n, fun b hb => ⟨b, idl_at n b hb, .refl _⟩⟩ ⟨hrn, by rw [idl_at n r hrn]; exact Int.le_refl _⟩ k hk b hr.1.symm
  obtain ⟨m, e1, e2⟩ := hinv.2 b hb
  have h1 := hr.2 m e2
  have h2 := h.2
  rw [e1] at h2 ⊢
  omega
/-! ### what is joined, by marks -/
def jnS (s : List Bool) (x : Cb) : List Bool := if s.getD x.a false || s.getD x.b false then (s.set x.a true).set x.b true else s
theorem getD_setB (l : List Bool) (i j : Nat) (v : Bool) (h : i < l.length) : (l.set i v).getD j false = if i = j then v else l.getD j false := by
  simp only [List.getD_eq_getElem?_getD, List.getElem?_set]
  by_cases e : i = j
  · subst e; simp [h]
  · simp [e]
theorem jnS_at (s : List Bool) (x : Cb) (ha : x.a < s.length) (hb : x.b < s.length) (j : Nat) : (jnS s x).getD j false = (s.getD j false || ((s.getD x.a false || s.getD x.b false) && (decide (x.a = j) || decide (x.b = j)))) := by
  unfold jnS
  by_cases h : (s.getD x.a false || s.getD x.b false) = true
  · rw [if_pos h, getD_setB _ _ _ _ (by simpa using hb), getD_setB _ _ _ _ ha, h]
    by_cases e : x.b = j
    · simp [e]
    · by_cases e2 : x.a = j
      · simp [e2]
      · simp [e, e2]
  · rw [if_neg h]
    have : (s.getD x.a false || s.getD x.b false) = false := by simpa using h
    rw [this]; simp
theorem jnS_len (s : List Bool) (x : Cb) : (jnS s x).length = s.length := by unfold jnS; split <;> simp
def JInv (n : Nat) (L : List Cb) (b0 : Nat) (s : List Bool) : Prop := s.length = n ∧ ∀ b, s.getD b false = true → Jn L b0 b
theorem JInv.step {n : Nat} {L : List Cb} (hL : Okc n L) {b0 : Nat} {s : List Bool} {x : Cb} (hx : x ∈ L) (h : JInv n L b0 s) : JInv n L b0 (jnS s x) := by
  obtain ⟨h1, h2⟩ := h
  obtain ⟨ha, hb, _⟩ := hL x hx
  refine ⟨by rw [jnS_len]; exact h1, fun b hb' => ?_⟩
  rw [jnS_at s x (by omega) (by omega)] at hb'
  by_cases e : s.getD b false = true
  · exact h2 b e
  · have e' : s.getD b false = false := by simpa using e
    rw [e', Bool.false_or, Bool.and_eq_true, Bool.or_eq_true, Bool.or_eq_true, decide_eq_true_eq, decide_eq_true_eq] at hb'
    have jab : Jn L x.a x.b := .step (.refl _) hx (.inl ⟨rfl, rfl⟩)
    have j1 : Jn L b0 x.a := by
      rcases hb'.1 with h3 | h3
      · exact h2 _ h3
      · exact (h2 _ h3).trans jab.symm
    rcases hb'.2 with h3 | h3
    · rw [← h3]; exact j1
    · rw [← h3]; exact j1.trans jab
def onel (n b0 : Nat) : List Bool := (List.replicate n false).set b0 true
theorem onel_at (n b0 b : Nat) (h : b0 < n) : (onel n b0).getD b false = decide (b0 = b) := by
  unfold onel
  rw [getD_setB _ _ _ _ (by simpa using h)]
  by_cases e : b0 = b
  · simp [e]
  · simp only [e, if_false, decide_false, List.getD_eq_getElem?_getD, List.getElem?_replicate]
    split <;> rfl
theorem joined_final {n : Nat} {L : List Cb} (hL : Okc n L) {b0 : Nat} (hb0 : b0 < n) {k : Nat} (hk : n - 1 ≤ k) : (iter (fun s => L.foldl jnS s) k (onel n b0)).length = n ∧ ∀ b, (iter (fun s => L.foldl jnS s) k (onel n b0)).getD b false = true ↔ Jn L b0 b := by
  have hfold := fold_reach jnS (fun b s => s.getD b false = true) (JInv n L b0) (fun _ _ _ => True) L
    (fun s x hx h => h.step hL hx)
    (fun s x b hx h hb => by
      obtain ⟨ha, hb', _⟩ := hL x hx
      rw [jnS_at s x (by rw [h.1]; exact ha) (by rw [h.1]; exact hb'), hb]; rfl)
    (fun s x v w hx h he _ hp => by
      obtain ⟨ha, hb', _⟩ := hL x hx
      rw [jnS_at s x (by rw [h.1]; exact ha) (by rw [h.1]; exact hb')]
      rcases he with ⟨h1, h2⟩ | ⟨h1, h2⟩
      · rw [h1, hp, h2]; simp
      · rw [h2, hp, h1]; simp)
  have h0 : JInv n L b0 (onel n b0) := ⟨by simp [onel], fun b hb => by
    rw [onel_at n b0 b hb0] at hb
    rw [← of_decide_eq_true hb]; exact .refl _⟩
  have hinv : JInv n L b0 (iter (fun s => L.foldl jnS s) k (onel n b0)) := iter_inv _ (JInv n L b0) (fun s hs => (hfold s hs).1) k _ h0
  refine ⟨hinv.1, fun b => ⟨fun h => hinv.2 b h, fun hj => ?_⟩⟩
  exact rounds_full (fun s => L.foldl jnS s) n (fun b s => s.getD b false = true) (fun v => Jn L b0 v) (fun v hv => hv.lt hL hb0) (JInv n L b0) (fun s hs => (hfold s hs).1) (fun s v hs hv => (hfold s hs).2.1 v hv) b0 hb0
    (fun s hs hp => by
      by_cases hc : ∃ x v w, x ∈ L ∧ Ends x v w ∧ s.getD v false = true ∧ ¬ s.getD w false = true
      · obtain ⟨x, v, w, hx, he, hv, hw⟩ := hc
        have h1 := (hfold s hs).2.2 x v w hx he trivial hv
        exact .inr ⟨w, (hinv_lt hL hb0 ((hfold s hs).1.2 w h1)), h1, hw⟩
      · refine .inl fun v hv => ?_
        induction hv with
        | refl => exact hp
        | step hj hx he ih =>
          rename_i v w x
          rcases Classical.em (s.getD w false = true) with h1 | h1
          · exact h1
          · exact (hc ⟨x, v, w, hx, he, ih, h1⟩).elim)
    (onel n b0) h0 (by rw [onel_at n b0 b0 hb0]; simp) k hk b hj
where hinv_lt {n : Nat} {L : List Cb} (hL : Okc n L) {b0 : Nat} (hb0 : b0 < n) {w : Nat} (h : Jn L b0 w) : w < n := h.lt hL hb0
/-! ### costs, cable by cable -/
def coS (s : List Int) (x : Cb) : List Int := (s.set x.a (min (s.getD x.a 0) (s.getD x.b 0 + x.c))).set x.b (min (s.getD x.b 0) (min (s.getD x.a 0) (s.getD x.b 0 + x.c) + x.c))
theorem coS_at (s : List Int) (x : Cb) (ha : x.a < s.length) (hb : x.b < s.length) (hne : x.a ≠ x.b) (j : Nat) :
    (coS s x).getD j 0 = if x.b = j then min (s.getD x.b 0) (min (s.getD x.a 0) (s.getD x.b 0 + x.c) + x.c) else if x.a = j then min (s.getD x.a 0) (s.getD x.b 0 + x.c) else s.getD j 0 := by
  unfold coS
  rw [getD_set _ _ _ _ (by simpa using hb), getD_set _ _ _ _ ha]
theorem coS_len (s : List Int) (x : Cb) : (coS s x).length = s.length := by simp [coS]
/-- the cost of b to its root -/
def Co (L : List Cb) (b : Nat) (d : Int) : Prop := ∃ r, Rt L b r ∧ Ds L r b d
theorem Co.uniq {L : List Cb} {b : Nat} {d e : Int} (h : Co L b d) (k : Co L b e) : d = e := by
  obtain ⟨r, h1, h2⟩ := h
  obtain ⟨r', k1, k2⟩ := k
  obtain rfl := h1.uniq k1
  exact h2.uniq k2
theorem Co.ex {n : Nat} {L : List Cb} (hL : Okc n L) (b : Nat) : ∃ d, Co L b d := by
  obtain ⟨r, hr⟩ := Rt.ex L b
  obtain ⟨d, hd⟩ := Ds.ex hL hr.1.symm
  exact ⟨d, r, hr, hd⟩
theorem Co.edge {L : List Cb} {v w : Nat} {d e : Int} {x : Cb} (h : Co L v d) (k : Co L w e) (hx : x ∈ L) (he : Ends x v w) : e ≤ d + x.c := by
  obtain ⟨r, h1, h2⟩ := h
  obtain ⟨r', k1, k2⟩ := k
  obtain rfl := (h1.to (.step (.refl _) hx he)).uniq k1
  exact h2.edge k2 hx he
theorem Co.nonneg {n : Nat} {L : List Cb} (hL : Okc n L) {b : Nat} {d : Int} (h : Co L b d) : 0 ≤ d := by
  obtain ⟨r, _, h2⟩ := h
  exact h2.nonneg hL
theorem Co.zero_iff {n : Nat} {L : List Cb} (hL : Okc n L) {b : Nat} {d : Int} (h : Co L b d) {r : Nat} (hr : Rt L b r) : d = 0 ↔ b = r := by
  obtain ⟨r', h1, h2⟩ := h
  obtain rfl := h1.uniq hr
  constructor
  · intro e
    by_cases hb : b = r'
    · exact hb
    · have := h2.pos hL hb
      omega
  · rintro rfl
    exact h2.uniq (Ds.zero hL _)
theorem Co.pred {n : Nat} {L : List Cb} (hL : Okc n L) {b : Nat} {d : Int} (h : Co L b d) (hd : d ≠ 0) : ∃ p x, x ∈ L ∧ Ends x p b ∧ Co L p (d - x.c) := by
  obtain ⟨r, h1, h2⟩ := h
  have hb : b ≠ r := by
    rintro rfl
    exact hd (h2.uniq (Ds.zero hL _))
  obtain ⟨p, x, hx, he, hp⟩ := h2.pred hL hb
  exact ⟨p, x, hx, he, r, h1.to (.step (.refl _) hx he.symm), hp⟩
open Classical in
/-- no cost is greater than 99 for each bridge -/
theorem Ds.small {n : Nat} {L : List Cb} (hL : Okc n L) {r b : Nat} {d : Int} (hr : r < n) (h : Ds L r b d) : d ≤ 99 * (n : Int) := by
  have key := rounds_full (σ := Nat) (fun k => k + 1) n (fun b k => ∃ e, Wk L r b e ∧ e ≤ 99 * (k : Int)) (fun v => Jn L r v) (fun v hv => hv.lt hL hr) (fun _ => True) (fun _ _ => trivial)
    (fun k b _ hb => by
      obtain ⟨e, h1, h2⟩ := hb
      exact ⟨e, h1, by omega⟩) r hr
    (fun k _ hp => by
      by_cases hc : ∃ x v w, x ∈ L ∧ Ends x v w ∧ (∃ e, Wk L r v e ∧ e ≤ 99 * (k : Int)) ∧ ¬ ∃ e, Wk L r w e ∧ e ≤ 99 * (k : Int)
      · obtain ⟨x, v, w, hx, he, ⟨e, h1, h2⟩, hw⟩ := hc
        have h3 := hL x hx
        exact .inr ⟨w, (Jn.step h1.jn hx he).lt hL hr, ⟨e + x.c, .step h1 hx he, by omega⟩, hw⟩
      · refine .inl fun v hv => ?_
        induction hv with
        | refl => exact hp
        | step hj hx he ih =>
          rename_i v w x
          rcases Classical.em (∃ e, Wk L r w e ∧ e ≤ 99 * (k : Int)) with h1 | h1
          · exact h1
          · exact (hc ⟨x, v, w, hx, he, ih, h1⟩).elim)
    0 trivial ⟨0, .nil, by omega⟩ n (by omega) b h.1.jn
  obtain ⟨e, h1, h2⟩ := key
  have hit : ∀ k s : Nat, iter (fun k => k + 1) k s = s + k := by
    intro k
    induction k with
    | zero => intro s; rfl
    | succ k ih => intro s; exact (ih (s + 1)).trans (by omega)
  rw [hit] at h2
  have := h.2 e h1
  omega
theorem Co.small {n : Nat} {L : List Cb} (hL : Okc n L) {b : Nat} {d : Int} (hb : b < n) (h : Co L b d) : d ≤ 99 * (n : Int) := by
  obtain ⟨r, h1, h2⟩ := h
  exact h2.small hL (by have := h1.le; omega)
def CInv (n : Nat) (L : List Cb) (s : List Int) : Prop := s.length = n ∧ ∀ b, b < n → ∀ d, Co L b d → d ≤ s.getD b 0
theorem CInv.step {n : Nat} {L : List Cb} (hL : Okc n L) {s : List Int} {x : Cb} (hx : x ∈ L) (h : CInv n L s) : CInv n L (coS s x) := by
  obtain ⟨h1, h2⟩ := h
  obtain ⟨ha, hb, hne, hc1, _⟩ := hL x hx
  obtain ⟨da, hda⟩ := Co.ex hL x.a
  obtain ⟨db, hdb⟩ := Co.ex hL x.b
  have e1 := hda.edge hdb hx (.inl ⟨rfl, rfl⟩)
  have e2 := hdb.edge hda hx (.inr ⟨rfl, rfl⟩)
  have l1 := h2 _ ha _ hda
  have l2 := h2 _ hb _ hdb
  refine ⟨by rw [coS_len]; exact h1, fun b hb' d hd => ?_⟩
  rw [coS_at s x (by omega) (by omega) hne]
  by_cases e : x.b = b
  · subst e
    obtain rfl := hd.uniq hdb
    rw [if_pos rfl]
    omega
  · rw [if_neg e]
    by_cases e3 : x.a = b
    · subst e3
      obtain rfl := hd.uniq hda
      rw [if_pos rfl]
      omega
    · rw [if_neg e3]; exact h2 b hb' d hd
theorem costs_final {n : Nat} {L : List Cb} (hL : Okc n L) (s : List Int) (hs : CInv n L s) (hroot : ∀ b, b < n → Rt L b b → s.getD b 0 = 0) {k : Nat} (hk : n - 1 ≤ k) :
    (iter (fun s => L.foldl coS s) k s).length = n ∧ ∀ b d, b < n → Co L b d → (iter (fun s => L.foldl coS s) k s).getD b 0 = d := by
  have hfold := fold_reach coS (fun b s => b < n ∧ ∀ d, Co L b d → s.getD b 0 ≤ d) (CInv n L) (fun x v w => ∀ d e, Co L v d → Co L w e → e = d + x.c) L
    (fun s x hx h => h.step hL hx)
    (fun s x b hx h hb => by
      obtain ⟨ha, hb', hne, _⟩ := hL x hx
      refine ⟨hb.1, fun d hd => ?_⟩
      have := hb.2 d hd
      rw [coS_at s x (by rw [h.1]; exact ha) (by rw [h.1]; exact hb') hne]
      split
      · rename_i e; subst e; omega
      · split
        · rename_i e; subst e; omega
        · exact this)
    (fun s x v w hx h he hg hp => by
      obtain ⟨ha, hb', hne, hc1, _⟩ := hL x hx
      have hwn : w < n := by rcases he with ⟨h1, h2⟩ | ⟨h1, h2⟩ <;> omega
      refine ⟨hwn, fun e hew => ?_⟩
      obtain ⟨d, hd⟩ := Co.ex hL v
      have h1 := hp.2 d hd
      have h2 := hg d e hd hew
      rw [coS_at s x (by rw [h.1]; exact ha) (by rw [h.1]; exact hb') hne]
      rcases he with ⟨h3, h4⟩ | ⟨h3, h4⟩
      · subst h3; subst h4
        rw [if_pos rfl]
        omega
      · subst h3; subst h4
        rw [if_neg (fun e => hne e.symm), if_pos rfl]
        omega)
  have hinv : CInv n L (iter (fun s => L.foldl coS s) k s) := iter_inv _ (CInv n L) (fun s hs => (hfold s hs).1) k _ hs
  refine ⟨hinv.1, fun b d hb hd => ?_⟩
  have hlo := hinv.2 b hb d hd
  obtain ⟨r, hr, hds⟩ := id hd
  have hrn : r < n := by have := hr.le; omega
  have h := rounds_full (fun s => L.foldl coS s) n (fun b s => b < n ∧ ∀ d, Co L b d → s.getD b 0 ≤ d) (fun v => Jn L r v) (fun v hv => hv.lt hL hrn) (CInv n L) (fun s hs => (hfold s hs).1) (fun s v hs hv => (hfold s hs).2.1 v hv) r hrn
    (fun s hs hp => by
      by_cases hc : ∃ x v w, x ∈ L ∧ Ends x v w ∧ (∀ d e, Co L v d → Co L w e → e = d + x.c) ∧ (v < n ∧ ∀ d, Co L v d → s.getD v 0 ≤ d) ∧ ¬ (w < n ∧ ∀ d, Co L w d → s.getD w 0 ≤ d)
      · obtain ⟨x, v, w, hx, he, hg, hv, hw⟩ := hc
        have h1 := (hfold s hs).2.2 x v w hx he hg hv
        exact .inr ⟨w, h1.1, h1, hw⟩
      · refine .inl ?_
        have hind : ∀ (m : Nat) (v : Nat) (d : Int), Jn L r v → Co L v d → d.toNat ≤ m → v < n ∧ ∀ d, Co L v d → s.getD v 0 ≤ d := by
          intro m
          induction m with
          | zero =>
            intro v d hv hd hm
            have h0 := hd.nonneg hL
            have hrv : Rt L v r := hr.self.to hv
            have : v = r := (hd.zero_iff hL hrv).1 (by omega)
            rw [this]; exact hp
          | succ m ih =>
            intro v d hv hd hm
            by_cases hz : d = 0
            · have hrv : Rt L v r := hr.self.to hv
              have : v = r := (hd.zero_iff hL hrv).1 hz
              rw [this]; exact hp
            · obtain ⟨p, x, hx, he, hpc⟩ := hd.pred hL hz
              have hxc := hL x hx
              have hp0 := hpc.nonneg hL
              have ihp := ih p (d - x.c) (.step hv hx he.symm) hpc (by omega)
              rcases Classical.em (v < n ∧ ∀ d, Co L v d → s.getD v 0 ≤ d) with h1 | h1
              · exact h1
              · exact (hc ⟨x, p, v, hx, he, fun d1 e1 hd1 he1 => by
                  have := hd1.uniq hpc
                  have := he1.uniq hd
                  omega, ihp, h1⟩).elim
        intro v hv
        obtain ⟨d, hd⟩ := Co.ex hL v
        exact hind d.toNat v d hv hd (Nat.le_refl _))
    s hs ⟨hrn, fun d hd => by
      rw [hroot r hrn hr.self, (hd.zero_iff hL hr.self).2 rfl]; exact Int.le_refl _⟩ k hk b hr.1.symm
  have := h.2 d hd
  omega

/-! ### up cables, the tree, ways up (plain) -/
/-- ds holds the costs -/
def Cs (n : Nat) (L : List Cb) (ds : List Int) : Prop := ds.length = n ∧ ∀ b, b < n → Co L b (ds.getD b 0)
theorem Cs.of {n : Nat} {L : List Cb} (hL : Okc n L) {ds : List Int} (h1 : ds.length = n) (h2 : ∀ b d, b < n → Co L b d → ds.getD b 0 = d) : Cs n L ds :=
  ⟨h1, fun b hb => by
    obtain ⟨d, hd⟩ := Co.ex hL b
    rw [h2 b d hb hd]; exact hd⟩
theorem Cs.uniq {n : Nat} {L : List Cb} {ds es : List Int} (h : Cs n L ds) (k : Cs n L es) : ds = es := by
  apply List.ext_getElem (by rw [h.1, k.1])
  intro i h1 h2
  have h3 := (h.2 i (by rw [← h.1]; exact h1)).uniq (k.2 i (by rw [← h.1]; exact h1))
  simpa [List.getD_eq_getElem?_getD, h1, h2] using h3
/-- cable i leads b one step up, to o; no better one is there -/
def Cand (L : List Cb) (ds : List Int) (b i o : Nat) : Prop := ∃ x, L[i]? = some x ∧ Ends x o b ∧ ds.getD o 0 + x.c = ds.getD b 0
def Up (L : List Cb) (ds : List Int) (b i o : Nat) : Prop := Cand L ds b i o ∧ ∀ j q, Cand L ds b j q → o < q ∨ (o = q ∧ i ≤ j)
theorem Up.uniq {L : List Cb} {ds : List Int} {b i o j q : Nat} (h : Up L ds b i o) (k : Up L ds b j q) : i = j ∧ o = q := by
  have h1 := h.2 _ _ k.1
  have h2 := k.2 _ _ h.1
  omega
def other (x : Cb) (b : Nat) : Option Nat := if b = x.a then some x.b else if b = x.b then some x.a else none
theorem other_some {x : Cb} {b o : Nat} (h : other x b = some o) : Ends x o b := by
  unfold other at h
  split at h
  · rename_i e; exact .inr ⟨e.symm, Option.some.inj h⟩
  · split at h
    · rename_i _ e; exact .inl ⟨Option.some.inj h, e.symm⟩
    · cases h
theorem other_of {n : Nat} {L : List Cb} (hL : Okc n L) {x : Cb} (hx : x ∈ L) {b o : Nat} (h : Ends x o b) : other x b = some o := by
  have := hL x hx
  unfold other
  rcases h with ⟨h1, h2⟩ | ⟨h1, h2⟩
  · rw [if_neg (by omega), if_pos h2.symm, h1]
  · rw [if_pos h1.symm, h2]
/-- what is best among the first i cables: its index and the bridge behind it, or -1 and -1 -/
def Best (L : List Cb) (ds : List Int) (b i : Nat) (s t : Int) : Prop :=
  (s = -1 ∧ t = -1 ∧ ∀ j q, j < i → ¬ Cand L ds b j q) ∨ ∃ j q : Nat, s = (j : Int) ∧ t = (q : Int) ∧ j < i ∧ Cand L ds b j q ∧ ∀ j' q', j' < i → Cand L ds b j' q' → q < q' ∨ (q = q' ∧ j ≤ j')
theorem Best.start (L : List Cb) (ds : List Int) (b : Nat) : Best L ds b 0 (-1) (-1) := .inl ⟨rfl, rfl, fun j q h => by omega⟩
theorem Best.take {L : List Cb} {ds : List Int} {b i : Nat} {s t : Int} (h : Best L ds b i s t) {o : Nat} (hc : Cand L ds b i o) (hq : ∀ q, Cand L ds b i q → q = o) (hb : s < 0 ∨ (o : Int) < t) : Best L ds b (i + 1) (i : Int) (o : Int) := by
  refine .inr ⟨i, o, rfl, rfl, by omega, hc, fun j' q' h1 h2 => ?_⟩
  by_cases e : j' = i
  · subst e; exact .inr ⟨(hq _ h2).symm, Nat.le_refl _⟩
  · rcases h with ⟨_, _, h3⟩ | ⟨j, q, e1, e2, _, _, h3⟩
    · exact (h3 j' q' (by omega) h2).elim
    · have := h3 j' q' (by omega) h2
      omega
theorem Best.keep {L : List Cb} {ds : List Int} {b i : Nat} {s t : Int} (h : Best L ds b i s t) {o : Nat} (hq : ∀ q, Cand L ds b i q → q = o) (hb : ¬ (s < 0 ∨ (o : Int) < t)) : Best L ds b (i + 1) s t := by
  rcases h with ⟨h1, _, _⟩ | ⟨j, q, e1, e2, h1, h2, h3⟩
  · omega
  · refine .inr ⟨j, q, e1, e2, by omega, h2, fun j' q' h4 h5 => ?_⟩
    by_cases e : j' = i
    · subst e
      have := hq _ h5
      omega
    · exact h3 j' q' (by omega) h5
theorem Best.skip {L : List Cb} {ds : List Int} {b i : Nat} {s t : Int} (h : Best L ds b i s t) (hq : ∀ q, ¬ Cand L ds b i q) : Best L ds b (i + 1) s t := by
  rcases h with ⟨h1, h2, h3⟩ | ⟨j, q, e1, e2, h1, h2, h3⟩
  · refine .inl ⟨h1, h2, fun j q h4 h5 => ?_⟩
    by_cases e : j = i
    · subst e; exact hq _ h5
    · exact h3 j q (by omega) h5
  · refine .inr ⟨j, q, e1, e2, by omega, h2, fun j' q' h4 h5 => ?_⟩
    by_cases e : j' = i
    · subst e; exact (hq _ h5).elim
    · exact h3 j' q' (by omega) h5
theorem Cand.lt {L : List Cb} {ds : List Int} {b i o : Nat} (h : Cand L ds b i o) : i < L.length := by
  obtain ⟨x, hx, _⟩ := h
  exact (List.getElem?_eq_some_iff.1 hx).1
theorem Best.end {L : List Cb} {ds : List Int} {b : Nat} {s t : Int} (h : Best L ds b L.length s t) : (s = -1 ∧ t = -1 ∧ ∀ j q, ¬ Cand L ds b j q) ∨ ∃ j q : Nat, s = (j : Int) ∧ t = (q : Int) ∧ Up L ds b j q := by
  rcases h with ⟨h1, h2, h3⟩ | ⟨j, q, e1, e2, h1, h2, h3⟩
  · exact .inl ⟨h1, h2, fun j q hc => h3 j q hc.lt hc⟩
  · exact .inr ⟨j, q, e1, e2, h2, fun j' q' hc => h3 j' q' hc.lt hc⟩
/-- a root has none, any other bridge has one -/
theorem Cand.root {n : Nat} {L : List Cb} (hL : Okc n L) {ds : List Int} (h : Cs n L ds) {b : Nat} (hz : ds.getD b 0 = 0) {i o : Nat} : ¬ Cand L ds b i o := by
  rintro ⟨x, hx, he, hd⟩
  have hm := List.mem_of_getElem? hx
  have h1 := hL x hm
  have ho : o < n := by rcases he with ⟨h2, h3⟩ | ⟨h2, h3⟩ <;> omega
  have := (h.2 o ho).nonneg hL
  omega
theorem Cand.ex {n : Nat} {L : List Cb} (hL : Okc n L) {ds : List Int} (h : Cs n L ds) {b : Nat} (hb : b < n) (hz : ds.getD b 0 ≠ 0) : ∃ i o, Cand L ds b i o := by
  obtain ⟨p, x, hx, he, hp⟩ := (h.2 b hb).pred hL hz
  obtain ⟨i, hi, e⟩ := List.getElem_of_mem hx
  have h1 := hL x hx
  have hpn : p < n := by rcases he with ⟨h2, h3⟩ | ⟨h2, h3⟩ <;> omega
  have := (h.2 p hpn).uniq hp
  exact ⟨i, p, x, by rw [List.getElem?_eq_getElem hi, e], he, by omega⟩
theorem Cand.ends {n : Nat} {L : List Cb} (hL : Okc n L) {ds : List Int} {b i o : Nat} (h : Cand L ds b i o) : b < n ∧ o < n ∧ b ≠ o := by
  obtain ⟨x, hx, he, _⟩ := h
  have h1 := hL x (List.mem_of_getElem? hx)
  rcases he with ⟨h2, h3⟩ | ⟨h2, h3⟩ <;> omega
theorem Cand.down {n : Nat} {L : List Cb} (hL : Okc n L) {ds : List Int} {b i o : Nat} (h : Cand L ds b i o) : ds.getD o 0 < ds.getD b 0 := by
  obtain ⟨x, hx, he, hd⟩ := h
  have h1 := hL x (List.mem_of_getElem? hx)
  omega
/-- a cable leads at most one of its ends up -/
theorem Cand.one {n : Nat} {L : List Cb} (hL : Okc n L) {ds : List Int} {b b' i o o' : Nat} (h : Cand L ds b i o) (k : Cand L ds b' i o') : b = b' ∧ o = o' := by
  have d1 := h.down hL
  have d2 := k.down hL
  obtain ⟨x, hx, he, hd⟩ := h
  obtain ⟨x', hx', he', hd'⟩ := k
  rw [hx] at hx'
  obtain rfl := Option.some.inj hx'
  rcases he with ⟨h1, h2⟩ | ⟨h1, h2⟩ <;> rcases he' with ⟨k1, k2⟩ | ⟨k1, k2⟩
  · omega
  · subst h1; subst h2; subst k1; subst k2; omega
  · subst h1; subst h2; subst k1; subst k2; omega
  · omega
theorem Up.ex {n : Nat} {L : List Cb} (hL : Okc n L) {ds : List Int} (h : Cs n L ds) {b : Nat} (hb : b < n) (hz : ds.getD b 0 ≠ 0) : ∃ i o, Up L ds b i o := by
  obtain ⟨i0, o0, h0⟩ := Cand.ex hL h hb hz
  obtain ⟨o, ⟨i1, h1⟩, h2⟩ := least (P := fun o => ∃ i, Cand L ds b i o) o0 ⟨i0, h0⟩
  obtain ⟨i, h3, h4⟩ := least (P := fun i => Cand L ds b i o) i1 h1
  refine ⟨i, o, h3, fun j q hc => ?_⟩
  have h5 := h2 q ⟨j, hc⟩
  rcases Nat.lt_or_eq_of_le h5 with h6 | h6
  · exact .inl h6
  · subst h6; exact .inr ⟨rfl, h4 j hc⟩
/-- the way up -/
inductive Way (L : List Cb) (ds : List Int) : Nat → List Nat → Prop
  | root {b : Nat} : (∀ j q, ¬ Cand L ds b j q) → Way L ds b [b]
  | step {b i o : Nat} {l : List Nat} : Up L ds b i o → Way L ds o l → Way L ds b (b :: l)
theorem Way.ex {n : Nat} {L : List Cb} (hL : Okc n L) {ds : List Int} (h : Cs n L ds) : ∀ (m : Nat) (b : Nat), b < n → (ds.getD b 0).toNat ≤ m → ∃ l, Way L ds b l ∧ l.length ≤ m + 1 := by
  intro m
  induction m with
  | zero =>
    intro b hb hm
    have := (h.2 b hb).nonneg hL
    exact ⟨[b], .root (fun j q => Cand.root hL h (by omega)), by simp⟩
  | succ m ih =>
    intro b hb hm
    have h0 := (h.2 b hb).nonneg hL
    by_cases hz : ds.getD b 0 = 0
    · exact ⟨[b], .root (fun j q => Cand.root hL h hz), by simp⟩
    · obtain ⟨i, o, hu⟩ := Up.ex hL h hb hz
      have h1 := hu.1.down hL
      have h2 := hu.1.ends hL
      have h3 := (h.2 o h2.2.1).nonneg hL
      obtain ⟨l, hl, hlen⟩ := ih o h2.2.1 (by omega)
      exact ⟨b :: l, .step hu hl, by simp; omega⟩

/-! ### claims (plain): a claim is a root, a cost, a neighbour, a cable -/
structure Cm where
  r : Int
  d : Int
  o : Int
  i : Int
deriving DecidableEq
def ltC (x y : Cm) : Prop := x.r < y.r ∨ (x.r = y.r ∧ (x.d < y.d ∨ (x.d = y.d ∧ (x.o < y.o ∨ (x.o = y.o ∧ x.i < y.i)))))
instance (x y : Cm) : Decidable (ltC x y) := by unfold ltC; infer_instance
/-- root and cost alone -/
def leK (x y : Cm) : Prop := x.r < y.r ∨ (x.r = y.r ∧ x.d ≤ y.d)
theorem leK.refl (x : Cm) : leK x x := .inr ⟨rfl, Int.le_refl _⟩
theorem leK.trans {x y z : Cm} (h : leK x y) (k : leK y z) : leK x z := by
  unfold leK at *; omega
theorem leK_of_lt {x y : Cm} (h : ltC x y) : leK x y := by
  unfold ltC at h; unfold leK; omega
theorem leK_of_not {x y : Cm} (h : ¬ ltC x y) : leK y x := by
  unfold ltC at h; unfold leK; omega
theorem ltC.trans {x y z : Cm} (h : ltC x y) (k : ltC y z) : ltC x z := by
  unfold ltC at *; omega
def own (b : Nat) : Cm := ⟨(b : Int), 0, -1, -1⟩
def getC (cl : List Cm) (o : Nat) : Cm := cl.getD o ⟨0, 0, 0, 0⟩
/-- what b hears over cable i of o -/
def hear (cl : List Cm) (o i : Nat) (c : Int) : Cm := ⟨(getC cl o).r, (getC cl o).d + c, (o : Int), (i : Int)⟩
/-- one more cable -/
def hearS (cl : List Cm) (b i : Nat) (x : Cb) (cur : Cm) : Cm :=
  match other x b with
  | some o => if ltC (hear cl o i x.c) cur then hear cl o i x.c else cur
  | none => cur
def hearL (cl : List Cm) (b : Nat) : Nat → List Cb → Cm → Cm
  | _, [], cur => cur
  | i, x :: L, cur => hearL cl b (i + 1) L (hearS cl b i x cur)
def nextC (L : List Cb) (cl : List Cm) (b : Nat) : Cm := hearL cl b 0 L (own b)
def nextL (n : Nat) (L : List Cb) (cl : List Cm) : List Cm := (List.range n).map (nextC L cl)
def firstL (n : Nat) : List Cm := (List.range n).map own
theorem nextL_at (n : Nat) (L : List Cb) (cl : List Cm) (b : Nat) (h : b < n) : getC (nextL n L cl) b = nextC L cl b := by simp [getC, nextL, List.getD_eq_getElem?_getD, h]
theorem firstL_at (n b : Nat) (h : b < n) : getC (firstL n) b = own b := by simp [getC, firstL, List.getD_eq_getElem?_getD, h]
theorem nextL_len (n : Nat) (L : List Cb) (cl : List Cm) : (nextL n L cl).length = n := by simp [nextL]
theorem firstL_len (n : Nat) : (firstL n).length = n := by simp [firstL]
/-- what is heard over cables i, i + 1, ..: the least -/
theorem hearL_spec (cl : List Cm) (b : Nat) : ∀ (L : List Cb) (i : Nat) (cur : Cm),
    (hearL cl b i L cur = cur ∨ ∃ j x o, L[j]? = some x ∧ other x b = some o ∧ hearL cl b i L cur = hear cl o (i + j) x.c) ∧
    (¬ ltC cur (hearL cl b i L cur)) ∧ ∀ j x o, L[j]? = some x → other x b = some o → ¬ ltC (hear cl o (i + j) x.c) (hearL cl b i L cur) := by
  intro L
  induction L with
  | nil =>
    intro i cur
    refine ⟨.inl rfl, ?_, fun j x o h => by simp at h⟩
    show ¬ ltC cur cur
    unfold ltC; omega
  | cons y L ih =>
    intro i cur
    obtain ⟨h1, h2, h3⟩ := ih (i + 1) (hearS cl b i y cur)
    have hlow : ¬ ltC cur (hearS cl b i y cur) ∧ ∀ o, other y b = some o → ¬ ltC (hear cl o i y.c) (hearS cl b i y cur) := by
      unfold hearS
      cases ho : other y b with
      | none => exact ⟨by dsimp only; unfold ltC; omega, fun o h => by cases h⟩
      | some o =>
        dsimp only
        by_cases hc : ltC (hear cl o i y.c) cur
        · rw [if_pos hc]
          refine ⟨fun h => ?_, fun o' h => ?_⟩
          · have := h.trans hc
            unfold ltC at this; omega
          · obtain rfl := Option.some.inj h
            unfold ltC; omega
        · rw [if_neg hc]
          refine ⟨by unfold ltC; omega, fun o' h => ?_⟩
          obtain rfl := Option.some.inj h
          exact hc
    have tr : ∀ z, ¬ ltC z (hearS cl b i y cur) → ¬ ltC z (hearL cl b (i + 1) L (hearS cl b i y cur)) := by
      intro z hz hz'
      unfold ltC at hz hz' h2
      omega
    refine ⟨?_, tr _ hlow.1, fun j x o hj ho => ?_⟩
    · rcases h1 with h1 | ⟨j, x, o, hj, ho, h1⟩
      · show hearL cl b (i + 1) L (hearS cl b i y cur) = cur ∨ _
        unfold hearS at h1
        cases ho : other y b with
        | none => rw [ho] at h1; left; unfold hearS; rw [ho]; exact h1
        | some o =>
          rw [ho] at h1
          dsimp only at h1
          by_cases hc : ltC (hear cl o i y.c) cur
          · rw [if_pos hc] at h1
            refine .inr ⟨0, y, o, rfl, ho, ?_⟩
            show hearL cl b (i + 1) L (hearS cl b i y cur) = hear cl o (i + 0) y.c
            unfold hearS; rw [ho]; dsimp only; rw [if_pos hc]; exact h1
          · rw [if_neg hc] at h1
            left; unfold hearS; rw [ho]; dsimp only; rw [if_neg hc]; exact h1
      · exact .inr ⟨j + 1, x, o, by simpa using hj, ho, by show hearL cl b (i + 1) L _ = _; rw [h1]; congr 1; omega⟩
    · match j, hj with
      | 0, hj =>
        obtain rfl : y = x := by simpa using hj
        exact tr _ (hlow.2 o ho)
      | j + 1, hj =>
        have := h3 j x o (by simpa using hj) ho
        rw [show i + (j + 1) = i + 1 + j by omega]
        exact this
theorem next_spec (L : List Cb) (cl : List Cm) (b : Nat) :
    (nextC L cl b = own b ∨ ∃ j x o, L[j]? = some x ∧ other x b = some o ∧ nextC L cl b = hear cl o j x.c) ∧
    (¬ ltC (own b) (nextC L cl b)) ∧ ∀ j x o, L[j]? = some x → other x b = some o → ¬ ltC (hear cl o j x.c) (nextC L cl b) := by
  obtain ⟨h1, h2, h3⟩ := hearL_spec cl b L 0 (own b)
  refine ⟨?_, h2, fun j x o hj ho => by have := h3 j x o hj ho; rwa [Nat.zero_add] at this⟩
  rcases h1 with h1 | ⟨j, x, o, hj, ho, h1⟩
  · exact .inl h1
  · exact .inr ⟨j, x, o, hj, ho, by rw [Nat.zero_add] at h1; exact h1⟩
/-- less in, less out -/
theorem next_mono {L : List Cb} {cl cl' : List Cm} (h : ∀ o x, x ∈ L → (x.a = o ∨ x.b = o) → leK (getC cl o) (getC cl' o)) (b : Nat) : leK (nextC L cl b) (nextC L cl' b) := by
  obtain ⟨_, h2, h3⟩ := next_spec L cl b
  obtain ⟨k1, _, _⟩ := next_spec L cl' b
  rcases k1 with k1 | ⟨j, x, o, hj, ho, k1⟩
  · rw [k1]; exact leK_of_not h2
  · rw [k1]
    refine (leK_of_not (h3 j x o hj ho)).trans ?_
    have := h o x (List.mem_of_getElem? hj) (by rcases other_some ho with e | e; exact .inl e.1; exact .inr e.2)
    unfold leK hear at *
    dsimp only at *
    omega
/-- claims after rounds -/
def claimsL (n : Nat) (L : List Cb) (k : Nat) : List Cm := iter (nextL n L) k (firstL n)
theorem claims_succ (n : Nat) (L : List Cb) (k : Nat) : claimsL n L (k + 1) = nextL n L (claimsL n L k) := iter_succ _ _ _
theorem claims_len (n : Nat) (L : List Cb) (k : Nat) : (claimsL n L k).length = n := by
  cases k with
  | zero => exact firstL_len n
  | succ k => rw [claims_succ]; exact nextL_len _ _ _
theorem next_own {L : List Cb} (cl : List Cm) (b : Nat) : leK (nextC L cl b) (own b) := leK_of_not (next_spec L cl b).2.1
/-- claims become no greater -/
theorem claims_better {n : Nat} {L : List Cb} (hL : Okc n L) (k : Nat) : ∀ b, b < n → leK (getC (claimsL n L (k + 1)) b) (getC (claimsL n L k) b) := by
  induction k with
  | zero =>
    intro b hb
    rw [claims_succ, nextL_at _ _ _ _ hb]
    show leK _ (getC (firstL n) b)
    rw [firstL_at n b hb]
    exact next_own _ _
  | succ k ih =>
    intro b hb
    rw [claims_succ, claims_succ n L k, nextL_at _ _ _ _ hb, nextL_at _ _ _ _ hb, ← claims_succ]
    exact next_mono (fun o x hx he => ih o (by have := hL x hx; rcases he with e | e <;> omega)) b
/-- no cost of a claim is negative or great -/
theorem claims_small {n : Nat} {L : List Cb} (hL : Okc n L) (k : Nat) : ∀ b, b < n → 0 ≤ (getC (claimsL n L k) b).d ∧ (getC (claimsL n L k) b).d ≤ 99 * (k : Int) := by
  induction k with
  | zero =>
    intro b hb
    show 0 ≤ (getC (firstL n) b).d ∧ _
    show 0 ≤ (getC (firstL n) b).d ∧ (getC (firstL n) b).d ≤ 99 * ((0 : Nat) : Int)
    rw [firstL_at n b hb]
    exact ⟨Int.le_refl _, by show (0 : Int) ≤ _; omega⟩
  | succ k ih =>
    intro b hb
    rw [claims_succ, nextL_at _ _ _ _ hb]
    rcases (next_spec L (claimsL n L k) b).1 with h | ⟨j, x, o, hj, ho, h⟩
    · rw [h]; exact ⟨Int.le_refl _, by show (0 : Int) ≤ _; omega⟩
    · rw [h]
      have hx := hL x (List.mem_of_getElem? hj)
      have hon : o < n := by rcases other_some ho with e | e <;> omega
      have := ih o hon
      show 0 ≤ (getC _ o).d + x.c ∧ (getC _ o).d + x.c ≤ _
      omega
/-- the final key of b -/
def Fin' (L : List Cb) (b : Nat) (x : Cm) : Prop := ∃ r d, Rt L b r ∧ Ds L r b d ∧ x.r = (r : Int) ∧ x.d = d
/-- no claim is better than the final one -/
theorem claims_low {n : Nat} {L : List Cb} (hL : Okc n L) (k : Nat) : ∀ b, b < n → ∀ r d, Rt L b r → Ds L r b d → leK ⟨(r : Int), d, 0, 0⟩ (getC (claimsL n L k) b) := by
  induction k with
  | zero =>
    intro b hb r d hr hd
    show leK _ (getC (firstL n) b)
    rw [firstL_at n b hb]
    have := hr.le
    by_cases e : b = r
    · subst e
      have := hd.uniq (Ds.zero hL b)
      exact .inr ⟨rfl, by show d ≤ 0; omega⟩
    · exact .inl (by show (r : Int) < b; omega)
  | succ k ih =>
    intro b hb r d hr hd
    rw [claims_succ, nextL_at _ _ _ _ hb]
    rcases (next_spec L (claimsL n L k) b).1 with h | ⟨j, x, o, hj, ho, h⟩
    · rw [h]
      have := hr.le
      by_cases e : b = r
      · subst e
        have := hd.uniq (Ds.zero hL b)
        exact .inr ⟨rfl, by show d ≤ 0; omega⟩
      · exact .inl (by show (r : Int) < b; omega)
    · rw [h]
      have hm := List.mem_of_getElem? hj
      have he := other_some ho
      have hx := hL x hm
      have hon : o < n := by rcases he with e | e <;> omega
      have hro : Rt L o r := hr.to (.step (.refl _) hm he.symm)
      obtain ⟨e, hde⟩ := Ds.ex hL hro.1.symm
      have h1 := ih o hon r e hro hde
      have h2 := hde.edge hd hm he
      unfold leK hear at *
      dsimp only at *
      omega
/-- behind n - 1 rounds the keys are final -/
theorem claims_final {n : Nat} {L : List Cb} (hL : Okc n L) {k : Nat} (hk : n - 1 ≤ k) {b r : Nat} {d : Int} (hb : b < n) (hr : Rt L b r) (hd : Ds L r b d) : (getC (claimsL n L k) b).r = (r : Int) ∧ (getC (claimsL n L k) b).d = d := by
  have hrn : r < n := by have := hr.le; omega
  have hit : ∀ k s : Nat, iter (fun k => k + 1) k s = s + k := by
    intro k
    induction k with
    | zero => intro s; rfl
    | succ k ih => intro s; exact (ih (s + 1)).trans (by omega)
  have hroot : ∀ k, leK (getC (claimsL n L k) r) (own r) := by
    intro k
    cases k with
    | zero => show leK (getC (firstL n) r) _; rw [firstL_at n r hrn]; exact leK.refl _
    | succ k => rw [claims_succ, nextL_at _ _ _ _ hrn]; exact next_own _ _
  have key := rounds_full (σ := Nat) (fun k => k + 1) n (fun v k => ∀ e, Ds L r v e → leK (getC (claimsL n L k) v) ⟨(r : Int), e, 0, 0⟩) (fun v => Jn L r v) (fun v hv => hv.lt hL hrn) (fun _ => True) (fun _ _ => trivial)
    (fun k v _ hv e he => by
      by_cases hvn : v < n
      · exact (claims_better hL k v hvn).trans (hv e he)
      · exact (hvn (he.1.jn.lt hL hrn)).elim) r hrn
    (fun k _ hp => by
      by_cases hc : ∃ p w x c, x ∈ L ∧ Ends x p w ∧ Ds L r p c ∧ Ds L r w (c + x.c) ∧ (∀ e, Ds L r p e → leK (getC (claimsL n L k) p) ⟨(r : Int), e, 0, 0⟩) ∧ ¬ ∀ e, Ds L r w e → leK (getC (claimsL n L k) w) ⟨(r : Int), e, 0, 0⟩
      · obtain ⟨p, w, x, c, hx, he, hdp, hdw, hpp, hww⟩ := hc
        have hwn : w < n := hdw.1.jn.lt hL hrn
        refine .inr ⟨w, hwn, fun e hde => ?_, hww⟩
        obtain rfl := hde.uniq hdw
        rw [claims_succ, nextL_at _ _ _ _ hwn]
        obtain ⟨j, hj, ej⟩ := List.getElem_of_mem hx
        have h1 := leK_of_not ((next_spec L (claimsL n L k) w).2.2 j x p (by rw [List.getElem?_eq_getElem hj, ej]) (other_of hL hx he))
        refine h1.trans ?_
        have h2 := hpp c hdp
        unfold leK hear at *
        dsimp only at *
        omega
      · refine .inl ?_
        have hind : ∀ (m : Nat) (v : Nat) (e : Int), Ds L r v e → e.toNat ≤ m → ∀ e, Ds L r v e → leK (getC (claimsL n L k) v) ⟨(r : Int), e, 0, 0⟩ := by
          intro m
          induction m with
          | zero =>
            intro v e hv hm
            have h0 := hv.nonneg hL
            by_cases hvr : v = r
            · rw [hvr]; exact hp
            · have := hv.pos hL hvr
              omega
          | succ m ih =>
            intro v e hv hm
            by_cases hvr : v = r
            · rw [hvr]; exact hp
            · obtain ⟨p, x, hx, he, hpd⟩ := hv.pred hL hvr
              have hx1 := hL x hx
              have h0 := hpd.nonneg hL
              have ihp := ih p (e - x.c) hpd (by omega)
              rcases Classical.em (∀ e, Ds L r v e → leK (getC (claimsL n L k) v) ⟨(r : Int), e, 0, 0⟩) with h1 | h1
              · exact h1
              · exact (hc ⟨p, v, x, e - x.c, hx, he, hpd, by rw [show e - x.c + x.c = e by omega]; exact hv, ihp, h1⟩).elim
        intro v hv
        obtain ⟨e, he⟩ := Ds.ex hL hv
        exact hind e.toNat v e he (Nat.le_refl _))
    0 trivial (fun e he => by
      have := he.uniq (Ds.zero hL r)
      show leK (getC (firstL n) r) _
      rw [firstL_at n r hrn]
      exact .inr ⟨rfl, by show (0 : Int) ≤ e; omega⟩) k hk b hr.1.symm d hd
  rw [hit, Nat.zero_add] at key
  have low := claims_low hL k b hb r d hr hd
  unfold leK at key low
  dsimp only at key low
  omega
theorem hearL_congr {cl cl' : List Cm} {b : Nat} : ∀ (L : List Cb) (i : Nat) (cur : Cm), (∀ o x, x ∈ L → (x.a = o ∨ x.b = o) → (getC cl o).r = (getC cl' o).r ∧ (getC cl o).d = (getC cl' o).d) → hearL cl b i L cur = hearL cl' b i L cur := by
  intro L
  induction L with
  | nil => intro i cur _; rfl
  | cons y L ih =>
    intro i cur h
    have e : hearS cl b i y cur = hearS cl' b i y cur := by
      unfold hearS
      cases ho : other y b with
      | none => rfl
      | some o =>
        have := h o y List.mem_cons_self (by rcases other_some ho with e | e; exact .inl e.1; exact .inr e.2)
        have e2 : hear cl o i y.c = hear cl' o i y.c := by unfold hear; rw [this.1, this.2]
        dsimp only
        rw [e2]
    show hearL cl b (i + 1) L (hearS cl b i y cur) = hearL cl' b (i + 1) L (hearS cl' b i y cur)
    rw [e]
    exact ih _ _ (fun o x hx => h o x (List.mem_cons_of_mem _ hx))
/-- behind n rounds nothing changes -/
theorem claims_stable {n : Nat} {L : List Cb} (hL : Okc n L) {j : Nat} (hj : n - 1 ≤ j) : nextL n L (claimsL n L (j + 1)) = claimsL n L (j + 1) := by
  rw [claims_succ n L j]
  unfold nextL
  apply List.map_congr_left
  intro b hb
  have hb' := List.mem_range.1 hb
  refine hearL_congr L 0 _ (fun o x hx he => ?_)
  have hon : o < n := by have := hL x hx; rcases he with e | e <;> omega
  obtain ⟨r, hr⟩ := Rt.ex L o
  obtain ⟨d, hd⟩ := Ds.ex hL hr.1.symm
  have h1 := claims_final hL (k := j + 1) (by omega) hon hr hd
  have h2 := claims_final hL hj hon hr hd
  rw [claims_succ] at h1
  have e : (List.range n).map (nextC L (claimsL n L j)) = nextL n L (claimsL n L j) := rfl
  rw [e, h1.1, h1.2, h2.1, h2.2]
  exact ⟨rfl, rfl⟩
/-- behind n rounds a claim's cable is the up cable; a root has none -/
theorem claims_up {n : Nat} {L : List Cb} (hL : Okc n L) {ds : List Int} (hds : Cs n L ds) {j : Nat} (hj : n - 1 ≤ j) {b r : Nat} (hb : b < n) (hr : Rt L b r) :
    (getC (claimsL n L (j + 1)) b).r = (r : Int) ∧ (getC (claimsL n L (j + 1)) b).d = ds.getD b 0 ∧
      ((ds.getD b 0 = 0 ∧ (getC (claimsL n L (j + 1)) b).i = -1) ∨ (ds.getD b 0 ≠ 0 ∧ ∃ i o : Nat, Up L ds b i o ∧ (getC (claimsL n L (j + 1)) b).i = (i : Int))) := by
  obtain ⟨d, hd⟩ := Ds.ex hL hr.1.symm
  have hbd : ds.getD b 0 = d := (hds.2 b hb).uniq ⟨r, hr, hd⟩
  have hf := claims_final hL (k := j + 1) (by omega) hb hr hd
  refine ⟨hf.1, by rw [hf.2, hbd], ?_⟩
  have keyo : ∀ o, o < n → Jn L b o → (getC (claimsL n L j) o).r = (r : Int) ∧ (getC (claimsL n L j) o).d = ds.getD o 0 := by
    intro o ho hjo
    have hro := hr.to hjo
    obtain ⟨e, he⟩ := Ds.ex hL hro.1.symm
    have h1 := claims_final hL hj ho hro he
    exact ⟨h1.1, by rw [h1.2]; exact (Co.uniq ⟨r, hro, he⟩ (hds.2 o ho))⟩
  have hsp := next_spec L (claimsL n L j) b
  have hx : getC (claimsL n L (j + 1)) b = nextC L (claimsL n L j) b := by rw [claims_succ, nextL_at _ _ _ _ hb]
  rw [hx] at hf ⊢
  obtain ⟨s1, s2, s3⟩ := hsp
  generalize nextC L (claimsL n L j) b = X at hf s1 s2 s3 ⊢
  have hz := (hds.2 b hb).zero_iff hL hr
  have hcand : ∀ j' q, Cand L ds b j' q → ∃ x, L[j']? = some x ∧ other x b = some q ∧ hear (claimsL n L j) q j' x.c = ⟨(r : Int), d, (q : Int), (j' : Int)⟩ := by
    rintro j' q ⟨x, h1, h2, h3⟩
    have hm := List.mem_of_getElem? h1
    have hxx := hL x hm
    have hqn : q < n := by rcases h2 with e | e <;> omega
    obtain ⟨k1, k2⟩ := keyo q hqn (.step (.refl _) hm h2.symm)
    refine ⟨x, h1, other_of hL hm h2, ?_⟩
    unfold hear
    rw [k1, k2, h3, hbd]
  by_cases e0 : ds.getD b 0 = 0
  · refine .inl ⟨e0, ?_⟩
    rcases s1 with s1 | ⟨j', x, o, h1, h2, h3⟩
    · rw [s1]; rfl
    · exfalso
      have hm := List.mem_of_getElem? h1
      have he := other_some h2
      have hxx := hL x hm
      have hon : o < n := by rcases he with e | e <;> omega
      obtain ⟨k1, k2⟩ := keyo o hon (.step (.refl _) hm he.symm)
      have := (hds.2 o hon).nonneg hL
      have h4 := hf.2
      rw [h3] at h4
      unfold hear at h4
      dsimp only at h4
      omega
  · refine .inr ⟨e0, ?_⟩
    obtain ⟨i, o, hu⟩ := Up.ex hL hds hb e0
    refine ⟨i, o, hu, ?_⟩
    rcases s1 with s1 | ⟨j', x, o', h1, h2, h3⟩
    · exfalso
      rw [s1] at hf
      have h4 : (0 : Int) = d := hf.2
      omega
    · have hm := List.mem_of_getElem? h1
      have he := other_some h2
      have hxx := hL x hm
      have hon : o' < n := by rcases he with e | e <;> omega
      obtain ⟨k1, k2⟩ := keyo o' hon (.step (.refl _) hm he.symm)
      have h4 := hf.2
      rw [h3] at h4
      have h4' : (getC (claimsL n L j) o').d + x.c = d := h4
      have hc : Cand L ds b j' o' := ⟨x, h1, he, by rw [← k2, hbd]; exact h4'⟩
      have u1 := hu.2 j' o' hc
      obtain ⟨y, y1, y2, y3⟩ := hcand i o hu.1
      have u2 := s3 i y o y1 y2
      obtain ⟨z, z1, z2, z3⟩ := hcand j' o' hc
      obtain rfl : x = z := by rw [h1] at z1; exact Option.some.inj z1
      rw [y3, h3, z3] at u2
      rw [h3]
      show (j' : Int) = (i : Int)
      unfold ltC at u2
      dsimp only at u2
      omega

/-! ### the tree (plain) -/
open Classical in
noncomputable def treeL (n : Nat) (L : List Cb) (ds : List Int) : List Nat := (List.range L.length).filter fun i => decide (∃ b o, b < n ∧ Up L ds b i o)
open Classical in
theorem tree_mem {n : Nat} {L : List Cb} {ds : List Int} {i : Nat} : i ∈ treeL n L ds ↔ ∃ b o, b < n ∧ Up L ds b i o := by
  unfold treeL
  rw [List.mem_filter, List.mem_range, decide_eq_true_eq]
  exact ⟨fun h => h.2, fun h => ⟨by obtain ⟨b, o, _, hu⟩ := h; exact hu.1.lt, h⟩⟩
theorem tree_lt {n : Nat} {L : List Cb} {ds : List Int} {i : Nat} (h : i ∈ treeL n L ds) : i < L.length := by
  unfold treeL at h
  exact List.mem_range.1 (List.mem_filter.1 h).1
theorem tree_sorted (n : Nat) (L : List Cb) (ds : List Int) : (treeL n L ds).Pairwise (· < ·) := by
  unfold treeL
  exact List.Pairwise.filter _ List.pairwise_lt_range
def noCb : Cb := ⟨0, 0, 0⟩
/-- the cables of a list of indices -/
def pickL (L : List Cb) (T : List Nat) : List Cb := T.map fun i => L.getD i noCb
theorem pick_mem {L : List Cb} {T : List Nat} (hT : ∀ i ∈ T, i < L.length) {x : Cb} : x ∈ pickL L T ↔ ∃ i ∈ T, L[i]? = some x := by
  unfold pickL
  rw [List.mem_map]
  constructor
  · rintro ⟨i, hi, rfl⟩
    exact ⟨i, hi, by simp [List.getD_eq_getElem?_getD, hT i hi]⟩
  · rintro ⟨i, hi, hx⟩
    exact ⟨i, hi, by rw [List.getD_eq_getElem?_getD, hx]; rfl⟩
theorem pick_ok {n : Nat} {L : List Cb} (hL : Okc n L) {T : List Nat} (hT : ∀ i ∈ T, i < L.length) : Okc n (pickL L T) ∧ ∀ x ∈ pickL L T, x ∈ L := by
  have h : ∀ x ∈ pickL L T, x ∈ L := fun x hx => by
    obtain ⟨i, _, hi⟩ := (pick_mem hT).1 hx
    exact List.mem_of_getElem? hi
  exact ⟨fun x hx => hL x (h x hx), h⟩
theorem tree_wk {n : Nat} {L : List Cb} (hL : Okc n L) {ds : List Int} (hds : Cs n L ds) : ∀ (m : Nat) (b r : Nat), b < n → Rt L b r → (ds.getD b 0).toNat ≤ m → Wk (pickL L (treeL n L ds)) r b (ds.getD b 0) := by
  intro m
  induction m with
  | zero =>
    intro b r hb hr hm
    have h0 := (hds.2 b hb).nonneg hL
    have hz : ds.getD b 0 = 0 := by omega
    have := ((hds.2 b hb).zero_iff hL hr).1 hz
    rw [hz, this]; exact .nil
  | succ m ih =>
    intro b r hb hr hm
    by_cases hz : ds.getD b 0 = 0
    · have := ((hds.2 b hb).zero_iff hL hr).1 hz
      rw [hz, this]; exact .nil
    · obtain ⟨i, o, hu⟩ := Up.ex hL hds hb hz
      have he := hu.1.ends hL
      have hd := hu.1.down hL
      have ho := (hds.2 o he.2.1).nonneg hL
      obtain ⟨x, hx, hxe, hxd⟩ := id hu.1
      have hm' := List.mem_of_getElem? hx
      have hro : Rt L o r := hr.to (.step (.refl _) hm' hxe.symm)
      have := ih o r he.2.1 hro (by omega)
      rw [← hxd]
      exact .step this ((pick_mem (fun i hi => tree_lt hi)).2 ⟨i, tree_mem.2 ⟨b, o, hb, hu⟩, hx⟩) hxe
theorem tree_keeps {n : Nat} {L : List Cb} (hL : Okc n L) {ds : List Int} (hds : Cs n L ds) {b r : Nat} (hb : b < n) (hr : Rt L b r) : Rt (pickL L (treeL n L ds)) b r ∧ Co (pickL L (treeL n L ds)) b (ds.getD b 0) := by
  have hw := tree_wk hL hds (ds.getD b 0).toNat b r hb hr (Nat.le_refl _)
  have hs := (pick_ok hL (T := treeL n L ds) (fun i hi => tree_lt hi)).2
  have h1 : Rt (pickL L (treeL n L ds)) b r := ⟨hw.jn.symm, fun x hx => hr.2 x (hx.sub hs)⟩
  refine ⟨h1, r, h1, hw, fun e he => ?_⟩
  obtain ⟨r', hr', hd'⟩ := hds.2 b hb
  obtain rfl := hr'.uniq hr
  exact hd'.2 e (he.sub hs)
theorem tree_cs {n : Nat} {L : List Cb} (hL : Okc n L) {ds : List Int} (hds : Cs n L ds) : Cs n (pickL L (treeL n L ds)) ds := ⟨hds.1, fun b hb => by
  obtain ⟨r, hr⟩ := Rt.ex L b
  exact (tree_keeps hL hds hb hr).2⟩
/-- x lies at b or above which b lies -/
inductive Des (L : List Cb) (ds : List Int) (b : Nat) : Nat → Prop
  | here : Des L ds b b
  | up {x i o : Nat} : Up L ds x i o → Des L ds b o → Des L ds b x
theorem Des.ge {n : Nat} {L : List Cb} (hL : Okc n L) {ds : List Int} {b x : Nat} (h : Des L ds b x) : ds.getD b 0 ≤ ds.getD x 0 := by
  induction h with
  | here => exact Int.le_refl _
  | up hu _ ih =>
    have := hu.1.down hL
    omega
/-- without a cable of the tree its ends are no longer joined -/
theorem tree_less {n : Nat} {L : List Cb} (hL : Okc n L) {ds : List Int} {T : List Nat} (hT : ∀ i ∈ T, i < L.length ∧ ∃ b o, b < n ∧ Up L ds b i o) {k b o : Nat} (hk : Up L ds b k o) (hkT : k ∉ T) : ¬ Jn (pickL L T) b o := by
  intro hj
  have key : ∀ u v, Jn (pickL L T) u v → (Des L ds b u ↔ Des L ds b v) := by
    intro u v h
    induction h with
    | refl => exact Iff.rfl
    | step _ hx he ih =>
      rename_i v w x
      refine ih.trans ?_
      obtain ⟨j, hjT, hxj⟩ := (pick_mem (fun i hi => (hT i hi).1)).1 hx
      obtain ⟨_, b', o', _, hu⟩ := hT j hjT
      have hjk : j ≠ k := fun e => hkT (e ▸ hjT)
      have base : Des L ds b b' ↔ Des L ds b o' := by
        constructor
        · intro hd
          cases hd with
          | here => exact (hjk (hu.uniq hk).1).elim
          | up hu' hd' =>
            obtain ⟨_, rfl⟩ := hu.uniq hu'
            exact hd'
        · intro hd; exact .up hu hd
      obtain ⟨y, hy, hye, _⟩ := hu.1
      rw [hxj] at hy
      obtain rfl := Option.some.inj hy
      rcases he with ⟨h1, h2⟩ | ⟨h1, h2⟩ <;> rcases hye with ⟨h3, h4⟩ | ⟨h3, h4⟩
      · rw [← h1, ← h2, h3, h4]; exact base.symm
      · rw [← h1, ← h2, h3, h4]; exact base
      · rw [← h1, ← h2, h3, h4]; exact base
      · rw [← h1, ← h2, h3, h4]; exact base.symm
  have h1 := ((key b o hj).1 .here).ge hL
  have := hk.1.down hL
  omega

end Go.Proofs.Ytegnghbgkiddoaa.Q

/- Plain lemmas on what the printed functions compute (seat Ytegnghbgkiddoaa, module QMb). Conditions: each lemma's own. -/
import Derived.Test.YtegnghbgkiddoaaQMa
import Derived.Test.YtegnghbgkiddoaaPA0
set_option linter.unusedVariables false
set_option linter.unusedSimpArgs false
namespace Go.Proofs.Ytegnghbgkiddoaa.Q
open Go Go.RowKit Go.Proofs.Ytegnghbgkiddoaa.PA Go.Proofs.YtegnghbgkiddoaaW.PrintWords Go.Proofs.YtegnghbgkiddoaaW.PrintLast

/-! ### claims (plain): a claim is a root, a cost, a neighbour, a cable -/
structure Cm where
  r : Int
  d : Int
  o : Int
  i : Int
deriving DecidableEq
def ltC (x y : Cm) : Prop := x.r < y.r ∨ (x.r = y.r ∧ (x.d < y.d ∨ (x.d = y.d ∧ (x.o < y.o ∨ (x.o = y.o ∧ x.i < y.i)))))
instance (x y : Cm) : Decidable (ltC x y) := by unfold ltC; infer_instance
/-- root and cost alone -/
def leK (x y : Cm) : Prop := x.r < y.r ∨ (x.r = y.r ∧ x.d ≤ y.d)
theorem leK.refl (x : Cm) : leK x x := .inr ⟨rfl, Int.le_refl _⟩
theorem leK.trans {x y z : Cm} (h : leK x y) (k : leK y z) : leK x z := by
  unfold leK at *; omega
theorem leK_of_lt {x y : Cm} (h : ltC x y) : leK x y := by
  unfold ltC at h; unfold leK; omega
theorem leK_of_not {x y : Cm} (h : ¬ ltC x y) : leK y x := by
  unfold ltC at h; unfold leK; omega
theorem ltC.trans {x y z : Cm} (h : ltC x y) (k : ltC y z) : ltC x z := by
  unfold ltC at *; omega
def own (b : Nat) : Cm := ⟨(b : Int), 0, -1, -1⟩
def getC (cl : List Cm) (o : Nat) : Cm := cl.getD o ⟨0, 0, 0, 0⟩
/-- what b hears over cable i of o -/
def hear (cl : List Cm) (o i : Nat) (c : Int) : Cm := ⟨(getC cl o).r, (getC cl o).d + c, (o : Int), (i : Int)⟩
/-- one more cable -/
def hearS (cl : List Cm) (b i : Nat) (x : Cb) (cur : Cm) : Cm :=
  match other x b with
  | some o => if ltC (hear cl o i x.c) cur then hear cl o i x.c else cur
  | none => cur
def hearL (cl : List Cm) (b : Nat) : Nat → List Cb → Cm → Cm
  | _, [], cur => cur
  | i, x :: L, cur => hearL cl b (i + 1) L (hearS cl b i x cur)
def nextC (L : List Cb) (cl : List Cm) (b : Nat) : Cm := hearL cl b 0 L (own b)
def nextL (n : Nat) (L : List Cb) (cl : List Cm) : List Cm := (List.range n).map (nextC L cl)
def firstL (n : Nat) : List Cm := (List.range n).map own
theorem nextL_at (n : Nat) (L : List Cb) (cl : List Cm) (b : Nat) (h : b < n) : getC (nextL n L cl) b = nextC L cl b := by simp [getC, nextL, List.getD_eq_getElem?_getD, h]
theorem firstL_at (n b : Nat) (h : b < n) : getC (firstL n) b = own b := by simp [getC, firstL, List.getD_eq_getElem?_getD, h]
theorem nextL_len (n : Nat) (L : List Cb) (cl : List Cm) : (nextL n L cl).length = n := by simp [nextL]
theorem firstL_len (n : Nat) : (firstL n).length = n := by simp [firstL]
/-- what is heard over cables i, i + 1, ..: the least -/
theorem hearL_spec (cl : List Cm) (b : Nat) : ∀ (L : List Cb) (i : Nat) (cur : Cm),
    (hearL cl b i L cur = cur ∨ ∃ j x o, L[j]? = some x ∧ other x b = some o ∧ hearL cl b i L cur = hear cl o (i + j) x.c) ∧
    (¬ ltC cur (hearL cl b i L cur)) ∧ ∀ j x o, L[j]? = some x → other x b = some o → ¬ ltC (hear cl o (i + j) x.c) (hearL cl b i L cur) := by
  intro L
  induction L with
  | nil =>
    intro i cur
    refine ⟨.inl rfl, ?_, fun j x o h => by simp at h⟩
    show ¬ ltC cur cur
    unfold ltC; omega
  | cons y L ih =>
    intro i cur
    obtain ⟨h1, h2, h3⟩ := ih (i + 1) (hearS cl b i y cur)
    have hlow : ¬ ltC cur (hearS cl b i y cur) ∧ ∀ o, other y b = some o → ¬ ltC (hear cl o i y.c) (hearS cl b i y cur) := by
      unfold hearS
      cases ho : other y b with
      | none => exact ⟨by dsimp only; unfold ltC; omega, fun o h => by cases h⟩
      | some o =>
        dsimp only
        by_cases hc : ltC (hear cl o i y.c) cur
        · rw [if_pos hc]
          refine ⟨fun h => ?_, fun o' h => ?_⟩
          · have := h.trans hc
            unfold ltC at this; omega
          · obtain rfl := Option.some.inj h
            unfold ltC; omega
        · rw [if_neg hc]
          refine ⟨by unfold ltC; omega, fun o' h => ?_⟩
          obtain rfl := Option.some.inj h
          exact hc
    have tr : ∀ z, ¬ ltC z (hearS cl b i y cur) → ¬ ltC z (hearL cl b (i + 1) L (hearS cl b i y cur)) := by
      intro z hz hz'
      unfold ltC at hz hz' h2
      omega
    refine ⟨?_, tr _ hlow.1, fun j x o hj ho => ?_⟩
    · rcases h1 with h1 | ⟨j, x, o, hj, ho, h1⟩
      · show hearL cl b (i + 1) L (hearS cl b i y cur) = cur ∨ _
        unfold hearS at h1
        cases ho : other y b with
        | none => rw [ho] at h1; left; unfold hearS; rw [ho]; exact h1
        | some o =>
          rw [ho] at h1
          dsimp only at h1
          by_cases hc : ltC (hear cl o i y.c) cur
          · rw [if_pos hc] at h1
            refine .inr ⟨0, y, o, rfl, ho, ?_⟩
            show hearL cl b (i + 1) L (hearS cl b i y cur) = hear cl o (i + 0) y.c
            unfold hearS; rw [ho]; dsimp only; rw [if_pos hc]; exact h1
          · rw [if_neg hc] at h1
            left; unfold hearS; rw [ho]; dsimp only; rw [if_neg hc]; exact h1
      · exact .inr ⟨j + 1, x, o, by simpa using hj, ho, by show hearL cl b (i + 1) L _ = _; rw [h1]; congr 1; omega⟩
    · match j, hj with
      | 0, hj =>
        obtain rfl : y = x := by simpa using hj
        exact tr _ (hlow.2 o ho)
      | j + 1, hj =>
        have := h3 j x o (by simpa using hj) ho
        rw [show i + (j + 1) = i + 1 + j by omega]
        exact this
theorem next_spec (L : List Cb) (cl : List Cm) (b : Nat) :
    (nextC L cl b = own b ∨ ∃ j x o, L[j]? = some x ∧ other x b = some o ∧ nextC L cl b = hear cl o j x.c) ∧
    (¬ ltC (own b) (nextC L cl b)) ∧ ∀ j x o, L[j]? = some x → other x b = some o → ¬ ltC (hear cl o j x.c) (nextC L cl b) := by
  obtain ⟨h1, h2, h3⟩ := hearL_spec cl b L 0 (own b)
  refine ⟨?_, h2, fun j x o hj ho => by have := h3 j x o hj ho; rwa [Nat.zero_add] at this⟩
  rcases h1 with h1 | ⟨j, x, o, hj, ho, h1⟩
  · exact .inl h1
  · exact .inr ⟨j, x, o, hj, ho, by rw [Nat.zero_add] at h1; exact h1⟩
/-- less in, less out -/
theorem next_mono {L : List Cb} {cl cl' : List Cm} (h : ∀ o x, x ∈ L → (x.a = o ∨ x.b = o) → leK (getC cl o) (getC cl' o)) (b : Nat) : leK (nextC L cl b) (nextC L cl' b) := by
  obtain ⟨_, h2, h3⟩ := next_spec L cl b
  obtain ⟨k1, _, _⟩ := next_spec L cl' b
  rcases k1 with k1 | ⟨j, x, o, hj, ho, k1⟩
  · rw [k1]; exact leK_of_not h2
  · rw [k1]
    refine (leK_of_not (h3 j x o hj ho)).trans ?_
    have := h o x (List.mem_of_getElem? hj) (by rcases other_some ho with e | e; exact .inl e.1; exact .inr e.2)
    unfold leK hear at *
    dsimp only at *
    omega
/-- claims after rounds -/
def claimsL (n : Nat) (L : List Cb) (k : Nat) : List Cm := iter (nextL n L) k (firstL n)
theorem claims_succ (n : Nat) (L : List Cb) (k : Nat) : claimsL n L (k + 1) = nextL n L (claimsL n L k) := iter_succ _ _ _
theorem claims_len (n : Nat) (L : List Cb) (k : Nat) : (claimsL n L k).length = n := by
  cases k with
  | zero => exact firstL_len n
  | succ k => rw [claims_succ]; exact nextL_len _ _ _
theorem next_own {L : List Cb} (cl : List Cm) (b : Nat) : leK (nextC L cl b) (own b) := leK_of_not (next_spec L cl b).2.1
/-- claims become no greater -/
theorem claims_better {n : Nat} {L : List Cb} (hL : Okc n L) (k : Nat) : ∀ b, b < n → leK (getC (claimsL n L (k + 1)) b) (getC (claimsL n L k) b) := by
  induction k with
  | zero =>
    intro b hb
    rw [claims_succ, nextL_at _ _ _ _ hb]
    show leK _ (getC (firstL n) b)
    rw [firstL_at n b hb]
    exact next_own _ _
  | succ k ih =>
    intro b hb
    rw [claims_succ, claims_succ n L k, nextL_at _ _ _ _ hb, nextL_at _ _ _ _ hb, ← claims_succ]
    exact next_mono (fun o x hx he => ih o (by have := hL x hx; rcases he with e | e <;> omega)) b
/-- no cost of a claim is negative or great -/
theorem claims_small {n : Nat} {L : List Cb} (hL : Okc n L) (k : Nat) : ∀ b, b < n → 0 ≤ (getC (claimsL n L k) b).d ∧ (getC (claimsL n L k) b).d ≤ 99 * (k : Int) := by
  induction k with
  | zero =>
    intro b hb
    show 0 ≤ (getC (firstL n) b).d ∧ _
    show 0 ≤ (getC (firstL n) b).d ∧ (getC (firstL n) b).d ≤ 99 * ((0 : Nat) : Int)
    rw [firstL_at n b hb]
    exact ⟨Int.le_refl _, by show (0 : Int) ≤ _; omega⟩
  | succ k ih =>
    intro b hb
    rw [claims_succ, nextL_at _ _ _ _ hb]
    rcases (next_spec L (claimsL n L k) b).1 with h | ⟨j, x, o, hj, ho, h⟩
    · rw [h]; exact ⟨Int.le_refl _, by show (0 : Int) ≤ _; omega⟩
    · rw [h]
      have hx := hL x (List.mem_of_getElem? hj)
      have hon : o < n := by rcases other_some ho with e | e <;> omega
      have := ih o hon
      show 0 ≤ (getC _ o).d + x.c ∧ (getC _ o).d + x.c ≤ _
      omega
/-- the final key of b -/
def Fin' (L : List Cb) (b : Nat) (x : Cm) : Prop := ∃ r d, Rt L b r ∧ Ds L r b d ∧ x.r = (r : Int) ∧ x.d = d
/-- no claim is better than the final one -/
theorem claims_low {n : Nat} {L : List Cb} (hL : Okc n L) (k : Nat) : ∀ b, b < n → ∀ r d, Rt L b r → Ds L r b d → leK ⟨(r : Int), d, 0, 0⟩ (getC (claimsL n L k) b) := by
  induction k with
  | zero =>
    intro b hb r d hr hd
    show leK _ (getC (firstL n) b)
    rw [firstL_at n b hb]
    have := hr.le
    by_cases e : b = r
    · subst e
      have := hd.uniq (Ds.zero hL b)
      exact .inr ⟨rfl, by show d ≤ 0; omega⟩
    · exact .inl (by show (r : Int) < b; omega)
  | succ k ih =>
    intro b hb r d hr hd
    rw [claims_succ, nextL_at _ _ _ _ hb]
    rcases (next_spec L (claimsL n L k) b).1 with h | ⟨j, x, o, hj, ho, h⟩
    · rw [h]
      have := hr.le
      by_cases e : b = r
      · subst e
        have := hd.uniq (Ds.zero hL b)
        exact .inr ⟨rfl, by show d ≤ 0; omega⟩
      · exact .inl (by show (r : Int) < b; omega)
    · rw [h]
      have hm := List.mem_of_getElem? hj
      have he := other_some ho
      have hx := hL x hm
      have hon : o < n := by rcases he with e | e <;> omega
      have hro : Rt L o r := hr.to (.step (.refl _) hm he.symm)
      obtain ⟨e, hde⟩ := Ds.ex hL hro.1.symm
      have h1 := ih o hon r e hro hde
      have h2 := hde.edge hd hm he
      unfold leK hear at *
      dsimp only at *
      omega
/-- behind n - 1 rounds the keys are final -/
theorem claims_final {n : Nat} {L : List Cb} (hL : Okc n L) {k : Nat} (hk : n - 1 ≤ k) {b r : Nat} {d : Int} (hb : b < n) (hr : Rt L b r) (hd : Ds L r b d) : (getC (claimsL n L k) b).r = (r : Int) ∧ (getC (claimsL n L k) b).d = d := by
  have hrn : r < n := by have := hr.le; omega
  have hit : ∀ k s : Nat, iter (fun k => k + 1) k s = s + k := by
    intro k
    induction k with
    | zero => intro s; rfl
    | succ k ih => intro s; exact (ih (s + 1)).trans (by omega)
  have hroot : ∀ k, leK (getC (claimsL n L k) r) (own r) := by
    intro k
    cases k with
    | zero => show leK (getC (firstL n) r) _; rw [firstL_at n r hrn]; exact leK.refl _
    | succ k => rw [claims_succ, nextL_at _ _ _ _ hrn]; exact next_own _ _
  have key := rounds_full (σ := Nat) (fun k => k + 1) n (fun v k => ∀ e, Ds L r v e → leK (getC (claimsL n L k) v) ⟨(r : Int), e, 0, 0⟩) (fun v => Jn L r v) (fun v hv => hv.lt hL hrn) (fun _ => True) (fun _ _ => trivial)
    (fun k v _ hv e he => by
      by_cases hvn : v < n
      · exact (claims_better hL k v hvn).trans (hv e he)
      · exact (hvn (he.1.jn.lt hL hrn)).elim) r hrn
    (fun k _ hp => by
      by_cases hc : ∃ p w x c, x ∈ L ∧ Ends x p w ∧ Ds L r p c ∧ Ds L r w (c + x.c) ∧ (∀ e, Ds L r p e → leK (getC (claimsL n L k) p) ⟨(r : Int), e, 0, 0⟩) ∧ ¬ ∀ e, Ds L r w e → leK (getC (claimsL n L k) w) ⟨(r : Int), e, 0, 0⟩
      · obtain ⟨p, w, x, c, hx, he, hdp, hdw, hpp, hww⟩ := hc
        have hwn : w < n := hdw.1.jn.lt hL hrn
        refine .inr ⟨w, hwn, fun e hde => ?_, hww⟩
        obtain rfl := hde.uniq hdw
        rw [claims_succ, nextL_at _ _ _ _ hwn]
        obtain ⟨j, hj, ej⟩ := List.getElem_of_mem hx
        have h1 := leK_of_not ((next_spec L (claimsL n L k) w).2.2 j x p (by rw [List.getElem?_eq_getElem hj, ej]) (other_of hL hx he))
        refine h1.trans ?_
        have h2 := hpp c hdp
        unfold leK hear at *
        dsimp only at *
        omega
      · refine .inl ?_
        have hind : ∀ (m : Nat) (v : Nat) (e : Int), Ds L r v e → e.toNat ≤ m → ∀ e, Ds L r v e → leK (getC (claimsL n L k) v) ⟨(r : Int), e, 0, 0⟩ := by
          intro m
          induction m with
          | zero =>
            intro v e hv hm
            have h0 := hv.nonneg hL
            by_cases hvr : v = r
            · rw [hvr]; exact hp
            · have := hv.pos hL hvr
              omega
          | succ m ih =>
            intro v e hv hm
            by_cases hvr : v = r
            · rw [hvr]; exact hp
            · obtain ⟨p, x, hx, he, hpd⟩ := hv.pred hL hvr
              have hx1 := hL x hx
              have h0 := hpd.nonneg hL
              have ihp := ih p (e - x.c) hpd (by omega)
              rcases Classical.em (∀ e, Ds L r v e → leK (getC (claimsL n L k) v) ⟨(r : Int), e, 0, 0⟩) with h1 | h1
              · exact h1
              · exact (hc ⟨p, v, x, e - x.c, hx, he, hpd, by rw [show e - x.c + x.c = e by omega]; exact hv, ihp, h1⟩).elim
        intro v hv
        obtain ⟨e, he⟩ := Ds.ex hL hv
        exact hind e.toNat v e he (Nat.le_refl _))
    0 trivial (fun e he => by
      have := he.uniq (Ds.zero hL r)
      show leK (getC (firstL n) r) _
      rw [firstL_at n r hrn]
      exact .inr ⟨rfl, by show (0 : Int) ≤ e; omega⟩) k hk b hr.1.symm d hd
  rw [hit, Nat.zero_add] at key
  have low := claims_low hL k b hb r d hr hd
  unfold leK at key low
  dsimp only at key low
  omega
theorem hearL_congr {cl cl' : List Cm} {b : Nat} : ∀ (L : List Cb) (i : Nat) (cur : Cm), (∀ o x, x ∈ L → (x.a = o ∨ x.b = o) → (getC cl o).r = (getC cl' o).r ∧ (getC cl o).d = (getC cl' o).d) → hearL cl b i L cur = hearL cl' b i L cur := by
  intro L
  induction L with
  | nil => intro i cur _; rfl
  | cons y L ih =>
    intro i cur h
    have e : hearS cl b i y cur = hearS cl' b i y cur := by
      unfold hearS
      cases ho : other y b with
      | none => rfl
      | some o =>
        have := h o y List.mem_cons_self (by rcases other_some ho with e | e; exact .inl e.1; exact .inr e.2)
        have e2 : hear cl o i y.c = hear cl' o i y.c := by unfold hear; rw [this.1, this.2]
        dsimp only
        rw [e2]
    show hearL cl b (i + 1) L (hearS cl b i y cur) = hearL cl' b (i + 1) L (hearS cl' b i y cur)
    rw [e]
    exact ih _ _ (fun o x hx => h o x (List.mem_cons_of_mem _ hx))
/-- behind n rounds nothing changes -/
theorem claims_stable {n : Nat} {L : List Cb} (hL : Okc n L) {j : Nat} (hj : n - 1 ≤ j) : nextL n L (claimsL n L (j + 1)) = claimsL n L (j + 1) := by
  rw [claims_succ n L j]
  unfold nextL
  apply List.map_congr_left
  intro b hb
  have hb' := List.mem_range.1 hb
  refine hearL_congr L 0 _ (fun o x hx he => ?_)
  have hon : o < n := by have := hL x hx; rcases he with e | e <;> omega
  obtain ⟨r, hr⟩ := Rt.ex L o
  obtain ⟨d, hd⟩ := Ds.ex hL hr.1.symm
  have h1 := claims_final hL (k := j + 1) (by omega) hon hr hd
  have h2 := claims_final hL hj hon hr hd
  rw [claims_succ] at h1
  have e : (List.range n).map (nextC L (claimsL n L j)) = nextL n L (claimsL n L j) := rfl
  rw [e, h1.1, h1.2, h2.1, h2.2]
  exact ⟨rfl, rfl⟩
/-- behind n rounds a claim's cable is the up cable; a root has none -/
theorem claims_up {n : Nat} {L : List Cb} (hL : Okc n L) {ds : List Int} (hds : Cs n L ds) {j : Nat} (hj : n - 1 ≤ j) {b r : Nat} (hb : b < n) (hr : Rt L b r) :
    (getC (claimsL n L (j + 1)) b).r = (r : Int) ∧ (getC (claimsL n L (j + 1)) b).d = ds.getD b 0 ∧
      ((ds.getD b 0 = 0 ∧ (getC (claimsL n L (j + 1)) b).i = -1) ∨ (ds.getD b 0 ≠ 0 ∧ ∃ i o : Nat, Up L ds b i o ∧ (getC (claimsL n L (j + 1)) b).i = (i : Int))) := by
  obtain ⟨d, hd⟩ := Ds.ex hL hr.1.symm
  have hbd : ds.getD b 0 = d := (hds.2 b hb).uniq ⟨r, hr, hd⟩
  have hf := claims_final hL (k := j + 1) (by omega) hb hr hd
  refine ⟨hf.1, by rw [hf.2, hbd], ?_⟩
  have keyo : ∀ o, o < n → Jn L b o → (getC (claimsL n L j) o).r = (r : Int) ∧ (getC (claimsL n L j) o).d = ds.getD o 0 := by
    intro o ho hjo
    have hro := hr.to hjo
    obtain ⟨e, he⟩ := Ds.ex hL hro.1.symm
    have h1 := claims_final hL hj ho hro he
    exact ⟨h1.1, by rw [h1.2]; exact (Co.uniq ⟨r, hro, he⟩ (hds.2 o ho))⟩
  have hsp := next_spec L (claimsL n L j) b
  have hx : getC (claimsL n L (j + 1)) b = nextC L (claimsL n L j) b := by rw [claims_succ, nextL_at _ _ _ _ hb]
  rw [hx] at hf ⊢
  obtain ⟨s1, s2, s3⟩ := hsp
  generalize nextC L (claimsL n L j) b = X at hf s1 s2 s3 ⊢
  have hz := (hds.2 b hb).zero_iff hL hr
  have hcand : ∀ j' q, Cand L ds b j' q → ∃ x, L[j']? = some x ∧ other x b = some q ∧ hear (claimsL n L j) q j' x.c = ⟨(r : Int), d, (q : Int), (j' : Int)⟩ := by
    rintro j' q ⟨x, h1, h2, h3⟩
    have hm := List.mem_of_getElem? h1
    have hxx := hL x hm
    have hqn : q < n := by rcases h2 with e | e <;> omega
    obtain ⟨k1, k2⟩ := keyo q hqn (.step (.refl _) hm h2.symm)
    refine ⟨x, h1, other_of hL hm h2, ?_⟩
    unfold hear
    rw [k1, k2, h3, hbd]
  by_cases e0 : ds.getD b 0 = 0
  · refine .inl ⟨e0, ?_⟩
    rcases s1 with s1 | ⟨j', x, o, h1, h2, h3⟩
    · rw [s1]; rfl
    · exfalso
      have hm := List.mem_of_getElem? h1
      have he := other_some h2
      have hxx := hL x hm
      have hon : o < n := by rcases he with e | e <;> omega
      obtain ⟨k1, k2⟩ := keyo o hon (.step (.refl _) hm he.symm)
      have := (hds.2 o hon).nonneg hL
      have h4 := hf.2
      rw [h3] at h4
      unfold hear at h4
      dsimp only at h4
      omega
  · refine .inr ⟨e0, ?_⟩
    obtain ⟨i, o, hu⟩ := Up.ex hL hds hb e0
    refine ⟨i, o, hu, ?_⟩
    rcases s1 with s1 | ⟨j', x, o', h1, h2, h3⟩
    · exfalso
      rw [s1] at hf
      have h4 : (0 : Int) = d := hf.2
      omega
    · have hm := List.mem_of_getElem? h1
      have he := other_some h2
      have hxx := hL x hm
      have hon : o' < n := by rcases he with e | e <;> omega
      obtain ⟨k1, k2⟩ := keyo o' hon (.step (.refl _) hm he.symm)
      have h4 := hf.2
      rw [h3] at h4
      have h4' : (getC (claimsL n L j) o').d + x.c = d := h4
      have hc : Cand L ds b j' o' := ⟨x, h1, he, by rw [← k2, hbd]; exact h4'⟩
      have u1 := hu.2 j' o' hc
      obtain ⟨y, y1, y2, y3⟩ := hcand i o hu.1
      have u2 := s3 i y o y1 y2
      obtain ⟨z, z1, z2, z3⟩ := hcand j' o' hc
      obtain rfl : x = z := by rw [h1] at z1; exact Option.some.inj z1
      rw [y3, h3, z3] at u2
      rw [h3]
      show (j' : Int) = (i : Int)
      unfold ltC at u2
      dsimp only at u2
      omega

end Go.Proofs.Ytegnghbgkiddoaa.Q

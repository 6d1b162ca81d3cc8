/- Plain lemmas on what the printed functions compute (seat Ytdkmgcijhaokkaa, module Qa). Conditions: each lemma's own. -/
import Derived.Test.YtdkmgcijhaokkaaPA0
import Derived.Test.YtdkmgcijhaokkaaPA1
import Derived.Test.YtdkmgcijhaokkaaPA3
set_option linter.unusedVariables false
set_option linter.unusedSimpArgs false
namespace Go.Proofs.Ytdkmgcijhaokkaa.Q
open Go Go.RowKit Go.Proofs.Ytdkmgcijhaokkaa.PA Go.Proofs.YtdkmgcijhaokkaaW.PrintWords Go.Proofs.YtdkmgcijhaokkaaW.PrintLast

/-! ### small words on rounds and numbers -/
theorem w64 {x : Int} (h0 : -9223372036854775808 ≤ x) (h1 : x ≤ 9223372036854775807) : wrap64 x = x := by
  unfold wrap64; omega
theorem evT {α : Type} {c : Prop} [Decidable c] {g f : Nat → Option α} {r : α} (hc : c) (h : Ev g r) : Ev (fun k => if c then g k else f k) r :=
  Ev.congr (fun _ => if_pos hc) h
theorem evF {α : Type} {c : Prop} [Decidable c] {g f : Nat → Option α} {r : α} (hc : ¬ c) (h : Ev f r) : Ev (fun k => if c then g k else f k) r :=
  Ev.congr (fun _ => if_neg hc) h
theorem evS {α β : Type} {g : Option β} {f : Nat → β → Option α} {a : β} {r : α} (h : g = some a) (k : Ev (fun n => f n a) r) : Ev (fun n => g.bind (f n)) r :=
  Ev.congr (fun _ => by rw [h]; rfl) k
theorem evE {α : Type} {g : Nat → Option α} {r r' : α} (h : Ev g r) (e : r = r') : Ev g r' := e ▸ h
theorem lit_i64 {x : Int} (h : (Lit.int .i64 x).wf = true) : -9223372036854775808 ≤ x ∧ x ≤ 9223372036854775807 := by
  simpa [Lit.wf, IntKind.min, IntKind.max, IntKind.bits, IntKind.signed] using h
theorem lit_u8 {x : Int} (h : (Lit.int .u8 x).wf = true) : 0 ≤ x ∧ x < 256 := by
  have h' : 0 ≤ x ∧ x ≤ 255 := by simpa [Lit.wf, IntKind.min, IntKind.max, IntKind.bits, IntKind.signed] using h
  omega
theorem rd_at (l : List Int) (i : Nat) (h : i < l.length) : rd l (i : Int) = l[i] := by
  simp [rd, List.getD_eq_getElem?_getD, h]
theorem rd_mem (l : List Int) (i : Int) (h0 : 0 ≤ i) (h : i < (l.length : Int)) : rd l i ∈ l := by
  obtain ⟨n, rfl⟩ := Int.eq_ofNat_of_zero_le h0
  rw [rd_at l n (by omega)]
  exact List.getElem_mem _
theorem rdOf_at {α : Type} (d : α) (l : List α) (i : Nat) (h : i < l.length) : rdOf d l (i : Int) = l[i] := by
  simp [rdOf, List.getD_eq_getElem?_getD, h]
theorem bits_xor_i64_nonneg (x y : Int) (hx : 0 ≤ x) (hx2 : x < 4611686018427387904) (hy : 0 ≤ y) (hy2 : y < 4611686018427387904) : 0 ≤ Go.bits .xor .i64 x y := by
  obtain ⟨a, rfl⟩ := Int.eq_ofNat_of_zero_le hx
  obtain ⟨b, rfl⟩ := Int.eq_ofNat_of_zero_le hy
  have hz : a ^^^ b < 2 ^ 62 := Nat.xor_lt_two_pow (by omega) (by omega)
  have h1 : (BitVec.ofInt 64 (a : Int)).toNat = a := by
    rw [BitVec.ofInt_natCast, BitVec.toNat_ofNat]; exact Nat.mod_eq_of_lt (by omega)
  have h2 : (BitVec.ofInt 64 (b : Int)).toNat = b := by
    rw [BitVec.ofInt_natCast, BitVec.toNat_ofNat]; exact Nat.mod_eq_of_lt (by omega)
  show 0 ≤ IntKind.i64.wrap ((BitVec.ofInt 64 (a : Int) ^^^ BitVec.ofInt 64 (b : Int)).toNat : Int)
  rw [BitVec.toNat_xor, h1, h2]
  have hw : ∀ m : Int, 0 ≤ m → m < 9223372036854775808 → 0 ≤ IntKind.i64.wrap m := by
    intro m hm hm2
    have e : IntKind.i64.wrap m = if (m % 18446744073709551616) ≥ 9223372036854775808 then m % 18446744073709551616 - 18446744073709551616 else m % 18446744073709551616 := by
      simp [IntKind.wrap, IntKind.bits, IntKind.signed]
    rw [e, if_neg (by omega)]
    omega
  exact hw _ (by omega) (by omega)

/-! ### the draws -/
/-- what is known of the bytes of a reader -/
def Bs (l : List Int) : Prop := l.length ≤ 2000 ∧ ∀ x ∈ l, 0 ≤ x ∧ x < 256
theorem mix_ok (A B p Q : Int) (hA : 0 ≤ A ∧ A < 256) (hB : 0 ≤ B ∧ B < 256) (hp : 0 ≤ p) (hp2 : p ≤ 1000000) (hQ : 0 ≤ Q) (hQ2 : Q ≤ 1000000) :
    0 ≤ wrap64 ((wrap64 ((wrap64 ((wrap64 ((wrap64 A) * 131)) + (wrap64 ((wrap64 B) * 1117)))) + (wrap64 (p * 29)))) + (wrap64 ((wrap64 Q) * 53))) ∧
    wrap64 ((wrap64 ((wrap64 ((wrap64 ((wrap64 A) * 131)) + (wrap64 ((wrap64 B) * 1117)))) + (wrap64 (p * 29)))) + (wrap64 ((wrap64 Q) * 53))) < 1000000000 := by
  rw [w64 (x := A) (by omega) (by omega), w64 (x := B) (by omega) (by omega), w64 (x := Q) (by omega) (by omega), w64 (x := A * 131) (by omega) (by omega), w64 (x := B * 1117) (by omega) (by omega),
    w64 (x := p * 29) (by omega) (by omega), w64 (x := Q * 53) (by omega) (by omega), w64 (x := A * 131 + B * 1117) (by omega) (by omega), w64 (x := A * 131 + B * 1117 + p * 29) (by omega) (by omega),
    w64 (by omega) (by omega)]
  omega
theorem tdiv_bounds (X : Int) (h0 : 0 ≤ X) (m : Int) (hm : 1 ≤ m) : 0 ≤ X.tdiv m ∧ X.tdiv m ≤ X := by
  rw [Int.tdiv_eq_ediv_of_nonneg h0]
  exact ⟨Int.ediv_nonneg h0 (by omega), Int.ediv_le_self m h0⟩
theorem tmod_bounds (X m : Int) (h0 : 0 ≤ X) (hm : 1 ≤ m) : 0 ≤ X.tmod m ∧ X.tmod m < m :=
  ⟨Int.tmod_nonneg _ h0, Int.tmod_lt_of_pos _ (by omega)⟩

theorem open_ev (l : List Int) (hb : ∀ x ∈ l, (Lit.int .u8 x).wf = true) : ∃ b, spec_l21Open.f l = some (b, 0) ∧ Bs b := by
  unfold spec_l21Open.f
  by_cases h : (l.length : Int) > 2000
  · refine ⟨l.take 2000, by rw [if_pos h, if_pos (by omega)], by simp; omega, fun x hx => lit_u8 (hb x (List.mem_of_mem_take hx))⟩
  · exact ⟨l, by rw [if_neg h], by omega, fun x hx => lit_u8 (hb x hx)⟩
theorem pick_ev (l : List Int) (hl : Bs l) (p n : Int) (hp : 0 ≤ p) (hp2 : p ≤ 500000) (hn : n ≤ 1000000000) :
    ∃ v, Ev (fun k => spec_l21Rd_pick.f k l p n) (v, p + 1) ∧ 0 ≤ v ∧ (1 ≤ n → v < n) := by
  obtain ⟨hl1, hb⟩ := hl
  have e1 : wrap64 (p + 1) = p + 1 := w64 (by omega) (by omega)
  simp only [spec_l21Rd_pick.f, e1]
  by_cases h1 : n < 1
  · refine ⟨0, evT h1 (Ev.step (fun k => by rw [spec_l21Rd_pick.j0]) (evT rfl (Ev.now _))), by omega, by omega⟩
  · by_cases h2 : l.length = 0
    · have e2 : ((l.length : Int) == 0) = true := by simpa using h2
      refine ⟨0, evF h1 (Ev.step (fun k => by rw [spec_l21Rd_pick.j0]) (evT e2 (Ev.now _))), by omega, by omega⟩
    · have e2 : ¬ (((l.length : Int) == 0) = true) := by simpa using h2
      have e3 : wrap64 (p + 1 - 1) = p := by rw [w64 (by omega) (by omega)]; omega
      by_cases h3 : p < (l.length : Int)
      · have hr := hb _ (rd_mem l p hp h3)
        have hv := tmod_bounds (wrap64 (rd l p)) n (by rw [w64 (by omega) (by omega)]; omega) (by omega)
        refine ⟨Int.tmod (wrap64 (rd l p)) n, evF h1 (Ev.step (fun k => by rw [spec_l21Rd_pick.j0]) ?_), hv.1, fun _ => hv.2⟩
        rw [e3]
        exact evF e2 (evT h3 (evT hp (evF (by omega) (Ev.now _))))
      · have e4 : wrap64 (p * 7) = p * 7 := w64 (by omega) (by omega)
        have e5 : wrap64 (p * 7 + 3) = p * 7 + 3 := w64 (by omega) (by omega)
        have b1 := tmod_bounds p (l.length : Int) hp (by omega)
        have b2 := tmod_bounds (p * 7 + 3) (l.length : Int) (by omega) (by omega)
        have r1 := hb _ (rd_mem l _ b1.1 b1.2)
        have r2 := hb _ (rd_mem l _ b2.1 b2.2)
        have q1 := tdiv_bounds p hp (l.length : Int) (by omega)
        have hx := mix_ok _ _ p _ r1 r2 hp (by omega) q1.1 (by omega)
        generalize hX : wrap64 ((wrap64 ((wrap64 ((wrap64 ((wrap64 (rd l (Int.tmod p (l.length : Int)))) * 131)) + (wrap64 ((wrap64 (rd l (Int.tmod (p * 7 + 3) (l.length : Int)))) * 1117)))) + (wrap64 (p * 29)))) + (wrap64 ((wrap64 (Int.tdiv p (l.length : Int))) * 53))) = X at hx
        have q2 := tdiv_bounds X hx.1 64 (by omega)
        have q3 : wrap64 (X.tdiv 64) = X.tdiv 64 := w64 (by omega) (by omega)
        have hz := bits_xor_i64_nonneg X (wrap64 (X.tdiv 64)) hx.1 (by omega) (by omega) (by omega)
        have hv := tmod_bounds _ n hz (by omega)
        refine ⟨Int.tmod (Go.bits .xor .i64 X (wrap64 (X.tdiv 64))) n, evF h1 (Ev.step (fun k => by rw [spec_l21Rd_pick.j0]) ?_), hv.1, fun _ => hv.2⟩
        simp only [e3, e4, e5, hX]
        exact evF e2 (evF h3 (evF (by omega) (evT b1.1 (evT b1.2 (evT b2.1 (evT b2.2 (evF (by omega) (Ev.now _))))))))
theorem num_ev (l : List Int) (hl : Bs l) (p : Int) (xs : List Int) (hp : 0 ≤ p) (hp2 : p ≤ 500000) (hn : 1 ≤ xs.length) (hn2 : xs.length ≤ 1000) :
    ∃ v, Ev (fun k => spec_l21Rd_num.f k l p xs) (v, p + 1) ∧ v ∈ xs := by
  obtain ⟨v, h, h0, h1⟩ := pick_ev l hl p (xs.length : Int) hp hp2 (by omega)
  refine ⟨rd xs v, ?_, rd_mem xs v h0 (h1 (by omega))⟩
  simp only [spec_l21Rd_num.f]
  exact Ev.bind h (evT h0 (evT (h1 (by omega)) (Ev.now _)))

/-! ### bundles: plain -/
def score (f m : Int) : Int := ((f * 131 + m * 1117 + 7) * (f * 131 + m * 1117 + 7) % 65521 * 31 + (f * 131 + m * 1117 + 7)) % 65521
def isFl (f : Int) : Prop := 0 ≤ f ∧ f ≤ 239
instance (f : Int) : Decidable (isFl f) := by unfold isFl; infer_instance
theorem l1In_eq (a b c : Int) : spec_l1In.f a b c = some (decide (b ≤ a ∧ a ≤ c)) := by
  unfold spec_l1In.f
  by_cases h : a ≥ b
  · rw [if_pos h]; simp; omega
  · rw [if_neg h]; simp; omega
theorem within_eq (a b c : Int) : impl_within.f a b c = some (decide (b ≤ a ∧ a ≤ c)) := by
  unfold impl_within.f
  by_cases h : b ≤ a
  · rw [if_pos h]; simp; omega
  · rw [if_neg h]; simp; omega
theorem isFlow_eq (f : Int) : impl_isFlow.f f = some (decide (isFl f)) := by
  unfold impl_isFlow.f; rw [within_eq]; rfl
theorem score_bd (f m : Int) (hf : isFl f) (h0 : 0 ≤ m) (h1 : m ≤ 7) :
    0 ≤ f * 131 + m * 1117 + 7 ∧ f * 131 + m * 1117 + 7 < 65521 := by
  obtain ⟨h2, h3⟩ := hf; omega
theorem specScore_eq (f m : Int) (hf : isFl f) (h0 : 0 ≤ m) (h1 : m ≤ 7) : spec_l11Score.f f m = some (score f m) := by
  have hb := score_bd f m hf h0 h1
  obtain ⟨h2, h3⟩ := hf
  unfold spec_l11Score.f score
  rw [w64 (x := f * 131) (by omega) (by omega), w64 (x := m * 1117) (by omega) (by omega), w64 (x := f * 131 + m * 1117) (by omega) (by omega), w64 (x := f * 131 + m * 1117 + 7) (by omega) (by omega)]
  generalize f * 131 + m * 1117 + 7 = n at hb
  have e1 : Int.tmod n 65521 = n := by rw [Int.tmod_eq_emod_of_nonneg hb.1]; omega
  have hsq : 0 ≤ n * n ∧ n * n ≤ 65521 * 65521 := ⟨Int.mul_nonneg hb.1 hb.1, Int.mul_le_mul (by omega) (by omega) hb.1 (by omega)⟩
  rw [e1, w64 (x := n * n) (by omega) (by omega), Int.tmod_eq_emod_of_nonneg hsq.1]
  have hm : 0 ≤ n * n % 65521 ∧ n * n % 65521 < 65521 := by omega
  rw [w64 (x := n * n % 65521 * 31) (by omega) (by omega), w64 (x := n * n % 65521 * 31 + n) (by omega) (by omega), Int.tmod_eq_emod_of_nonneg (by omega)]
theorem implScore_eq (f m : Int) (hf : isFl f) (h0 : 0 ≤ m) (h1 : m ≤ 7) : impl_ScoreOf.f f m = some (score f m) := by
  have hb := score_bd f m hf h0 h1
  have hd : decide (isFl f) = true := decide_eq_true hf
  obtain ⟨h2, h3⟩ := hf
  unfold impl_ScoreOf.f score
  rw [isFlow_eq, within_eq, hd, decide_eq_true (show 0 ≤ m ∧ m ≤ 7 from ⟨h0, h1⟩)]
  simp only [Option.bind_some, if_true]
  rw [w64 (x := f * 131) (by omega) (by omega), w64 (x := m * 1117) (by omega) (by omega), w64 (x := f * 131 + m * 1117) (by omega) (by omega), w64 (x := f * 131 + m * 1117 + 7) (by omega) (by omega)]
  generalize f * 131 + m * 1117 + 7 = n at hb
  have hsq : 0 ≤ n * n ∧ n * n ≤ 65521 * 65521 := ⟨Int.mul_nonneg hb.1 hb.1, Int.mul_le_mul (by omega) (by omega) hb.1 (by omega)⟩
  rw [w64 (x := n * n) (by omega) (by omega), Int.tmod_eq_emod_of_nonneg hsq.1]
  have hm : 0 ≤ n * n % 65521 ∧ n * n % 65521 < 65521 := by omega
  rw [w64 (x := n * n % 65521 * 31) (by omega) (by omega), w64 (x := n * n % 65521 * 31 + n) (by omega) (by omega), Int.tmod_eq_emod_of_nonneg (by omega)]
theorem implScore_none (f m : Int) (h : ¬ (isFl f ∧ 0 ≤ m ∧ m ≤ 7)) : impl_ScoreOf.f f m = some (-1) := by
  unfold impl_ScoreOf.f
  rw [isFlow_eq, within_eq]
  by_cases h1 : isFl f
  · have h2 : ¬ (0 ≤ m ∧ m ≤ 7) := fun x => h ⟨h1, x⟩
    simp [h1, h2]
  · simp [h1]
theorem flowOf_eq (a b : Int) : spec_FlowOf.f a b = impl_FlowOf.f a b := by
  unfold spec_FlowOf.f impl_FlowOf.f impl_isStation.f
  rw [l1In_eq, l1In_eq, within_eq, within_eq]
  rfl
/-- the number of a flow -/
def flow (a b : Int) : Int := if (0 ≤ a ∧ a ≤ 14) ∧ 0 ≤ b ∧ b ≤ 15 then 15 * a + b % 15 else -1
theorem implFlow_eq (a b : Int) : impl_FlowOf.f a b = some (flow a b) := by
  unfold impl_FlowOf.f impl_isStation.f flow
  rw [within_eq, within_eq]
  by_cases h1 : 0 ≤ a ∧ a ≤ 14
  · by_cases h2 : 0 ≤ b ∧ b ≤ 15
    · rw [if_pos ⟨h1, h2⟩, decide_eq_true h1, decide_eq_true h2]
      simp only [Option.bind_some, if_true]
      rw [Int.tmod_eq_emod_of_nonneg h2.1, w64 (x := 15 * a) (by omega) (by omega), w64 (by omega) (by omega)]
    · rw [if_neg (by omega), decide_eq_true h1, decide_eq_false h2]
      rfl
  · rw [if_neg (by omega), decide_eq_false h1]
    rfl
/-- from wire i on: the best wire, b so far -/
def bestFrom (f : Int) : List Bool → Int → Int → Int
  | [], _, b => b
  | u :: us, i, b => bestFrom f us (i + 1) (if u = true ∧ (b < 0 ∨ score f i > score f b) then i else b)
def isB (up : List Bool) : Prop := 1 ≤ up.length ∧ up.length ≤ 8
instance (up : List Bool) : Decidable (isB up) := by unfold isB; infer_instance
/-- the wire of a flow -/
def member (up : List Bool) (f : Int) : Int := if isB up ∧ isFl f then bestFrom f up 0 (-1) else -1
theorem isBundle_eq (up : List Bool) : impl_isBundle.f up = some (decide (isB up)) := by
  have hh : isB up ↔ (1 ≤ (up.length : Int) ∧ (up.length : Int) ≤ 8) := by unfold isB; omega
  unfold impl_isBundle.f
  rw [within_eq]
  by_cases h : isB up
  · rw [decide_eq_true h, decide_eq_true (hh.1 h)]; rfl
  · rw [decide_eq_false h, decide_eq_false (fun x => h (hh.2 x))]; rfl
theorem l11Bundle_eq (up : List Bool) : spec_l11Bundle.f up = some (decide (isB up)) := by
  have hh : isB up ↔ (1 ≤ (up.length : Int) ∧ (up.length : Int) ≤ 8) := by unfold isB; omega
  unfold spec_l11Bundle.f
  rw [l1In_eq]
  by_cases h : isB up
  · rw [decide_eq_true h, decide_eq_true (hh.1 h)]; rfl
  · rw [decide_eq_false h, decide_eq_false (fun x => h (hh.2 x))]; rfl
theorem implMember_l0 (up : List Bool) (f : Int) (hu : isB up) (hf : isFl f) : ∀ (d i : Nat) (b : Int), i + d = up.length → -1 ≤ b → b < i →
    Ev (fun k => impl_MemberFor.l0 k f b up (up.length : Int) (i : Int)) (bestFrom f (up.drop i) i b) := by
  intro d
  have hu2 := hu.2
  induction d with
  | zero =>
    intro i b hi h0 h1
    refine Ev.step (fun k => by rw [impl_MemberFor.l0]) ?_
    refine evF (by omega) (evE (Ev.now _) ?_)
    rw [List.drop_of_length_le (by omega)]
    rfl
  | succ d ih =>
    intro i b hi h0 h1
    have e : wrap64 ((i : Int) + 1) = ((i + 1 : Nat) : Int) := by rw [w64 (by omega) (by omega)]; omega
    have ha : up.drop i = up[i]'(by omega) :: up.drop (i + 1) := List.drop_eq_getElem_cons (by omega)
    refine Ev.step (fun k => by rw [impl_MemberFor.l0]) ?_
    refine evT (by omega) (evT (by omega) (evT (by omega) ?_))
    rw [rdOf_at false up i (by omega), e, ha]
    have e5 : ((i + 1 : Nat) : Int) = (i : Int) + 1 := by omega
    simp only [bestFrom]
    by_cases h2 : up[i]'(by omega) = true
    · refine evT h2 ?_
      by_cases h3 : b < 0
      · refine evT h3 (evE (ih (i + 1) i (by omega) (by omega) (by omega)) ?_)
        rw [if_pos ⟨h2, .inl h3⟩, e5]
      · refine evF h3 (evS (implScore_eq f i hf (by omega) (by omega)) (evS (implScore_eq f b hf (by omega) (by omega)) ?_))
        by_cases h4 : score f i > score f b
        · refine evT h4 (evE (ih (i + 1) i (by omega) (by omega) (by omega)) ?_)
          rw [if_pos ⟨h2, .inr h4⟩, e5]
        · refine evF h4 (evE (ih (i + 1) b (by omega) (by omega) (by omega)) ?_)
          rw [if_neg (fun h => h.2.elim h3 h4), e5]
    · refine evF h2 (evE (ih (i + 1) b (by omega) (by omega) (by omega)) ?_)
      rw [if_neg (fun h => h2 h.1), e5]
theorem implMember_ev (up : List Bool) (f : Int) : Ev (fun k => impl_MemberFor.f k up f) (member up f) := by
  unfold member
  simp only [impl_MemberFor.f]
  refine evS (isBundle_eq up) ?_
  by_cases h1 : isB up
  · refine evT (decide_eq_true h1) (evS (isFlow_eq f) ?_)
    by_cases h2 : isFl f
    · rw [if_pos ⟨h1, h2⟩, decide_eq_true h2]
      refine Ev.step (fun k => by rw [impl_MemberFor.j0]) ?_
      refine evF (by simp) ?_
      exact implMember_l0 up f h1 h2 up.length 0 (-1) (by omega) (by omega) (by omega)
    · rw [if_neg (fun h => h2 h.2), decide_eq_false h2]
      refine Ev.step (fun k => by rw [impl_MemberFor.j0]) ?_
      exact evT (by simp) (Ev.now _)
  · rw [if_neg (fun h => h1 h.1)]
    refine evF (by simp [h1]) ?_
    refine Ev.step (fun k => by rw [impl_MemberFor.j0]) ?_
    exact evT rfl (Ev.now _)
theorem specMember_l0 (up : List Bool) (f : Int) (hu : isB up) (hf : isFl f) : ∀ (d i : Nat) (b : Int), i + d = up.length → -1 ≤ b → b < i →
    Ev (fun k => spec_MemberFor.l0 k up f b (i : Int)) (bestFrom f (up.drop i) i b) := by
  intro d
  have hu2 := hu.2
  induction d with
  | zero =>
    intro i b hi h0 h1
    refine Ev.step (fun k => by rw [spec_MemberFor.l0]) ?_
    refine evF (by omega) ?_
    refine Ev.step (fun k => by rw [spec_MemberFor.j1]) ?_
    refine evF (by simp) (evE (Ev.now _) ?_)
    rw [List.drop_of_length_le (by omega)]
    rfl
  | succ d ih =>
    intro i b hi h0 h1
    have e : wrap64 ((i : Int) + 1) = ((i + 1 : Nat) : Int) := by rw [w64 (by omega) (by omega)]; omega
    have ha : up.drop i = up[i]'(by omega) :: up.drop (i + 1) := List.drop_eq_getElem_cons (by omega)
    have hf' := hf
    unfold isFl at hf'
    refine Ev.step (fun k => by rw [spec_MemberFor.l0]) ?_
    refine evT (by omega) (evS (l11Bundle_eq up) (evT (decide_eq_true hu) (evS (l1In_eq f 0 239) ?_)))
    refine Ev.step (fun k => by rw [spec_MemberFor.j1]) ?_
    refine evT (decide_eq_true hf') (evT (by omega) (evT (by omega) ?_))
    rw [rdOf_at false up i (by omega), e, ha]
    have e5 : ((i + 1 : Nat) : Int) = (i : Int) + 1 := by omega
    simp only [bestFrom]
    by_cases h2 : up[i]'(by omega) = true
    · refine evT h2 ?_
      by_cases h3 : b < 0
      · refine evT h3 (evE (ih (i + 1) i (by omega) (by omega) (by omega)) ?_)
        rw [if_pos ⟨h2, .inl h3⟩, e5]
      · refine evF h3 (evS (specScore_eq f i hf (by omega) (by omega)) (evS (specScore_eq f b hf (by omega) (by omega)) ?_))
        by_cases h4 : score f i > score f b
        · refine evT h4 (evE (ih (i + 1) i (by omega) (by omega) (by omega)) ?_)
          rw [if_pos ⟨h2, .inr h4⟩, e5]
        · refine evF h4 (evE (ih (i + 1) b (by omega) (by omega) (by omega)) ?_)
          rw [if_neg (fun h => h.2.elim h3 h4), e5]
    · refine evF h2 (evE (ih (i + 1) b (by omega) (by omega) (by omega)) ?_)
      rw [if_neg (fun h => h2 h.1), e5]
theorem specMember_ev (up : List Bool) (f : Int) : Ev (fun k => spec_MemberFor.f k up f) (member up f) := by
  unfold member
  simp only [spec_MemberFor.f]
  by_cases h1 : isB up
  · by_cases h2 : isFl f
    · rw [if_pos ⟨h1, h2⟩]
      exact specMember_l0 up f h1 h2 up.length 0 (-1) (by omega) (by omega) (by omega)
    · rw [if_neg (fun h => h2 h.2)]
      have h1' := h1.1
      have h2' : ¬ (0 ≤ f ∧ f ≤ 239) := h2
      refine Ev.step (fun k => by rw [spec_MemberFor.l0]) ?_
      refine evT (by omega) (evS (l11Bundle_eq up) (evT (decide_eq_true h1) (evS (l1In_eq f 0 239) ?_)))
      refine Ev.step (fun k => by rw [spec_MemberFor.j1]) ?_
      exact evF (by simpa using h2') (Ev.now _)
  · rw [if_neg (fun h => h1 h.1)]
    by_cases h3 : (0 : Int) < (up.length : Int)
    · refine Ev.step (fun k => by rw [spec_MemberFor.l0]) ?_
      refine evT h3 (evS (l11Bundle_eq up) ?_)
      refine evF (by simpa using h1) ?_
      refine Ev.step (fun k => by rw [spec_MemberFor.j1]) ?_
      exact evF (by simp) (Ev.now _)
    · refine Ev.step (fun k => by rw [spec_MemberFor.l0]) ?_
      refine evF h3 ?_
      refine Ev.step (fun k => by rw [spec_MemberFor.j1]) ?_
      exact evF (by simp) (Ev.now _)
/-! what the best wire is -/
/-- m is the best of the wires below n that are up, or -1 and none is -/
def IsBest (f : Int) (up : List Bool) (n : Nat) (m : Int) : Prop :=
  (m = -1 ∧ ∀ j, j < n → up[j]? ≠ some true) ∨
  (∃ j : Nat, m = j ∧ j < n ∧ up[j]? = some true ∧ ∀ i, i < n → up[i]? = some true → score f i < score f j ∨ (score f i = score f j ∧ j ≤ i))
theorem bestFrom_best (f : Int) (up : List Bool) : ∀ (d i : Nat) (b : Int), i + d = up.length → IsBest f up i b → IsBest f up up.length (bestFrom f (up.drop i) i b) := by
  intro d
  induction d with
  | zero =>
    intro i b hi h
    rw [List.drop_of_length_le (by omega)]
    have : i = up.length := by omega
    subst this
    exact h
  | succ d ih =>
    intro i b hi h
    have ha : up.drop i = up[i]'(by omega) :: up.drop (i + 1) := List.drop_eq_getElem_cons (by omega)
    have hs : up[i]? = some (up[i]'(by omega)) := List.getElem?_eq_getElem (by omega)
    have e5 : ((i + 1 : Nat) : Int) = (i : Int) + 1 := by omega
    rw [ha]
    simp only [bestFrom]
    rw [← e5]
    refine ih (i + 1) _ (by omega) ?_
    by_cases h2 : up[i]'(by omega) = true
    · rcases h with ⟨rfl, h⟩ | ⟨j, rfl, hj, hju, h⟩
      · rw [if_pos ⟨h2, .inl (by omega)⟩]
        refine .inr ⟨i, rfl, by omega, by rw [hs, h2], fun q hq hqu => ?_⟩
        have : q = i := by
          rcases Nat.lt_or_ge q i with h9 | h9
          · exact absurd hqu (h q h9)
          · omega
        subst this
        exact .inr ⟨rfl, Nat.le_refl _⟩
      · by_cases h4 : score f i > score f j
        · rw [if_pos ⟨h2, .inr h4⟩]
          refine .inr ⟨i, rfl, by omega, by rw [hs, h2], fun q hq hqu => ?_⟩
          rcases Nat.lt_or_ge q i with h9 | h9
          · rcases h q h9 hqu with h8 | ⟨h8, _⟩
            · exact .inl (by omega)
            · exact .inl (by omega)
          · have : q = i := by omega
            subst this
            exact .inr ⟨rfl, Nat.le_refl _⟩
        · rw [if_neg (fun h => h.2.elim (by omega) h4)]
          refine .inr ⟨j, rfl, by omega, hju, fun q hq hqu => ?_⟩
          rcases Nat.lt_or_ge q i with h9 | h9
          · exact h q h9 hqu
          · have : q = i := by omega
            subst this
            rcases Int.lt_or_eq_of_le (Int.not_lt.1 h4) with h8 | h8
            · exact .inl h8
            · exact .inr ⟨h8, by omega⟩
    · rw [if_neg (fun h => h2 h.1)]
      have hno : up[i]? ≠ some true := by rw [hs]; simpa using h2
      rcases h with ⟨rfl, h⟩ | ⟨j, rfl, hj, hju, h⟩
      · refine .inl ⟨rfl, fun q hq => ?_⟩
        rcases Nat.lt_or_ge q i with h9 | h9
        · exact h q h9
        · have : q = i := by omega
          subst this; exact hno
      · refine .inr ⟨j, rfl, by omega, hju, fun q hq hqu => ?_⟩
        rcases Nat.lt_or_ge q i with h9 | h9
        · exact h q h9 hqu
        · have : q = i := by omega
          subst this; exact absurd hqu hno
theorem member_best (up : List Bool) (f : Int) (hu : isB up) (hf : isFl f) : IsBest f up up.length (member up f) := by
  unfold member
  rw [if_pos ⟨hu, hf⟩]
  exact bestFrom_best f up up.length 0 (-1) (by omega) (.inl ⟨rfl, fun j hj => absurd hj (Nat.not_lt_zero _)⟩)
theorem best_unique (f : Int) (up : List Bool) (n : Nat) (m m' : Int) (h : IsBest f up n m) (h' : IsBest f up n m') : m = m' := by
  rcases h with ⟨rfl, h⟩ | ⟨j, rfl, hj, hju, h⟩
  · rcases h' with ⟨rfl, h'⟩ | ⟨j', rfl, hj', hju', h'⟩
    · rfl
    · exact absurd hju' (h j' hj')
  · rcases h' with ⟨rfl, h'⟩ | ⟨j', rfl, hj', hju', h'⟩
    · exact absurd hju (h' j hj)
    · have h1 := h j' hj' hju'
      have h2 := h' j hj hju
      omega
theorem member_bd (up : List Bool) (f : Int) : -1 ≤ member up f ∧ (member up f : Int) < 8 ∧ (member up f = -1 ∨ member up f < up.length) := by
  by_cases h : isB up ∧ isFl f
  · have h8 := h.1.2
    rcases member_best up f h.1 h.2 with ⟨h1, _⟩ | ⟨j, h1, hj, _⟩
    · omega
    · omega
  · unfold member
    rw [if_neg h]
    omega

end Go.Proofs.Ytdkmgcijhaokkaa.Q

/- How a law's arguments are opened: slices of numbers, of bools, of structs of three or two numbers, and slices of slices of numbers read as lists. Conditions: the argument can be read as data, as every row supposes. -/
import Derived.Deep.Slices
import Derived.Deep.Fields
import Derived.Deep.Grids
import Derived.Deep.Matrix
import Derived.ChangeSame
import Derived.SizedLaws
import Derived.ChangeSlices
import Derived.OpenShut
import Derived.Test.YtnagdcigoaeicaaWWords
import Derived.Test.YtnagdcigoaeicaaWSized
set_option linter.unusedVariables false
set_option linter.unusedSimpArgs false
namespace Go.Proofs.Ytnagdcigoaeicaa.Open
open Go.ChangeShapes Go.WideShapes Go.Deep Go.RowKit Go.Proofs.YtnagdcigoaeicaaW.PrintWords

section
variable {H : Type} {enc : TypeId × Value → H} {P : Program} {W : World} {base : Nat} {held : Bool}

theorem open_kd_ints {spare : Nat → Bool} {t e : TypeId} {k : IntKind} {a : Option Addr} {len cap : Nat} {d : DataW H} {ps : List MemPlace} (hu : P.underlying t = some (.slice e)) (he : P.underlying e = some (.int k)) (hc : P.cellsOf e = 1)
    (h : DataW.Trod enc P W base spare held t (.slice a len cap) d ps) :
    ∃ l : List Int, len = l.length ∧ Kd.C (Kd.int k) W a l.length l ∧ l.length ≤ cap ∧ l.length ≤ maxLen ∧ ∀ x ∈ l, (Lit.int k x).wf = true := by
  obtain ⟨fuel, hf⟩ := h
  have hrow : ∃ zs : List Int, (a = none ∧ len = 0 ∧ cap = 0 ∧ zs = []) ∨ ∃ x, a = some x ∧ len ≤ cap ∧ cap ≤ maxLen ∧ len ≤ zs.length ∧ (∀ i, i < zs.length → W.cell? (x.add i) = some (.int k (zs.getD i 0))) ∧ ∀ n ∈ zs, (Lit.int k n).wf = true := by
    rcases open_ints hu he hc hf with ⟨hcs, _⟩ | ⟨x, l, c, zs, hcs, _, hl, hm, hz, _, hcell, hwz⟩
    · simp [Value.cells] at hcs
      obtain ⟨rfl, rfl, rfl⟩ := hcs
      exact ⟨[], .inl ⟨rfl, rfl, rfl, rfl⟩⟩
    · simp [Value.cells] at hcs
      obtain ⟨rfl, rfl, rfl⟩ := hcs
      refine ⟨zs, .inr ⟨_, rfl, hl, hm, ?_, hcell, hwz⟩⟩
      rw [hz]
      split
      · exact hl
      · exact Nat.le_refl _
  obtain ⟨zs, ⟨rfl, rfl, rfl, rfl⟩ | ⟨x, rfl, hl, hm, hz, hcell, hwz⟩⟩ := hrow
  · exact ⟨[], rfl, ⟨rfl, by simp, fun h => absurd h (by simp)⟩, Nat.zero_le _, Nat.zero_le _, fun x hx => by simp at hx⟩
  · have e1 : (zs.take len).length = len := by simp; omega
    refine ⟨zs.take len, e1.symm, ⟨rfl, by rw [e1]; unfold maxLen at hm; omega, fun _ => ⟨x, rfl, fun j p hj => ⟨[.int k p], rfl, rfl, fun i u hu => ?_⟩⟩⟩, by rw [e1]; exact hl, by rw [e1]; omega, fun y hy => hwz y (List.mem_of_mem_take hy)⟩
    obtain ⟨hjl, hjp⟩ := List.getElem?_eq_some_iff.1 hj
    match i, hu with
    | 0, hu =>
      have hu' : Value.int k p = u := by simpa using hu
      subst hu'
      have := hcell j (by omega)
      rw [show j * (Kd.int k).sz + 0 = j from by show j * 1 + 0 = j; omega, this]
      rw [← hjp]
      simp [List.getD_eq_getElem?_getD, show j < zs.length by omega]
    | i + 1, hu => simp at hu

theorem open_kd_bools {t e : TypeId} {a : Option Addr} {len cap : Nat} {d : DataW H} {ps : List MemPlace} (hu : P.underlying t = some (.slice e)) (he : P.underlying e = some .bool) (hc : P.cellsOf e = 1)
    (h : DataW.Trod enc P W base (fun _ => true) held t (.slice a len cap) d ps) :
    ∃ l : List Bool, len = l.length ∧ Kd.C Kd.bool W a l.length l ∧ l.length ≤ cap ∧ l.length ≤ maxLen := by
  obtain ⟨fuel, hf⟩ := h
  rcases open_bools hu he hc hf with ⟨hcs, _⟩ | ⟨x, l, c, B, hcs, _, hl, hm, _, hcell⟩
  · simp [Value.cells] at hcs
    obtain ⟨rfl, rfl, rfl⟩ := hcs
    exact ⟨[], rfl, ⟨rfl, by simp, fun h => absurd h (by simp)⟩, Nat.zero_le _, Nat.zero_le _⟩
  · simp [Value.cells] at hcs
    obtain ⟨rfl, rfl, rfl⟩ := hcs
    have e1 : ((List.range len).map B).length = len := by simp
    refine ⟨(List.range len).map B, e1.symm, ⟨rfl, by rw [e1]; unfold maxLen at hm; omega, fun _ => ⟨x, rfl, fun j p hj => ⟨[.bool p], rfl, rfl, fun i u hu => ?_⟩⟩⟩, by rw [e1]; exact hl, by rw [e1]; omega⟩
    obtain ⟨hjl, hjp⟩ := List.getElem?_eq_some_iff.1 hj
    rw [e1] at hjl
    match i, hu with
    | 0, hu =>
      have hu' : Value.bool p = u := by simpa using hu
      subst hu'
      rw [show j * Kd.bool.sz + 0 = j from by show j * 1 + 0 = j; omega, hcell j (by omega), ← hjp]
      simp
    | i + 1, hu => simp at hu

theorem sized_bools {t e : TypeId} {a : Option Addr} {len cap : Nat} {d : DataW H} {ps : List MemPlace} {ts : List TypeId} {ds : List (DataW H)} {j : Nat}
    (hsz : (DataW.weightsEach P ts ds).all (· ≤ reachBytes) = true) (ht : ts[j]? = some t) (hd : ds[j]? = some d) (hu : P.underlying t = some (.slice e)) (he : P.underlying e = some .bool) (hc : P.cellsOf e = 1) {B : Nat} (hB : P.bytesOf e = B)
    (h : DataW.Trod enc P W base (fun _ => true) held t (.slice a len cap) d ps) : len * B ≤ 140737488351232 := by
  obtain ⟨fuel, hf⟩ := h
  rcases open_bools hu he hc hf with ⟨hcs, _⟩ | ⟨x, l, c, F, hcs, _, hl, _, hx, _⟩
  · simp [Value.cells] at hcs
    obtain ⟨rfl, rfl, rfl⟩ := hcs
    simp
  · simp [Value.cells] at hcs
    obtain ⟨rfl, rfl, rfl⟩ := hcs
    obtain ⟨hx, _⟩ := Prod.mk.inj hx
    subst hx
    have z := sized_slice hsz ht hd hu
    rw [hB] at z
    have h1 : ((List.range len).map fun i => (DataW.lit (.bool (F i)) : DataW H)).length + ((List.range (cap - len)).map fun j => (DataW.lit (.bool (F (len + j))) : DataW H)).length = cap := by
      simp
      omega
    rw [h1] at z
    exact Nat.le_trans (Nat.mul_le_mul_right _ hl) z

/-- A slice of structs whose fields are all numbers of one kind: the cells, field by field. -/
theorem open_num_fields {t e : TypeId} {fs : Array Field} {k : IntKind} {a : Option Addr} {len cap : Nat} {d : DataW H} {ps : List MemPlace} (hu : P.underlying t = some (.slice e)) (he : P.underlying e = some (.struct fs))
    (hone : oneCellFields P fs = true) (hC : P.cellsOf e = fs.size) (hk : ∀ (j : Nat) (f : Field), fs[j]? = some f → P.underlying f.type = some (.int k))
    (h : DataW.Trod enc P W base (fun _ => true) held t (.slice a len cap) d ps) :
    len ≤ cap ∧ len ≤ maxLen ∧ (0 < len → ∃ ad, a = some ad ∧ ∃ g : Nat → Nat → Int, ∀ i j, i < len → j < fs.size → W.cell? (ad.add (i * fs.size + j)) = some (.int k (g i j)) ∧ (Lit.int k (g i j)).wf = true) := by
  obtain ⟨fuel, hf⟩ := h
  rcases open_slice hu hf with ⟨hcs, _⟩ | ⟨x, l, c, m, n, D, Pl, hcs, hb, hl, hm, hmm, hx, hi⟩
  · simp [Value.cells] at hcs
    obtain ⟨rfl, rfl, rfl⟩ := hcs
    exact ⟨Nat.le_refl _, Nat.zero_le _, fun h => absurd h (Nat.lt_irrefl 0)⟩
  · simp [Value.cells] at hcs
    obtain ⟨rfl, rfl, rfl⟩ := hcs
    simp only [if_true] at hmm
    subst hmm
    refine ⟨hl, by omega, fun _ => ⟨x, rfl, ?_⟩⟩
    have each : ∀ i j, i < len → j < fs.size → ∃ z : Int, W.cell? (x.add (i * fs.size + j)) = some (.int k z) ∧ (Lit.int k z).wf = true := by
      intro i j him hj
      obtain ⟨cs', hc', ht'⟩ := hi i (by omega)
      rw [hC] at hc'
      obtain ⟨ys, n', hn', hy, hlen, hyl, hf'⟩ := DataW.trod_struct he ht'
      obtain ⟨_, hcl, hat⟩ := World.cells?_some hc'
      have hfj : fs[j]? = some (fs[j]'hj) := Array.getElem?_eq_getElem hj
      obtain ⟨ho, hk'⟩ := hone_of hone j _ hfj
      have hcell := hat j hj
      have hv : cs'[j]? = some (cs'[j]'(by omega)) := List.getElem?_eq_getElem (by omega)
      have h1 := hf' j _ hfj
      rw [ho, hk'] at h1
      have hone' : (cs'.drop j).take 1 = [cs'[j]'(by omega)] := by
        rw [List.drop_eq_getElem_cons (by omega)]
        rfl
      rw [hone'] at h1
      have hys : ys[j]? = some (ys[j]'(by omega)) := List.getElem?_eq_getElem (by omega)
      obtain ⟨z, hz1, hz2, hz3⟩ := DataW.trod_int (hk j _ hfj) (h1.trans hys)
      have hz1' : cs'[j]'(by omega) = .int k z := by simpa using hz1
      refine ⟨z, ?_, ?_⟩
      · rw [← Go.Deep.add_add, hcell, hv, hz1']
      · first | exact hz2 | exact hz3
    refine ⟨fun i j => if h : i < len ∧ j < fs.size then (each i j h.1 h.2).choose else 0, fun i j hi hj => ?_⟩
    have e : (fun i j => if h : i < len ∧ j < fs.size then (each i j h.1 h.2).choose else 0) i j = (each i j hi hj).choose := dif_pos ⟨hi, hj⟩
    rw [e]
    exact (each i j hi hj).choose_spec

/-- A slice of slices of numbers. -/
theorem open_kd_rows {t e q : TypeId} {k : IntKind} {a : Option Addr} {len cap : Nat} {d : DataW H} {ps : List MemPlace} (hu : P.underlying t = some (.slice e)) (he : P.underlying e = some (.slice q)) (hq : P.underlying q = some (.int k))
    (ce : P.cellsOf e = 1) (cq : P.cellsOf q = 1) (h : DataW.Trod enc P W base (fun _ => true) held t (.slice a len cap) d ps) :
    ∃ l : List (List Int), len = l.length ∧ Kd.C (Kd.slice q (Kd.int k)) W a l.length l ∧ l.length ≤ cap ∧ l.length ≤ maxLen ∧ ∀ r ∈ l, r.length ≤ maxLen ∧ ∀ x ∈ r, (Lit.int k x).wf = true := by
  obtain ⟨fuel, hf⟩ := h
  rcases open_int_rows hu he hq ce cq hf with ⟨hcs, _⟩ | ⟨x, l, c, A, L, C, Z, hcs, _, hl, hm, _, hcell⟩
  · simp [Value.cells] at hcs
    obtain ⟨rfl, rfl, rfl⟩ := hcs
    exact ⟨[], rfl, ⟨rfl, by simp, fun h => absurd h (by simp)⟩, Nat.zero_le _, Nat.zero_le _, fun x hx => by simp at hx⟩
  · simp [Value.cells] at hcs
    obtain ⟨rfl, rfl, rfl⟩ := hcs
    have e1 : ((List.range len).map fun r => (Z r).take (L r)).length = len := by simp
    have hlr : ∀ r, r < len → ((Z r).take (L r)).length = L r := by
      intro r hr
      obtain ⟨_, h1, _, h2, _⟩ := hcell r (by omega)
      rw [List.length_take]; omega
    refine ⟨(List.range len).map fun r => (Z r).take (L r), e1.symm, ⟨rfl, by rw [e1]; unfold maxLen at hm; omega, fun _ => ⟨x, rfl, fun j p hj => ?_⟩⟩, by rw [e1]; exact hl, by rw [e1]; omega, fun r hr => ?_⟩
    · obtain ⟨hjl, hjp⟩ := List.getElem?_eq_some_iff.1 hj
      rw [e1] at hjl
      have hp : p = (Z j).take (L j) := by rw [← hjp]; simp
      obtain ⟨h0, h1, h2, h3, h4, h5, h6⟩ := hcell j (by omega)
      have hL := hlr j hjl
      refine ⟨[.slice (A j) p.length (C j)], rfl, ⟨A j, C j, rfl, by rw [hp, hL]; exact h1, ⟨rfl, by rw [hp, hL]; unfold maxLen at h2; omega, fun hpos => ?_⟩⟩, fun i u hu => ?_⟩
      · rw [hp, hL] at hpos
        match hA : A j with
        | none => have := h5 hA; omega
        | some ad =>
          refine ⟨ad, rfl, fun i y hy => ⟨[.int k y], rfl, rfl, fun i' u hu => ?_⟩⟩
          obtain ⟨_, hc⟩ := h6 ad hA
          obtain ⟨hil, hiy⟩ := List.getElem?_eq_some_iff.1 hy
          match i', hu with
          | 0, hu =>
            have hu' : Value.int k y = u := by simpa using hu
            subst hu'
            have hil2 : i < L j := by rw [hp, hL] at hil; exact hil
            rw [show i * (Kd.int k).sz + 0 = i from by show i * 1 + 0 = i; omega, hc i (by omega), ← hiy]
            simp only [hp]
            rw [List.getElem_take]
            simp [List.getD_eq_getElem?_getD, show i < (Z j).length by omega]
          | i' + 1, hu => simp at hu
      · match i, hu with
        | 0, hu =>
          have hu' : Value.slice (A j) p.length (C j) = u := by simpa using hu
          subst hu'
          rw [show j * (Kd.slice q (Kd.int k)).sz + 0 = j from by show j * 1 + 0 = j; omega, h0, hp, hL]
        | i + 1, hu => simp at hu
    · obtain ⟨j, hj, rfl⟩ := List.mem_map.1 hr
      have hj' := List.mem_range.1 hj
      obtain ⟨h0, h1, h2, h3, h4, _⟩ := hcell j (by omega)
      exact ⟨by rw [hlr j hj']; omega, fun y hy => h4 y (List.mem_of_mem_take hy)⟩
end
end Go.Proofs.Ytnagdcigoaeicaa.Open

/- Plain lemmas on what the printed functions compute (seat Ytegnghbgkiddoaa, module Qo). Conditions: each lemma's own. -/
import Derived.Test.YtegnghbgkiddoaaQn
import Derived.Test.YtegnghbgkiddoaaPA0
import Derived.Test.YtegnghbgkiddoaaPA27
import Derived.Test.YtegnghbgkiddoaaPA28
import Derived.Test.YtegnghbgkiddoaaPA4
set_option linter.unusedVariables false
set_option linter.unusedSimpArgs false
namespace Go.Proofs.Ytegnghbgkiddoaa.Q
open Go Go.RowKit Go.Proofs.Ytegnghbgkiddoaa.PA Go.Proofs.YtegnghbgkiddoaaW.PrintWords Go.Proofs.YtegnghbgkiddoaaW.PrintLast

/-! ### the next claims -/
structure Gd (m : Nat) (cl : List Cm) : Prop where
  len : cl.length = m
  d0 : ∀ o, o < m → 0 ≤ (getC cl o).d ∧ (getC cl o).d ≤ 10000
theorem hear_row {m : Nat} {cl : List Cm} (h : Gd m cl) {o i : Nat} (ho : o < m) {c : Int} (hc : 1 ≤ c ∧ c ≤ 99) :
    ([rd (rd_L5 (cl.map cmL) (o : Int)) 0, wrap64 ((rd (rd_L5 (cl.map cmL) (o : Int)) 1) + c), (o : Int), (i : Int)] : List Int) = cmL (hear cl o i c) := by
  rw [mapcm_rd cl o (by rw [h.len]; exact ho)]
  have := h.d0 o ho
  have e : rd (cmL (getC cl o)) 1 = (getC cl o).d := rfl
  rw [e, w64 (by omega) (by omega)]
  rfl
theorem hearS_some {cl : List Cm} {b i o : Nat} {x : Cb} (h : other x b = some o) (cur : Cm) : hearS cl b i x cur = if ltC (hear cl o i x.c) cur then hear cl o i x.c else cur := by
  unfold hearS
  rw [h]
theorem hearS_none {cl : List Cm} {b i : Nat} {x : Cb} (h : other x b = none) (cur : Cm) : hearS cl b i x cur = cur := by
  unfold hearS
  rw [h]
theorem row_len (x : Cm) : ((cmL x).length : Int) = 4 := rfl
theorem specNext_l2 {m : Nat} {l : List S44} (hV : Vd m l) {cl : List Cm} (hG : Gd m cl) {b : Nat} (hb : b < m) {R : List (List Int)} : ∀ (d i : Nat) (f : Nat → Cm), i + d = l.length →
    Ev (fun k => spec_NextClaims.l1 k (m : Int) l (cl.map cmL) (stC m (fun j => if j = b then hearL cl b i ((l.map cbOf).drop i) (f b) else f j)) (wrap64 ((b : Int) + 1))) R →
    Ev (fun k => spec_NextClaims.l2 k (m : Int) l (cl.map cmL) (stC m f) (b : Int) (i : Int)) R := by
  have hlen := hV.len
  have hm8 := hV.m8
  have hml : ((cl.map cmL).length : Int) = m := by rw [List.length_map, hG.len]
  intro d
  induction d with
  | zero =>
    intro i f hi hn
    refine Ev.step (fun k => by rw [spec_NextClaims.l2]) ?_
    refine evF (by omega) ?_
    have e : stC m (fun j => if j = b then hearL cl b i ((l.map cbOf).drop i) (f b) else f j) = stC m f := by
      rw [List.drop_of_length_le (by simp; omega)]
      exact stC_congr fun j _ => by split <;> simp_all [hearL]
    rwa [e] at hn
  | succ d ih =>
    intro i f hi hn
    have e : wrap64 ((i : Int) + 1) = ((i + 1 : Nat) : Int) := by rw [w64 (by omega) (by omega)]; omega
    obtain ⟨a, q, c, hx, ha, hq, hne, c1, c2, hat, hdr⟩ := hV.map i (by omega)
    rw [hdr] at hn
    refine Ev.step (fun k => by rw [spec_NextClaims.l2]) ?_
    refine evT (by omega) (evT (by omega) ?_)
    rw [hx, e]
    dsimp only
    -- what is heard of o
    have go : ∀ o : Nat, o < m → other (⟨a, q, c⟩ : Cb) b = some o → spec_l7Other.f (a : Int) (q : Int) c (b : Int) = some (o : Int) → Ev (fun k => (spec_l7Other.f (a : Int) (q : Int) c (b : Int)).bind fun t649 => (if t649 < 0 then (spec_NextClaims.l2 k (m : Int) l (cl.map cmL) (stC m f) (b : Int) ((i + 1 : Nat) : Int)) else (if 0 ≤ t649 then (if t649 < ((cl.map cmL).length : Int) then (if 0 < ((rd_L5 (cl.map cmL) t649).length : Int) then (if 1 < ((rd_L5 (cl.map cmL) t649).length : Int) then ((some (([rd (rd_L5 (cl.map cmL) t649) 0, wrap64 ((rd (rd_L5 (cl.map cmL) t649) 1) + c), t649, (i : Int)] : List Int) : List Int)).bind fun y655 => (if 0 ≤ (b : Int) then (if (b : Int) < ((stC m f).length : Int) then ((spec_l7Less.f k y655 (rd_L5 (stC m f) (b : Int))).bind fun t659 => (if t659 = true then (spec_NextClaims.l2 k (m : Int) l (cl.map cmL) ((stC m f).set (b : Int).toNat y655) (b : Int) ((i + 1 : Nat) : Int)) else (spec_NextClaims.l2 k (m : Int) l (cl.map cmL) (stC m f) (b : Int) ((i + 1 : Nat) : Int)))) else (none)) else (none))) else (none)) else (none)) else (none)) else (none)))) R := by
      intro o ho hoth hsp
      refine evS hsp (evF (by omega) (evT (by omega) (evT (by omega) ?_)))
      rw [hear_row hG ho ⟨c1, c2⟩, mapcm_rd cl o (by rw [hG.len]; exact ho), stC_rd m f b hb]
      refine evT (by rw [row_len]; omega) (evT (by rw [row_len]; omega) (evS rfl (evT (by omega) (evT (by rw [stC_len]; omega) (Ev.bind (less_ev _ _) ?_)))))
      by_cases hc : ltC (hear cl o i c) (f b)
      · refine evT (decide_eq_true hc) ?_
        rw [Int.toNat_natCast, stC_set]
        refine ih (i + 1) _ (by omega) ?_
        have ee : stC m (fun j => if j = b then hearL cl b (i + 1) ((l.map cbOf).drop (i + 1)) (if b = b then hear cl o i c else f b) else if j = b then hear cl o i c else f j) = stC m (fun j => if j = b then hearL cl b i (⟨a, q, c⟩ :: (l.map cbOf).drop (i + 1)) (f b) else f j) := by
          refine stC_congr fun j _ => ?_
          by_cases hj : j = b
          · rw [if_pos hj, if_pos hj, if_pos rfl]
            show _ = hearL cl b (i + 1) _ (hearS cl b i ⟨a, q, c⟩ (f b))
            rw [hearS_some hoth, if_pos hc]
          · rw [if_neg hj, if_neg hj, if_neg hj]
        rw [ee]
        exact hn
      · refine evF (by simp only [decide_eq_true_eq]; exact hc) ?_
        refine ih (i + 1) f (by omega) ?_
        have ee : stC m (fun j => if j = b then hearL cl b (i + 1) ((l.map cbOf).drop (i + 1)) (f b) else f j) = stC m (fun j => if j = b then hearL cl b i (⟨a, q, c⟩ :: (l.map cbOf).drop (i + 1)) (f b) else f j) := by
          refine stC_congr fun j _ => ?_
          by_cases hj : j = b
          · rw [if_pos hj, if_pos hj]
            show _ = hearL cl b (i + 1) _ (hearS cl b i ⟨a, q, c⟩ (f b))
            rw [hearS_some hoth, if_neg hc]
          · rw [if_neg hj, if_neg hj]
        rw [ee]
        exact hn
    by_cases h1 : b = a
    · exact go q hq (by simp [other, h1]) (by unfold spec_l7Other.f; rw [if_pos (by omega)])
    · by_cases h2 : b = q
      · exact go a ha (by simp [other, h2, show q ≠ a from fun h => hne h.symm]) (by unfold spec_l7Other.f; rw [if_neg (by omega), if_pos (by omega)])
      · refine evS (a := -1) (by unfold spec_l7Other.f; rw [if_neg (by omega), if_neg (by omega)]) (evT (by omega) ?_)
        refine ih (i + 1) f (by omega) ?_
        have ee : stC m (fun j => if j = b then hearL cl b (i + 1) ((l.map cbOf).drop (i + 1)) (f b) else f j) = stC m (fun j => if j = b then hearL cl b i (⟨a, q, c⟩ :: (l.map cbOf).drop (i + 1)) (f b) else f j) := by
          refine stC_congr fun j _ => ?_
          by_cases hj : j = b
          · rw [if_pos hj, if_pos hj]
            show _ = hearL cl b (i + 1) _ (hearS cl b i ⟨a, q, c⟩ (f b))
            rw [hearS_none (by simp [other, h1, h2])]
          · rw [if_neg hj, if_neg hj]
        rw [ee]
        exact hn
theorem specNext_l1 {m : Nat} {l : List S44} (hV : Vd m l) {cl : List Cm} (hG : Gd m cl) : ∀ (d b : Nat), b + d = m →
    Ev (fun k => spec_NextClaims.l1 k (m : Int) l (cl.map cmL) (stC m (fun j => if j < b then nextC (l.map cbOf) cl j else own j)) (b : Int)) (stC m (nextC (l.map cbOf) cl)) := by
  have hm8 := hV.m8
  intro d
  induction d with
  | zero =>
    intro b hb
    refine Ev.step (fun k => by rw [spec_NextClaims.l1]) ?_
    refine evF (by omega) (evE (Ev.now _) (stC_congr fun j hj => by rw [if_pos (by omega)]))
  | succ d ih =>
    intro b hb
    refine Ev.step (fun k => by rw [spec_NextClaims.l1]) ?_
    refine evT (by omega) ?_
    refine specNext_l2 hV hG (b := b) (by omega) l.length 0 _ (by omega) ?_
    rw [show wrap64 ((b : Int) + 1) = ((b + 1 : Nat) : Int) by rw [w64 (by omega) (by omega)]; omega]
    have ee : stC m (fun j => if j = b then hearL cl b 0 ((l.map cbOf).drop 0) (if b < b then nextC (l.map cbOf) cl b else own b) else if j < b then nextC (l.map cbOf) cl j else own j) = stC m (fun j => if j < b + 1 then nextC (l.map cbOf) cl j else own j) := by
      refine stC_congr fun j _ => ?_
      by_cases hj : j = b
      · subst hj
        rw [if_pos rfl, if_neg (Nat.lt_irrefl _), if_pos (by omega), List.drop_zero]
        rfl
      · rw [if_neg hj]
        by_cases h : j < b
        · rw [if_pos h, if_pos (by omega)]
        · rw [if_neg h, if_neg (by omega)]
    rw [ee]
    exact ih (b + 1) (by omega)
theorem hearL_snoc (cl : List Cm) (b : Nat) : ∀ (L : List Cb) (x : Cb) (i : Nat) (cur : Cm), hearL cl b i (L ++ [x]) cur = hearS cl b (i + L.length) x (hearL cl b i L cur) := by
  intro L
  induction L with
  | nil => intro x i cur; rfl
  | cons y L ih =>
    intro x i cur
    show hearL cl b (i + 1) (L ++ [x]) (hearS cl b i y cur) = _
    rw [ih, show i + 1 + L.length = i + (y :: L).length by simp; omega]
    rfl
theorem implNext_one {m : Nat} {l : List S44} (hV : Vd m l) {cl : List Cm} (hG : Gd m cl) {i a q : Nat} {c : Int} (hi : i < l.length) (hx : rd_T44 l (i : Int) = ⟨(a : Int), (q : Int), c⟩) (hne : a ≠ q) (hc : 1 ≤ c ∧ c ≤ 99) {t b o : Nat} (ht : t < 2)
    (hb : impl_NextClaims.sel (t : Int) (a : Int) (q : Int) = (b : Int)) (hbm : b < m) (hom : o < m) (ho : other (⟨a, q, c⟩ : Cb) b = some o) (f : Nat → Cm) {R : List (List Int)}
    (hn : Ev (fun k => impl_NextClaims.l1 k (cl.map cmL) (stC m (fun j => if j = b then hearS cl b i ⟨a, q, c⟩ (f b) else f j)) (i : Int) l (l.length : Int) (i : Int) ((t + 1 : Nat) : Int) (a : Int) (q : Int) c) R) :
    Ev (fun k => impl_NextClaims.l1 k (cl.map cmL) (stC m f) (i : Int) l (l.length : Int) (i : Int) (t : Int) (a : Int) (q : Int) c) R := by
  have hm8 := hV.m8
  have hml : ((cl.map cmL).length : Int) = m := by rw [List.length_map, hG.len]
  have hot : impl_Cable_other.f (a : Int) (q : Int) c (b : Int) = some ((o : Int), true) := by
    unfold impl_Cable_other.f
    unfold other at ho
    dsimp only at ho
    by_cases h1 : b = a
    · rw [if_pos h1] at ho
      obtain rfl := Option.some.inj ho
      rw [if_pos (by omega)]
    · rw [if_neg h1] at ho
      by_cases h2 : b = q
      · rw [if_pos h2] at ho
        obtain rfl := Option.some.inj ho
        rw [if_neg (by omega), if_pos (by omega)]
      · rw [if_neg h2] at ho
        cases ho
  refine Ev.step (fun k => by rw [impl_NextClaims.l1]) ?_
  refine evT (by omega) (evT (by omega) ?_)
  rw [hx]
  dsimp only
  rw [hb, show wrap64 ((t : Int) + 1) = ((t + 1 : Nat) : Int) by rw [w64 (by omega) (by omega)]; omega]
  refine evS hot ?_
  dsimp only
  refine evT (by omega) (evT (by omega) ?_)
  rw [hear_row hG hom hc, mapcm_rd cl o (by rw [hG.len]; exact hom), stC_rd m f b hbm]
  obtain ⟨v, hv, hlt⟩ := compare_ev (hear cl o i c) (f b)
  refine evT (by rw [row_len]; omega) (evT (by rw [row_len]; omega) (evS rfl (evT (by omega) (evT (by rw [stC_len]; omega) (Ev.bind hv ?_)))))
  by_cases h : v < 0
  · refine evT h ?_
    rw [Int.toNat_natCast, stC_set]
    have ee : stC m (fun j => if j = b then hearS cl b i ⟨a, q, c⟩ (f b) else f j) = stC m (fun j => if j = b then hear cl o i c else f j) := by
      refine stC_congr fun j _ => ?_
      rw [hearS_some ho, if_pos (hlt.1 h)]
    rw [ee] at hn
    exact hn
  · refine evF h ?_
    have ee : stC m (fun j => if j = b then hearS cl b i ⟨a, q, c⟩ (f b) else f j) = stC m f := by
      refine stC_congr fun j _ => ?_
      rw [hearS_some ho, if_neg (fun hc => h (hlt.2 hc))]
      split <;> simp_all
    rw [ee] at hn
    exact hn
theorem implNext_l0 {m : Nat} {l : List S44} (hV : Vd m l) {cl : List Cm} (hG : Gd m cl) : ∀ (d i : Nat), i + d = l.length →
    Ev (fun k => impl_NextClaims.l0 k (cl.map cmL) (stC m (fun j => hearL cl j 0 ((l.map cbOf).take i) (own j))) l (l.length : Int) (i : Int)) (stC m (nextC (l.map cbOf) cl)) := by
  have hlen := hV.len
  have hm8 := hV.m8
  intro d
  induction d with
  | zero =>
    intro i hi
    refine Ev.step (fun k => by rw [impl_NextClaims.l0]) ?_
    refine evF (by omega) (evE (Ev.now _) (stC_congr fun j hj => ?_))
    rw [List.take_of_length_le (by simp; omega)]
    rfl
  | succ d ih =>
    intro i hi
    obtain ⟨a, q, c, hx, ha, hq, hne, c1, c2, hat, hdr⟩ := hV.map i (by omega)
    refine Ev.step (fun k => by rw [impl_NextClaims.l0]) ?_
    refine evT (by omega) (evT (by omega) (evT (by omega) ?_))
    rw [hx]
    dsimp only
    have h0 : other (⟨a, q, c⟩ : Cb) a = some q := by simp [other]
    have h1 : other (⟨a, q, c⟩ : Cb) q = some a := by simp [other, show q ≠ a from fun h => hne h.symm]
    refine implNext_one hV hG (t := 0) (b := a) (o := q) (by omega) hx hne ⟨c1, c2⟩ (by omega) rfl ha hq h0 _ ?_
    refine implNext_one hV hG (t := 1) (b := q) (o := a) (by omega) hx hne ⟨c1, c2⟩ (by omega) rfl hq ha h1 _ ?_
    refine Ev.step (fun k => by rw [impl_NextClaims.l1]) ?_
    refine evF (by omega) ?_
    rw [show wrap64 ((i : Int) + 1) = ((i + 1 : Nat) : Int) by rw [w64 (by omega) (by omega)]; omega]
    have ee : stC m (fun j => if j = q then hearS cl q i ⟨a, q, c⟩ (if q = a then hearS cl a i ⟨a, q, c⟩ (hearL cl a 0 ((l.map cbOf).take i) (own a)) else hearL cl q 0 ((l.map cbOf).take i) (own q)) else if j = a then hearS cl a i ⟨a, q, c⟩ (hearL cl a 0 ((l.map cbOf).take i) (own a)) else hearL cl j 0 ((l.map cbOf).take i) (own j)) = stC m (fun j => hearL cl j 0 ((l.map cbOf).take (i + 1)) (own j)) := by
      refine stC_congr fun j _ => ?_
      have hil : i < (l.map cbOf).length := by simp; omega
      have htk : (l.map cbOf).take (i + 1) = (l.map cbOf).take i ++ [⟨a, q, c⟩] := by
        rw [List.take_succ_eq_append_getElem hil]
        rw [List.getElem?_eq_getElem hil] at hat
        rw [Option.some.inj hat]
      have htl : 0 + ((l.map cbOf).take i).length = i := by rw [List.length_take]; omega
      rw [htk, hearL_snoc, htl]
      by_cases hj : j = q
      · subst hj
        rw [if_pos rfl, if_neg (fun h => hne h.symm)]
      · rw [if_neg hj]
        by_cases hj2 : j = a
        · subst hj2
          rw [if_pos rfl]
        · rw [if_neg hj2, hearS_none (by simp [other, hj, hj2])]
    have hr := ih (i + 1) (by omega)
    rw [← ee] at hr
    exact hr

end Go.Proofs.Ytegnghbgkiddoaa.Q

/- Plain lemmas on what the printed functions compute (seat Ytegkgandlpiobaa, module QLevelsFrom). Conditions: each lemma's own. -/
import Derived.Test.YtegkgandlpiobaaQf
import Derived.Test.YtegkgandlpiobaaPA0
import Derived.Test.YtegkgandlpiobaaPA10
import Derived.Test.YtegkgandlpiobaaPA11
import Derived.Test.YtegkgandlpiobaaPA13
import Derived.Test.YtegkgandlpiobaaPA24
set_option linter.unusedVariables false
set_option linter.unusedSimpArgs false
namespace Go.Proofs.Ytegkgandlpiobaa.Q
open Go Go.RowKit Go.Proofs.Ytegkgandlpiobaa.PA Go.Proofs.YtegkgandlpiobaaW.PrintWords Go.Proofs.YtegkgandlpiobaaW.PrintLast

theorem drawLevelsFrom_ev (l : List Int) (hb : ∀ x ∈ l, (Lit.int .u8 x).wf = true) : ∃ ts w, Ev (fun k => spec_DrawLevelsFrom.f k l) (ts, w) ∧ ts.length ≤ 16001 ∧ 0 ≤ w ∧ w ≤ 41 := by
  obtain ⟨b, ho, hl⟩ := open_ev l hb
  obtain ⟨w, hw, hm⟩ := num_ev b hl 0 ([8, 4, 1, 20, 3, 5] : List Int) (by omega) (by omega) (by simp) (by simp)
  have hwb : 1 ≤ w ∧ w ≤ 20 := by simp at hm; omega
  obtain ⟨xs, q, hd, k1, k2, k3, k4⟩ := l8Draw_ev b hl (0 + 1) (by omega) (by omega)
  obtain ⟨ws, q2, hw2, j1, j2, j3, j4⟩ := l8Widths_ev b hl q w (by omega) (by omega) (by omega)
  have hlv := levels_len xs
  have htk := ticks_len (levels xs) ws
  obtain ⟨v, hv, v0, v1⟩ := pick_ev b hl q2 20 (by omega) (by omega) (by omega)
  obtain ⟨u, hu, hum⟩ := num_ev b hl (q2 + 1) ([0, 41, 2] : List Int) (by omega) (by omega) (by simp) (by simp)
  have hub : 0 ≤ u ∧ u ≤ 41 := by simp at hum; omega
  have pre : ∀ {r : List Int × Int}, Ev (fun k => if v = 0 then ((spec_l21Rd_num.f k b (q2 + 1) (([0, 41, 2] : List Int))).bind fun bt350 => (some (ticks (levels xs) ws, bt350.1))) else (if v = 1 then (if (ticks (levels xs) ws).length < 17592186044416 then (some ((ticks (levels xs) ws ++ [2]), w)) else (none)) else (some (ticks (levels xs) ws, w)))) r → Ev (fun k => spec_DrawLevelsFrom.f k l) r := by
    intro r h
    simp only [spec_DrawLevelsFrom.f]
    exact evS ho (Ev.bind hw (Ev.bind hd (Ev.bind (specLevels_ev xs (by omega)) (Ev.bind hw2 (Ev.bind (specTicks_ev _ ws (by omega) (by omega)) (Ev.bind hv h))))))
  by_cases c0 : v = 0
  · exact ⟨_, u, pre (evT c0 (Ev.bind hu (Ev.now _))), by omega, by omega, by omega⟩
  · by_cases c1 : v = 1
    · exact ⟨_, w, pre (evF c0 (evT c1 (evT (by omega) (Ev.now _)))), by simp; omega, by omega, by omega⟩
    · exact ⟨_, w, pre (evF c0 (evF c1 (Ev.now _))), by omega, by omega, by omega⟩

def ex (c : Nat) : List (Int × Nat) → List Int
  | [] => []
  | b :: bs => List.replicate (b.2 * c) b.1 ++ ex c bs
def Alt : Option Int → List (Int × Nat) → Prop
  | _, [] => True
  | p, b :: bs => p ≠ some b.1 ∧ (1 ≤ b.2 ∧ b.2 ≤ 2) ∧ Alt (some b.1) bs
theorem ex_mem {c : Nat} : ∀ {bs : List (Int × Nat)} {x : Int}, x ∈ ex c bs → ∃ b ∈ bs, x = b.1 := by
  intro bs
  induction bs with
  | nil => intro x h; simp [ex] at h
  | cons b bs ih =>
    intro x h
    rcases List.mem_append.1 h with h | h
    · exact ⟨b, by simp, (List.mem_replicate.1 h).2⟩
    · obtain ⟨b', hb, e⟩ := ih h
      exact ⟨b', by simp [hb], e⟩
theorem getD_mid (pre : List Int) (n : Nat) (v : Int) (r : List Int) (j : Nat) (hj : j < n) : (pre ++ (List.replicate n v ++ r)).getD (pre.length + j) 0 = v := by
  rw [List.getD_eq_getElem?_getD, List.getElem?_append_right (by omega), List.getElem?_append_left (by rw [List.length_replicate]; omega), List.getElem?_replicate, if_pos (by omega)]
  rfl
theorem ex_runs {c : Nat} (hc : 1 ≤ c) : ∀ (bs : List (Int × Nat)) (p : Option Int) (pre l : List Int), l = pre ++ ex c bs → Alt p bs → (0 < pre.length → p = some (pre.getD (pre.length - 1) 0)) →
    IsRuns l pre.length (bs.map fun b => ((b.2 * c : Nat) : Int)) l.length := by
  intro bs
  induction bs with
  | nil => intro p pre l hl ha hp; show pre.length = l.length; rw [hl]; simp [ex]
  | cons b bs ih =>
    intro p pre l hl ha hp
    obtain ⟨v, m⟩ := b
    obtain ⟨h1, ⟨h2, h3⟩, h4⟩ := ha
    have hn : 1 ≤ m * c := Nat.mul_pos h2 hc
    have hl' : l = pre ++ (List.replicate (m * c) v ++ ex c bs) := hl
    have hat : ∀ j, j < m * c → l.getD (pre.length + j) 0 = v := fun j hj => by rw [hl']; exact getD_mid _ _ _ _ _ hj
    have h0 := hat 0 (by omega)
    refine ⟨by show (1 : Int) ≤ ((m * c : Nat) : Int); omega, fun j hj => ?_, fun hpos he => ?_, ?_⟩
    · have hj' : j < m * c := by rw [Int.toNat_natCast] at hj; exact hj
      rw [hat j hj']; exact h0.symm
    · have h5 := hp hpos
      apply h1
      rw [h5]
      have e1 : l.getD (pre.length - 1) 0 = pre.getD (pre.length - 1) 0 := by
        rw [hl', List.getD_eq_getElem?_getD, List.getElem?_append_left (by omega), ← List.getD_eq_getElem?_getD]
      rw [← e1, he]
      exact congrArg some h0
    · have h6 := ih (some v) (pre ++ List.replicate (m * c) v) l (by rw [hl', List.append_assoc]) h4 (fun _ => by
        rw [List.getD_eq_getElem?_getD, List.getElem?_append_right (by simp; omega), List.getElem?_replicate, if_pos (by simp; omega)]
        rfl)
      have e2 : (pre ++ List.replicate (m * c) v).length = pre.length + ((m * c : Nat) : Int).toNat := by rw [Int.toNat_natCast, List.length_append, List.length_replicate]
      rw [e2] at h6
      exact h6
theorem ex_lf {w : Int} (hw : 1 ≤ w) : ∀ (bs : List (Int × Nat)) (p : Option Int) (pre l acc : List Int), l = pre ++ ex w.toNat bs → Alt p bs →
    lfTo l w acc pre.length (bs.map fun b => ((b.2 * w.toNat : Nat) : Int)) = some (acc ++ ex 1 bs) := by
  intro bs
  induction bs with
  | nil => intro p pre l acc hl ha; simp [lfTo, ex]
  | cons b bs ih =>
    intro p pre l acc hl ha
    obtain ⟨v, m⟩ := b
    obtain ⟨h1, ⟨h2, h3⟩, h4⟩ := ha
    have hl' : l = pre ++ (List.replicate (m * w.toNat) v ++ ex w.toNat bs) := hl
    have hm : m = 1 ∨ m = 2 := by omega
    have hn : 1 ≤ m * w.toNat := Nat.mul_pos h2 (by omega)
    have h0 : l.getD pre.length 0 = v := by
      have := getD_mid pre (m * w.toNat) v (ex w.toNat bs) 0 (by omega)
      rw [← hl'] at this
      exact this
    have hc : ¬ (2 * ((m * w.toNat : Nat) : Int) < w ∨ 2 * ((m * w.toNat : Nat) : Int) ≥ 5 * w) := by
      rcases hm with rfl | rfl <;> omega
    have hmy : many w ((m * w.toNat : Nat) : Int) = m := by
      unfold many
      rcases hm with rfl | rfl
      · rw [if_neg (by omega)]
      · rw [if_pos (by omega)]
    have h6 := ih (some v) (pre ++ List.replicate (m * w.toNat) v) l (acc ++ List.replicate m v) (by rw [hl', List.append_assoc]) h4
    have e2 : (pre ++ List.replicate (m * w.toNat) v).length = pre.length + ((m * w.toNat : Nat) : Int).toNat := by rw [Int.toNat_natCast, List.length_append, List.length_replicate]
    rw [e2] at h6
    show lfTo l w acc pre.length (((m * w.toNat : Nat) : Int) :: bs.map fun b => ((b.2 * w.toNat : Nat) : Int)) = _
    rw [lfTo, if_neg hc, hmy, h0, h6, List.append_assoc]
    simp [ex]
theorem lf_blocks {l : List Int} {w : Int} : ∀ (rs : List Int) (s e : Nat) (acc o : List Int), IsRuns l s rs e → e ≤ l.length → lfTo l w acc s rs = some o →
    ∃ bs : List (Int × Nat), bs.length = rs.length ∧ o = acc ++ ex 1 bs ∧ Alt (if 0 < s then some (l.getD (s - 1) 0) else none) bs ∧ ∀ b ∈ bs, b.1 ∈ l := by
  intro rs
  induction rs with
  | nil =>
    intro s e acc o h he ho
    have : acc = o := by simpa [lfTo] using ho
    exact ⟨[], rfl, by simp [ex, this], trivial, by simp⟩
  | cons n rs ih =>
    intro s e acc o h he ho
    obtain ⟨h1, h2, h3, h4⟩ := h
    have hle := h4.le
    rw [lfTo] at ho
    split at ho
    · cases ho
    · obtain ⟨bs, k1, k2, k3, k4⟩ := ih (s + n.toNat) e _ o h4 he ho
      refine ⟨(l.getD s 0, many w n) :: bs, by simp [k1], ?_, ⟨?_, ?_, ?_⟩, ?_⟩
      · rw [k2, List.append_assoc]; simp [ex]
      · by_cases h0 : 0 < s
        · rw [if_pos h0]
          intro hx
          exact h3 h0 (Option.some.inj hx)
        · rw [if_neg h0]; simp
      · unfold many; split <;> exact ⟨by omega, by omega⟩
      · rw [if_pos (by omega)] at k3
        have e1 := h2 (n.toNat - 1) (by omega)
        rw [show s + (n.toNat - 1) = s + n.toNat - 1 by omega] at e1
        rw [e1] at k3
        exact k3
      · intro b hb
        rcases List.mem_cons.1 hb with rfl | hb
        · exact getD_mem (by omega)
        · exact k4 b hb
theorem flat_rep (m c : Nat) (v : Int) : (List.replicate m v).flatMap (fun x => List.replicate c x) = List.replicate (m * c) v := by
  induction m with
  | zero => simp
  | succ m ih => rw [List.replicate_succ, List.flatMap_cons, ih, List.replicate_append_replicate]; congr 1; rw [Nat.succ_mul]; omega
theorem flat_ex (c : Nat) (bs : List (Int × Nat)) : (ex 1 bs).flatMap (fun x => List.replicate c x) = ex c bs := by
  induction bs with
  | nil => rfl
  | cons b bs ih =>
    show (List.replicate (b.2 * 1) b.1 ++ ex 1 bs).flatMap _ = List.replicate (b.2 * c) b.1 ++ ex c bs
    rw [List.flatMap_append, ih, flat_rep, Nat.mul_one]
theorem tkTo_flat (o : List Int) (w : Int) : ∀ i : Nat, i ≤ o.length → tkTo o [w] i = (o.take i).flatMap (fun x => List.replicate w.toNat x) := by
  intro i
  induction i with
  | zero => intro _; simp [tkTo]
  | succ i ih =>
    intro hi
    have e : wd [w] i = w := by unfold wd; simp
    rw [List.take_succ_eq_append_getElem (by omega), List.flatMap_append, ← ih (by omega)]
    show tkTo o [w] i ++ List.replicate (wd [w] i).toNat (o.getD i 0) = _
    rw [e, getD_at o i (by omega)]
    simp
theorem again {ts : List Int} {w : Int} {o : List Int} (h : levelsFrom ts w = (o, true)) :
    levelsFrom (ticks o [w]) w = (o, true) ∧ (runs (ticks o [w])).length = (runs ts).length := by
  unfold levelsFrom at h
  by_cases hok : lfOk ts w
  · rw [if_pos hok] at h
    cases hlf : lfTo ts w [] 0 (runs ts) with
    | none => rw [hlf] at h; simp [lfEnd] at h
    | some x =>
      rw [hlf] at h
      unfold lfEnd at h
      by_cases hx : x.length > 400
      · simp [hx] at h
      · simp [hx] at h
        subst h
        obtain ⟨bs, k1, k2, k3, k4⟩ := lf_blocks (runs ts) 0 ts.length [] x (runs_is ts) (Nat.le_refl _) hlf
        rw [if_neg (by omega)] at k3
        have k2' : x = ex 1 bs := by simpa using k2
        have hbits : ∀ c, (ex c bs).all bit1 = true := fun c => List.all_eq_true.2 (fun y hy => by
          obtain ⟨b, hb, e⟩ := ex_mem hy
          rw [e]
          exact List.all_eq_true.1 hok.1 _ (k4 b hb))
        have hw1 : ([w] : List Int).all wid1 = true := by have := hok.2; simp [wid1]; omega
        have htk : tkOk x [w] := ⟨by rw [k2']; exact hbits 1, by omega, by simp, hw1⟩
        have ht : ticks x [w] = ex w.toNat bs := by
          unfold ticks
          rw [if_pos htk, tkTo_flat x w x.length (Nat.le_refl _), List.take_of_length_le (Nat.le_refl _), k2', flat_ex]
        have hlen := ticks_len x [w]
        have hr := ex_runs (c := w.toNat) (by have := hok.2; omega) bs none [] (ex w.toNat bs) rfl k3 (by simp)
        have hruns : runs (ex w.toNat bs) = bs.map fun b => ((b.2 * w.toNat : Nat) : Int) := runs_unique (runs_is _) hr
        rw [ht] at hlen ⊢
        refine ⟨?_, by rw [hruns, List.length_map, k1]⟩
        unfold levelsFrom
        rw [if_pos ⟨hbits _, hok.2.1, hok.2.2.1, hlen⟩, hruns]
        have := ex_lf hok.2.1 bs none [] (ex w.toNat bs) [] rfl k3
        rw [show (0 : Nat) = ([] : List Int).length from rfl, this, List.nil_append, ← k2']
        unfold lfEnd
        simp [hx]
  · rw [if_neg hok] at h
    cases h
theorem q_FnLevelsFrom : laws_FnLevelsFrom.Pure := by
  intro l hl1 hl2 hb
  refine Ev.rounds ?_
  simp only [laws_FnLevelsFrom.f]
  by_cases h0 : (l.length : Int) > 1048576
  · exact evT h0 (Ev.now _)
  obtain ⟨ts, w, hd, k1, k2, k3⟩ := drawLevelsFrom_ev l hb
  have hs := levelsFrom_len ts w
  have hi := implFrom_ev ts (by omega) w
  have hsp := specFrom_ev ts (by omega) w
  have hag := @again ts w
  generalize levelsFrom ts w = g at hs hi hsp hag
  obtain ⟨g0, g1⟩ := g
  replace hs : g0.length ≤ 400 := hs
  have hq : Ev (fun k => laws_wnInts.f k g0 g0) true := evE (wnInts_ev _ _ (by omega)) (by simp)
  have out : Ev (fun k => laws_FnLevelsFrom.j0 k ts w g0 g1 g0 g1 true) true := by
    refine Ev.step (fun k => by rw [laws_FnLevelsFrom.j0]) ?_
    exact evT rfl (evT (by simp) (Ev.bind hq (Ev.now _)))
  refine evF h0 (Ev.bind hd (Ev.bind hi (Ev.bind hsp ?_)))
  refine evF (by simp) (Ev.bind hq ?_)
  refine evT rfl ?_
  cases g1 with
  | false => exact evF (by simp) out
  | true =>
    refine evT rfl ?_
    by_cases hz : g0.length = 0
    · rw [show ((g0.length : Int) == 0) = true by simpa using hz]
      exact out
    · obtain ⟨a1, a2⟩ := hag rfl
      have htl := ticks_len g0 [w]
      refine Ev.step (fun k => by rw [laws_FnLevelsFrom.j0]) ?_
      refine evF (by simpa using hz) (Ev.bind (implTicks_ev g0 [w] (by omega) (by simp)) (Ev.bind (evE (implFrom_ev (ticks g0 [w]) (by omega) w) a1) ?_))
      refine evT rfl (Ev.bind hq ?_)
      refine evT rfl (Ev.bind (implRuns_ev (ticks g0 [w]) (by omega)) (Ev.bind (implRuns_ev ts (by omega)) ?_))
      exact evE (Ev.now _) (by rw [a2]; simp)

end Go.Proofs.Ytegkgandlpiobaa.Q

-- Laid by this session's own program (pr.py) over the translation; Lean checks it.
import Derived.Test.YtdkmgcijhaokkaaPA0
import Derived.Test.YtdkmgcijhaokkaaPA1
import Derived.Test.YtdkmgcijhaokkaaPA2
import Derived.Test.YtdkmgcijhaokkaaPA5
namespace Go.Proofs.Ytdkmgcijhaokkaa.PA
open Go.RowKit Go.Proofs.YtdkmgcijhaokkaaW.PrintWords Go.Proofs.YtdkmgcijhaokkaaW.PrintLast Go.Proofs.YtdkmgcijhaokkaaW.PrintMore
attribute [local go_sem] max2_int min2_int max_two min_two max_three min_three max_four min_four   -- for this text's walks alone
set_option linter.unusedVariables false
set_option linter.unusedSimpArgs false

/-! ### laws_markIntS: function 37 -/
def laws_markIntS.l0 : Nat → List Int → Int → Int → Option (Int × List Int)
  | 0, _, _, _ => none
  | k + 1, x0, x1, x5 => if x5 < (x0.length : Int) then (if 0 ≤ x5 then (laws_markIntS.l0 k (x0.set (x5 : Int).toNat x1) (wrap64 (x1 + 1)) (wrap64 (x5 + 1))) else (none)) else (some (x1, x0))
def laws_markIntS.f (k : Nat) (l0 : List Int) (a1 : Int) : Option (Int × List Int) := laws_markIntS.l0 k l0 a1 0
theorem laws_markIntS.mono_l : ∀ k, (∀ y0 y1 y2, LeO (laws_markIntS.l0 k y0 y1 y2) (laws_markIntS.l0 (k + 1) y0 y1 y2))
  | 0 => fun _ _ _ r h => by simp [laws_markIntS.l0] at h
  | k + 1 => by
    have ih0 := laws_markIntS.mono_l k
    · intro y0 y1 y2
      unfold laws_markIntS.l0
      repeat' first
      | (with_reducible exact ih0 _ _ _)
      | (with_reducible exact LeO.refl _)
      | (with_reducible exact LeO.none _)
      | (with_reducible refine LeO.ite ?_ ?_)
      | (with_reducible refine LeO.bind ?_ (fun _ => ?_))
      | exact ih0 _ _ _
      | exact LeO.none _
      | refine LeO.ite ?_ ?_
      | refine LeO.bind ?_ (fun _ => ?_)
theorem laws_markIntS.mono : ∀ a0 a1 k, LeO (laws_markIntS.f k a0 a1) (laws_markIntS.f (k + 1) a0 a1) := by
  intro a0 a1 k
  have ih0 := laws_markIntS.mono_l k
  unfold laws_markIntS.f
  repeat' first
      | (with_reducible exact ih0 _ _ _)
      | (with_reducible exact LeO.refl _)
      | (with_reducible exact LeO.none _)
      | (with_reducible refine LeO.ite ?_ ?_)
      | (with_reducible refine LeO.bind ?_ (fun _ => ?_))
      | exact ih0 _ _ _
      | exact LeO.none _
      | refine LeO.ite ?_ ?_
      | refine LeO.bind ?_ (fun _ => ?_)
set_option maxHeartbeats 8000000 in
set_option maxRecDepth 100000 in
theorem laws_markIntS.calls (k : Nat) (P0_ : Nat → Prop) (u9000_ : Value) (l0 : List Int) (a1 : Int) (r1 : Int) (r2 : List Int) (w0 w : World) (hB : Below w0.heap.size w0 w) (ho0 : Kd.R (Kd.int .i64) 3 w w0.heap.size P0_ u9000_ l0) (h : laws_markIntS.f k l0 a1 = some (r1, r2)) :
    Calls Try.prog 37 #[u9000_, .int .i64 a1] w fun e w' => e = .returned (.int .i64 r1) ∧ Kd.R (Kd.int .i64) 3 w' w0.heap.size (fun k_ => (P0_ k_ ∨ w.heap.size ≤ k_)) u9000_ r2 ∧ Below w0.heap.size w0 w' ∧ Kept w w' (fun k_ => P0_ k_) := by
  have HO0 := Aside0.mk (show Kd.R (Kd.int .i64) 3 w w0.heap.size (fun k_ => (P0_ k_ ∨ w.heap.size ≤ k_)) u9000_ l0 from Kd.R_mono ho0 (fun k_ hk => (.inl hk)))
  have HK := Aside0.mk (Kept.refl w (fun k_ => P0_ k_))
  have HW0 := Aside0.mk hB.size
  have HB := Aside0.mk hB
  clear hB
  have H : (laws_markIntS.l0 k l0 a1 0) = some (r1, r2) := h
  clear h
  have H' := Aside0.mk H
  clear H
  go_enter Try.func37, Try.ntmps37
  go_wp2
  go_loopg [1, 5] k (fun kq v1 v5 w' => ∃ (x0_1 : List Int) (x1_1 : Int) (x5_1 : Int), v1 = .int .i64 x1_1 ∧ v5 = .int .i64 x5_1 ∧ Aside0 (laws_markIntS.l0 kq x0_1 x1_1 x5_1 = some (r1, r2)) ∧ Aside0 (kq ≤ k) ∧ Aside0 (Kd.R (Kd.int .i64) 3 w' w0.heap.size (fun k_ => (P0_ k_ ∨ w.heap.size ≤ k_)) u9000_ x0_1) ∧ Aside0 (Kept w w' (fun k_ => P0_ k_)) ∧ Aside0 (Below w0.heap.size w0 w'))
  case atStart => exact ⟨(l0), (a1), (0), (by first | rfl | (simp; done) | (simp [*]; done)), (by first | rfl | (simp; done) | (simp [*]; done)), H', ⟨Nat.le_refl _⟩, ⟨by (with_reducible repeat (first | apply Kd.R_alloc | apply Kd.R_drewN | apply Kd.R_drew)); exact HO0.out⟩, ⟨by repeat (first | (with_reducible first | exact HK.out | apply Kept.alloc | apply Kept.drewN | apply Kept.drew) | exact HK.out)⟩, ⟨by repeat (first | (with_reducible first | exact HB.out | apply below_alloc | apply pw_below_drewN | apply below_drew1) | exact HB.out)⟩⟩
  case round =>
    clear H'
    try clear p2
    obtain ⟨x0_1, x1_1, x5_1, rfl, rfl, HA, HK1, HO_0, HK, HB⟩ := hrel
    cases gk with
    | zero => exact absurd HA.out (by simp [laws_markIntS.l0])
    | succ k1 =>
      have H := HA.out
      clear HA
      simp only [laws_markIntS.l0] at H
      by_cases c3 : x5_1 < (x0_1.length : Int)
      · rw [if_pos c3] at H
        have c3b0 : decide (x5_1 < (x0_1.length : Int)) = true := decide_eq_true c3
        clear c3
        by_cases c4 : 0 ≤ x5_1
        · rw [if_pos c4] at H
          have c4b0 : decide (0 ≤ x5_1) = true := decide_eq_true c4
          clear c4
          obtain ⟨y292, hy292⟩ : ∃ y_ : List Int, y_ = (x0_1.set (x5_1 : Int).toNat x1_1) := ⟨_, rfl⟩
          replace H : (laws_markIntS.l0 k1 y292 (wrap64 (x1_1 + 1)) (wrap64 (x5_1 + 1))) = some (r1, r2) := by first | (rw [hy292]; with_reducible exact H) | (have H2_ := (Option.bind_some _ _).symm.trans H; rw [hy292]; with_reducible exact H2_) | (have H2_ := (Option.bind_some _ _).symm.trans H; with_reducible exact H2_) | with_reducible exact H | (rw [hy292]; exact H) | exact H
          have Ny292 := Aside0.mk hy292
          clear hy292
          have H' := Aside0.mk H
          clear H
          obtain ⟨Ao6, co6, eo6⟩ := Kd.R_slice HO_0.out
          subst eo6
          have p5 : 0 ≤ (x5_1 : Int) := of_decide_eq_true (by first | (with_reducible assumption) | assumption)
          have q5 : (x5_1 : Int) < ((x0_1.length : Int) : Int) := of_decide_eq_true (by first | (with_reducible assumption) | assumption)
          obtain ⟨go5, co5, eo5, gb5, gl5, cl5, HG5⟩ := Kd.R_form HO_0.out (by omega)
          (first | cases eo5 | (injection eo5 with ea_ en_ ec_; (first | subst ea_ | (injection ea_ with ea_; subst ea_)); subst ec_; clear en_))
          have GB5 := Aside0.mk gb5
          have GG5 := Aside0.mk HG5
          clear gb5 gl5 HG5
          have HMgo5 := Aside0.mk (show (P0_ go5 ∨ w.heap.size ≤ go5) from (HO_0.out.1 _ rfl))
          obtain ⟨hx5_0, hf5_0⟩ := Kd.R_celln 0 HO_0.out (x5_1 : Int) p5 q5
          replace p5 := eq_true p5
          replace q5 := eq_true q5
          have HP7 := Kd.R_putg HO_0.out (x5_1 : Int) x1_1
          go_wp2_with (first | ((with_reducible refine gate_store (t := 3) (p := 15) rfl ?_); refine store_event (t := 3) (p := 15) (v := ?vo_w8) (w1 := (wr.setCell ⟨go5, (x5_1 : Int).toNat, none⟩ (.int .i64 x1_1))) ?hg ?ho ?hn ?hr ?_; (case ho => rfl); (case hg => rfl); (case hn => rfl); (case hr => first | (go_simp; done) | (go_simp; rfl)); intro w8 hw; have hg : wr.grownBy w8 (some go5) := (by rw [hw]; exact HP7.2); have hp_ : Kd.R (Kd.int .i64) 3 w8 w0.heap.size (fun k_ => (P0_ k_ ∨ w.heap.size ≤ k_)) (.slice (some ⟨go5, 0, none⟩) x0_1.length co6) y292 := (by rw [hw, Ny292.out]; exact HP7.1); clear HP7; have n0_ := Aside0.mk (hp_); have n1_ := Aside0.mk ((by rw [hw]; exact below_set (HB.out) GB5.out : Below w0.heap.size w0 w8)); have n2_ := Aside0.mk (Kept.of_grown (S := (fun k_ => P0_ k_)) hg (by repeat (first | (with_reducible first | exact HK.out | apply Kept.alloc | apply Kept.drewN | apply Kept.drew) | exact HK.out)) (fun k_ e_ => (HO_0.out.1 k_ e_))); clear HO_0; clear HB; clear HK; have HO_0 := n0_; have HB := n1_; have HK := n2_; clear n0_ n1_ n2_; clear hg hw hp_))
          go_roundg k1
          case measure => have := HK1.out; omega
          case rel => exact ⟨(y292), (wrap64 (x1_1 + 1)), (wrap64 (x5_1 + 1)), (by first | rfl | (simp; done) | (simp [*]; done)), (by first | rfl | (simp; done) | (simp [*]; done)), H', ⟨by have := HK1.out; omega⟩, ⟨by (with_reducible repeat (first | apply Kd.R_alloc | apply Kd.R_drewN | apply Kd.R_drew)); exact HO_0.out⟩, ⟨by repeat (first | (with_reducible first | exact HK.out | apply Kept.alloc | apply Kept.drewN | apply Kept.drew) | exact HK.out)⟩, ⟨by repeat (first | (with_reducible first | exact HB.out | apply below_alloc | apply pw_below_drewN | apply below_drew1) | exact HB.out)⟩⟩
        · rw [if_neg c4] at H
          exact absurd H (by simp)
      · rw [if_neg c3] at H
        have c3b0 : decide (x5_1 < (x0_1.length : Int)) = false := decide_eq_false c3
        clear c3
        simp only [Option.some.injEq, Prod.mk.injEq] at H
        obtain ⟨rfl, rfl⟩ := H
        obtain ⟨Ao9, co9, eo9⟩ := Kd.R_slice HO_0.out
        subst eo9
        go_wp2
        go_ret
        exact ⟨by first | rfl | (simp [errW_none, errW_some] <;> rfl) | (simp [*, errW_none, errW_some] <;> rfl), by (with_reducible repeat (first | apply Kd.R_alloc | apply Kd.R_drewN | apply Kd.R_drew)); exact HO_0.out, by repeat (first | (with_reducible first | exact HB.out | apply below_alloc | apply pw_below_drewN | apply below_drew1) | exact HB.out), by repeat (first | (with_reducible first | exact HK.out | apply Kept.alloc | apply Kept.drewN | apply Kept.drew) | exact HK.out)⟩

/-! ### laws_markIntSS: function 19 -/
def laws_markIntSS.row (xs : List (List Int)) (i : Int) : List Int := xs.getD i.toNat ([] : List Int)
theorem laws_markIntSS.at5 {w : World} {A : Option Addr} {n : Nat} {xs : List (List Int)} (h : Kd.C (Kd.slice 3 (Kd.int .i64)) w A n xs) (i : Int) (h0 : 0 ≤ i) (h1 : i < n) : ∃ ad A0 c0, A = some ad ∧ w.cell? (ad.add i.toNat) = some (.slice A0 (laws_markIntSS.row xs i).length c0) ∧ (laws_markIntSS.row xs i).length ≤ c0 ∧ (Kd.int .i64).C w A0 (laws_markIntSS.row xs i).length (laws_markIntSS.row xs i) := by
  obtain ⟨ad, c, e, _, hK, hc0⟩ := Kd.C_get h ([] : List Int) i h0 h1
  have hc : ∀ j u, c[j]? = some u → w.cell? (ad.add (i.toNat * 1 + j)) = some u := hc0
  obtain ⟨A0, c0, rfl, l0, g0⟩ := hK
  exact ⟨ad, A0, c0, e, by have hq := hc 0 _ rfl; rwa [Nat.mul_one, Nat.add_zero] at hq, l0, g0⟩
def laws_markIntSS.l0 : Nat → List (List Int) → Int → Int → Option (Int × List (List Int))
 | 0, _, _, _ => none
 | k + 1, x0, x1, x5 => if x5 < (x0.length : Int) then (if 0 ≤ x5 then ((laws_markIntS.f k (laws_markIntSS.row x0 x5) x1).bind fun bt => (laws_markIntSS.l0 k (x0.set x5.toNat bt.2) bt.1 (wrap64 (x5 + 1)))) else none) else some (x1, x0)
def laws_markIntSS.f (k : Nat) (l0 : List (List Int)) (a1 : Int) : Option (Int × List (List Int)) := laws_markIntSS.l0 k l0 a1 0
theorem laws_markIntSS.lend {W : World} {base : Nat} {ok : Nat → Prop} {ad : Addr} {n cap : Nat} {xs : List (List Int)} (h : Kd.S (Kd.slice 3 (Kd.int .i64)) 30 W base ok (.slice (some ad) n cap) xs) (i : Int) (h0 : 0 ≤ i) (h1 : i < n) {v : Value}
    (hx : W.cell? (ad.add i.toNat) = some v) : ∃ oki : Nat → Prop, (∀ k, oki k → ok k) ∧ Kd.R (Kd.int .i64) 3 W base oki v (laws_markIntSS.row xs i) ∧
      ∀ (W2 w1 : World) (row : List Int), W2.heap = W.heap → Kept W2 w1 oki → Kd.R (Kd.int .i64) 3 w1 base (fun k => oki k ∨ W2.heap.size ≤ k) v row → Kd.S (Kd.slice 3 (Kd.int .i64)) 30 w1 base ok (.slice (some ad) n cap) (xs.set i.toNat row) := by
  obtain ⟨g, rfl⟩ := Kd.R_head (Kd.S_R h)
  obtain ⟨oki, cs, hcl, hM, hcc, hoki, hH⟩ := Kd.S_lend h ([] : List Int) i h0 h1
  obtain ⟨v', rfl, hR⟩ := hM
  have hv := hcc 0 v' rfl
  rw [add_at] at hx
  have e : (0 : Nat) + i.toNat = i.toNat * (Kd.slice 3 (Kd.int .i64)).sz + 0 := by show 0 + i.toNat = i.toNat * 1 + 0; omega
  rw [e, hv] at hx
  obtain rfl := Option.some.inj hx
  refine ⟨oki, fun k hk => (hoki k hk).1, hR, fun W2 w1 row hw hk hR1 => ?_⟩
  have hH1 := Kd.H_step hH (w1 := w1) (fun k _ hn hlt => by rw [hk.2 k (by rw [hw]; exact hlt) hn, hw])
  exact Kd.H_back hH1 (x' := row) (okp := oki) ⟨v', rfl, Kd.R_mono (Kd.R_tight rfl hR1) (fun k hk => hR.1 k hk.symm)⟩ (fun _ hk => hk)
set_option maxHeartbeats 8000000 in
set_option maxRecDepth 100000 in
theorem laws_markIntSS.calls (k : Nat) (P0_ : Nat → Prop) (A : Option Addr) (c : Nat) (l0 : List (List Int)) (a1 : Int) (r1 : Int) (r2 : List (List Int)) (w0 w : World) (hB : Below w0.heap.size w0 w) (ho0 : Kd.S (Kd.slice 3 (Kd.int .i64)) 30 w w0.heap.size P0_ (.slice A l0.length c) l0) (h : laws_markIntSS.f k l0 a1 = some (r1, r2)) :
    Calls Try.prog 19 #[.slice A l0.length c, .int .i64 a1] w fun e w' => e = .returned (.int .i64 r1) ∧ Kd.S (Kd.slice 3 (Kd.int .i64)) 30 w' w0.heap.size P0_ (.slice A l0.length c) r2 ∧ Below w0.heap.size w0 w' ∧ Kept w w' P0_ := by
  have HO := Aside0.mk ho0
  have HB := Aside0.mk hB
  clear ho0 hB
  have H' := Aside0.mk (show laws_markIntSS.l0 k l0 a1 0 = some (r1, r2) from h)
  clear h
  go_enter Try.func19, Try.ntmps19
  go_wp2
  go_loopg [1, 5] k (fun kq v1 v5 w' => ∃ (x0 : List (List Int)) (x1 x5 : Int), v1 = .int .i64 x1 ∧ v5 = .int .i64 x5 ∧ Aside0 (laws_markIntSS.l0 kq x0 x1 x5 = some (r1, r2)) ∧ Aside0 (kq ≤ k) ∧ Aside0 (x0.length = l0.length) ∧ Aside0 (Kd.S (Kd.slice 3 (Kd.int .i64)) 30 w' w0.heap.size P0_ (.slice A l0.length c) x0) ∧ Aside0 (Below w0.heap.size w0 w') ∧ Aside0 (Kept w w' P0_))
  case atStart => exact ⟨l0, a1, 0, rfl, rfl, H', ⟨Nat.le_refl _⟩, ⟨rfl⟩, ⟨by (with_reducible repeat (first | apply Kd.S_alloc | apply Kd.S_drewN | apply Kd.S_drew)); exact HO.out⟩, ⟨by repeat (first | (with_reducible first | exact HB.out | apply below_alloc | apply pw_below_drewN | apply below_drew1) | exact HB.out)⟩, ⟨Kept.refl _ _⟩⟩
  case round =>
    clear H' HO HB
    obtain ⟨x0, x1, x5, rfl, rfl, HA, HK1, HL, HO, HB, HKp⟩ := hrel
    cases gk with
    | zero => exact absurd HA.out (by simp [laws_markIntSS.l0])
    | succ k1 =>
      have H := HA.out
      clear HA
      simp only [laws_markIntSS.l0] at H
      by_cases c3 : x5 < (l0.length : Int)
      · rw [if_pos (by rw [HL.out]; exact c3)] at H
        have c3b0 : decide (x5 < (l0.length : Int)) = true := decide_eq_true c3
        by_cases c4 : 0 ≤ x5
        · rw [if_pos c4] at H
          have c4b0 : decide (0 ≤ x5) = true := decide_eq_true c4
          obtain ⟨⟨y1, row⟩, hm, H⟩ := Option.bind_eq_some_iff.mp H
          have HM := Aside0.mk hm
          clear hm
          have H' := Aside0.mk (show laws_markIntSS.l0 k1 (x0.set x5.toNat row) y1 (wrap64 (x5 + 1)) = some (r1, r2) from H)
          clear H
          obtain ⟨ad, A2, c2, e, hx, hl, hi⟩ := laws_markIntSS.at5 (Kd.S_reads' HO.out).2.2 x5 c4 (by rw [HL.out]; exact c3)
          cases e
          obtain ⟨oki, hoki, hR, hback⟩ := laws_markIntSS.lend HO.out x5 c4 c3 hx
          have HR := Aside0.mk hR
          have HK := Aside0.mk hback
          have HS := Aside0.mk (below_size HB.out)
          clear hR hback hl hi HO
          replace c3 := eq_true c3
          replace c4 := eq_true c4
          go_wp2_with (first | ((with_reducible refine gate_callee (f := 37) rfl ?_); refine goesL_ (some 17) rfl rfl Try.func37 (by kernel_rfl) rfl #[.slice A2 (laws_markIntSS.row x0 x5).length c2, .int .i64 x1] rfl (by (try simp only [List.map_toArray, List.map_cons, List.map_nil]); first | done | rfl | (simp only [List.length_drop, List.length_take]; rfl)) ?_; (with_reducible refine (laws_markIntS.calls k1 oki _ (laws_markIntSS.row x0 x5) x1 y1 row w0 _ ?sB ?sR HM.out).mono ?_); (case sB => repeat (first | (with_reducible first | exact HB.out | apply below_alloc | apply pw_below_drewN | apply below_drew1) | exact HB.out)); (case sR => (with_reducible repeat (first | apply Kd.R_alloc | apply Kd.R_drewN | apply Kd.R_drew)); exact HR.out); rintro e w' ⟨rfl, hR', hB', hK'⟩; have HO := Aside0.mk (HK.out _ _ _ rfl hK' hR'); clear HB; have HB := Aside0.mk hB'; have HKq := Aside0.mk (HKp.out.then_ (S2 := oki) hK' (fun k hk => .inl (hoki k hk))); clear HKp; have HKp := HKq; clear HKq hR' hB' hK'; refine ⟨_, rfl, ?_⟩))
          go_roundg k1
          case measure => have := HK1.out; omega
          case rel => exact ⟨x0.set x5.toNat row, y1, wrap64 (x5 + 1), rfl, rfl, H', ⟨by have := HK1.out; omega⟩, ⟨by rw [List.length_set]; exact HL.out⟩, ⟨by (with_reducible repeat (first | apply Kd.S_alloc | apply Kd.S_drewN | apply Kd.S_drew)); exact HO.out⟩, ⟨by repeat (first | (with_reducible first | exact HB.out | apply below_alloc | apply pw_below_drewN | apply below_drew1) | exact HB.out)⟩, ⟨HKp.out⟩⟩
        · rw [if_neg c4] at H
          cases H
      · rw [if_neg (by rw [HL.out]; exact c3)] at H
        have c3b0 : decide (x5 < (l0.length : Int)) = false := decide_eq_false c3
        obtain ⟨rfl, rfl⟩ := Prod.mk.inj (Option.some.inj H)
        clear H
        replace c3 := eq_false c3
        go_wp2
        go_ret
        exact ⟨rfl, by (with_reducible repeat (first | apply Kd.S_alloc | apply Kd.S_drewN | apply Kd.S_drew)); exact HO.out, by repeat (first | (with_reducible first | exact HB.out | apply below_alloc | apply pw_below_drewN | apply below_drew1) | exact HB.out), HKp.out⟩

/-! ### laws_heldIntS: function 38 -/
def laws_heldIntS.l0 : Nat → List Int → Int → Int → Option (Int)
  | 0, _, _, _ => none
  | k + 1, x0, x1, x5 => if x5 < (x0.length : Int) then (if 0 ≤ x5 then (if (rd x0 x5) = x1 then (laws_heldIntS.l0 k x0 (wrap64 (x1 + 1)) (wrap64 (x5 + 1))) else (some (-1))) else (none)) else (some x1)
def laws_heldIntS.f (k : Nat) (l0 : List Int) (a1 : Int) : Option (Int) := laws_heldIntS.l0 k l0 a1 0
theorem laws_heldIntS.mono_l : ∀ k, (∀ y0 y1 y2, LeO (laws_heldIntS.l0 k y0 y1 y2) (laws_heldIntS.l0 (k + 1) y0 y1 y2))
  | 0 => fun _ _ _ r h => by simp [laws_heldIntS.l0] at h
  | k + 1 => by
    have ih0 := laws_heldIntS.mono_l k
    · intro y0 y1 y2
      unfold laws_heldIntS.l0
      repeat' first
      | (with_reducible exact ih0 _ _ _)
      | (with_reducible exact LeO.refl _)
      | (with_reducible exact LeO.none _)
      | (with_reducible refine LeO.ite ?_ ?_)
      | (with_reducible refine LeO.bind ?_ (fun _ => ?_))
      | exact ih0 _ _ _
      | exact LeO.none _
      | refine LeO.ite ?_ ?_
      | refine LeO.bind ?_ (fun _ => ?_)
theorem laws_heldIntS.mono : ∀ a0 a1 k, LeO (laws_heldIntS.f k a0 a1) (laws_heldIntS.f (k + 1) a0 a1) := by
  intro a0 a1 k
  have ih0 := laws_heldIntS.mono_l k
  unfold laws_heldIntS.f
  repeat' first
      | (with_reducible exact ih0 _ _ _)
      | (with_reducible exact LeO.refl _)
      | (with_reducible exact LeO.none _)
      | (with_reducible refine LeO.ite ?_ ?_)
      | (with_reducible refine LeO.bind ?_ (fun _ => ?_))
      | exact ih0 _ _ _
      | exact LeO.none _
      | refine LeO.ite ?_ ?_
      | refine LeO.bind ?_ (fun _ => ?_)
set_option maxHeartbeats 8000000 in
set_option maxRecDepth 100000 in
theorem laws_heldIntS.calls (k : Nat) (A0 : Option Addr) (c0 : Nat) (l0 : List Int) (a1 : Int) (r : Int) (w : World) (hr0 : Kd.C (Kd.int .i64) w A0 l0.length l0) (hc0 : l0.length ≤ c0) (h : laws_heldIntS.f k l0 a1 = some r) :
    Calls Try.prog 38 #[.slice A0 l0.length c0, .int .i64 a1] w fun e w' => e = .returned (.int .i64 r) ∧ Drawn0 w w' := by
  have HR0 := Aside0.mk hr0
  have HC0 := Aside0.mk hc0
  clear hr0 hc0
  have H : (laws_heldIntS.l0 k l0 a1 0) = some r := h
  clear h
  have H' := Aside0.mk H
  clear H
  go_enter Try.func38, Try.ntmps38
  go_wp2
  go_loopg [1, 5] k (fun kq v1 v5 w' => ∃ (x1_1 : Int) (x5_1 : Int), v1 = .int .i64 x1_1 ∧ v5 = .int .i64 x5_1 ∧ Aside0 (laws_heldIntS.l0 kq l0 x1_1 x5_1 = some r) ∧ Aside0 (kq ≤ k) ∧ Drawn0 w w')
  case atStart => exact ⟨(a1), (0), (by first | rfl | (simp; done) | (simp [*]; done)), (by first | rfl | (simp; done) | (simp [*]; done)), H', ⟨Nat.le_refl _⟩, by repeat (first | exact Drawn0.refl _ | apply Drawn0.step)⟩
  case round =>
    clear H'
    try clear p2
    obtain ⟨x1_1, x5_1, rfl, rfl, HA, HK1, ⟨m1, rfl⟩⟩ := hrel
    cases gk with
    | zero => exact absurd HA.out (by simp [laws_heldIntS.l0])
    | succ k1 =>
      have H := HA.out
      clear HA
      simp only [laws_heldIntS.l0] at H
      by_cases c3 : x5_1 < (l0.length : Int)
      · rw [if_pos c3] at H
        have c3b0 : decide (x5_1 < (l0.length : Int)) = true := decide_eq_true c3
        clear c3
        by_cases c4 : 0 ≤ x5_1
        · rw [if_pos c4] at H
          have c4b0 : decide (0 ≤ x5_1) = true := decide_eq_true c4
          clear c4
          by_cases c5 : (rd l0 x5_1) = x1_1
          · rw [if_pos c5] at H
            have c5b0 : ((rd l0 x5_1) == x1_1) = true := beq_iff_eq.mpr c5
            have c5b1 : ((rd l0 x5_1) != x1_1) = false := bne_eq_false_iff_eq.mpr c5
            clear c5
            have H' := Aside0.mk H
            clear H
            have p293 : 0 ≤ (x5_1 : Int) := of_decide_eq_true (by first | (with_reducible assumption) | assumption)
            have q293 : x5_1 < (l0.length : Int) := of_decide_eq_true (by first | (with_reducible assumption) | assumption)
            obtain ⟨ad293, e293, hx293_0⟩ := Kd.at_int HR0.out x5_1 p293 q293
            cases e293
            replace p293 := eq_true p293
            replace q293 := eq_true q293
            go_wp2
            go_roundg k1
            case measure => have := HK1.out; omega
            case rel => exact ⟨(wrap64 (x1_1 + 1)), (wrap64 (x5_1 + 1)), (by first | rfl | (simp; done) | (simp [*]; done)), (by first | rfl | (simp; done) | (simp [*]; done)), H', ⟨by have := HK1.out; omega⟩, by repeat (first | exact Drawn0.refl _ | apply Drawn0.step)⟩
          · rw [if_neg c5] at H
            have c5b0 : ((rd l0 x5_1) == x1_1) = false := beq_eq_false_iff_ne.mpr c5
            have c5b1 : ((rd l0 x5_1) != x1_1) = true := bne_iff_ne.mpr c5
            obtain rfl := Option.some.inj H
            have p293 : 0 ≤ (x5_1 : Int) := of_decide_eq_true (by first | (with_reducible assumption) | assumption)
            have q293 : x5_1 < (l0.length : Int) := of_decide_eq_true (by first | (with_reducible assumption) | assumption)
            obtain ⟨ad293, e293, hx293_0⟩ := Kd.at_int HR0.out x5_1 p293 q293
            cases e293
            replace p293 := eq_true p293
            replace q293 := eq_true q293
            go_wp2
            go_ret
            exact ⟨by first | rfl | (simp; done) | (simp [*]; done), by repeat (first | exact Drawn0.refl _ | apply Drawn0.step)⟩
        · rw [if_neg c4] at H
          exact absurd H (by simp)
      · rw [if_neg c3] at H
        have c3b0 : decide (x5_1 < (l0.length : Int)) = false := decide_eq_false c3
        clear c3
        obtain rfl := Option.some.inj H
        go_wp2
        go_ret
        exact ⟨by first | rfl | (simp; done) | (simp [*]; done), by repeat (first | exact Drawn0.refl _ | apply Drawn0.step)⟩

/-! ### laws_heldIntSS: function 20 -/
def laws_heldIntSS.l0 : Nat → List (List Int) → Int → Int → Option (Int)
  | 0, _, _, _ => none
  | k + 1, x0, x1, x5 => if x5 < (x0.length : Int) then (if 0 ≤ x5 then ((laws_heldIntS.f k (rd_L4 x0 x5) x1).bind fun t295 => (if t295 < 0 then (some (-1)) else (laws_heldIntSS.l0 k x0 t295 (wrap64 (x5 + 1))))) else (none)) else (some x1)
def laws_heldIntSS.f (k : Nat) (l0 : List (List Int)) (a1 : Int) : Option (Int) := laws_heldIntSS.l0 k l0 a1 0
theorem laws_heldIntSS.mono_l : ∀ k, (∀ y0 y1 y2, LeO (laws_heldIntSS.l0 k y0 y1 y2) (laws_heldIntSS.l0 (k + 1) y0 y1 y2))
  | 0 => fun _ _ _ r h => by simp [laws_heldIntSS.l0] at h
  | k + 1 => by
    have ih0 := laws_heldIntSS.mono_l k
    · intro y0 y1 y2
      unfold laws_heldIntSS.l0
      repeat' first
      | (with_reducible exact ih0 _ _ _)
      | (with_reducible exact laws_heldIntS.mono _ _ _)
      | (with_reducible exact LeO.refl _)
      | (with_reducible exact LeO.none _)
      | (with_reducible refine LeO.ite ?_ ?_)
      | (with_reducible refine LeO.bind ?_ (fun _ => ?_))
      | exact ih0 _ _ _
      | exact laws_heldIntS.mono _ _ _
      | exact LeO.none _
      | refine LeO.ite ?_ ?_
      | refine LeO.bind ?_ (fun _ => ?_)
theorem laws_heldIntSS.mono : ∀ a0 a1 k, LeO (laws_heldIntSS.f k a0 a1) (laws_heldIntSS.f (k + 1) a0 a1) := by
  intro a0 a1 k
  have ih0 := laws_heldIntSS.mono_l k
  unfold laws_heldIntSS.f
  repeat' first
      | (with_reducible exact ih0 _ _ _)
      | (with_reducible exact laws_heldIntS.mono _ _ _)
      | (with_reducible exact LeO.refl _)
      | (with_reducible exact LeO.none _)
      | (with_reducible refine LeO.ite ?_ ?_)
      | (with_reducible refine LeO.bind ?_ (fun _ => ?_))
      | exact ih0 _ _ _
      | exact laws_heldIntS.mono _ _ _
      | exact LeO.none _
      | refine LeO.ite ?_ ?_
      | refine LeO.bind ?_ (fun _ => ?_)
set_option maxHeartbeats 8000000 in
set_option maxRecDepth 100000 in
theorem laws_heldIntSS.calls (k : Nat) (A0 : Option Addr) (c0 : Nat) (l0 : List (List Int)) (a1 : Int) (r : Int) (w : World) (hr0 : Kd.C (Kd.slice 3 (Kd.int .i64)) w A0 l0.length l0) (hc0 : l0.length ≤ c0) (h : laws_heldIntSS.f k l0 a1 = some r) :
    Calls Try.prog 20 #[.slice A0 l0.length c0, .int .i64 a1] w fun e w' => e = .returned (.int .i64 r) ∧ Drawn0 w w' := by
  have HR0 := Aside0.mk hr0
  have HC0 := Aside0.mk hc0
  clear hr0 hc0
  have H : (laws_heldIntSS.l0 k l0 a1 0) = some r := h
  clear h
  have H' := Aside0.mk H
  clear H
  go_enter Try.func20, Try.ntmps20
  go_wp2
  go_loopg [1, 5] k (fun kq v1 v5 w' => ∃ (x1_1 : Int) (x5_1 : Int), v1 = .int .i64 x1_1 ∧ v5 = .int .i64 x5_1 ∧ Aside0 (laws_heldIntSS.l0 kq l0 x1_1 x5_1 = some r) ∧ Aside0 (kq ≤ k) ∧ Drawn0 w w')
  case atStart => exact ⟨(a1), (0), (by first | rfl | (simp; done) | (simp [*]; done)), (by first | rfl | (simp; done) | (simp [*]; done)), H', ⟨Nat.le_refl _⟩, by repeat (first | exact Drawn0.refl _ | apply Drawn0.step)⟩
  case round =>
    clear H'
    try clear c2
    try clear p2
    obtain ⟨x1_1, x5_1, rfl, rfl, HA, HK1, ⟨m1, rfl⟩⟩ := hrel
    cases gk with
    | zero => exact absurd HA.out (by simp [laws_heldIntSS.l0])
    | succ k1 =>
      have H := HA.out
      clear HA
      simp only [laws_heldIntSS.l0] at H
      by_cases c3 : x5_1 < (l0.length : Int)
      · rw [if_pos c3] at H
        have c3b0 : decide (x5_1 < (l0.length : Int)) = true := decide_eq_true c3
        clear c3
        by_cases c4 : 0 ≤ x5_1
        · rw [if_pos c4] at H
          have c4b0 : decide (0 ≤ x5_1) = true := decide_eq_true c4
          clear c4
          replace H := Option.bind_eq_some_iff.mp H
          obtain ⟨t295, A50, H⟩ := H
          replace H : (if t295 < 0 then (some (-1)) else (laws_heldIntSS.l0 k1 l0 t295 (wrap64 (x5_1 + 1)))) = some r := H
          have A5 := Aside0.mk A50
          clear A50
          by_cases c6 : t295 < 0
          · rw [if_pos c6] at H
            have c6b0 : decide (t295 < 0) = true := decide_eq_true c6
            clear c6
            obtain rfl := Option.some.inj H
            have p294 : 0 ≤ (x5_1 : Int) := of_decide_eq_true (by first | (with_reducible assumption) | assumption)
            have q294 : x5_1 < (l0.length : Int) := of_decide_eq_true (by first | (with_reducible assumption) | assumption)
            obtain ⟨ad294, A294_0, c294_0, e294, hx294_0, hl294_0, hi294_0⟩ := at_L4 HR0.out x5_1 p294 q294
            cases e294
            have HR294_0 := Aside0.mk hi294_0
            have HC294_0 := Aside0.mk hl294_0
            clear hi294_0 hl294_0
            replace p294 := eq_true p294
            replace q294 := eq_true q294
            go_wp2_with (first | ((with_reducible refine gate_callee (f := 38) rfl ?_); refine goesL_ (some 17) rfl rfl Try.func38 (by kernel_rfl) rfl #[.slice A294_0 (rd_L4 l0 x5_1).length c294_0, .int .i64 x1_1] rfl (by (try simp only [List.map_toArray, List.map_cons, List.map_nil]); first | done | rfl | (simp only [List.length_drop, List.length_take]; rfl)) ?_; (with_reducible refine (laws_heldIntS.calls k1 _ _ (rd_L4 l0 x5_1) x1_1 t295 _ ?side1 ?side2 A5.out).mono ?_); (case side1 => repeat (first | exact HR294_0.out | (with_reducible refine Kd.C_alloc ?_ _) | (with_reducible refine Kd.C_drewN ?_ _) | (with_reducible refine Kd.C_drew ?_))); (case side2 => exact HC294_0.out); rintro e w' ⟨rfl, ⟨nd, rfl⟩⟩; refine ⟨_, rfl, ?_⟩))
            go_ret
            exact ⟨by first | rfl | (simp; done) | (simp [*]; done), by repeat (first | exact Drawn0.refl _ | apply Drawn0.step)⟩
          · rw [if_neg c6] at H
            have c6b0 : decide (t295 < 0) = false := decide_eq_false c6
            clear c6
            have H' := Aside0.mk H
            clear H
            have p294 : 0 ≤ (x5_1 : Int) := of_decide_eq_true (by first | (with_reducible assumption) | assumption)
            have q294 : x5_1 < (l0.length : Int) := of_decide_eq_true (by first | (with_reducible assumption) | assumption)
            obtain ⟨ad294, A294_0, c294_0, e294, hx294_0, hl294_0, hi294_0⟩ := at_L4 HR0.out x5_1 p294 q294
            cases e294
            have HR294_0 := Aside0.mk hi294_0
            have HC294_0 := Aside0.mk hl294_0
            clear hi294_0 hl294_0
            replace p294 := eq_true p294
            replace q294 := eq_true q294
            go_wp2_with (first | ((with_reducible refine gate_callee (f := 38) rfl ?_); refine goesL_ (some 17) rfl rfl Try.func38 (by kernel_rfl) rfl #[.slice A294_0 (rd_L4 l0 x5_1).length c294_0, .int .i64 x1_1] rfl (by (try simp only [List.map_toArray, List.map_cons, List.map_nil]); first | done | rfl | (simp only [List.length_drop, List.length_take]; rfl)) ?_; (with_reducible refine (laws_heldIntS.calls k1 _ _ (rd_L4 l0 x5_1) x1_1 t295 _ ?side1 ?side2 A5.out).mono ?_); (case side1 => repeat (first | exact HR294_0.out | (with_reducible refine Kd.C_alloc ?_ _) | (with_reducible refine Kd.C_drewN ?_ _) | (with_reducible refine Kd.C_drew ?_))); (case side2 => exact HC294_0.out); rintro e w' ⟨rfl, ⟨nd, rfl⟩⟩; refine ⟨_, rfl, ?_⟩))
            go_roundg k1
            case measure => have := HK1.out; omega
            case rel => exact ⟨(t295), (wrap64 (x5_1 + 1)), (by first | rfl | (simp; done) | (simp [*]; done)), (by first | rfl | (simp; done) | (simp [*]; done)), H', ⟨by have := HK1.out; omega⟩, by repeat (first | exact Drawn0.refl _ | apply Drawn0.step)⟩
        · rw [if_neg c4] at H
          exact absurd H (by simp)
      · rw [if_neg c3] at H
        have c3b0 : decide (x5_1 < (l0.length : Int)) = false := decide_eq_false c3
        clear c3
        obtain rfl := Option.some.inj H
        go_wp2
        go_ret
        exact ⟨by first | rfl | (simp; done) | (simp [*]; done), by repeat (first | exact Drawn0.refl _ | apply Drawn0.step)⟩

/-! ### laws_FnExactSpreadFrames: function 4 -/
def laws_FnExactSpreadFrames.f (k : Nat) (l0 : List Bool) (l1 : List S55) : Option Bool :=
  if (l0.length : Int) > 1048576 then some true else
  (laws_szHopS.f l1 1048576).bind fun zl1 =>
  if zl1 < 0 then some true else
  (laws_toBoolS.f k l0).bind fun tb0 =>
  (laws_toHopS.f k l1).bind fun tb1 =>
  (spec_SpreadFrames.f k tb0 tb1).bind fun tw =>
  (laws_toBoolS.f k l0).bind fun tx0 =>
  (laws_toHopS.f k l1).bind fun tx1 =>
  (impl_SpreadFrames.f k tx0 tx1).bind fun tg =>
  (laws_eqIntSS.f k tg tw).bind fun e0 =>
  if e0 = true then
  (laws_toBoolS.f k l0).bind fun ty0 =>
  (laws_eqBoolS.f k tx0 ty0).bind fun ey0 =>
  if ey0 = true then
  (laws_toHopS.f k l1).bind fun ty1 =>
  (laws_eqHopS.f k tx1 ty1).bind fun ey1 =>
  if ey1 = true then
  (laws_markBoolS.f k tx0 1).bind fun btkl0 =>
  (laws_markHopS.f k tx1 btkl0.1).bind fun btkl1 =>
  if btkl1.1 < 0 then none else
  (laws_eqIntSS.f k tg tw).bind fun e1 =>
  if e1 = true then
  (laws_markIntSS.f k tg 1).bind fun btm =>
  (laws_heldIntSS.f k btm.2 1).bind fun q0 =>
  if q0 < 0 then none else
  if q0 = btm.1 then
  (laws_toBoolS.f k l0).bind fun tu0 =>
  (laws_toHopS.f k l1).bind fun tu1 =>
  (impl_SpreadFrames.f k tu0 tu1).bind fun th =>
  (laws_eqIntSS.f k th tw).bind fun e2 =>
  if e2 = true then
  (laws_heldIntSS.f k btm.2 1).bind fun q1 =>
  if q1 < 0 then none else
  if q1 = btm.1 then
  some true else none else none else none else none else none else none else none
theorem laws_FnExactSpreadFrames.le_call {n : Nat} {W w' : World} (hb : Below W.heap.size W w') (h : n ≤ W.heap.size) : n ≤ W.heap.size := h
set_option maxHeartbeats 8000000 in
set_option maxRecDepth 100000 in
theorem laws_FnExactSpreadFrames.calls (k : Nat) (A0 : Option Addr) (c0 : Nat) (l0 : List Bool) (A1 : Option Addr) (c1 : Nat) (l1 : List S55) (r : Bool) (w : World) (hr0 : Kd.C Kd.bool w A0 l0.length l0) (hc0 : l0.length ≤ c0) (hr1 : Kd.C k55 w A1 l1.length l1) (hc1 : l1.length ≤ c1) (h : laws_FnExactSpreadFrames.f k l0 l1 = some r) :
    Calls Try.prog 4 #[.slice A0 l0.length c0, .slice A1 l1.length c1] w fun e w' => e = .returned (.bool r) ∧ Below w.heap.size w w' := by
  unfold laws_FnExactSpreadFrames.f at h
  have HC_l0 := Aside0.mk hr0
  have HL_l0 := Aside0.mk hc0
  clear hr0 hc0
  have HC_l1 := Aside0.mk hr1
  have HL_l1 := Aside0.mk hc1
  clear hr1 hc1
  have HB := Aside0.mk (Below.refl w.heap.size w)
  by_cases cl0 : (l0.length : Int) > 1048576
  · rw [if_pos cl0] at h
    obtain rfl := Option.some.inj h
    clear h
    have cl00 : decide ((l0.length : Int) > 1048576) = true := decide_eq_true cl0
    go_enter Try.func4, Try.ntmps4
    go_wp2_with fail
    go_ret
    exact ⟨rfl, (by repeat (first | (with_reducible first | exact HB.out | apply below_alloc | apply pw_below_drewN | apply below_drew1) | exact HB.out))⟩
  rw [if_neg cl0] at h
  have cl00 : decide ((l0.length : Int) > 1048576) = false := decide_eq_false cl0
  clear cl0
  replace h := Option.bind_eq_some_iff.mp h
  obtain ⟨zl1, G0, h⟩ := h
  try dsimp only at h
  replace G0 := Aside0.mk G0
  by_cases czl1 : zl1 < 0
  · rw [if_pos czl1] at h
    obtain rfl := Option.some.inj h
    clear h
    have czl10 : decide (zl1 < 0) = true := decide_eq_true czl1
    go_enter Try.func4, Try.ntmps4
    go_wp2_with fail
    refine (laws_szHopS.calls A1 c1 l1 1048576 zl1 _ (Kd.C_below HC_l1.out (by repeat (first | (with_reducible first | exact HB.out | apply below_alloc | apply pw_below_drewN | apply below_drew1) | exact HB.out))) HL_l1.out G0.out).mono ?_
    rintro e w' ⟨rfl, ⟨nzl1, rfl⟩⟩
    go_wp2_with fail
    go_ret
    exact ⟨rfl, (by repeat (first | (with_reducible first | exact HB.out | apply below_alloc | apply pw_below_drewN | apply below_drew1) | exact HB.out))⟩
  rw [if_neg czl1] at h
  have czl10 : decide (zl1 < 0) = false := decide_eq_false czl1
  clear czl1
  replace h := Option.bind_eq_some_iff.mp h
  obtain ⟨tb0, G1, h⟩ := h
  try dsimp only at h
  replace G1 := Aside0.mk G1
  replace h := Option.bind_eq_some_iff.mp h
  obtain ⟨tb1, G2, h⟩ := h
  try dsimp only at h
  replace G2 := Aside0.mk G2
  replace h := Option.bind_eq_some_iff.mp h
  obtain ⟨tw, G3, h⟩ := h
  try dsimp only at h
  replace G3 := Aside0.mk G3
  replace h := Option.bind_eq_some_iff.mp h
  obtain ⟨tx0, G4, h⟩ := h
  try dsimp only at h
  replace G4 := Aside0.mk G4
  replace h := Option.bind_eq_some_iff.mp h
  obtain ⟨tx1, G5, h⟩ := h
  try dsimp only at h
  replace G5 := Aside0.mk G5
  replace h := Option.bind_eq_some_iff.mp h
  obtain ⟨tg, G6, h⟩ := h
  try dsimp only at h
  replace G6 := Aside0.mk G6
  replace h := Option.bind_eq_some_iff.mp h
  obtain ⟨e0, G7, h⟩ := h
  try dsimp only at h
  replace G7 := Aside0.mk G7
  have ht_e0 : e0 = true := Classical.byContradiction fun hc => by rw [if_neg hc] at h; cases h
  rw [if_pos ht_e0] at h
  subst ht_e0
  replace h := Option.bind_eq_some_iff.mp h
  obtain ⟨ty0, G8, h⟩ := h
  try dsimp only at h
  replace G8 := Aside0.mk G8
  replace h := Option.bind_eq_some_iff.mp h
  obtain ⟨ey0, G9, h⟩ := h
  try dsimp only at h
  replace G9 := Aside0.mk G9
  have ht_ey0 : ey0 = true := Classical.byContradiction fun hc => by rw [if_neg hc] at h; cases h
  rw [if_pos ht_ey0] at h
  subst ht_ey0
  replace h := Option.bind_eq_some_iff.mp h
  obtain ⟨ty1, G10, h⟩ := h
  try dsimp only at h
  replace G10 := Aside0.mk G10
  replace h := Option.bind_eq_some_iff.mp h
  obtain ⟨ey1, G11, h⟩ := h
  try dsimp only at h
  replace G11 := Aside0.mk G11
  have ht_ey1 : ey1 = true := Classical.byContradiction fun hc => by rw [if_neg hc] at h; cases h
  rw [if_pos ht_ey1] at h
  subst ht_ey1
  replace h := Option.bind_eq_some_iff.mp h
  obtain ⟨⟨kl0, yx0⟩, G12, h⟩ := h
  try dsimp only at h
  replace G12 := Aside0.mk G12
  replace h := Option.bind_eq_some_iff.mp h
  obtain ⟨⟨kl1, yx1⟩, G13, h⟩ := h
  try dsimp only at h
  replace G13 := Aside0.mk G13
  have hn_kl1 : ¬ kl1 < 0 := fun hc => by rw [if_pos hc] at h; cases h
  rw [if_neg hn_kl1] at h
  have hz_kl1 : decide (kl1 < 0) = false := decide_eq_false hn_kl1
  clear hn_kl1
  replace h := Option.bind_eq_some_iff.mp h
  obtain ⟨e1, G14, h⟩ := h
  try dsimp only at h
  replace G14 := Aside0.mk G14
  have ht_e1 : e1 = true := Classical.byContradiction fun hc => by rw [if_neg hc] at h; cases h
  rw [if_pos ht_e1] at h
  subst ht_e1
  replace h := Option.bind_eq_some_iff.mp h
  obtain ⟨⟨m, yg⟩, G15, h⟩ := h
  try dsimp only at h
  replace G15 := Aside0.mk G15
  replace h := Option.bind_eq_some_iff.mp h
  obtain ⟨q0, G16, h⟩ := h
  try dsimp only at h
  replace G16 := Aside0.mk G16
  have hn_q0 : ¬ q0 < 0 := fun hc => by rw [if_pos hc] at h; cases h
  rw [if_neg hn_q0] at h
  have hz_q0 : decide (q0 < 0) = false := decide_eq_false hn_q0
  clear hn_q0
  have he_q0 : q0 = m := Classical.byContradiction fun hc => by rw [if_neg hc] at h; cases h
  rw [if_pos he_q0] at h
  have hq_q0 : (q0 == m) = true := beq_iff_eq.mpr he_q0
  have hr_q0 : (q0 != m) = false := bne_eq_false_iff_eq.mpr he_q0
  clear he_q0
  replace h := Option.bind_eq_some_iff.mp h
  obtain ⟨tu0, G17, h⟩ := h
  try dsimp only at h
  replace G17 := Aside0.mk G17
  replace h := Option.bind_eq_some_iff.mp h
  obtain ⟨tu1, G18, h⟩ := h
  try dsimp only at h
  replace G18 := Aside0.mk G18
  replace h := Option.bind_eq_some_iff.mp h
  obtain ⟨th, G19, h⟩ := h
  try dsimp only at h
  replace G19 := Aside0.mk G19
  replace h := Option.bind_eq_some_iff.mp h
  obtain ⟨e2, G20, h⟩ := h
  try dsimp only at h
  replace G20 := Aside0.mk G20
  have ht_e2 : e2 = true := Classical.byContradiction fun hc => by rw [if_neg hc] at h; cases h
  rw [if_pos ht_e2] at h
  subst ht_e2
  replace h := Option.bind_eq_some_iff.mp h
  obtain ⟨q1, G21, h⟩ := h
  try dsimp only at h
  replace G21 := Aside0.mk G21
  have hn_q1 : ¬ q1 < 0 := fun hc => by rw [if_pos hc] at h; cases h
  rw [if_neg hn_q1] at h
  have hz_q1 : decide (q1 < 0) = false := decide_eq_false hn_q1
  clear hn_q1
  have he_q1 : q1 = m := Classical.byContradiction fun hc => by rw [if_neg hc] at h; cases h
  rw [if_pos he_q1] at h
  have hq_q1 : (q1 == m) = true := beq_iff_eq.mpr he_q1
  have hr_q1 : (q1 != m) = false := bne_eq_false_iff_eq.mpr he_q1
  clear he_q1
  obtain rfl := Option.some.inj h
  clear h
  go_enter Try.func4, Try.ntmps4
  go_wp2_with fail
  refine (laws_szHopS.calls A1 c1 l1 1048576 zl1 _ (Kd.C_below HC_l1.out (by repeat (first | (with_reducible first | exact HB.out | apply below_alloc | apply pw_below_drewN | apply below_drew1) | exact HB.out))) HL_l1.out G0.out).mono ?_
  rintro e w' ⟨rfl, ⟨nzl1, rfl⟩⟩
  go_wp2_with fail
  refine (laws_toBoolS.calls k A0 c0 l0 tb0 _ (Kd.C_below HC_l0.out (by repeat (first | (with_reducible first | exact HB.out | apply below_alloc | apply pw_below_drewN | apply below_drew1) | exact HB.out))) HL_l0.out G1.out).mono ?_
  rintro e w' ⟨vb0, rfl, hS, hb⟩
  obtain ⟨Ab0, cb0, rfl⟩ := Kd.R_slice hS
  have HL_b0 := Aside0.mk (Kd.R_reads' hS).2.1
  have HC_b0 := Aside0.mk (Kd.R_reads' hS).2.2
  have HBn := Aside0.mk (Below.refl _ _ : Below (World.heap w').size w' w')
  clear hS
  have h_ := Aside0.mk (below_step (by repeat (first | (with_reducible first | exact HB.out | apply below_alloc | apply pw_below_drewN | apply below_drew1) | exact HB.out)) hb)
  clear HB
  have HB := h_
  clear h_
  clear hb
  have HB_b0 := HBn
  clear HBn
  go_wp2_with fail
  refine (laws_toHopS.calls k A1 c1 l1 tb1 _ (Kd.C_below HC_l1.out (by repeat (first | (with_reducible first | exact HB.out | apply below_alloc | apply pw_below_drewN | apply below_drew1) | exact HB.out))) HL_l1.out G2.out).mono ?_
  rintro e w' ⟨vb1, rfl, hS, hb⟩
  obtain ⟨Ab1, cb1, rfl⟩ := Kd.R_slice hS
  have HL_b1 := Aside0.mk (Kd.R_reads' hS).2.1
  have HC_b1 := Aside0.mk (Kd.R_reads' hS).2.2
  have HBn := Aside0.mk (Below.refl _ _ : Below (World.heap w').size w' w')
  clear hS
  have h_ := Aside0.mk (below_step (by repeat (first | (with_reducible first | exact HB.out | apply below_alloc | apply pw_below_drewN | apply below_drew1) | exact HB.out)) hb)
  clear HB
  have HB := h_
  clear h_
  have h_ := Aside0.mk (below_step (by repeat (first | (with_reducible first | exact HB_b0.out | apply below_alloc | apply pw_below_drewN | apply below_drew1) | exact HB_b0.out)) hb)
  clear HB_b0
  have HB_b0 := h_
  clear h_
  clear hb
  have HB_b1 := HBn
  clear HBn
  go_wp2_with fail
  refine (spec_SpreadFrames.calls k Ab0 cb0 tb0 Ab1 cb1 tb1 tw _ (Kd.C_below HC_b0.out (by repeat (first | (with_reducible first | exact HB_b0.out | apply below_alloc | apply pw_below_drewN | apply below_drew1) | exact HB_b0.out))) HL_b0.out (Kd.C_below HC_b1.out (by repeat (first | (with_reducible first | exact HB_b1.out | apply below_alloc | apply pw_below_drewN | apply below_drew1) | exact HB_b1.out))) HL_b1.out G3.out).mono ?_
  rintro e w' ⟨vw, rfl, hS, hb⟩
  obtain ⟨Aw, cw, rfl⟩ := Kd.S_slice hS
  have HL_w := Aside0.mk (Kd.S_reads' hS).2.1
  have HC_w := Aside0.mk (Kd.S_reads' hS).2.2
  have HBn := Aside0.mk (Below.refl _ _ : Below (World.heap w').size w' w')
  clear hS
  have h_ := Aside0.mk (below_step (by repeat (first | (with_reducible first | exact HB.out | apply below_alloc | apply pw_below_drewN | apply below_drew1) | exact HB.out)) hb)
  clear HB
  have HB := h_
  clear h_
  have h_ := Aside0.mk (below_step (by repeat (first | (with_reducible first | exact HB_b0.out | apply below_alloc | apply pw_below_drewN | apply below_drew1) | exact HB_b0.out)) hb)
  clear HB_b0
  have HB_b0 := h_
  clear h_
  have h_ := Aside0.mk (below_step (by repeat (first | (with_reducible first | exact HB_b1.out | apply below_alloc | apply pw_below_drewN | apply below_drew1) | exact HB_b1.out)) hb)
  clear HB_b1
  have HB_b1 := h_
  clear h_
  clear hb
  have HB_w := HBn
  clear HBn
  clear HB_b0 HC_b0 HL_b0
  clear HB_b1 HC_b1 HL_b1
  have HXB := HB
  have HXB_w := HB_w
  go_wp2_with fail
  refine (laws_toBoolS.calls k A0 c0 l0 tx0 _ (Kd.C_below HC_l0.out (by repeat (first | (with_reducible first | exact HB.out | apply below_alloc | apply pw_below_drewN | apply below_drew1) | exact HB.out))) HL_l0.out G4.out).mono ?_
  rintro e w' ⟨vx0, rfl, hS, hb⟩
  obtain ⟨Ax0, cx0, rfl⟩ := Kd.R_slice hS
  have HL_x0 := Aside0.mk (Kd.R_reads' hS).2.1
  have HOn := Aside0.mk (Kd.R_mono (Kd.R_bound hS) (fun k_ hk_ => (⟨hk_.2.1, hk_.2.2.1⟩ : _ ≤ k_ ∧ k_ < _)))
  have HZn := Aside0.mk (Nat.le_refl (World.heap w').size)
  have HXn := Aside0.mk hb
  clear hS
  have h_ := Aside0.mk (below_step (by repeat (first | (with_reducible first | exact HB.out | apply below_alloc | apply pw_below_drewN | apply below_drew1) | exact HB.out)) hb)
  clear HB
  have HB := h_
  clear h_
  have h_ := Aside0.mk (below_step (by repeat (first | (with_reducible first | exact HB_w.out | apply below_alloc | apply pw_below_drewN | apply below_drew1) | exact HB_w.out)) hb)
  clear HB_w
  have HB_w := h_
  clear h_
  clear hb
  have HX := HXn
  clear HXn
  have HO_x0 := HOn
  have HZ_x0 := HZn
  clear HOn HZn
  go_wp2_with fail
  refine (laws_toHopS.calls k A1 c1 l1 tx1 _ (Kd.C_below HC_l1.out (by repeat (first | (with_reducible first | exact HB.out | apply below_alloc | apply pw_below_drewN | apply below_drew1) | exact HB.out))) HL_l1.out G5.out).mono ?_
  rintro e w' ⟨vx1, rfl, hS, hb⟩
  have HD_x0_x1 := Aside0.mk (laws_FnExactSpreadFrames.le_call hb HZ_x0.out)
  obtain ⟨Ax1, cx1, rfl⟩ := Kd.R_slice hS
  have HL_x1 := Aside0.mk (Kd.R_reads' hS).2.1
  have HOn := Aside0.mk (Kd.R_lower (Kd.R_mono (Kd.R_bound hS) (fun k_ hk_ => (⟨hk_.2.1, hk_.2.2.1⟩ : _ ≤ k_ ∧ k_ < _))) (below_size (by repeat (first | (with_reducible first | exact HX.out | apply below_alloc | apply pw_below_drewN | apply below_drew1) | exact HX.out))))
  have HZn := Aside0.mk (Nat.le_refl (World.heap w').size)
  clear hS
  have h_ := Aside0.mk (below_step (by repeat (first | (with_reducible first | exact HB.out | apply below_alloc | apply pw_below_drewN | apply below_drew1) | exact HB.out)) hb)
  clear HB
  have HB := h_
  clear h_
  have h_ := Aside0.mk (below_step (by repeat (first | (with_reducible first | exact HX.out | apply below_alloc | apply pw_below_drewN | apply below_drew1) | exact HX.out)) hb)
  clear HX
  have HX := h_
  clear h_
  have h_ := Aside0.mk (below_step (by repeat (first | (with_reducible first | exact HB_w.out | apply below_alloc | apply pw_below_drewN | apply below_drew1) | exact HB_w.out)) hb)
  clear HB_w
  have HB_w := h_
  clear h_
  have h_ := Aside0.mk (Kd.R_below (by (with_reducible repeat (first | apply Kd.R_alloc | apply Kd.R_drewN | apply Kd.R_drew)); exact HO_x0.out) hb)
  clear HO_x0
  have HO_x0 := h_
  clear h_
  have h_ := Aside0.mk (Nat.le_trans HZ_x0.out hb.size)
  clear HZ_x0
  have HZ_x0 := h_
  clear h_
  clear hb
  have HO_x1 := HOn
  have HZ_x1 := HZn
  clear HOn HZn
  go_wp2_with fail
  refine (impl_SpreadFrames.calls k Ax0 cx0 tx0 Ax1 cx1 tx1 tg _ (Kd.R_reads' (by (with_reducible repeat (first | apply Kd.R_alloc | apply Kd.R_drewN | apply Kd.R_drew)); exact HO_x0.out)).2.2 HL_x0.out (Kd.R_reads' (by (with_reducible repeat (first | apply Kd.R_alloc | apply Kd.R_drewN | apply Kd.R_drew)); exact HO_x1.out)).2.2 HL_x1.out G6.out).mono ?_
  rintro e w' ⟨vg, rfl, hS, hb⟩
  have HD_x0_g := Aside0.mk (laws_FnExactSpreadFrames.le_call hb HZ_x0.out)
  have HD_x1_g := Aside0.mk (laws_FnExactSpreadFrames.le_call hb HZ_x1.out)
  obtain ⟨Ag, cg, rfl⟩ := Kd.S_slice hS
  have HL_g := Aside0.mk (Kd.S_reads' hS).2.1
  have HOn := Aside0.mk (Kd.S_lower (Kd.S_mono (Kd.S_bound hS) (fun k_ hk_ => (⟨hk_.2.1, hk_.2.2.1⟩ : _ ≤ k_ ∧ k_ < _))) (below_size (by repeat (first | (with_reducible first | exact HX.out | apply below_alloc | apply pw_below_drewN | apply below_drew1) | exact HX.out))))
  have HZn := Aside0.mk (Nat.le_refl (World.heap w').size)
  clear hS
  have h_ := Aside0.mk (below_step (by repeat (first | (with_reducible first | exact HB.out | apply below_alloc | apply pw_below_drewN | apply below_drew1) | exact HB.out)) hb)
  clear HB
  have HB := h_
  clear h_
  have h_ := Aside0.mk (below_step (by repeat (first | (with_reducible first | exact HX.out | apply below_alloc | apply pw_below_drewN | apply below_drew1) | exact HX.out)) hb)
  clear HX
  have HX := h_
  clear h_
  have h_ := Aside0.mk (below_step (by repeat (first | (with_reducible first | exact HB_w.out | apply below_alloc | apply pw_below_drewN | apply below_drew1) | exact HB_w.out)) hb)
  clear HB_w
  have HB_w := h_
  clear h_
  have h_ := Aside0.mk (Kd.R_below (by (with_reducible repeat (first | apply Kd.R_alloc | apply Kd.R_drewN | apply Kd.R_drew)); exact HO_x0.out) hb)
  clear HO_x0
  have HO_x0 := h_
  clear h_
  have h_ := Aside0.mk (Nat.le_trans HZ_x0.out hb.size)
  clear HZ_x0
  have HZ_x0 := h_
  clear h_
  have h_ := Aside0.mk (Kd.R_below (by (with_reducible repeat (first | apply Kd.R_alloc | apply Kd.R_drewN | apply Kd.R_drew)); exact HO_x1.out) hb)
  clear HO_x1
  have HO_x1 := h_
  clear h_
  have h_ := Aside0.mk (Nat.le_trans HZ_x1.out hb.size)
  clear HZ_x1
  have HZ_x1 := h_
  clear h_
  clear hb
  have HO_g := HOn
  have HZ_g := HZn
  clear HOn HZn
  go_wp2_with fail
  refine (laws_eqIntSS.calls k Ag cg tg Aw cw tw true _ (Kd.S_reads' (by (with_reducible repeat (first | apply Kd.S_alloc | apply Kd.S_drewN | apply Kd.S_drew)); exact HO_g.out)).2.2 HL_g.out (Kd.C_below HC_w.out (by repeat (first | (with_reducible first | exact HB_w.out | apply below_alloc | apply pw_below_drewN | apply below_drew1) | exact HB_w.out))) HL_w.out G7.out).mono ?_
  rintro e w' ⟨rfl, ⟨ne0, rfl⟩⟩
  go_wp2_with fail
  refine (laws_toBoolS.calls k A0 c0 l0 ty0 _ (Kd.C_below HC_l0.out (by repeat (first | (with_reducible first | exact HB.out | apply below_alloc | apply pw_below_drewN | apply below_drew1) | exact HB.out))) HL_l0.out G8.out).mono ?_
  rintro e w' ⟨vy0, rfl, hS, hb⟩
  have HD_x0_y0 := Aside0.mk (laws_FnExactSpreadFrames.le_call hb HZ_x0.out)
  have HD_x1_y0 := Aside0.mk (laws_FnExactSpreadFrames.le_call hb HZ_x1.out)
  have HD_g_y0 := Aside0.mk (laws_FnExactSpreadFrames.le_call hb HZ_g.out)
  obtain ⟨Ay0, cy0, rfl⟩ := Kd.R_slice hS
  have HL_y0 := Aside0.mk (Kd.R_reads' hS).2.1
  have HOn := Aside0.mk (Kd.R_lower (Kd.R_mono (Kd.R_bound hS) (fun k_ hk_ => (⟨hk_.2.1, hk_.2.2.1⟩ : _ ≤ k_ ∧ k_ < _))) (below_size (by repeat (first | (with_reducible first | exact HX.out | apply below_alloc | apply pw_below_drewN | apply below_drew1) | exact HX.out))))
  have HZn := Aside0.mk (Nat.le_refl (World.heap w').size)
  clear hS
  have h_ := Aside0.mk (below_step (by repeat (first | (with_reducible first | exact HB.out | apply below_alloc | apply pw_below_drewN | apply below_drew1) | exact HB.out)) hb)
  clear HB
  have HB := h_
  clear h_
  have h_ := Aside0.mk (below_step (by repeat (first | (with_reducible first | exact HX.out | apply below_alloc | apply pw_below_drewN | apply below_drew1) | exact HX.out)) hb)
  clear HX
  have HX := h_
  clear h_
  have h_ := Aside0.mk (below_step (by repeat (first | (with_reducible first | exact HB_w.out | apply below_alloc | apply pw_below_drewN | apply below_drew1) | exact HB_w.out)) hb)
  clear HB_w
  have HB_w := h_
  clear h_
  have h_ := Aside0.mk (Kd.R_below (by (with_reducible repeat (first | apply Kd.R_alloc | apply Kd.R_drewN | apply Kd.R_drew)); exact HO_x0.out) hb)
  clear HO_x0
  have HO_x0 := h_
  clear h_
  have h_ := Aside0.mk (Nat.le_trans HZ_x0.out hb.size)
  clear HZ_x0
  have HZ_x0 := h_
  clear h_
  have h_ := Aside0.mk (Kd.R_below (by (with_reducible repeat (first | apply Kd.R_alloc | apply Kd.R_drewN | apply Kd.R_drew)); exact HO_x1.out) hb)
  clear HO_x1
  have HO_x1 := h_
  clear h_
  have h_ := Aside0.mk (Nat.le_trans HZ_x1.out hb.size)
  clear HZ_x1
  have HZ_x1 := h_
  clear h_
  have h_ := Aside0.mk (Kd.S_below (by (with_reducible repeat (first | apply Kd.S_alloc | apply Kd.S_drewN | apply Kd.S_drew)); exact HO_g.out) hb)
  clear HO_g
  have HO_g := h_
  clear h_
  have h_ := Aside0.mk (Nat.le_trans HZ_g.out hb.size)
  clear HZ_g
  have HZ_g := h_
  clear h_
  clear hb
  have HO_y0 := HOn
  have HZ_y0 := HZn
  clear HOn HZn
  go_wp2_with fail
  refine (laws_eqBoolS.calls k Ax0 cx0 tx0 Ay0 cy0 ty0 true _ (Kd.R_reads' (by (with_reducible repeat (first | apply Kd.R_alloc | apply Kd.R_drewN | apply Kd.R_drew)); exact HO_x0.out)).2.2 HL_x0.out (Kd.R_reads' (by (with_reducible repeat (first | apply Kd.R_alloc | apply Kd.R_drewN | apply Kd.R_drew)); exact HO_y0.out)).2.2 HL_y0.out G9.out).mono ?_
  rintro e w' ⟨rfl, ⟨ney0, rfl⟩⟩
  clear HO_y0 HZ_y0 HL_y0
  go_wp2_with fail
  refine (laws_toHopS.calls k A1 c1 l1 ty1 _ (Kd.C_below HC_l1.out (by repeat (first | (with_reducible first | exact HB.out | apply below_alloc | apply pw_below_drewN | apply below_drew1) | exact HB.out))) HL_l1.out G10.out).mono ?_
  rintro e w' ⟨vy1, rfl, hS, hb⟩
  have HD_x0_y1 := Aside0.mk (laws_FnExactSpreadFrames.le_call hb HZ_x0.out)
  have HD_x1_y1 := Aside0.mk (laws_FnExactSpreadFrames.le_call hb HZ_x1.out)
  have HD_g_y1 := Aside0.mk (laws_FnExactSpreadFrames.le_call hb HZ_g.out)
  obtain ⟨Ay1, cy1, rfl⟩ := Kd.R_slice hS
  have HL_y1 := Aside0.mk (Kd.R_reads' hS).2.1
  have HOn := Aside0.mk (Kd.R_lower (Kd.R_mono (Kd.R_bound hS) (fun k_ hk_ => (⟨hk_.2.1, hk_.2.2.1⟩ : _ ≤ k_ ∧ k_ < _))) (below_size (by repeat (first | (with_reducible first | exact HX.out | apply below_alloc | apply pw_below_drewN | apply below_drew1) | exact HX.out))))
  have HZn := Aside0.mk (Nat.le_refl (World.heap w').size)
  clear hS
  have h_ := Aside0.mk (below_step (by repeat (first | (with_reducible first | exact HB.out | apply below_alloc | apply pw_below_drewN | apply below_drew1) | exact HB.out)) hb)
  clear HB
  have HB := h_
  clear h_
  have h_ := Aside0.mk (below_step (by repeat (first | (with_reducible first | exact HX.out | apply below_alloc | apply pw_below_drewN | apply below_drew1) | exact HX.out)) hb)
  clear HX
  have HX := h_
  clear h_
  have h_ := Aside0.mk (below_step (by repeat (first | (with_reducible first | exact HB_w.out | apply below_alloc | apply pw_below_drewN | apply below_drew1) | exact HB_w.out)) hb)
  clear HB_w
  have HB_w := h_
  clear h_
  have h_ := Aside0.mk (Kd.R_below (by (with_reducible repeat (first | apply Kd.R_alloc | apply Kd.R_drewN | apply Kd.R_drew)); exact HO_x0.out) hb)
  clear HO_x0
  have HO_x0 := h_
  clear h_
  have h_ := Aside0.mk (Nat.le_trans HZ_x0.out hb.size)
  clear HZ_x0
  have HZ_x0 := h_
  clear h_
  have h_ := Aside0.mk (Kd.R_below (by (with_reducible repeat (first | apply Kd.R_alloc | apply Kd.R_drewN | apply Kd.R_drew)); exact HO_x1.out) hb)
  clear HO_x1
  have HO_x1 := h_
  clear h_
  have h_ := Aside0.mk (Nat.le_trans HZ_x1.out hb.size)
  clear HZ_x1
  have HZ_x1 := h_
  clear h_
  have h_ := Aside0.mk (Kd.S_below (by (with_reducible repeat (first | apply Kd.S_alloc | apply Kd.S_drewN | apply Kd.S_drew)); exact HO_g.out) hb)
  clear HO_g
  have HO_g := h_
  clear h_
  have h_ := Aside0.mk (Nat.le_trans HZ_g.out hb.size)
  clear HZ_g
  have HZ_g := h_
  clear h_
  clear hb
  have HO_y1 := HOn
  have HZ_y1 := HZn
  clear HOn HZn
  go_wp2_with fail
  refine (laws_eqHopS.calls k Ax1 cx1 tx1 Ay1 cy1 ty1 true _ (Kd.R_reads' (by (with_reducible repeat (first | apply Kd.R_alloc | apply Kd.R_drewN | apply Kd.R_drew)); exact HO_x1.out)).2.2 HL_x1.out (Kd.R_reads' (by (with_reducible repeat (first | apply Kd.R_alloc | apply Kd.R_drewN | apply Kd.R_drew)); exact HO_y1.out)).2.2 HL_y1.out G11.out).mono ?_
  rintro e w' ⟨rfl, hb⟩
  have h_ := Aside0.mk (below_step (by repeat (first | (with_reducible first | exact HB.out | apply below_alloc | apply pw_below_drewN | apply below_drew1) | exact HB.out)) hb)
  clear HB
  have HB := h_
  clear h_
  have h_ := Aside0.mk (below_step (by repeat (first | (with_reducible first | exact HX.out | apply below_alloc | apply pw_below_drewN | apply below_drew1) | exact HX.out)) hb)
  clear HX
  have HX := h_
  clear h_
  have h_ := Aside0.mk (below_step (by repeat (first | (with_reducible first | exact HB_w.out | apply below_alloc | apply pw_below_drewN | apply below_drew1) | exact HB_w.out)) hb)
  clear HB_w
  have HB_w := h_
  clear h_
  have h_ := Aside0.mk (Kd.R_below (by (with_reducible repeat (first | apply Kd.R_alloc | apply Kd.R_drewN | apply Kd.R_drew)); exact HO_x0.out) hb)
  clear HO_x0
  have HO_x0 := h_
  clear h_
  have h_ := Aside0.mk (Nat.le_trans HZ_x0.out hb.size)
  clear HZ_x0
  have HZ_x0 := h_
  clear h_
  have h_ := Aside0.mk (Kd.R_below (by (with_reducible repeat (first | apply Kd.R_alloc | apply Kd.R_drewN | apply Kd.R_drew)); exact HO_x1.out) hb)
  clear HO_x1
  have HO_x1 := h_
  clear h_
  have h_ := Aside0.mk (Nat.le_trans HZ_x1.out hb.size)
  clear HZ_x1
  have HZ_x1 := h_
  clear h_
  have h_ := Aside0.mk (Kd.S_below (by (with_reducible repeat (first | apply Kd.S_alloc | apply Kd.S_drewN | apply Kd.S_drew)); exact HO_g.out) hb)
  clear HO_g
  have HO_g := h_
  clear h_
  have h_ := Aside0.mk (Nat.le_trans HZ_g.out hb.size)
  clear HZ_g
  have HZ_g := h_
  clear h_
  have h_ := Aside0.mk (Kd.R_below (by (with_reducible repeat (first | apply Kd.R_alloc | apply Kd.R_drewN | apply Kd.R_drew)); exact HO_y1.out) hb)
  clear HO_y1
  have HO_y1 := h_
  clear h_
  have h_ := Aside0.mk (Nat.le_trans HZ_y1.out hb.size)
  clear HZ_y1
  have HZ_y1 := h_
  clear h_
  clear hb
  clear HO_y1 HZ_y1 HL_y1
  go_wp2_with fail
  refine (laws_markBoolS.calls k _ (.slice Ax0 tx0.length cx0) tx0 1 kl0 yx0 _ _ (by repeat (first | (with_reducible first | exact HX.out | apply below_alloc | apply pw_below_drewN | apply below_drew1) | exact HX.out)) (by (with_reducible repeat (first | apply Kd.R_alloc | apply Kd.R_drewN | apply Kd.R_drew)); exact HO_x0.out) G12.out).mono ?_
  rintro e w' ⟨rfl, hS, hb, hk⟩
  have h_ := Aside0.mk (Kd.R_step (by (with_reducible repeat (first | apply Kd.R_alloc | apply Kd.R_drewN | apply Kd.R_drew)); exact HO_x1.out) (fun k_ hk_ hlt_ => hk.2 k_ hlt_ (fun hp_ => by have := HD_x0_x1.out; have := hp_.2; have := hk_.1; omega)))
  clear HO_x1
  have HO_x1 := h_
  clear h_
  have h_ := Aside0.mk (Nat.le_trans HZ_x1.out hk.1)
  clear HZ_x1
  have HZ_x1 := h_
  clear h_
  have h_ := Aside0.mk (Kd.S_step (by (with_reducible repeat (first | apply Kd.S_alloc | apply Kd.S_drewN | apply Kd.S_drew)); exact HO_g.out) (fun k_ hk_ hlt_ => hk.2 k_ hlt_ (fun hp_ => by have := HD_x0_g.out; have := hp_.2; have := hk_.1; omega)))
  clear HO_g
  have HO_g := h_
  clear h_
  have h_ := Aside0.mk (Nat.le_trans HZ_g.out hk.1)
  clear HZ_g
  have HZ_g := h_
  clear h_
  have h_ := Aside0.mk (below_step (by repeat (first | (with_reducible first | exact HXB.out | apply below_alloc | apply pw_below_drewN | apply below_drew1) | exact HXB.out)) hb)
  clear HB
  have HB := h_
  clear h_
  clear HX
  have HX := Aside0.mk hb
  have h_ := Aside0.mk (below_step (by repeat (first | (with_reducible first | exact HXB_w.out | apply below_alloc | apply pw_below_drewN | apply below_drew1) | exact HXB_w.out)) hb)
  clear HB_w
  have HB_w := h_
  clear h_
  clear hS hb hk HO_x0 HZ_x0 HL_x0
  go_wp2_with fail
  refine (laws_markHopS.calls k _ (.slice Ax1 tx1.length cx1) tx1 kl0 kl1 yx1 _ _ (by repeat (first | (with_reducible first | exact HX.out | apply below_alloc | apply pw_below_drewN | apply below_drew1) | exact HX.out)) (by (with_reducible repeat (first | apply Kd.R_alloc | apply Kd.R_drewN | apply Kd.R_drew)); exact HO_x1.out) G13.out).mono ?_
  rintro e w' ⟨rfl, hS, hb, hk⟩
  have h_ := Aside0.mk (Kd.S_step (by (with_reducible repeat (first | apply Kd.S_alloc | apply Kd.S_drewN | apply Kd.S_drew)); exact HO_g.out) (fun k_ hk_ hlt_ => hk.2 k_ hlt_ (fun hp_ => by have := HD_x1_g.out; have := hp_.2; have := hk_.1; omega)))
  clear HO_g
  have HO_g := h_
  clear h_
  have h_ := Aside0.mk (Nat.le_trans HZ_g.out hk.1)
  clear HZ_g
  have HZ_g := h_
  clear h_
  have h_ := Aside0.mk (below_step (by repeat (first | (with_reducible first | exact HXB.out | apply below_alloc | apply pw_below_drewN | apply below_drew1) | exact HXB.out)) hb)
  clear HB
  have HB := h_
  clear h_
  clear HX
  have HX := Aside0.mk hb
  have h_ := Aside0.mk (below_step (by repeat (first | (with_reducible first | exact HXB_w.out | apply below_alloc | apply pw_below_drewN | apply below_drew1) | exact HXB_w.out)) hb)
  clear HB_w
  have HB_w := h_
  clear h_
  clear hS hb hk HO_x1 HZ_x1 HL_x1
  go_wp2_with fail
  refine (laws_eqIntSS.calls k Ag cg tg Aw cw tw true _ (Kd.S_reads' (by (with_reducible repeat (first | apply Kd.S_alloc | apply Kd.S_drewN | apply Kd.S_drew)); exact HO_g.out)).2.2 HL_g.out (Kd.C_below HC_w.out (by repeat (first | (with_reducible first | exact HB_w.out | apply below_alloc | apply pw_below_drewN | apply below_drew1) | exact HB_w.out))) HL_w.out G14.out).mono ?_
  rintro e w' ⟨rfl, ⟨ne1, rfl⟩⟩
  go_wp2_with fail
  refine (laws_markIntSS.calls k _ Ag cg tg 1 m yg _ _ (by repeat (first | (with_reducible first | exact HX.out | apply below_alloc | apply pw_below_drewN | apply below_drew1) | exact HX.out)) (by (with_reducible repeat (first | apply Kd.S_alloc | apply Kd.S_drewN | apply Kd.S_drew)); exact HO_g.out) G15.out).mono ?_
  rintro e w' ⟨rfl, hS, hb, hk⟩
  have h_ := Aside0.mk (below_step (by repeat (first | (with_reducible first | exact HXB.out | apply below_alloc | apply pw_below_drewN | apply below_drew1) | exact HXB.out)) hb)
  clear HB
  have HB := h_
  clear h_
  clear HX
  have HX := Aside0.mk hb
  have h_ := Aside0.mk (below_step (by repeat (first | (with_reducible first | exact HXB_w.out | apply below_alloc | apply pw_below_drewN | apply below_drew1) | exact HXB_w.out)) hb)
  clear HB_w
  have HB_w := h_
  clear h_
  have hl := (Kd.S_reads' hS).1
  clear HO_g
  have HO_g := Aside0.mk hS
  have h_ := Aside0.mk (Nat.le_trans HZ_g.out hk.1)
  clear HZ_g
  have HZ_g := h_
  clear h_ hS hb hk
  rw [hl] at HL_g HO_g ⊢
  clear hl
  go_wp2_with fail
  refine (laws_heldIntSS.calls k Ag cg yg 1 q0 _ (Kd.S_reads' (by (with_reducible repeat (first | apply Kd.S_alloc | apply Kd.S_drewN | apply Kd.S_drew)); exact HO_g.out)).2.2 HL_g.out G16.out).mono ?_
  rintro e w' ⟨rfl, ⟨nq0, rfl⟩⟩
  go_wp2_with fail
  refine (laws_toBoolS.calls k A0 c0 l0 tu0 _ (Kd.C_below HC_l0.out (by repeat (first | (with_reducible first | exact HB.out | apply below_alloc | apply pw_below_drewN | apply below_drew1) | exact HB.out))) HL_l0.out G17.out).mono ?_
  rintro e w' ⟨vu0, rfl, hS, hb⟩
  have HD_g_u0 := Aside0.mk (laws_FnExactSpreadFrames.le_call hb HZ_g.out)
  obtain ⟨Au0, cu0, rfl⟩ := Kd.R_slice hS
  have HL_u0 := Aside0.mk (Kd.R_reads' hS).2.1
  have HOn := Aside0.mk (Kd.R_lower (Kd.R_mono (Kd.R_bound hS) (fun k_ hk_ => (⟨hk_.2.1, hk_.2.2.1⟩ : _ ≤ k_ ∧ k_ < _))) (below_size (by repeat (first | (with_reducible first | exact HX.out | apply below_alloc | apply pw_below_drewN | apply below_drew1) | exact HX.out))))
  have HZn := Aside0.mk (Nat.le_refl (World.heap w').size)
  clear hS
  have h_ := Aside0.mk (below_step (by repeat (first | (with_reducible first | exact HB.out | apply below_alloc | apply pw_below_drewN | apply below_drew1) | exact HB.out)) hb)
  clear HB
  have HB := h_
  clear h_
  have h_ := Aside0.mk (below_step (by repeat (first | (with_reducible first | exact HX.out | apply below_alloc | apply pw_below_drewN | apply below_drew1) | exact HX.out)) hb)
  clear HX
  have HX := h_
  clear h_
  have h_ := Aside0.mk (below_step (by repeat (first | (with_reducible first | exact HB_w.out | apply below_alloc | apply pw_below_drewN | apply below_drew1) | exact HB_w.out)) hb)
  clear HB_w
  have HB_w := h_
  clear h_
  have h_ := Aside0.mk (Kd.S_below (by (with_reducible repeat (first | apply Kd.S_alloc | apply Kd.S_drewN | apply Kd.S_drew)); exact HO_g.out) hb)
  clear HO_g
  have HO_g := h_
  clear h_
  have h_ := Aside0.mk (Nat.le_trans HZ_g.out hb.size)
  clear HZ_g
  have HZ_g := h_
  clear h_
  clear hb
  have HO_u0 := HOn
  have HZ_u0 := HZn
  clear HOn HZn
  go_wp2_with fail
  refine (laws_toHopS.calls k A1 c1 l1 tu1 _ (Kd.C_below HC_l1.out (by repeat (first | (with_reducible first | exact HB.out | apply below_alloc | apply pw_below_drewN | apply below_drew1) | exact HB.out))) HL_l1.out G18.out).mono ?_
  rintro e w' ⟨vu1, rfl, hS, hb⟩
  have HD_g_u1 := Aside0.mk (laws_FnExactSpreadFrames.le_call hb HZ_g.out)
  have HD_u0_u1 := Aside0.mk (laws_FnExactSpreadFrames.le_call hb HZ_u0.out)
  obtain ⟨Au1, cu1, rfl⟩ := Kd.R_slice hS
  have HL_u1 := Aside0.mk (Kd.R_reads' hS).2.1
  have HOn := Aside0.mk (Kd.R_lower (Kd.R_mono (Kd.R_bound hS) (fun k_ hk_ => (⟨hk_.2.1, hk_.2.2.1⟩ : _ ≤ k_ ∧ k_ < _))) (below_size (by repeat (first | (with_reducible first | exact HX.out | apply below_alloc | apply pw_below_drewN | apply below_drew1) | exact HX.out))))
  have HZn := Aside0.mk (Nat.le_refl (World.heap w').size)
  clear hS
  have h_ := Aside0.mk (below_step (by repeat (first | (with_reducible first | exact HB.out | apply below_alloc | apply pw_below_drewN | apply below_drew1) | exact HB.out)) hb)
  clear HB
  have HB := h_
  clear h_
  have h_ := Aside0.mk (below_step (by repeat (first | (with_reducible first | exact HX.out | apply below_alloc | apply pw_below_drewN | apply below_drew1) | exact HX.out)) hb)
  clear HX
  have HX := h_
  clear h_
  have h_ := Aside0.mk (below_step (by repeat (first | (with_reducible first | exact HB_w.out | apply below_alloc | apply pw_below_drewN | apply below_drew1) | exact HB_w.out)) hb)
  clear HB_w
  have HB_w := h_
  clear h_
  have h_ := Aside0.mk (Kd.S_below (by (with_reducible repeat (first | apply Kd.S_alloc | apply Kd.S_drewN | apply Kd.S_drew)); exact HO_g.out) hb)
  clear HO_g
  have HO_g := h_
  clear h_
  have h_ := Aside0.mk (Nat.le_trans HZ_g.out hb.size)
  clear HZ_g
  have HZ_g := h_
  clear h_
  have h_ := Aside0.mk (Kd.R_below (by (with_reducible repeat (first | apply Kd.R_alloc | apply Kd.R_drewN | apply Kd.R_drew)); exact HO_u0.out) hb)
  clear HO_u0
  have HO_u0 := h_
  clear h_
  have h_ := Aside0.mk (Nat.le_trans HZ_u0.out hb.size)
  clear HZ_u0
  have HZ_u0 := h_
  clear h_
  clear hb
  have HO_u1 := HOn
  have HZ_u1 := HZn
  clear HOn HZn
  go_wp2_with fail
  refine (impl_SpreadFrames.calls k Au0 cu0 tu0 Au1 cu1 tu1 th _ (Kd.R_reads' (by (with_reducible repeat (first | apply Kd.R_alloc | apply Kd.R_drewN | apply Kd.R_drew)); exact HO_u0.out)).2.2 HL_u0.out (Kd.R_reads' (by (with_reducible repeat (first | apply Kd.R_alloc | apply Kd.R_drewN | apply Kd.R_drew)); exact HO_u1.out)).2.2 HL_u1.out G19.out).mono ?_
  rintro e w' ⟨vh, rfl, hS, hb⟩
  have HD_g_h := Aside0.mk (laws_FnExactSpreadFrames.le_call hb HZ_g.out)
  have HD_u0_h := Aside0.mk (laws_FnExactSpreadFrames.le_call hb HZ_u0.out)
  have HD_u1_h := Aside0.mk (laws_FnExactSpreadFrames.le_call hb HZ_u1.out)
  obtain ⟨Ah, ch, rfl⟩ := Kd.S_slice hS
  have HL_h := Aside0.mk (Kd.S_reads' hS).2.1
  have HOn := Aside0.mk (Kd.S_lower (Kd.S_mono (Kd.S_bound hS) (fun k_ hk_ => (⟨hk_.2.1, hk_.2.2.1⟩ : _ ≤ k_ ∧ k_ < _))) (below_size (by repeat (first | (with_reducible first | exact HX.out | apply below_alloc | apply pw_below_drewN | apply below_drew1) | exact HX.out))))
  have HZn := Aside0.mk (Nat.le_refl (World.heap w').size)
  clear hS
  have h_ := Aside0.mk (below_step (by repeat (first | (with_reducible first | exact HB.out | apply below_alloc | apply pw_below_drewN | apply below_drew1) | exact HB.out)) hb)
  clear HB
  have HB := h_
  clear h_
  have h_ := Aside0.mk (below_step (by repeat (first | (with_reducible first | exact HX.out | apply below_alloc | apply pw_below_drewN | apply below_drew1) | exact HX.out)) hb)
  clear HX
  have HX := h_
  clear h_
  have h_ := Aside0.mk (below_step (by repeat (first | (with_reducible first | exact HB_w.out | apply below_alloc | apply pw_below_drewN | apply below_drew1) | exact HB_w.out)) hb)
  clear HB_w
  have HB_w := h_
  clear h_
  have h_ := Aside0.mk (Kd.S_below (by (with_reducible repeat (first | apply Kd.S_alloc | apply Kd.S_drewN | apply Kd.S_drew)); exact HO_g.out) hb)
  clear HO_g
  have HO_g := h_
  clear h_
  have h_ := Aside0.mk (Nat.le_trans HZ_g.out hb.size)
  clear HZ_g
  have HZ_g := h_
  clear h_
  have h_ := Aside0.mk (Kd.R_below (by (with_reducible repeat (first | apply Kd.R_alloc | apply Kd.R_drewN | apply Kd.R_drew)); exact HO_u0.out) hb)
  clear HO_u0
  have HO_u0 := h_
  clear h_
  have h_ := Aside0.mk (Nat.le_trans HZ_u0.out hb.size)
  clear HZ_u0
  have HZ_u0 := h_
  clear h_
  have h_ := Aside0.mk (Kd.R_below (by (with_reducible repeat (first | apply Kd.R_alloc | apply Kd.R_drewN | apply Kd.R_drew)); exact HO_u1.out) hb)
  clear HO_u1
  have HO_u1 := h_
  clear h_
  have h_ := Aside0.mk (Nat.le_trans HZ_u1.out hb.size)
  clear HZ_u1
  have HZ_u1 := h_
  clear h_
  clear hb
  have HO_h := HOn
  have HZ_h := HZn
  clear HOn HZn
  go_wp2_with fail
  refine (laws_eqIntSS.calls k Ah ch th Aw cw tw true _ (Kd.S_reads' (by (with_reducible repeat (first | apply Kd.S_alloc | apply Kd.S_drewN | apply Kd.S_drew)); exact HO_h.out)).2.2 HL_h.out (Kd.C_below HC_w.out (by repeat (first | (with_reducible first | exact HB_w.out | apply below_alloc | apply pw_below_drewN | apply below_drew1) | exact HB_w.out))) HL_w.out G20.out).mono ?_
  rintro e w' ⟨rfl, ⟨ne2, rfl⟩⟩
  go_wp2_with fail
  refine (laws_heldIntSS.calls k Ag cg yg 1 q1 _ (Kd.S_reads' (by (with_reducible repeat (first | apply Kd.S_alloc | apply Kd.S_drewN | apply Kd.S_drew)); exact HO_g.out)).2.2 HL_g.out G21.out).mono ?_
  rintro e w' ⟨rfl, ⟨nq1, rfl⟩⟩
  go_wp2_with fail
  go_ret
  exact ⟨rfl, (by repeat (first | (with_reducible first | exact HB.out | apply below_alloc | apply pw_below_drewN | apply below_drew1) | exact HB.out))⟩

end Go.Proofs.Ytdkmgcijhaokkaa.PA

-- Laid by this session's own program (pr.py) over the translation; Lean checks it.
import Derived.Test.YtegnghbgkiddoaaPA0
import Derived.Test.YtegnghbgkiddoaaPA13
import Derived.Test.YtegnghbgkiddoaaPA29
import Derived.Test.YtegnghbgkiddoaaPA55
import Derived.Test.YtegnghbgkiddoaaPA56
namespace Go.Proofs.Ytegnghbgkiddoaa.PA
open Go.RowKit Go.Proofs.YtegnghbgkiddoaaW.PrintWords Go.Proofs.YtegnghbgkiddoaaW.PrintLast Go.Proofs.YtegnghbgkiddoaaW.PrintMore
attribute [local go_sem] max2_int min2_int max_two min_two max_three min_three max_four min_four   -- for this text's walks alone
set_option linter.unusedVariables false
set_option linter.unusedSimpArgs false

/-! ### laws_markHopS: function 62 -/
def laws_markHopS.l0 : Nat → List (S93) → Int → Int → Option (Int × (List (S93)))
 | 0, _, _, _ => none
 | k + 1, x0, x1, x5 => if x5 < (x0.length : Int) then (if 0 ≤ x5 then ((some (x0.set (x5 : Int).toNat (⟨x1, (rd_T93 x0 x5).f1, (rd_T93 x0 x5).f2⟩ : S93) : List (S93))).bind fun y1163 => ((some (y1163.set (x5 : Int).toNat (⟨(rd_T93 y1163 x5).f0, wrap64 (x1 + 1), (rd_T93 y1163 x5).f2⟩ : S93) : List (S93))).bind fun y1164 => (laws_markHopS.l0 k (y1164.set (x5 : Int).toNat (⟨(rd_T93 y1164 x5).f0, (rd_T93 y1164 x5).f1, wrap64 ((wrap64 (x1 + 1)) + 1)⟩ : S93)) (wrap64 ((wrap64 ((wrap64 (x1 + 1)) + 1)) + 1)) (wrap64 (x5 + 1))))) else (none)) else (some (x1, x0))
def laws_markHopS.f (k : Nat) (l0 : List (S93)) (a1 : Int) : Option (Int × (List (S93))) := laws_markHopS.l0 k l0 a1 0
theorem laws_markHopS.mono_l : ∀ k, (∀ y0 y1 y2, LeO (laws_markHopS.l0 k y0 y1 y2) (laws_markHopS.l0 (k + 1) y0 y1 y2))
 | 0 => fun _ _ _ r h => by simp [laws_markHopS.l0] at h
 | k + 1 => by
  have ih0 := laws_markHopS.mono_l k
  ·intro y0 y1 y2
   unfold laws_markHopS.l0
   repeat' first
   | (with_reducible exact ih0 _ _ _)
   | (with_reducible exact LeO.refl _)
   | (with_reducible exact LeO.none _)
   | (with_reducible refine LeO.ite ?_ ?_)
   | (with_reducible refine LeO.bind ?_ (fun _ => ?_))
   | exact ih0 _ _ _
   | exact LeO.none _
   | refine LeO.ite ?_ ?_
   | refine LeO.bind ?_ (fun _ => ?_)
theorem laws_markHopS.mono : ∀ a0 a1 k, LeO (laws_markHopS.f k a0 a1) (laws_markHopS.f (k + 1) a0 a1) := by
 intro a0 a1 k
 have ih0 := laws_markHopS.mono_l k
 unfold laws_markHopS.f
 repeat' first
   | (with_reducible exact ih0 _ _ _)
   | (with_reducible exact LeO.refl _)
   | (with_reducible exact LeO.none _)
   | (with_reducible refine LeO.ite ?_ ?_)
   | (with_reducible refine LeO.bind ?_ (fun _ => ?_))
   | exact ih0 _ _ _
   | exact LeO.none _
   | refine LeO.ite ?_ ?_
   | refine LeO.bind ?_ (fun _ => ?_)
set_option maxHeartbeats 8000000 in
set_option maxRecDepth 100000 in
theorem laws_markHopS.calls (k : Nat) (P0_ : Nat → Prop) (u9000_ : Value) (l0 : List (S93)) (a1 : Int) (r1 : Int) (r2 : List (S93)) (w0 w : World) (hB : Below w0.heap.size w0 w) (ho0 : Kd.R k93 93 w w0.heap.size P0_ u9000_ l0) (h : laws_markHopS.f k l0 a1 = some (r1, r2)) :
  Calls Try.prog 62 #[u9000_, .int .i64 a1] w fun e w' => e = .returned (.int .i64 r1) ∧ Kd.R k93 93 w' w0.heap.size (fun k_ => (P0_ k_ ∨ w.heap.size ≤ k_)) u9000_ r2 ∧ Below w0.heap.size w0 w' ∧ Kept w w' (fun k_ => P0_ k_) := by
 have HO0 := Aside0.mk (show Kd.R k93 93 w w0.heap.size (fun k_ => (P0_ k_ ∨ w.heap.size ≤ k_)) u9000_ l0 from Kd.R_mono ho0 (fun k_ hk => (.inl hk)))
 have HK := Aside0.mk (Kept.refl w (fun k_ => P0_ k_))
 have HW0 := Aside0.mk hB.size
 have HB := Aside0.mk hB
 clear hB
 have H : (laws_markHopS.l0 k l0 a1 0) = some (r1, r2) := h
 clear h
 have H' := Aside0.mk H
 clear H
 go_enter Try.func62, Try.ntmps62
 go_wp2
 go_loopg [1, 5] k (fun kq v1 v5 w' => ∃ (x0_1 : List (S93)) (x1_1 : Int) (x5_1 : Int), v1 = .int .i64 x1_1 ∧ v5 = .int .i64 x5_1 ∧ Aside0 (laws_markHopS.l0 kq x0_1 x1_1 x5_1 = some (r1, r2)) ∧ Aside0 (kq ≤ k) ∧ Aside0 (Kd.R k93 93 w' w0.heap.size (fun k_ => (P0_ k_ ∨ w.heap.size ≤ k_)) u9000_ x0_1) ∧ Aside0 (Kept w w' (fun k_ => P0_ k_)) ∧ Aside0 (Below w0.heap.size w0 w'))
 case atStart => exact ⟨(l0), (a1), (0), (by first | rfl | (simp; done) | (simp [*]; done)), (by first | rfl | (simp; done) | (simp [*]; done)), H', ⟨Nat.le_refl _⟩, ⟨by (with_reducible repeat (first | apply Kd.R_alloc | apply Kd.R_drewN | apply Kd.R_drew)); exact HO0.out⟩, ⟨by repeat (first | (with_reducible first | exact HK.out | apply Kept.alloc | apply Kept.drewN | apply Kept.drew) | exact HK.out)⟩, ⟨by repeat (first | (with_reducible first | exact HB.out | apply below_alloc | apply pw_below_drewN | apply below_drew1) | exact HB.out)⟩⟩
 case round =>
  clear H'
  try clear p2
  obtain ⟨x0_1, x1_1, x5_1, rfl, rfl, HA, HK1, HO_0, HK, HB⟩ := hrel
  cases gk with
  | zero => exact absurd HA.out (by simp [laws_markHopS.l0])
  | succ k1 =>
   have H := HA.out
   clear HA
   simp only [laws_markHopS.l0] at H
   by_cases c3 : x5_1 < (x0_1.length : Int)
   ·rw [if_pos c3] at H
    have c3b0 : decide (x5_1 < (x0_1.length : Int)) = true := decide_eq_true c3
    clear c3
    by_cases c4 : 0 ≤ x5_1
    ·rw [if_pos c4] at H
     have c4b0 : decide (0 ≤ x5_1) = true := decide_eq_true c4
     clear c4
     obtain ⟨y1163, hy1163⟩ : ∃ y_ : List (S93), y_ = (x0_1.set (x5_1 : Int).toNat (⟨x1_1, (rd_T93 x0_1 x5_1).f1, (rd_T93 x0_1 x5_1).f2⟩ : S93)) := ⟨_, rfl⟩
     replace H : ((some (y1163.set (x5_1 : Int).toNat (⟨(rd_T93 y1163 x5_1).f0, wrap64 (x1_1 + 1), (rd_T93 y1163 x5_1).f2⟩ : S93) : List (S93))).bind fun y1164 => (laws_markHopS.l0 k1 (y1164.set (x5_1 : Int).toNat (⟨(rd_T93 y1164 x5_1).f0, (rd_T93 y1164 x5_1).f1, wrap64 ((wrap64 (x1_1 + 1)) + 1)⟩ : S93)) (wrap64 ((wrap64 ((wrap64 (x1_1 + 1)) + 1)) + 1)) (wrap64 (x5_1 + 1)))) = some (r1, r2) := by first | (rw [hy1163]; with_reducible exact H) | (have H2_ := (Option.bind_some _ _).symm.trans H; rw [hy1163]; with_reducible exact H2_) | (have H2_ := (Option.bind_some _ _).symm.trans H; with_reducible exact H2_) | with_reducible exact H | (rw [hy1163]; exact H) | exact H
     have Ny1163 := Aside0.mk hy1163
     clear hy1163
     obtain ⟨y1164, hy1164⟩ : ∃ y_ : List (S93), y_ = (y1163.set (x5_1 : Int).toNat (⟨(rd_T93 y1163 x5_1).f0, wrap64 (x1_1 + 1), (rd_T93 y1163 x5_1).f2⟩ : S93)) := ⟨_, rfl⟩
     replace H : (laws_markHopS.l0 k1 (y1164.set (x5_1 : Int).toNat (⟨(rd_T93 y1164 x5_1).f0, (rd_T93 y1164 x5_1).f1, wrap64 ((wrap64 (x1_1 + 1)) + 1)⟩ : S93)) (wrap64 ((wrap64 ((wrap64 (x1_1 + 1)) + 1)) + 1)) (wrap64 (x5_1 + 1))) = some (r1, r2) := by first | (rw [hy1164]; with_reducible exact H) | (have H2_ := (Option.bind_some _ _).symm.trans H; rw [hy1164]; with_reducible exact H2_) | (have H2_ := (Option.bind_some _ _).symm.trans H; with_reducible exact H2_) | with_reducible exact H | (rw [hy1164]; exact H) | exact H
     have Ny1164 := Aside0.mk hy1164
     clear hy1164
     obtain ⟨y1165, hy1165⟩ : ∃ y_ : List (S93), y_ = (y1164.set (x5_1 : Int).toNat (⟨(rd_T93 y1164 x5_1).f0, (rd_T93 y1164 x5_1).f1, wrap64 ((wrap64 (x1_1 + 1)) + 1)⟩ : S93)) := ⟨_, rfl⟩
     replace H : (laws_markHopS.l0 k1 y1165 (wrap64 ((wrap64 ((wrap64 (x1_1 + 1)) + 1)) + 1)) (wrap64 (x5_1 + 1))) = some (r1, r2) := by first | (rw [hy1165]; with_reducible exact H) | (have H2_ := (Option.bind_some _ _).symm.trans H; rw [hy1165]; with_reducible exact H2_) | (have H2_ := (Option.bind_some _ _).symm.trans H; with_reducible exact H2_) | with_reducible exact H | (rw [hy1165]; exact H) | exact H
     have Ny1165 := Aside0.mk hy1165
     clear hy1165
     have H' := Aside0.mk H
     clear H
     obtain ⟨Ao8, co8, eo8⟩ := Kd.R_slice HO_0.out
     subst eo8
     have p5 : 0 ≤ (x5_1 : Int) := of_decide_eq_true (by first | (with_reducible assumption) | assumption)
     have q5 : (x5_1 : Int) < ((x0_1.length : Int) : Int) := of_decide_eq_true (by first | (with_reducible assumption) | assumption)
     obtain ⟨go5, co5, eo5, gb5, gl5, cl5, HG5⟩ := Kd.R_form HO_0.out (by omega)
     (first | cases eo5 | (injection eo5 with ea_ en_ ec_; (first | subst ea_ | (injection ea_ with ea_; subst ea_)); subst ec_; clear en_))
     have GB5 := Aside0.mk gb5
     have GG5 := Aside0.mk HG5
     clear gb5 gl5 HG5
     have HMgo5 := Aside0.mk (show (P0_ go5 ∨ w.heap.size ≤ go5) from (HO_0.out.1 _ rfl))
     obtain ⟨ce5, hcl5, hM5, hcc5, hfr5⟩ := Kd.R_elem HO_0.out z93 (x5_1 : Int) p5 q5
     obtain rfl := k93_openM hM5
     have hx5_0 : wr.cell? ⟨go5, (x5_1 : Int).toNat * 3, none⟩ = some (.int .i64 ((rd_T93 x0_1 x5_1).f0)) := hcc5 0 _ rfl
     have hx5_1 : wr.cell? ⟨go5, (x5_1 : Int).toNat * 3 + 1, none⟩ = some (.int .i64 ((rd_T93 x0_1 x5_1).f1)) := hcc5 1 _ rfl
     have hx5_2 : wr.cell? ⟨go5, (x5_1 : Int).toNat * 3 + 2, none⟩ = some (.int .i64 ((rd_T93 x0_1 x5_1).f2)) := hcc5 2 _ rfl
     have hf5_0 : wr.frozen? ⟨go5, (x5_1 : Int).toNat * 3, none⟩ = false := hfr5 0
     have hf5_1 : wr.frozen? ⟨go5, (x5_1 : Int).toNat * 3 + 1, none⟩ = false := hfr5 1
     have hf5_2 : wr.frozen? ⟨go5, (x5_1 : Int).toNat * 3 + 2, none⟩ = false := hfr5 2
     clear hcl5 hcc5 hfr5 hM5
     replace p5 := eq_true p5
     replace q5 := eq_true q5
     have HX9 := Aside0.mk (show Kd.R k93 93 wr w0.heap.size (fun k_ => (P0_ k_ ∨ w.heap.size ≤ k_)) (.slice (some ⟨go5, 0, none⟩) x0_1.length co8) x0_1 from (by (with_reducible repeat (first | apply Kd.R_alloc | apply Kd.R_drewN | apply Kd.R_drew)); exact HO_0.out))
     obtain ⟨ce9, hcl9, hM9, hcc9, hfr9⟩ := Kd.R_elem HX9.out z93 (x5_1 : Int) (of_decide_eq_true (by first | (with_reducible assumption) | assumption)) (by have h_ : (x5_1 : Int) < ((x0_1.length : Int) : Int) := of_decide_eq_true (by first | (with_reducible assumption) | assumption); first | exact h_ | (have e_ := (Kd.R_reads' HO_0.out).1; omega) | simpa using h_)
     obtain rfl := k93_openM hM9
     have HP9 := Kd.R_seg HX9.out (x5_1 : Int) (of_decide_eq_true (by first | (with_reducible assumption) | assumption)) (by have h_ : (x5_1 : Int) < ((x0_1.length : Int) : Int) := of_decide_eq_true (by first | (with_reducible assumption) | assumption); first | exact h_ | (have e_ := (Kd.R_reads' HO_0.out).1; omega) | simpa using h_) (seg := [.int .i64 x1_1]) (j := 0) hcl9 hcc9 (show 1 ≤ 3 from by decide) (x' := (⟨x1_1, (rd_T93 x0_1 x5_1).f1, (rd_T93 x0_1 x5_1).f2⟩ : S93)) (k93_mkM _ _ _ (⟨x1_1, (rd_T93 x0_1 x5_1).f1, (rd_T93 x0_1 x5_1).f2⟩ : S93) ) (fun _ hk => hk)
     have hx9_0 := hcc9 0 _ rfl
     (try simp only [show (k93).sz = 3 from rfl, Nat.mul_one, Nat.add_zero] at hx9_0)
     have hf9_0 := hfr9 0
     (try simp only [show (k93).sz = 3 from rfl, Nat.mul_one, Nat.add_zero] at hf9_0)
     clear hcl9 hcc9 hfr9 hM9
     go_wp2_with (first | ((with_reducible refine gate_store (t := 3) (p := 16) rfl ?_); refine store_event (t := 3) (p := 16) (v := ?vo_w10) (w1 := (wr.setCell ⟨go5, (x5_1 : Int).toNat * 3, none⟩ (.int .i64 x1_1))) ?hg ?ho ?hn ?hr ?_; (case ho => rfl); (case hg => rfl); (case hn => rfl); (case hr => first | (go_simp; done) | (go_simp; rfl)); intro w10 hw; have hg : wr.grownBy w10 (some go5) := (by rw [hw]; exact HP9.2); have hp_ : Kd.R k93 93 w10 w0.heap.size (fun k_ => (P0_ k_ ∨ w.heap.size ≤ k_)) (.slice (some ⟨go5, 0, none⟩) x0_1.length co8) y1163 := (by rw [hw, Ny1163.out]; exact HP9.1); clear HP9; have n0_ := Aside0.mk (hp_); have n1_ := Aside0.mk ((by rw [hw]; exact below_set (HB.out) GB5.out : Below w0.heap.size w0 w10)); have n2_ := Aside0.mk (Kept.of_grown (S := (fun k_ => P0_ k_)) hg (by repeat (first | (with_reducible first | exact HK.out | apply Kept.alloc | apply Kept.drewN | apply Kept.drew) | exact HK.out)) (fun k_ e_ => (HO_0.out.1 k_ e_))); clear HO_0; clear HB; clear HK; have HO_0 := n0_; have HB := n1_; have HK := n2_; clear n0_ n1_ n2_; clear hg hw hp_; have p6 : 0 ≤ (x5_1 : Int) := of_decide_eq_true (by first | (with_reducible assumption) | assumption); have q6 : (x5_1 : Int) < ((x0_1.length : Int) : Int) := of_decide_eq_true (by first | (with_reducible assumption) | assumption); obtain ⟨ce6, hcl6, hM6, hcc6, hfr6⟩ := Kd.R_elem HO_0.out z93 (x5_1 : Int) p6 q6; obtain rfl := k93_openM hM6; have hx6_0 : w10.cell? ⟨go5, (x5_1 : Int).toNat * 3, none⟩ = some (.int .i64 ((rd_T93 y1163 x5_1).f0)) := hcc6 0 _ rfl; have hx6_1 : w10.cell? ⟨go5, (x5_1 : Int).toNat * 3 + 1, none⟩ = some (.int .i64 ((rd_T93 y1163 x5_1).f1)) := hcc6 1 _ rfl; have hx6_2 : w10.cell? ⟨go5, (x5_1 : Int).toNat * 3 + 2, none⟩ = some (.int .i64 ((rd_T93 y1163 x5_1).f2)) := hcc6 2 _ rfl; have hf6_0 : w10.frozen? ⟨go5, (x5_1 : Int).toNat * 3, none⟩ = false := hfr6 0; have hf6_1 : w10.frozen? ⟨go5, (x5_1 : Int).toNat * 3 + 1, none⟩ = false := hfr6 1; have hf6_2 : w10.frozen? ⟨go5, (x5_1 : Int).toNat * 3 + 2, none⟩ = false := hfr6 2; clear hcl6 hcc6 hfr6 hM6; replace p6 := eq_true p6; replace q6 := eq_true q6; have HX11 := Aside0.mk (show Kd.R k93 93 w10 w0.heap.size (fun k_ => (P0_ k_ ∨ w.heap.size ≤ k_)) (.slice (some ⟨go5, 0, none⟩) x0_1.length co8) y1163 from (by (with_reducible repeat (first | apply Kd.R_alloc | apply Kd.R_drewN | apply Kd.R_drew)); exact HO_0.out)); obtain ⟨ce11, hcl11, hM11, hcc11, hfr11⟩ := Kd.R_elem HX11.out z93 (x5_1 : Int) (of_decide_eq_true (by first | (with_reducible assumption) | assumption)) (by have h_ : (x5_1 : Int) < ((x0_1.length : Int) : Int) := of_decide_eq_true (by first | (with_reducible assumption) | assumption); first | exact h_ | (have e_ := (Kd.R_reads' HO_0.out).1; omega) | simpa using h_); obtain rfl := k93_openM hM11; have HP11 := Kd.R_seg HX11.out (x5_1 : Int) (of_decide_eq_true (by first | (with_reducible assumption) | assumption)) (by have h_ : (x5_1 : Int) < ((x0_1.length : Int) : Int) := of_decide_eq_true (by first | (with_reducible assumption) | assumption); first | exact h_ | (have e_ := (Kd.R_reads' HO_0.out).1; omega) | simpa using h_) (seg := [.int .i64 (wrap64 (x1_1 + 1))]) (j := 1) hcl11 hcc11 (show 2 ≤ 3 from by decide) (x' := (⟨(rd_T93 y1163 x5_1).f0, wrap64 (x1_1 + 1), (rd_T93 y1163 x5_1).f2⟩ : S93)) (k93_mkM _ _ _ (⟨(rd_T93 y1163 x5_1).f0, wrap64 (x1_1 + 1), (rd_T93 y1163 x5_1).f2⟩ : S93) ) (fun _ hk => hk); have hx11_1 := hcc11 1 _ rfl; (try simp only [show (k93).sz = 3 from rfl, Nat.mul_one, Nat.add_zero] at hx11_1); have hf11_1 := hfr11 1; (try simp only [show (k93).sz = 3 from rfl, Nat.mul_one, Nat.add_zero] at hf11_1); clear hcl11 hcc11 hfr11 hM11) | ((with_reducible refine gate_store (t := 3) (p := 23) rfl ?_); refine store_event (t := 3) (p := 23) (v := ?vo_w12) (w1 := (w10.setCell ⟨go5, (x5_1 : Int).toNat * 3 + 1, none⟩ (.int .i64 (wrap64 (x1_1 + 1))))) ?hg ?ho ?hn ?hr ?_; (case ho => rfl); (case hg => rfl); (case hn => rfl); (case hr => first | (go_simp; done) | (go_simp; rfl)); intro w12 hw; have hg : w10.grownBy w12 (some go5) := (by rw [hw]; exact HP11.2); have hp_ : Kd.R k93 93 w12 w0.heap.size (fun k_ => (P0_ k_ ∨ w.heap.size ≤ k_)) (.slice (some ⟨go5, 0, none⟩) x0_1.length co8) y1164 := (by rw [hw, Ny1164.out]; exact HP11.1); clear HP11; have n0_ := Aside0.mk (hp_); have n1_ := Aside0.mk ((by rw [hw]; exact below_set (HB.out) GB5.out : Below w0.heap.size w0 w12)); have n2_ := Aside0.mk (Kept.of_grown (S := (fun k_ => P0_ k_)) hg (by repeat (first | (with_reducible first | exact HK.out | apply Kept.alloc | apply Kept.drewN | apply Kept.drew) | exact HK.out)) (fun k_ e_ => (HO_0.out.1 k_ e_))); clear HO_0; clear HB; clear HK; have HO_0 := n0_; have HB := n1_; have HK := n2_; clear n0_ n1_ n2_; clear hg hw hp_; have p7 : 0 ≤ (x5_1 : Int) := of_decide_eq_true (by first | (with_reducible assumption) | assumption); have q7 : (x5_1 : Int) < ((x0_1.length : Int) : Int) := of_decide_eq_true (by first | (with_reducible assumption) | assumption); obtain ⟨ce7, hcl7, hM7, hcc7, hfr7⟩ := Kd.R_elem HO_0.out z93 (x5_1 : Int) p7 q7; obtain rfl := k93_openM hM7; have hx7_0 : w12.cell? ⟨go5, (x5_1 : Int).toNat * 3, none⟩ = some (.int .i64 ((rd_T93 y1164 x5_1).f0)) := hcc7 0 _ rfl; have hx7_1 : w12.cell? ⟨go5, (x5_1 : Int).toNat * 3 + 1, none⟩ = some (.int .i64 ((rd_T93 y1164 x5_1).f1)) := hcc7 1 _ rfl; have hx7_2 : w12.cell? ⟨go5, (x5_1 : Int).toNat * 3 + 2, none⟩ = some (.int .i64 ((rd_T93 y1164 x5_1).f2)) := hcc7 2 _ rfl; have hf7_0 : w12.frozen? ⟨go5, (x5_1 : Int).toNat * 3, none⟩ = false := hfr7 0; have hf7_1 : w12.frozen? ⟨go5, (x5_1 : Int).toNat * 3 + 1, none⟩ = false := hfr7 1; have hf7_2 : w12.frozen? ⟨go5, (x5_1 : Int).toNat * 3 + 2, none⟩ = false := hfr7 2; clear hcl7 hcc7 hfr7 hM7; replace p7 := eq_true p7; replace q7 := eq_true q7; have HX13 := Aside0.mk (show Kd.R k93 93 w12 w0.heap.size (fun k_ => (P0_ k_ ∨ w.heap.size ≤ k_)) (.slice (some ⟨go5, 0, none⟩) x0_1.length co8) y1164 from (by (with_reducible repeat (first | apply Kd.R_alloc | apply Kd.R_drewN | apply Kd.R_drew)); exact HO_0.out)); obtain ⟨ce13, hcl13, hM13, hcc13, hfr13⟩ := Kd.R_elem HX13.out z93 (x5_1 : Int) (of_decide_eq_true (by first | (with_reducible assumption) | assumption)) (by have h_ : (x5_1 : Int) < ((x0_1.length : Int) : Int) := of_decide_eq_true (by first | (with_reducible assumption) | assumption); first | exact h_ | (have e_ := (Kd.R_reads' HO_0.out).1; omega) | simpa using h_); obtain rfl := k93_openM hM13; have HP13 := Kd.R_seg HX13.out (x5_1 : Int) (of_decide_eq_true (by first | (with_reducible assumption) | assumption)) (by have h_ : (x5_1 : Int) < ((x0_1.length : Int) : Int) := of_decide_eq_true (by first | (with_reducible assumption) | assumption); first | exact h_ | (have e_ := (Kd.R_reads' HO_0.out).1; omega) | simpa using h_) (seg := [.int .i64 (wrap64 ((wrap64 (x1_1 + 1)) + 1))]) (j := 2) hcl13 hcc13 (show 3 ≤ 3 from by decide) (x' := (⟨(rd_T93 y1164 x5_1).f0, (rd_T93 y1164 x5_1).f1, wrap64 ((wrap64 (x1_1 + 1)) + 1)⟩ : S93)) (k93_mkM _ _ _ (⟨(rd_T93 y1164 x5_1).f0, (rd_T93 y1164 x5_1).f1, wrap64 ((wrap64 (x1_1 + 1)) + 1)⟩ : S93) ) (fun _ hk => hk); have hx13_2 := hcc13 2 _ rfl; (try simp only [show (k93).sz = 3 from rfl, Nat.mul_one, Nat.add_zero] at hx13_2); have hf13_2 := hfr13 2; (try simp only [show (k93).sz = 3 from rfl, Nat.mul_one, Nat.add_zero] at hf13_2); clear hcl13 hcc13 hfr13 hM13) | ((with_reducible refine gate_store (t := 3) (p := 30) rfl ?_); refine store_event (t := 3) (p := 30) (v := ?vo_w14) (w1 := (w12.setCell ⟨go5, (x5_1 : Int).toNat * 3 + 2, none⟩ (.int .i64 (wrap64 ((wrap64 (x1_1 + 1)) + 1))))) ?hg ?ho ?hn ?hr ?_; (case ho => rfl); (case hg => rfl); (case hn => rfl); (case hr => first | (go_simp; done) | (go_simp; rfl)); intro w14 hw; have hg : w12.grownBy w14 (some go5) := (by rw [hw]; exact HP13.2); have hp_ : Kd.R k93 93 w14 w0.heap.size (fun k_ => (P0_ k_ ∨ w.heap.size ≤ k_)) (.slice (some ⟨go5, 0, none⟩) x0_1.length co8) y1165 := (by rw [hw, Ny1165.out]; exact HP13.1); clear HP13; have n0_ := Aside0.mk (hp_); have n1_ := Aside0.mk ((by rw [hw]; exact below_set (HB.out) GB5.out : Below w0.heap.size w0 w14)); have n2_ := Aside0.mk (Kept.of_grown (S := (fun k_ => P0_ k_)) hg (by repeat (first | (with_reducible first | exact HK.out | apply Kept.alloc | apply Kept.drewN | apply Kept.drew) | exact HK.out)) (fun k_ e_ => (HO_0.out.1 k_ e_))); clear HO_0; clear HB; clear HK; have HO_0 := n0_; have HB := n1_; have HK := n2_; clear n0_ n1_ n2_; clear hg hw hp_))
     go_roundg k1
     case measure => have := HK1.out; omega
     case rel => exact ⟨(y1165), (wrap64 ((wrap64 ((wrap64 (x1_1 + 1)) + 1)) + 1)), (wrap64 (x5_1 + 1)), (by first | rfl | (simp; done) | (simp [*]; done)), (by first | rfl | (simp; done) | (simp [*]; done)), H', ⟨by have := HK1.out; omega⟩, ⟨by (with_reducible repeat (first | apply Kd.R_alloc | apply Kd.R_drewN | apply Kd.R_drew)); exact HO_0.out⟩, ⟨by repeat (first | (with_reducible first | exact HK.out | apply Kept.alloc | apply Kept.drewN | apply Kept.drew) | exact HK.out)⟩, ⟨by repeat (first | (with_reducible first | exact HB.out | apply below_alloc | apply pw_below_drewN | apply below_drew1) | exact HB.out)⟩⟩
    ·rw [if_neg c4] at H
     exact absurd H (by simp)
   ·rw [if_neg c3] at H
    have c3b0 : decide (x5_1 < (x0_1.length : Int)) = false := decide_eq_false c3
    clear c3
    simp only [Option.some.injEq, Prod.mk.injEq] at H
    obtain ⟨rfl, rfl⟩ := H
    obtain ⟨Ao15, co15, eo15⟩ := Kd.R_slice HO_0.out
    subst eo15
    go_wp2
    go_ret
    exact ⟨by first | rfl | (simp [errW_none, errW_some] <;> rfl) | (simp [*, errW_none, errW_some] <;> rfl), by (with_reducible repeat (first | apply Kd.R_alloc | apply Kd.R_drewN | apply Kd.R_drew)); exact HO_0.out, by repeat (first | (with_reducible first | exact HB.out | apply below_alloc | apply pw_below_drewN | apply below_drew1) | exact HB.out), by repeat (first | (with_reducible first | exact HK.out | apply Kept.alloc | apply Kept.drewN | apply Kept.drew) | exact HK.out)⟩

/-! ### laws_FnExactRunBridge: function 19 -/
def laws_FnExactRunBridge.f (k : Nat) (a0 : Int) (l1 : List S95) : Option Bool :=
 (laws_szHopS.f l1 1048576).bind fun zl1 =>
 if zl1 < 0 then some true else
 (laws_toHopS.f k l1).bind fun tb1 =>
 (spec_RunBridge.f k a0 tb1).bind fun bttw0 =>
 (laws_toHopS.f k l1).bind fun tx1 =>
 (impl_RunBridge.f k a0 tx1).bind fun bttg0 =>
 (laws_eqIntS.f k bttg0.1 bttw0.1).bind fun e0a =>
 if e0a = true then
 (laws_eqIntSS.f k bttg0.2.1 bttw0.2.1).bind fun e1a =>
 if e1a = true then
 if bttg0.2.2 = bttw0.2.2 then
 (laws_toHopS.f k l1).bind fun ty1 =>
 (laws_eqHopS.f k tx1 ty1).bind fun ey1 =>
 if ey1 = true then
 (laws_markHopS.f k tx1 1).bind fun btkl1 =>
 if btkl1.1 < 0 then none else
 (laws_eqIntS.f k bttg0.1 bttw0.1).bind fun e0b =>
 if e0b = true then
 (laws_eqIntSS.f k bttg0.2.1 bttw0.2.1).bind fun e1b =>
 if e1b = true then
 (laws_markIntS.f k bttg0.1 1).bind fun btm0 =>
 (laws_markIntSS.f k bttg0.2.1 btm0.1).bind fun btm1 =>
 (laws_heldIntS.f k btm0.2 1).bind fun q0a =>
 if q0a < 0 then none else
 (laws_heldIntSS.f k btm1.2 q0a).bind fun q1a =>
 if q1a < 0 then none else
 if q1a = btm1.1 then
 (laws_toHopS.f k l1).bind fun tu1 =>
 (impl_RunBridge.f k a0 tu1).bind fun btth0 =>
 (laws_eqIntS.f k btth0.1 bttw0.1).bind fun e0c =>
 if e0c = true then
 (laws_eqIntSS.f k btth0.2.1 bttw0.2.1).bind fun e1c =>
 if e1c = true then
 if btth0.2.2 = bttg0.2.2 then
 (laws_heldIntS.f k btm0.2 1).bind fun q0b =>
 if q0b < 0 then none else
 (laws_heldIntSS.f k btm1.2 q0b).bind fun q1b =>
 if q1b < 0 then none else
 if q1b = btm1.1 then
 some true else none else none else none else none else none else none else none else none else none else none else none
theorem laws_FnExactRunBridge.le_call {n : Nat} {W w' : World} (hb : Below W.heap.size W w') (h : n ≤ W.heap.size) : n ≤ W.heap.size := h
set_option maxHeartbeats 8000000 in
set_option maxRecDepth 100000 in
theorem laws_FnExactRunBridge.calls (k : Nat) (a0 : Int) (A1 : Option Addr) (c1 : Nat) (l1 : List S95) (r : Bool) (w : World) (hr1 : Kd.C k95 w A1 l1.length l1) (hc1 : l1.length ≤ c1) (h : laws_FnExactRunBridge.f k a0 l1 = some r) :
  Calls Try.prog 19 #[.int .i64 a0, .slice A1 l1.length c1] w fun e w' => e = .returned (.bool r) ∧ Below w.heap.size w w' := by
 unfold laws_FnExactRunBridge.f at h
 have HC_l1 := Aside0.mk hr1
 have HL_l1 := Aside0.mk hc1
 clear hr1 hc1
 have HB := Aside0.mk (Below.refl w.heap.size w)
 replace h := Option.bind_eq_some_iff.mp h
 obtain ⟨zl1, G0, h⟩ := h
 try dsimp only at h
 replace G0 := Aside0.mk G0
 by_cases czl1 : zl1 < 0
 ·rw [if_pos czl1] at h
  obtain rfl := Option.some.inj h
  clear h
  have czl10 : decide (zl1 < 0) = true := decide_eq_true czl1
  go_enter Try.func19, Try.ntmps19
  go_wp2_with fail
  refine (laws_szHopS.calls A1 c1 l1 1048576 zl1 _ (Kd.C_below HC_l1.out (by repeat (first | (with_reducible first | exact HB.out | apply below_alloc | apply pw_below_drewN | apply below_drew1) | exact HB.out))) HL_l1.out G0.out).mono ?_
  rintro e w' ⟨rfl, ⟨nzl1, rfl⟩⟩
  go_wp2_with fail
  go_ret
  exact ⟨rfl, (by repeat (first | (with_reducible first | exact HB.out | apply below_alloc | apply pw_below_drewN | apply below_drew1) | exact HB.out))⟩
 rw [if_neg czl1] at h
 have czl10 : decide (zl1 < 0) = false := decide_eq_false czl1
 clear czl1
 replace h := Option.bind_eq_some_iff.mp h
 obtain ⟨tb1, G1, h⟩ := h
 try dsimp only at h
 replace G1 := Aside0.mk G1
 replace h := Option.bind_eq_some_iff.mp h
 obtain ⟨⟨tw0, tw1, ww⟩, G2, h⟩ := h
 try dsimp only at h
 replace G2 := Aside0.mk G2
 replace h := Option.bind_eq_some_iff.mp h
 obtain ⟨tx1, G3, h⟩ := h
 try dsimp only at h
 replace G3 := Aside0.mk G3
 replace h := Option.bind_eq_some_iff.mp h
 obtain ⟨⟨tg0, tg1, gg⟩, G4, h⟩ := h
 try dsimp only at h
 replace G4 := Aside0.mk G4
 replace h := Option.bind_eq_some_iff.mp h
 obtain ⟨e0a, G5, h⟩ := h
 try dsimp only at h
 replace G5 := Aside0.mk G5
 have ht_e0a : e0a = true := Classical.byContradiction fun hc => by rw [if_neg hc] at h; cases h
 rw [if_pos ht_e0a] at h
 subst ht_e0a
 replace h := Option.bind_eq_some_iff.mp h
 obtain ⟨e1a, G6, h⟩ := h
 try dsimp only at h
 replace G6 := Aside0.mk G6
 have ht_e1a : e1a = true := Classical.byContradiction fun hc => by rw [if_neg hc] at h; cases h
 rw [if_pos ht_e1a] at h
 subst ht_e1a
 have hs_ : gg = ww := Classical.byContradiction fun hc => by rw [if_neg hc] at h; cases h
 rw [if_pos hs_] at h
 subst hs_
 have hbb_gg : (gg != gg) = false := by cases gg <;> rfl
 replace h := Option.bind_eq_some_iff.mp h
 obtain ⟨ty1, G7, h⟩ := h
 try dsimp only at h
 replace G7 := Aside0.mk G7
 replace h := Option.bind_eq_some_iff.mp h
 obtain ⟨ey1, G8, h⟩ := h
 try dsimp only at h
 replace G8 := Aside0.mk G8
 have ht_ey1 : ey1 = true := Classical.byContradiction fun hc => by rw [if_neg hc] at h; cases h
 rw [if_pos ht_ey1] at h
 subst ht_ey1
 replace h := Option.bind_eq_some_iff.mp h
 obtain ⟨⟨kl1, yx1⟩, G9, h⟩ := h
 try dsimp only at h
 replace G9 := Aside0.mk G9
 have hn_kl1 : ¬ kl1 < 0 := fun hc => by rw [if_pos hc] at h; cases h
 rw [if_neg hn_kl1] at h
 have hz_kl1 : decide (kl1 < 0) = false := decide_eq_false hn_kl1
 clear hn_kl1
 replace h := Option.bind_eq_some_iff.mp h
 obtain ⟨e0b, G10, h⟩ := h
 try dsimp only at h
 replace G10 := Aside0.mk G10
 have ht_e0b : e0b = true := Classical.byContradiction fun hc => by rw [if_neg hc] at h; cases h
 rw [if_pos ht_e0b] at h
 subst ht_e0b
 replace h := Option.bind_eq_some_iff.mp h
 obtain ⟨e1b, G11, h⟩ := h
 try dsimp only at h
 replace G11 := Aside0.mk G11
 have ht_e1b : e1b = true := Classical.byContradiction fun hc => by rw [if_neg hc] at h; cases h
 rw [if_pos ht_e1b] at h
 subst ht_e1b
 replace h := Option.bind_eq_some_iff.mp h
 obtain ⟨⟨m0, yg0⟩, G12, h⟩ := h
 try dsimp only at h
 replace G12 := Aside0.mk G12
 replace h := Option.bind_eq_some_iff.mp h
 obtain ⟨⟨m1, yg1⟩, G13, h⟩ := h
 try dsimp only at h
 replace G13 := Aside0.mk G13
 replace h := Option.bind_eq_some_iff.mp h
 obtain ⟨q0a, G14, h⟩ := h
 try dsimp only at h
 replace G14 := Aside0.mk G14
 have hn_q0a : ¬ q0a < 0 := fun hc => by rw [if_pos hc] at h; cases h
 rw [if_neg hn_q0a] at h
 have hz_q0a : decide (q0a < 0) = false := decide_eq_false hn_q0a
 clear hn_q0a
 replace h := Option.bind_eq_some_iff.mp h
 obtain ⟨q1a, G15, h⟩ := h
 try dsimp only at h
 replace G15 := Aside0.mk G15
 have hn_q1a : ¬ q1a < 0 := fun hc => by rw [if_pos hc] at h; cases h
 rw [if_neg hn_q1a] at h
 have hz_q1a : decide (q1a < 0) = false := decide_eq_false hn_q1a
 clear hn_q1a
 have he_q1a : q1a = m1 := Classical.byContradiction fun hc => by rw [if_neg hc] at h; cases h
 rw [if_pos he_q1a] at h
 have hq_q1a : (q1a == m1) = true := beq_iff_eq.mpr he_q1a
 have hr_q1a : (q1a != m1) = false := bne_eq_false_iff_eq.mpr he_q1a
 clear he_q1a
 replace h := Option.bind_eq_some_iff.mp h
 obtain ⟨tu1, G16, h⟩ := h
 try dsimp only at h
 replace G16 := Aside0.mk G16
 replace h := Option.bind_eq_some_iff.mp h
 obtain ⟨⟨th0, th1, hh⟩, G17, h⟩ := h
 try dsimp only at h
 replace G17 := Aside0.mk G17
 replace h := Option.bind_eq_some_iff.mp h
 obtain ⟨e0c, G18, h⟩ := h
 try dsimp only at h
 replace G18 := Aside0.mk G18
 have ht_e0c : e0c = true := Classical.byContradiction fun hc => by rw [if_neg hc] at h; cases h
 rw [if_pos ht_e0c] at h
 subst ht_e0c
 replace h := Option.bind_eq_some_iff.mp h
 obtain ⟨e1c, G19, h⟩ := h
 try dsimp only at h
 replace G19 := Aside0.mk G19
 have ht_e1c : e1c = true := Classical.byContradiction fun hc => by rw [if_neg hc] at h; cases h
 rw [if_pos ht_e1c] at h
 subst ht_e1c
 have hs_ : hh = gg := Classical.byContradiction fun hc => by rw [if_neg hc] at h; cases h
 rw [if_pos hs_] at h
 subst hs_
 have hbb_hh : (hh != hh) = false := by cases hh <;> rfl
 replace h := Option.bind_eq_some_iff.mp h
 obtain ⟨q0b, G20, h⟩ := h
 try dsimp only at h
 replace G20 := Aside0.mk G20
 have hn_q0b : ¬ q0b < 0 := fun hc => by rw [if_pos hc] at h; cases h
 rw [if_neg hn_q0b] at h
 have hz_q0b : decide (q0b < 0) = false := decide_eq_false hn_q0b
 clear hn_q0b
 replace h := Option.bind_eq_some_iff.mp h
 obtain ⟨q1b, G21, h⟩ := h
 try dsimp only at h
 replace G21 := Aside0.mk G21
 have hn_q1b : ¬ q1b < 0 := fun hc => by rw [if_pos hc] at h; cases h
 rw [if_neg hn_q1b] at h
 have hz_q1b : decide (q1b < 0) = false := decide_eq_false hn_q1b
 clear hn_q1b
 have he_q1b : q1b = m1 := Classical.byContradiction fun hc => by rw [if_neg hc] at h; cases h
 rw [if_pos he_q1b] at h
 have hq_q1b : (q1b == m1) = true := beq_iff_eq.mpr he_q1b
 have hr_q1b : (q1b != m1) = false := bne_eq_false_iff_eq.mpr he_q1b
 clear he_q1b
 obtain rfl := Option.some.inj h
 clear h
 go_enter Try.func19, Try.ntmps19
 go_wp2_with fail
 refine (laws_szHopS.calls A1 c1 l1 1048576 zl1 _ (Kd.C_below HC_l1.out (by repeat (first | (with_reducible first | exact HB.out | apply below_alloc | apply pw_below_drewN | apply below_drew1) | exact HB.out))) HL_l1.out G0.out).mono ?_
 rintro e w' ⟨rfl, ⟨nzl1, rfl⟩⟩
 go_wp2_with fail
 refine (laws_toHopS.calls k A1 c1 l1 tb1 _ (Kd.C_below HC_l1.out (by repeat (first | (with_reducible first | exact HB.out | apply below_alloc | apply pw_below_drewN | apply below_drew1) | exact HB.out))) HL_l1.out G1.out).mono ?_
 rintro e w' ⟨vb1, rfl, hS, hb⟩
 obtain ⟨Ab1, cb1, rfl⟩ := Kd.R_slice hS
 have HL_b1 := Aside0.mk (Kd.R_reads' hS).2.1
 have HC_b1 := Aside0.mk (Kd.R_reads' hS).2.2
 have HBn := Aside0.mk (Below.refl _ _ : Below (World.heap w').size w' w')
 clear hS
 have h_ := Aside0.mk (below_step (by repeat (first | (with_reducible first | exact HB.out | apply below_alloc | apply pw_below_drewN | apply below_drew1) | exact HB.out)) hb)
 clear HB
 have HB := h_
 clear h_
 clear hb
 have HB_b1 := HBn
 clear HBn
 go_wp2_with fail
 refine (spec_RunBridge.calls k a0 Ab1 cb1 tb1 tw0 tw1 hh _ (Kd.C_below HC_b1.out (by repeat (first | (with_reducible first | exact HB_b1.out | apply below_alloc | apply pw_below_drewN | apply below_drew1) | exact HB_b1.out))) HL_b1.out G2.out).mono ?_
 rintro e w' ⟨v0, v1, rfl, hS0, hS1, hb⟩
 obtain ⟨Aw0, cw0, rfl⟩ := Kd.R_slice hS0
 have HL_w0 := Aside0.mk (Kd.R_reads' hS0).2.1
 have HC_w0 := Aside0.mk (Kd.R_reads' hS0).2.2
 have HBnw0 := Aside0.mk (Below.refl _ _ : Below (World.heap w').size w' w')
 obtain ⟨Aw1, cw1, rfl⟩ := Kd.S_slice hS1
 have HL_w1 := Aside0.mk (Kd.S_reads' hS1).2.1
 have HC_w1 := Aside0.mk (Kd.S_reads' hS1).2.2
 have HBnw1 := Aside0.mk (Below.refl _ _ : Below (World.heap w').size w' w')
 clear hS0 hS1
 have h_ := Aside0.mk (below_step (by repeat (first | (with_reducible first | exact HB.out | apply below_alloc | apply pw_below_drewN | apply below_drew1) | exact HB.out)) hb)
 clear HB
 have HB := h_
 clear h_
 have h_ := Aside0.mk (below_step (by repeat (first | (with_reducible first | exact HB_b1.out | apply below_alloc | apply pw_below_drewN | apply below_drew1) | exact HB_b1.out)) hb)
 clear HB_b1
 have HB_b1 := h_
 clear h_
 clear hb
 have HB_w0 := HBnw0
 clear HBnw0
 have HB_w1 := HBnw1
 clear HBnw1
 clear HB_b1 HC_b1 HL_b1
 have HXB := HB
 have HXB_w0 := HB_w0
 have HXB_w1 := HB_w1
 go_wp2_with fail
 refine (laws_toHopS.calls k A1 c1 l1 tx1 _ (Kd.C_below HC_l1.out (by repeat (first | (with_reducible first | exact HB.out | apply below_alloc | apply pw_below_drewN | apply below_drew1) | exact HB.out))) HL_l1.out G3.out).mono ?_
 rintro e w' ⟨vx1, rfl, hS, hb⟩
 obtain ⟨Ax1, cx1, rfl⟩ := Kd.R_slice hS
 have HL_x1 := Aside0.mk (Kd.R_reads' hS).2.1
 have HOn := Aside0.mk (Kd.R_mono (Kd.R_bound hS) (fun k_ hk_ => (⟨hk_.2.1, hk_.2.2.1⟩ : _ ≤ k_ ∧ k_ < _)))
 have HZn := Aside0.mk (Nat.le_refl (World.heap w').size)
 have HXn := Aside0.mk hb
 clear hS
 have h_ := Aside0.mk (below_step (by repeat (first | (with_reducible first | exact HB.out | apply below_alloc | apply pw_below_drewN | apply below_drew1) | exact HB.out)) hb)
 clear HB
 have HB := h_
 clear h_
 have h_ := Aside0.mk (below_step (by repeat (first | (with_reducible first | exact HB_w0.out | apply below_alloc | apply pw_below_drewN | apply below_drew1) | exact HB_w0.out)) hb)
 clear HB_w0
 have HB_w0 := h_
 clear h_
 have h_ := Aside0.mk (below_step (by repeat (first | (with_reducible first | exact HB_w1.out | apply below_alloc | apply pw_below_drewN | apply below_drew1) | exact HB_w1.out)) hb)
 clear HB_w1
 have HB_w1 := h_
 clear h_
 clear hb
 have HX := HXn
 clear HXn
 have HO_x1 := HOn
 have HZ_x1 := HZn
 clear HOn HZn
 go_wp2_with fail
 refine (impl_RunBridge.calls k a0 Ax1 cx1 tx1 tg0 tg1 hh _ (Kd.R_reads' (by (with_reducible repeat (first | apply Kd.R_alloc | apply Kd.R_drewN | apply Kd.R_drew)); exact HO_x1.out)).2.2 HL_x1.out G4.out).mono ?_
 rintro e w' ⟨v0, v1, rfl, hS0, hS1, hb⟩
 have HD_x1_g := Aside0.mk (laws_FnExactRunBridge.le_call hb HZ_x1.out)
 obtain ⟨Ag0, cg0, rfl⟩ := Kd.R_slice hS0
 have HL_g0 := Aside0.mk (Kd.R_reads' hS0).2.1
 obtain ⟨Ag1, cg1, rfl⟩ := Kd.S_slice hS1
 have HL_g1 := Aside0.mk (Kd.S_reads' hS1).2.1
 have HOng0 := Aside0.mk (Kd.R_lower (Kd.R_mono (Kd.R_bound (Kd.R_tight rfl hS0)) (fun k_ hk_ => (⟨⟨hk_.2.1, hk_.2.2.1⟩, hk_.1⟩ : (_ ≤ k_ ∧ k_ < _) ∧ _))) (below_size (by repeat (first | (with_reducible first | exact HX.out | apply below_alloc | apply pw_below_drewN | apply below_drew1) | exact HX.out))))
 have HZn := Aside0.mk (Nat.le_refl (World.heap w').size)
 have HOng1 := Aside0.mk (Kd.S_lower (Kd.S_mono (Kd.S_bound hS1) (fun k_ hk_ => (⟨⟨hk_.2.1, hk_.2.2.1⟩, hk_.1⟩ : (_ ≤ k_ ∧ k_ < _) ∧ _))) (below_size (by repeat (first | (with_reducible first | exact HX.out | apply below_alloc | apply pw_below_drewN | apply below_drew1) | exact HX.out))))
 clear hS0 hS1
 have h_ := Aside0.mk (below_step (by repeat (first | (with_reducible first | exact HB.out | apply below_alloc | apply pw_below_drewN | apply below_drew1) | exact HB.out)) hb)
 clear HB
 have HB := h_
 clear h_
 have h_ := Aside0.mk (below_step (by repeat (first | (with_reducible first | exact HX.out | apply below_alloc | apply pw_below_drewN | apply below_drew1) | exact HX.out)) hb)
 clear HX
 have HX := h_
 clear h_
 have h_ := Aside0.mk (below_step (by repeat (first | (with_reducible first | exact HB_w0.out | apply below_alloc | apply pw_below_drewN | apply below_drew1) | exact HB_w0.out)) hb)
 clear HB_w0
 have HB_w0 := h_
 clear h_
 have h_ := Aside0.mk (below_step (by repeat (first | (with_reducible first | exact HB_w1.out | apply below_alloc | apply pw_below_drewN | apply below_drew1) | exact HB_w1.out)) hb)
 clear HB_w1
 have HB_w1 := h_
 clear h_
 have h_ := Aside0.mk (Kd.R_below (by (with_reducible repeat (first | apply Kd.R_alloc | apply Kd.R_drewN | apply Kd.R_drew)); exact HO_x1.out) hb)
 clear HO_x1
 have HO_x1 := h_
 clear h_
 have h_ := Aside0.mk (Nat.le_trans HZ_x1.out hb.size)
 clear HZ_x1
 have HZ_x1 := h_
 clear h_
 clear hb
 have HO_g0 := HOng0
 have HZ_g0 := HZn
 clear HOng0
 have HO_g1 := HOng1
 have HZ_g1 := HZn
 clear HOng1
 go_wp2_with fail
 refine (laws_eqIntS.calls k Ag0 cg0 tg0 Aw0 cw0 tw0 true _ (Kd.R_reads' (by (with_reducible repeat (first | apply Kd.R_alloc | apply Kd.R_drewN | apply Kd.R_drew)); exact HO_g0.out)).2.2 HL_g0.out (Kd.C_below HC_w0.out (by repeat (first | (with_reducible first | exact HB_w0.out | apply below_alloc | apply pw_below_drewN | apply below_drew1) | exact HB_w0.out))) HL_w0.out G5.out).mono ?_
 rintro e w' ⟨rfl, ⟨ne0a, rfl⟩⟩
 go_wp2_with fail
 refine (laws_eqIntSS.calls k Ag1 cg1 tg1 Aw1 cw1 tw1 true _ (Kd.S_reads' (by (with_reducible repeat (first | apply Kd.S_alloc | apply Kd.S_drewN | apply Kd.S_drew)); exact HO_g1.out)).2.2 HL_g1.out (Kd.C_below HC_w1.out (by repeat (first | (with_reducible first | exact HB_w1.out | apply below_alloc | apply pw_below_drewN | apply below_drew1) | exact HB_w1.out))) HL_w1.out G6.out).mono ?_
 rintro e w' ⟨rfl, ⟨ne1a, rfl⟩⟩
 go_wp2_with fail
 refine (laws_toHopS.calls k A1 c1 l1 ty1 _ (Kd.C_below HC_l1.out (by repeat (first | (with_reducible first | exact HB.out | apply below_alloc | apply pw_below_drewN | apply below_drew1) | exact HB.out))) HL_l1.out G7.out).mono ?_
 rintro e w' ⟨vy1, rfl, hS, hb⟩
 have HD_x1_y1 := Aside0.mk (laws_FnExactRunBridge.le_call hb HZ_x1.out)
 have HD_g0_y1 := Aside0.mk (laws_FnExactRunBridge.le_call hb HZ_g0.out)
 have HD_g1_y1 := Aside0.mk (laws_FnExactRunBridge.le_call hb HZ_g1.out)
 obtain ⟨Ay1, cy1, rfl⟩ := Kd.R_slice hS
 have HL_y1 := Aside0.mk (Kd.R_reads' hS).2.1
 have HOn := Aside0.mk (Kd.R_lower (Kd.R_mono (Kd.R_bound hS) (fun k_ hk_ => (⟨hk_.2.1, hk_.2.2.1⟩ : _ ≤ k_ ∧ k_ < _))) (below_size (by repeat (first | (with_reducible first | exact HX.out | apply below_alloc | apply pw_below_drewN | apply below_drew1) | exact HX.out))))
 have HZn := Aside0.mk (Nat.le_refl (World.heap w').size)
 clear hS
 have h_ := Aside0.mk (below_step (by repeat (first | (with_reducible first | exact HB.out | apply below_alloc | apply pw_below_drewN | apply below_drew1) | exact HB.out)) hb)
 clear HB
 have HB := h_
 clear h_
 have h_ := Aside0.mk (below_step (by repeat (first | (with_reducible first | exact HX.out | apply below_alloc | apply pw_below_drewN | apply below_drew1) | exact HX.out)) hb)
 clear HX
 have HX := h_
 clear h_
 have h_ := Aside0.mk (below_step (by repeat (first | (with_reducible first | exact HB_w0.out | apply below_alloc | apply pw_below_drewN | apply below_drew1) | exact HB_w0.out)) hb)
 clear HB_w0
 have HB_w0 := h_
 clear h_
 have h_ := Aside0.mk (below_step (by repeat (first | (with_reducible first | exact HB_w1.out | apply below_alloc | apply pw_below_drewN | apply below_drew1) | exact HB_w1.out)) hb)
 clear HB_w1
 have HB_w1 := h_
 clear h_
 have h_ := Aside0.mk (Kd.R_below (by (with_reducible repeat (first | apply Kd.R_alloc | apply Kd.R_drewN | apply Kd.R_drew)); exact HO_x1.out) hb)
 clear HO_x1
 have HO_x1 := h_
 clear h_
 have h_ := Aside0.mk (Nat.le_trans HZ_x1.out hb.size)
 clear HZ_x1
 have HZ_x1 := h_
 clear h_
 have h_ := Aside0.mk (Kd.R_below (by (with_reducible repeat (first | apply Kd.R_alloc | apply Kd.R_drewN | apply Kd.R_drew)); exact HO_g0.out) hb)
 clear HO_g0
 have HO_g0 := h_
 clear h_
 have h_ := Aside0.mk (Nat.le_trans HZ_g0.out hb.size)
 clear HZ_g0
 have HZ_g0 := h_
 clear h_
 have h_ := Aside0.mk (Kd.S_below (by (with_reducible repeat (first | apply Kd.S_alloc | apply Kd.S_drewN | apply Kd.S_drew)); exact HO_g1.out) hb)
 clear HO_g1
 have HO_g1 := h_
 clear h_
 have h_ := Aside0.mk (Nat.le_trans HZ_g1.out hb.size)
 clear HZ_g1
 have HZ_g1 := h_
 clear h_
 clear hb
 have HO_y1 := HOn
 have HZ_y1 := HZn
 clear HOn HZn
 go_wp2_with fail
 refine (laws_eqHopS.calls k Ax1 cx1 tx1 Ay1 cy1 ty1 true _ (Kd.R_reads' (by (with_reducible repeat (first | apply Kd.R_alloc | apply Kd.R_drewN | apply Kd.R_drew)); exact HO_x1.out)).2.2 HL_x1.out (Kd.R_reads' (by (with_reducible repeat (first | apply Kd.R_alloc | apply Kd.R_drewN | apply Kd.R_drew)); exact HO_y1.out)).2.2 HL_y1.out G8.out).mono ?_
 rintro e w' ⟨rfl, hb⟩
 have h_ := Aside0.mk (below_step (by repeat (first | (with_reducible first | exact HB.out | apply below_alloc | apply pw_below_drewN | apply below_drew1) | exact HB.out)) hb)
 clear HB
 have HB := h_
 clear h_
 have h_ := Aside0.mk (below_step (by repeat (first | (with_reducible first | exact HX.out | apply below_alloc | apply pw_below_drewN | apply below_drew1) | exact HX.out)) hb)
 clear HX
 have HX := h_
 clear h_
 have h_ := Aside0.mk (below_step (by repeat (first | (with_reducible first | exact HB_w0.out | apply below_alloc | apply pw_below_drewN | apply below_drew1) | exact HB_w0.out)) hb)
 clear HB_w0
 have HB_w0 := h_
 clear h_
 have h_ := Aside0.mk (below_step (by repeat (first | (with_reducible first | exact HB_w1.out | apply below_alloc | apply pw_below_drewN | apply below_drew1) | exact HB_w1.out)) hb)
 clear HB_w1
 have HB_w1 := h_
 clear h_
 have h_ := Aside0.mk (Kd.R_below (by (with_reducible repeat (first | apply Kd.R_alloc | apply Kd.R_drewN | apply Kd.R_drew)); exact HO_x1.out) hb)
 clear HO_x1
 have HO_x1 := h_
 clear h_
 have h_ := Aside0.mk (Nat.le_trans HZ_x1.out hb.size)
 clear HZ_x1
 have HZ_x1 := h_
 clear h_
 have h_ := Aside0.mk (Kd.R_below (by (with_reducible repeat (first | apply Kd.R_alloc | apply Kd.R_drewN | apply Kd.R_drew)); exact HO_g0.out) hb)
 clear HO_g0
 have HO_g0 := h_
 clear h_
 have h_ := Aside0.mk (Nat.le_trans HZ_g0.out hb.size)
 clear HZ_g0
 have HZ_g0 := h_
 clear h_
 have h_ := Aside0.mk (Kd.S_below (by (with_reducible repeat (first | apply Kd.S_alloc | apply Kd.S_drewN | apply Kd.S_drew)); exact HO_g1.out) hb)
 clear HO_g1
 have HO_g1 := h_
 clear h_
 have h_ := Aside0.mk (Nat.le_trans HZ_g1.out hb.size)
 clear HZ_g1
 have HZ_g1 := h_
 clear h_
 have h_ := Aside0.mk (Kd.R_below (by (with_reducible repeat (first | apply Kd.R_alloc | apply Kd.R_drewN | apply Kd.R_drew)); exact HO_y1.out) hb)
 clear HO_y1
 have HO_y1 := h_
 clear h_
 have h_ := Aside0.mk (Nat.le_trans HZ_y1.out hb.size)
 clear HZ_y1
 have HZ_y1 := h_
 clear h_
 clear hb
 clear HO_y1 HZ_y1 HL_y1
 go_wp2_with fail
 refine (laws_markHopS.calls k _ (.slice Ax1 tx1.length cx1) tx1 1 kl1 yx1 _ _ (by repeat (first | (with_reducible first | exact HX.out | apply below_alloc | apply pw_below_drewN | apply below_drew1) | exact HX.out)) (by (with_reducible repeat (first | apply Kd.R_alloc | apply Kd.R_drewN | apply Kd.R_drew)); exact HO_x1.out) G9.out).mono ?_
 rintro e w' ⟨rfl, hS, hb, hk⟩
 have h_ := Aside0.mk (Kd.R_step (by (with_reducible repeat (first | apply Kd.R_alloc | apply Kd.R_drewN | apply Kd.R_drew)); exact HO_g0.out) (fun k_ hk_ hlt_ => hk.2 k_ hlt_ (fun hp_ => by have := HD_x1_g.out; have := hp_.2; have := hk_.1.1; omega)))
 clear HO_g0
 have HO_g0 := h_
 clear h_
 have h_ := Aside0.mk (Nat.le_trans HZ_g0.out hk.1)
 clear HZ_g0
 have HZ_g0 := h_
 clear h_
 have h_ := Aside0.mk (Kd.S_step (by (with_reducible repeat (first | apply Kd.S_alloc | apply Kd.S_drewN | apply Kd.S_drew)); exact HO_g1.out) (fun k_ hk_ hlt_ => hk.2 k_ hlt_ (fun hp_ => by have := HD_x1_g.out; have := hp_.2; have := hk_.1.1; omega)))
 clear HO_g1
 have HO_g1 := h_
 clear h_
 have h_ := Aside0.mk (Nat.le_trans HZ_g1.out hk.1)
 clear HZ_g1
 have HZ_g1 := h_
 clear h_
 have h_ := Aside0.mk (below_step (by repeat (first | (with_reducible first | exact HXB.out | apply below_alloc | apply pw_below_drewN | apply below_drew1) | exact HXB.out)) hb)
 clear HB
 have HB := h_
 clear h_
 clear HX
 have HX := Aside0.mk hb
 have h_ := Aside0.mk (below_step (by repeat (first | (with_reducible first | exact HXB_w0.out | apply below_alloc | apply pw_below_drewN | apply below_drew1) | exact HXB_w0.out)) hb)
 clear HB_w0
 have HB_w0 := h_
 clear h_
 have h_ := Aside0.mk (below_step (by repeat (first | (with_reducible first | exact HXB_w1.out | apply below_alloc | apply pw_below_drewN | apply below_drew1) | exact HXB_w1.out)) hb)
 clear HB_w1
 have HB_w1 := h_
 clear h_
 clear hS hb hk HO_x1 HZ_x1 HL_x1
 go_wp2_with fail
 refine (laws_eqIntS.calls k Ag0 cg0 tg0 Aw0 cw0 tw0 true _ (Kd.R_reads' (by (with_reducible repeat (first | apply Kd.R_alloc | apply Kd.R_drewN | apply Kd.R_drew)); exact HO_g0.out)).2.2 HL_g0.out (Kd.C_below HC_w0.out (by repeat (first | (with_reducible first | exact HB_w0.out | apply below_alloc | apply pw_below_drewN | apply below_drew1) | exact HB_w0.out))) HL_w0.out G10.out).mono ?_
 rintro e w' ⟨rfl, ⟨ne0b, rfl⟩⟩
 go_wp2_with fail
 refine (laws_eqIntSS.calls k Ag1 cg1 tg1 Aw1 cw1 tw1 true _ (Kd.S_reads' (by (with_reducible repeat (first | apply Kd.S_alloc | apply Kd.S_drewN | apply Kd.S_drew)); exact HO_g1.out)).2.2 HL_g1.out (Kd.C_below HC_w1.out (by repeat (first | (with_reducible first | exact HB_w1.out | apply below_alloc | apply pw_below_drewN | apply below_drew1) | exact HB_w1.out))) HL_w1.out G11.out).mono ?_
 rintro e w' ⟨rfl, ⟨ne1b, rfl⟩⟩
 go_wp2_with fail
 refine (laws_markIntS.calls k _ (.slice Ag0 tg0.length cg0) tg0 1 m0 yg0 _ _ (by repeat (first | (with_reducible first | exact HX.out | apply below_alloc | apply pw_below_drewN | apply below_drew1) | exact HX.out)) (by (with_reducible repeat (first | apply Kd.R_alloc | apply Kd.R_drewN | apply Kd.R_drew)); exact HO_g0.out) G12.out).mono ?_
 rintro e w' ⟨rfl, hS, hb, hk⟩
 have h_ := Aside0.mk (Kd.S_step (by (with_reducible repeat (first | apply Kd.S_alloc | apply Kd.S_drewN | apply Kd.S_drew)); exact HO_g1.out) (fun k_ hk_ hlt_ => hk.2 k_ hlt_ (fun hp_ => by exact hk_.2 hp_.2)))
 clear HO_g1
 have HO_g1 := h_
 clear h_
 have h_ := Aside0.mk (Nat.le_trans HZ_g1.out hk.1)
 clear HZ_g1
 have HZ_g1 := h_
 clear h_
 have h_ := Aside0.mk (below_step (by repeat (first | (with_reducible first | exact HXB.out | apply below_alloc | apply pw_below_drewN | apply below_drew1) | exact HXB.out)) hb)
 clear HB
 have HB := h_
 clear h_
 clear HX
 have HX := Aside0.mk hb
 have h_ := Aside0.mk (below_step (by repeat (first | (with_reducible first | exact HXB_w0.out | apply below_alloc | apply pw_below_drewN | apply below_drew1) | exact HXB_w0.out)) hb)
 clear HB_w0
 have HB_w0 := h_
 clear h_
 have h_ := Aside0.mk (below_step (by repeat (first | (with_reducible first | exact HXB_w1.out | apply below_alloc | apply pw_below_drewN | apply below_drew1) | exact HXB_w1.out)) hb)
 clear HB_w1
 have HB_w1 := h_
 clear h_
 have hl := (Kd.R_reads' hS).1
 clear HO_g0
 have HO_g0 := Aside0.mk (Kd.R_mono (Kd.R_tight rfl hS) (fun k_ hk_ => (⟨trivial, hk_⟩ : True ∧ _)))
 have h_ := Aside0.mk (Nat.le_trans HZ_g0.out hk.1)
 clear HZ_g0
 have HZ_g0 := h_
 clear h_ hS hb hk
 rw [hl] at HL_g0 HO_g0 ⊢
 clear hl
 go_wp2_with fail
 refine (laws_markIntSS.calls k _ Ag1 cg1 tg1 m0 m1 yg1 _ _ (by repeat (first | (with_reducible first | exact HX.out | apply below_alloc | apply pw_below_drewN | apply below_drew1) | exact HX.out)) (by (with_reducible repeat (first | apply Kd.S_alloc | apply Kd.S_drewN | apply Kd.S_drew)); exact HO_g1.out) G13.out).mono ?_
 rintro e w' ⟨rfl, hS, hb, hk⟩
 have h_ := Aside0.mk (Kd.R_step (by (with_reducible repeat (first | apply Kd.R_alloc | apply Kd.R_drewN | apply Kd.R_drew)); exact HO_g0.out) (fun k_ hk_ hlt_ => hk.2 k_ hlt_ (fun hp_ => by have h1_ := hk_.2; have h2_ := hp_.2; cases Ag0 <;> exact h2_ h1_)))
 clear HO_g0
 have HO_g0 := h_
 clear h_
 have h_ := Aside0.mk (Nat.le_trans HZ_g0.out hk.1)
 clear HZ_g0
 have HZ_g0 := h_
 clear h_
 have h_ := Aside0.mk (below_step (by repeat (first | (with_reducible first | exact HXB.out | apply below_alloc | apply pw_below_drewN | apply below_drew1) | exact HXB.out)) hb)
 clear HB
 have HB := h_
 clear h_
 clear HX
 have HX := Aside0.mk hb
 have h_ := Aside0.mk (below_step (by repeat (first | (with_reducible first | exact HXB_w0.out | apply below_alloc | apply pw_below_drewN | apply below_drew1) | exact HXB_w0.out)) hb)
 clear HB_w0
 have HB_w0 := h_
 clear h_
 have h_ := Aside0.mk (below_step (by repeat (first | (with_reducible first | exact HXB_w1.out | apply below_alloc | apply pw_below_drewN | apply below_drew1) | exact HXB_w1.out)) hb)
 clear HB_w1
 have HB_w1 := h_
 clear h_
 have hl := (Kd.S_reads' hS).1
 clear HO_g1
 have HO_g1 := Aside0.mk hS
 have h_ := Aside0.mk (Nat.le_trans HZ_g1.out hk.1)
 clear HZ_g1
 have HZ_g1 := h_
 clear h_ hS hb hk
 rw [hl] at HL_g1 HO_g1 ⊢
 clear hl
 go_wp2_with fail
 refine (laws_heldIntS.calls k Ag0 cg0 yg0 1 q0a _ (Kd.R_reads' (by (with_reducible repeat (first | apply Kd.R_alloc | apply Kd.R_drewN | apply Kd.R_drew)); exact HO_g0.out)).2.2 HL_g0.out G14.out).mono ?_
 rintro e w' ⟨rfl, ⟨nq0a, rfl⟩⟩
 go_wp2_with fail
 refine (laws_heldIntSS.calls k Ag1 cg1 yg1 q0a q1a _ (Kd.S_reads' (by (with_reducible repeat (first | apply Kd.S_alloc | apply Kd.S_drewN | apply Kd.S_drew)); exact HO_g1.out)).2.2 HL_g1.out G15.out).mono ?_
 rintro e w' ⟨rfl, ⟨nq1a, rfl⟩⟩
 go_wp2_with fail
 refine (laws_toHopS.calls k A1 c1 l1 tu1 _ (Kd.C_below HC_l1.out (by repeat (first | (with_reducible first | exact HB.out | apply below_alloc | apply pw_below_drewN | apply below_drew1) | exact HB.out))) HL_l1.out G16.out).mono ?_
 rintro e w' ⟨vu1, rfl, hS, hb⟩
 have HD_g0_u1 := Aside0.mk (laws_FnExactRunBridge.le_call hb HZ_g0.out)
 have HD_g1_u1 := Aside0.mk (laws_FnExactRunBridge.le_call hb HZ_g1.out)
 obtain ⟨Au1, cu1, rfl⟩ := Kd.R_slice hS
 have HL_u1 := Aside0.mk (Kd.R_reads' hS).2.1
 have HOn := Aside0.mk (Kd.R_lower (Kd.R_mono (Kd.R_bound hS) (fun k_ hk_ => (⟨hk_.2.1, hk_.2.2.1⟩ : _ ≤ k_ ∧ k_ < _))) (below_size (by repeat (first | (with_reducible first | exact HX.out | apply below_alloc | apply pw_below_drewN | apply below_drew1) | exact HX.out))))
 have HZn := Aside0.mk (Nat.le_refl (World.heap w').size)
 clear hS
 have h_ := Aside0.mk (below_step (by repeat (first | (with_reducible first | exact HB.out | apply below_alloc | apply pw_below_drewN | apply below_drew1) | exact HB.out)) hb)
 clear HB
 have HB := h_
 clear h_
 have h_ := Aside0.mk (below_step (by repeat (first | (with_reducible first | exact HX.out | apply below_alloc | apply pw_below_drewN | apply below_drew1) | exact HX.out)) hb)
 clear HX
 have HX := h_
 clear h_
 have h_ := Aside0.mk (below_step (by repeat (first | (with_reducible first | exact HB_w0.out | apply below_alloc | apply pw_below_drewN | apply below_drew1) | exact HB_w0.out)) hb)
 clear HB_w0
 have HB_w0 := h_
 clear h_
 have h_ := Aside0.mk (below_step (by repeat (first | (with_reducible first | exact HB_w1.out | apply below_alloc | apply pw_below_drewN | apply below_drew1) | exact HB_w1.out)) hb)
 clear HB_w1
 have HB_w1 := h_
 clear h_
 have h_ := Aside0.mk (Kd.R_below (by (with_reducible repeat (first | apply Kd.R_alloc | apply Kd.R_drewN | apply Kd.R_drew)); exact HO_g0.out) hb)
 clear HO_g0
 have HO_g0 := h_
 clear h_
 have h_ := Aside0.mk (Nat.le_trans HZ_g0.out hb.size)
 clear HZ_g0
 have HZ_g0 := h_
 clear h_
 have h_ := Aside0.mk (Kd.S_below (by (with_reducible repeat (first | apply Kd.S_alloc | apply Kd.S_drewN | apply Kd.S_drew)); exact HO_g1.out) hb)
 clear HO_g1
 have HO_g1 := h_
 clear h_
 have h_ := Aside0.mk (Nat.le_trans HZ_g1.out hb.size)
 clear HZ_g1
 have HZ_g1 := h_
 clear h_
 clear hb
 have HO_u1 := HOn
 have HZ_u1 := HZn
 clear HOn HZn
 go_wp2_with fail
 refine (impl_RunBridge.calls k a0 Au1 cu1 tu1 th0 th1 hh _ (Kd.R_reads' (by (with_reducible repeat (first | apply Kd.R_alloc | apply Kd.R_drewN | apply Kd.R_drew)); exact HO_u1.out)).2.2 HL_u1.out G17.out).mono ?_
 rintro e w' ⟨v0, v1, rfl, hS0, hS1, hb⟩
 have HD_g_h := Aside0.mk (laws_FnExactRunBridge.le_call hb HZ_g0.out)
 have HD_g_h := Aside0.mk (laws_FnExactRunBridge.le_call hb HZ_g1.out)
 have HD_u1_h := Aside0.mk (laws_FnExactRunBridge.le_call hb HZ_u1.out)
 obtain ⟨Ah0, ch0, rfl⟩ := Kd.R_slice hS0
 have HL_h0 := Aside0.mk (Kd.R_reads' hS0).2.1
 obtain ⟨Ah1, ch1, rfl⟩ := Kd.S_slice hS1
 have HL_h1 := Aside0.mk (Kd.S_reads' hS1).2.1
 have HOnh0 := Aside0.mk (Kd.R_lower (Kd.R_mono (Kd.R_bound (Kd.R_tight rfl hS0)) (fun k_ hk_ => (⟨⟨hk_.2.1, hk_.2.2.1⟩, hk_.1⟩ : (_ ≤ k_ ∧ k_ < _) ∧ _))) (below_size (by repeat (first | (with_reducible first | exact HX.out | apply below_alloc | apply pw_below_drewN | apply below_drew1) | exact HX.out))))
 have HZn := Aside0.mk (Nat.le_refl (World.heap w').size)
 have HOnh1 := Aside0.mk (Kd.S_lower (Kd.S_mono (Kd.S_bound hS1) (fun k_ hk_ => (⟨⟨hk_.2.1, hk_.2.2.1⟩, hk_.1⟩ : (_ ≤ k_ ∧ k_ < _) ∧ _))) (below_size (by repeat (first | (with_reducible first | exact HX.out | apply below_alloc | apply pw_below_drewN | apply below_drew1) | exact HX.out))))
 clear hS0 hS1
 have h_ := Aside0.mk (below_step (by repeat (first | (with_reducible first | exact HB.out | apply below_alloc | apply pw_below_drewN | apply below_drew1) | exact HB.out)) hb)
 clear HB
 have HB := h_
 clear h_
 have h_ := Aside0.mk (below_step (by repeat (first | (with_reducible first | exact HX.out | apply below_alloc | apply pw_below_drewN | apply below_drew1) | exact HX.out)) hb)
 clear HX
 have HX := h_
 clear h_
 have h_ := Aside0.mk (below_step (by repeat (first | (with_reducible first | exact HB_w0.out | apply below_alloc | apply pw_below_drewN | apply below_drew1) | exact HB_w0.out)) hb)
 clear HB_w0
 have HB_w0 := h_
 clear h_
 have h_ := Aside0.mk (below_step (by repeat (first | (with_reducible first | exact HB_w1.out | apply below_alloc | apply pw_below_drewN | apply below_drew1) | exact HB_w1.out)) hb)
 clear HB_w1
 have HB_w1 := h_
 clear h_
 have h_ := Aside0.mk (Kd.R_below (by (with_reducible repeat (first | apply Kd.R_alloc | apply Kd.R_drewN | apply Kd.R_drew)); exact HO_g0.out) hb)
 clear HO_g0
 have HO_g0 := h_
 clear h_
 have h_ := Aside0.mk (Nat.le_trans HZ_g0.out hb.size)
 clear HZ_g0
 have HZ_g0 := h_
 clear h_
 have h_ := Aside0.mk (Kd.S_below (by (with_reducible repeat (first | apply Kd.S_alloc | apply Kd.S_drewN | apply Kd.S_drew)); exact HO_g1.out) hb)
 clear HO_g1
 have HO_g1 := h_
 clear h_
 have h_ := Aside0.mk (Nat.le_trans HZ_g1.out hb.size)
 clear HZ_g1
 have HZ_g1 := h_
 clear h_
 have h_ := Aside0.mk (Kd.R_below (by (with_reducible repeat (first | apply Kd.R_alloc | apply Kd.R_drewN | apply Kd.R_drew)); exact HO_u1.out) hb)
 clear HO_u1
 have HO_u1 := h_
 clear h_
 have h_ := Aside0.mk (Nat.le_trans HZ_u1.out hb.size)
 clear HZ_u1
 have HZ_u1 := h_
 clear h_
 clear hb
 have HO_h0 := HOnh0
 have HZ_h0 := HZn
 clear HOnh0
 have HO_h1 := HOnh1
 have HZ_h1 := HZn
 clear HOnh1
 go_wp2_with fail
 refine (laws_eqIntS.calls k Ah0 ch0 th0 Aw0 cw0 tw0 true _ (Kd.R_reads' (by (with_reducible repeat (first | apply Kd.R_alloc | apply Kd.R_drewN | apply Kd.R_drew)); exact HO_h0.out)).2.2 HL_h0.out (Kd.C_below HC_w0.out (by repeat (first | (with_reducible first | exact HB_w0.out | apply below_alloc | apply pw_below_drewN | apply below_drew1) | exact HB_w0.out))) HL_w0.out G18.out).mono ?_
 rintro e w' ⟨rfl, ⟨ne0c, rfl⟩⟩
 go_wp2_with fail
 refine (laws_eqIntSS.calls k Ah1 ch1 th1 Aw1 cw1 tw1 true _ (Kd.S_reads' (by (with_reducible repeat (first | apply Kd.S_alloc | apply Kd.S_drewN | apply Kd.S_drew)); exact HO_h1.out)).2.2 HL_h1.out (Kd.C_below HC_w1.out (by repeat (first | (with_reducible first | exact HB_w1.out | apply below_alloc | apply pw_below_drewN | apply below_drew1) | exact HB_w1.out))) HL_w1.out G19.out).mono ?_
 rintro e w' ⟨rfl, ⟨ne1c, rfl⟩⟩
 go_wp2_with fail
 refine (laws_heldIntS.calls k Ag0 cg0 yg0 1 q0b _ (Kd.R_reads' (by (with_reducible repeat (first | apply Kd.R_alloc | apply Kd.R_drewN | apply Kd.R_drew)); exact HO_g0.out)).2.2 HL_g0.out G20.out).mono ?_
 rintro e w' ⟨rfl, ⟨nq0b, rfl⟩⟩
 go_wp2_with fail
 refine (laws_heldIntSS.calls k Ag1 cg1 yg1 q0b q1b _ (Kd.S_reads' (by (with_reducible repeat (first | apply Kd.S_alloc | apply Kd.S_drewN | apply Kd.S_drew)); exact HO_g1.out)).2.2 HL_g1.out G21.out).mono ?_
 rintro e w' ⟨rfl, ⟨nq1b, rfl⟩⟩
 go_wp2_with fail
 go_ret
 exact ⟨rfl, (by repeat (first | (with_reducible first | exact HB.out | apply below_alloc | apply pw_below_drewN | apply below_drew1) | exact HB.out))⟩

end Go.Proofs.Ytegnghbgkiddoaa.PA

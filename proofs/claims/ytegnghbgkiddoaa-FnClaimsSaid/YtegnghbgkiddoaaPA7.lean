-- Laid by this session's own program (pr.py) over the translation; Lean checks it.
import Derived.Test.YtegnghbgkiddoaaPA0
namespace Go.Proofs.Ytegnghbgkiddoaa.PA
open Go.RowKit Go.Proofs.YtegnghbgkiddoaaW.PrintWords Go.Proofs.YtegnghbgkiddoaaW.PrintLast Go.Proofs.YtegnghbgkiddoaaW.PrintMore
attribute [local go_sem] max2_int min2_int max_two min_two max_three min_three max_four min_four   -- for this text's walks alone
set_option linter.unusedVariables false
set_option linter.unusedSimpArgs false

/-! ### bits_Mul32: function 129 -/
def bits_Mul32.f (a0 : Int) (a1 : Int) : Option (Int × Int) := some (((IntKind.u64.wrap ((IntKind.u64.wrap (a0)) * (IntKind.u64.wrap (a1)))) / 4294967296) % 4294967296, (IntKind.u64.wrap ((IntKind.u64.wrap (a0)) * (IntKind.u64.wrap (a1)))) % 4294967296)
set_option maxHeartbeats 8000000 in
set_option maxRecDepth 100000 in
theorem bits_Mul32.calls (a0 : Int) (a1 : Int) (r1 : Int) (r2 : Int) (w : World) (h : bits_Mul32.f a0 a1 = some (r1, r2)) :
  Calls Try.prog 129 #[.int .u32 a0, .int .u32 a1] w fun e w' => e = .returned (.tuple #[.int .u32 r1, .int .u32 r2]) ∧ Drawn0 w w' := by
 have H : (some (((IntKind.u64.wrap ((IntKind.u64.wrap (a0)) * (IntKind.u64.wrap (a1)))) / 4294967296) % 4294967296, (IntKind.u64.wrap ((IntKind.u64.wrap (a0)) * (IntKind.u64.wrap (a1)))) % 4294967296)) = some (r1, r2) := h
 clear h
 simp only [Option.some.injEq, Prod.mk.injEq] at H
 obtain ⟨rfl, rfl⟩ := H
 go_enter Try.func129, Try.ntmps129
 go_wp2
 go_ret2
 exact ⟨by first | rfl | (simp; done) | (simp [*]; done), by repeat (first | exact Drawn0.refl _ | apply Drawn0.step)⟩

/-! ### bits_Mul64: function 130 -/
def bits_Mul64.f (a0 : Int) (a1 : Int) : Option (Int × Int) := some (IntKind.u64.wrap ((IntKind.u64.wrap ((IntKind.u64.wrap ((a0 / 4294967296) * (a1 / 4294967296))) + ((IntKind.u64.wrap ((IntKind.u64.wrap ((a0 / 4294967296) * (Go.bits .and .u64 a1 4294967295))) + ((IntKind.u64.wrap ((Go.bits .and .u64 a0 4294967295) * (Go.bits .and .u64 a1 4294967295))) / 4294967296))) / 4294967296))) + ((IntKind.u64.wrap ((Go.bits .and .u64 (IntKind.u64.wrap ((IntKind.u64.wrap ((a0 / 4294967296) * (Go.bits .and .u64 a1 4294967295))) + ((IntKind.u64.wrap ((Go.bits .and .u64 a0 4294967295) * (Go.bits .and .u64 a1 4294967295))) / 4294967296))) 4294967295) + (IntKind.u64.wrap ((Go.bits .and .u64 a0 4294967295) * (a1 / 4294967296))))) / 4294967296)), IntKind.u64.wrap (a0 * a1))
set_option maxHeartbeats 8000000 in
set_option maxRecDepth 100000 in
theorem bits_Mul64.calls (a0 : Int) (a1 : Int) (r1 : Int) (r2 : Int) (w : World) (h : bits_Mul64.f a0 a1 = some (r1, r2)) :
  Calls Try.prog 130 #[.int .u64 a0, .int .u64 a1] w fun e w' => e = .returned (.tuple #[.int .u64 r1, .int .u64 r2]) ∧ Drawn0 w w' := by
 have H : (some (IntKind.u64.wrap ((IntKind.u64.wrap ((IntKind.u64.wrap ((a0 / 4294967296) * (a1 / 4294967296))) + ((IntKind.u64.wrap ((IntKind.u64.wrap ((a0 / 4294967296) * (Go.bits .and .u64 a1 4294967295))) + ((IntKind.u64.wrap ((Go.bits .and .u64 a0 4294967295) * (Go.bits .and .u64 a1 4294967295))) / 4294967296))) / 4294967296))) + ((IntKind.u64.wrap ((Go.bits .and .u64 (IntKind.u64.wrap ((IntKind.u64.wrap ((a0 / 4294967296) * (Go.bits .and .u64 a1 4294967295))) + ((IntKind.u64.wrap ((Go.bits .and .u64 a0 4294967295) * (Go.bits .and .u64 a1 4294967295))) / 4294967296))) 4294967295) + (IntKind.u64.wrap ((Go.bits .and .u64 a0 4294967295) * (a1 / 4294967296))))) / 4294967296)), IntKind.u64.wrap (a0 * a1))) = some (r1, r2) := h
 clear h
 simp only [Option.some.injEq, Prod.mk.injEq] at H
 obtain ⟨rfl, rfl⟩ := H
 go_enter Try.func130, Try.ntmps130
 go_wp2
 go_ret2
 exact ⟨by first | rfl | (simp; done) | (simp [*]; done), by repeat (first | exact Drawn0.refl _ | apply Drawn0.step)⟩

/-! ### bits_Mul: function 109 -/
def bits_Mul.f (a0 : Int) (a1 : Int) : Option (Int × Int) := (bits_Mul64.f a0 a1).bind fun bt186 => (some (bt186.1, bt186.2))
set_option maxHeartbeats 8000000 in
set_option maxRecDepth 100000 in
theorem bits_Mul.calls (a0 : Int) (a1 : Int) (r1 : Int) (r2 : Int) (w : World) (h : bits_Mul.f a0 a1 = some (r1, r2)) :
  Calls Try.prog 109 #[.int .u64 a0, .int .u64 a1] w fun e w' => e = .returned (.tuple #[.int .u64 r1, .int .u64 r2]) ∧ Drawn0 w w' := by
 have H : ((bits_Mul64.f a0 a1).bind fun bt186 => (some (bt186.1, bt186.2))) = some (r1, r2) := h
 clear h
 replace H := Option.bind_eq_some_iff.mp H
 obtain ⟨⟨t186, t187⟩, A30, H⟩ := H
 replace H : (some (t186, t187)) = some (r1, r2) := H
 have A3 := Aside0.mk A30
 clear A30
 simp only [Option.some.injEq, Prod.mk.injEq] at H
 obtain ⟨rfl, rfl⟩ := H
 go_enter Try.func109, Try.ntmps109
 go_wp2_with (first | ((with_reducible refine gate_callee (f := 130) rfl ?_); refine goesL_ (some 25) rfl rfl Try.func130 (by kernel_rfl) rfl #[.int .u64 a0, .int .u64 a1] rfl (by (try simp only [List.map_toArray, List.map_cons, List.map_nil]); first | done | rfl | (simp only [List.length_drop, List.length_take]; rfl)) ?_; (with_reducible refine (bits_Mul64.calls a0 a1 t186 t187 _ A3.out).mono ?_); rintro e w' ⟨rfl, ⟨nd, rfl⟩⟩; refine ⟨_, rfl, ?_⟩))
 go_ret2
 exact ⟨by first | rfl | (simp; done) | (simp [*]; done), by repeat (first | exact Drawn0.refl _ | apply Drawn0.step)⟩

/-! ### slices_Repeat_int_int: function 95 -/
def slices_Repeat_int_int.f (l0 : List Int) (a1 : Int) : Option (List Int) := if l0.length = 1 ∧ 1 ≤ a1 ∧ a1 ≤ 1000 then some (List.replicate a1.toNat (rd l0 0)) else none
def slices_Repeat_int_int.row (v : Int) (n m : Nat) : List Value := List.replicate m (.int .i64 v) ++ List.replicate (n - m) (.int .i64 0)
theorem slices_Repeat_int_int.row_len (v : Int) {n m : Nat} (h : m ≤ n) : (slices_Repeat_int_int.row v n m).length = n := by simp [slices_Repeat_int_int.row]; omega
theorem slices_Repeat_int_int.row_more (v : Int) {n m c : Nat} (h : m + c ≤ n) : splice (slices_Repeat_int_int.row v n m) m (List.replicate c (.int .i64 v)) = slices_Repeat_int_int.row v n (m + c) := by
 unfold splice slices_Repeat_int_int.row
 have e1 : List.take m (List.replicate m (Value.int .i64 v) ++ List.replicate (n - m) (Value.int .i64 0)) = List.replicate m (.int .i64 v) := by rw [List.take_append_of_le_length (by simp)]; simp
 have e2 : List.drop (m + (List.replicate c (Value.int .i64 v)).length) (List.replicate m (Value.int .i64 v) ++ List.replicate (n - m) (Value.int .i64 0)) = List.replicate (n - (m + c)) (.int .i64 0) := by
  rw [List.drop_append, List.length_replicate, List.length_replicate, List.drop_of_length_le (by simp), List.drop_replicate]
  simp; omega
 rw [e1, e2, ← List.append_assoc, List.replicate_append_replicate]
theorem slices_Repeat_int_int.row_first (v : Int) {n : Nat} (h : 1 ≤ n) : splice (List.replicate n (Value.int .i64 0)) 0 [Value.int .i64 v] = slices_Repeat_int_int.row v n 1 := by
 have := slices_Repeat_int_int.row_more v (n := n) (m := 0) (c := 1) (by omega)
 simpa [slices_Repeat_int_int.row] using this
theorem slices_Repeat_int_int.row_all (v : Int) (n : Nat) : slices_Repeat_int_int.row v n n = nums .i64 (List.replicate n v) := by
 simp [slices_Repeat_int_int.row, nums]
theorem slices_Repeat_int_int.mul : ∀ n : Nat, n < 1001 → bits_Mul.f 1 (n : Int) = some (0, (n : Int)) := by decide +kernel
theorem slices_Repeat_int_int.own {W : World} {g : Nat} {v : Int} {n m : Nat} (h : W.heap[g]? = some (.cells (slices_Repeat_int_int.row v n m).toArray 3 (0, 0))) (hm : m ≤ n) (hn : n ≤ 1000) {base : Nat} (hb : base ≤ g) :
  W.ownsRow base 3 1 (.slice (some ⟨g, 0, none⟩) n n) n (slices_Repeat_int_int.row v n m) := by
 have hl := slices_Repeat_int_int.row_len v hm
 refine ⟨by omega, .inr ⟨g, n, _, rfl, hb, h, Nat.le_refl _, by unfold maxLen; omega, by simp [hl], ?_⟩⟩
 rw [List.toList_toArray, List.take_of_length_le (by omega)]
set_option maxHeartbeats 8000000 in
set_option maxRecDepth 100000 in
theorem slices_Repeat_int_int.calls (A0 : Option Addr) (c0 : Nat) (l0 : List Int) (a1 : Int) (r : List Int) (w : World) (hr0 : Kd.C (Kd.int .i64) w A0 l0.length l0) (hc0 : l0.length ≤ c0) (h : slices_Repeat_int_int.f l0 a1 = some r) :
  Calls Try.prog 95 #[.slice A0 l0.length c0, .int .i64 a1] w fun e w' => ∃ v0_ : Value, e = .returned (v0_) ∧ Kd.R (Kd.int .i64) 3 w' w.heap.size (fun _ => True) v0_ r ∧ Below w.heap.size w w' := by
 unfold slices_Repeat_int_int.f at h
 by_cases hh : l0.length = 1 ∧ 1 ≤ a1 ∧ a1 ≤ 1000
 ·rw [if_pos hh] at h
  obtain rfl := Option.some.inj h
  clear h
  obtain ⟨h1, h2, h3⟩ := hh
  obtain ⟨n, rfl⟩ := Int.eq_ofNat_of_zero_le (show 0 ≤ a1 by omega)
  have hmul := slices_Repeat_int_int.mul n (by omega)
  obtain ⟨ad, hA, hcell⟩ := Kd.at_int hr0 0 (by omega) (by omega)
  subst hA
  have HC := Aside0.mk hcell
  clear hr0 hcell
  generalize hv : rd l0 0 = v at HC
  clear hv
  rw [h1]
  have hc1 : 1 ≤ c0 := by omega
  clear hc0 h1
  have hmake := print_make_int (P := Try.prog) 24 3 (.int .i64 0) 8 Try.underlying24 info3 rfl (by decide) (n : Int) (by omega) (by simp; omega)
  have d1 : ¬ ((n : Int) < 0) := by omega
  have d2 : IntKind.u64.wrap (n : Int) = (n : Int) := by simp [IntKind.wrap, IntKind.bits, IntKind.signed]; omega
  have d3 : IntKind.i64.wrap (n : Int) = (n : Int) := by rw [IntKind.wrap_i64]; omega
  have d4 : ¬ ((n : Int) > 9223372036854775807) := by omega
  have HMUL := Aside0.mk hmul
  clear hmul
  have HM : madeCells #[Value.int .i64 0] n = (List.replicate n (Value.int .i64 0)).toArray := by
   apply Array.ext'
   apply List.ext_getElem
   ·simp [madeCells]
   ·intro i h1 h2
    simp [madeCells, Nat.mod_one]
  have hsz : (Try.prog.info? 3).map (·.size) = some 1 := by kernel_rfl
  have hn0 : 1 ≤ n := by omega
  have hn1 : n ≤ 1000 := by omega
  have hN := Aside0.mk (And.intro hn0 hn1)
  have cellAt : ∀ W : World, Below w.heap.size w W → ∀ j u, ([Value.int .i64 v] : List Value)[j]? = some u → W.cell? (ad.add j) = some u := fun W hb j u hj => by
   match j, hj with
   | 0, hj =>
    have e : Value.int .i64 v = u := by simpa using hj
    subst e
    exact (hb.cell (World.block_lt_of_cell? w _ HC.out)).trans HC.out
   | j + 1, hj => simp at hj
  have CELL := Aside0.mk cellAt
  have HMADE := Aside0.mk HM
  clear cellAt HM
  go_enter Try.func95, Try.ntmps95
  go_wp2_with (first | ((with_reducible refine gate_callee (f := 109) rfl ?_); refine goesL_ (some 18) rfl rfl Try.func109 (by kernel_rfl) rfl #[.int .u64 1, .int .u64 (n : Int)] rfl (by (try simp only [List.map_toArray, List.map_cons, List.map_nil]); first | done | rfl | (simp [d2]; done)) ?_; (with_reducible refine (bits_Mul.calls 1 (n : Int) 0 (n : Int) _ HMUL.out).mono ?_); rintro e w' ⟨rfl, ⟨nd, rfl⟩⟩; refine ⟨_, rfl, ?_⟩) | ((with_reducible refine gate_builtin (b := .copy) (xs := #[.tmp 31, .tmp 32]) rfl ?_); refine wpList_copy_splice rfl (.tmp 31) (.tmp 32) 24 24 rfl 3 Try.underlying24 hsz _ _ _ _ _ _ rfl rfl w.heap.size 0 (List.replicate n (.int .i64 0)) 3 (by rw [← HMADE.out]; exact heap_alloc_new _ _) [.int .i64 v] (Nat.min_eq_left (hN.out.1) : Nat.min 1 n = 1).symm (fun _ => ⟨rfl, ad, rfl, CELL.out _ (below_alloc (pw_below_drewN (Below.refl _ _) _) _)⟩) (by rw [List.length_replicate]; show 0 + 1 ≤ n; omega) (fun u hu => by rw [List.mem_singleton.1 hu]; rfl) w.heap.size w (below_alloc (pw_below_drewN (Below.refl _ _) _) _) (Nat.le_refl _) ?_; intro w4 HG4 HB4; rw [slices_Repeat_int_int.row_first v hN.out.1] at HG4; have HG := Aside0.mk (show w4.heap[w.heap.size]? = some (.cells (slices_Repeat_int_int.row v n 1).toArray 3 (0, 0)) from HG4); have HB := Aside0.mk HB4; clear HG4 HB4))
  clear HMADE HMUL hmake CELL HC
  go_loopg [8] n (fun gg v8 wr => ∃ m : Nat, v8 = .int .i64 (m : Int) ∧ Aside0 (1 ≤ m ∧ m ≤ n ∧ n - m ≤ gg) ∧ Aside0 (wr.heap[w.heap.size]? = some (.cells (slices_Repeat_int_int.row v n m).toArray 3 (0, 0))) ∧ Aside0 (Below w.heap.size w wr))
  case atStart => exact ⟨1, rfl, ⟨⟨by omega, by omega, by omega⟩⟩, HG, HB⟩
  case round =>
   clear HG HB
   obtain ⟨m, rfl, HX, HG, HB⟩ := hrel
   have hm1 := HX.out.1
   have hm2 := HX.out.2.1
   by_cases hlt : m < n
   ·have c0 : decide (m < n) = true := decide_eq_true hlt
    have c1 : (m : Int) < (n : Int) := by omega
    have cutA : ∀ W : World, (Instr.slice 24 (.slice (some ⟨w.heap.size, 0, none⟩) n n) (some (.int .i64 (m : Int))) none none).run Try.prog W = .ok (.slice (some ⟨w.heap.size, m, none⟩) (n - m) (n - m)) W := by
     obtain ⟨i3, hi3, hi4⟩ := Option.map_eq_some_iff.1 hsz
     intro W
     have := cut_from (P := Try.prog) 24 3 .i64 Try.underlying24 hi3 1 hi4 (some ⟨w.heap.size, 0, none⟩) n n (m : Int) (by omega) (by omega) W
     rw [Int.toNat_natCast, if_neg (by omega)] at this
     rw [this]
     simp [Addr.add] <;> omega
    have cutB : ∀ W : World, (Instr.slice 24 (.slice (some ⟨w.heap.size, 0, none⟩) n n) none (some (.int .i64 (m : Int))) none).run Try.prog W = .ok (.slice (some ⟨w.heap.size, 0, none⟩) m n) W := by
     obtain ⟨i3, hi3, hi4⟩ := Option.map_eq_some_iff.1 hsz
     exact cut_to (P := Try.prog) 24 3 .i64 Try.underlying24 hi3 (some ⟨w.heap.size, 0, none⟩) n n (m : Int) (by omega) (by omega) (by omega)
    obtain ⟨c, hc⟩ : ∃ c, c = Nat.min m (n - m) := ⟨_, rfl⟩
    have hcm : c ≤ m ∧ m + c ≤ n ∧ 1 ≤ c := by rw [hc, show Nat.min m (n - m) = min m (n - m) from rfl, Nat.min_def]; split <;> omega
    have HCM := Aside0.mk hcm
    have HCE := Aside0.mk hc
    have CELLS := Aside0.mk (show ∀ j u, (List.replicate c (Value.int .i64 v))[j]? = some u → wr.drew.cell? ((⟨w.heap.size, 0, none⟩ : Addr).add j) = some u from fun j u hj => by
     obtain ⟨hj1, hj2⟩ := List.getElem?_eq_some_iff.1 hj
     rw [List.length_replicate] at hj1
     rw [List.getElem_replicate] at hj2
     have ho := slices_Repeat_int_int.own HG.out hm2 hN.out.2 (Nat.le_refl _)
     have := ho.cells (g := w.heap.size) rfl j (.int .i64 v) (by
      unfold slices_Repeat_int_int.row
      rw [List.getElem?_append_left (by simp; omega), List.getElem?_replicate, if_pos (by omega)])
     rw [← hj2]
     exact this)
    have e3 : wrap64 ((m : Int) + (c : Int)) = ((m + c : Nat) : Int) := by unfold wrap64; omega
    have e4 : IntKind.i64.wrap ((m : Int) + (c : Int)) = ((m + c : Nat) : Int) := by rw [IntKind.wrap_i64]; omega
    clear hc hcm
    go_wp2_with fail
    go_region_law (refine step_copy_splice rfl (.tmp 41) (.tmp 44) 24 24 rfl 3 Try.underlying24 hsz _ _ _ _ _ _ rfl rfl w.heap.size m (slices_Repeat_int_int.row v n m) 3 HG.out (List.replicate c (.int .i64 v)) ((List.length_replicate).trans HCE.out) (fun _ => ⟨rfl, ⟨w.heap.size, 0, none⟩, rfl, CELLS.out⟩) (by rw [List.length_replicate, slices_Repeat_int_int.row_len v hm2]; exact HCM.out.2.1) (fun u hu => by rw [(List.mem_replicate.1 hu).2]; rfl) w.heap.size w (pw_below_drewN HB.out 1) (Nat.le_refl _) ?_; intro w4 HG4 HB4; rw [slices_Repeat_int_int.row_more v HCM.out.2.1] at HG4; have HG' := Aside0.mk (show w4.heap[w.heap.size]? = some (.cells (slices_Repeat_int_int.row v n (m + c)).toArray 3 (0, 0)) from HG4); have HB' := Aside0.mk HB4; clear HG4 HB4)
    all_goals (
     go_wp2_with fail
     go_roundg (n - (m + c))
     case measure => have := HX.out; have := HCM.out; omega
     case rel =>
      have h5 := HX.out; have h6 := HCM.out
      exact ⟨m + c, by first | rfl | (simp [e3, e4]; done) | go_num, ⟨⟨by omega, by omega, by omega⟩⟩, HG', HB'⟩)
   ·have hmn : m = n := by omega
    subst hmn
    go_wp2_with fail
    go_ret
    have ho := slices_Repeat_int_int.own HG.out (Nat.le_refl _) hN.out.2 (Nat.le_refl _)
    rw [slices_Repeat_int_int.row_all] at ho
    refine ⟨_, rfl, ?_, HB.out⟩
    refine Kd.R_of_own ?_ (fun _ _ => trivial)
    rw [Int.toNat_natCast, List.length_replicate]
    exact ho
 ·rw [if_neg hh] at h
  cases h

end Go.Proofs.Ytegnghbgkiddoaa.PA

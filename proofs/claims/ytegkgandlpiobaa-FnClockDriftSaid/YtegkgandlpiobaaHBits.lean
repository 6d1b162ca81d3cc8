/- The bits of levels: a loop over the library's chunks of two, walked inside a fence; and the ways that come back before it. Conditions: the slice's cells read as the list; 'all' answers as said. -/
import Derived.RangeFuncBox
import Derived.RangeFuncLeaves
import Derived.RangeFuncCalls
import Derived.Shelf.Abstract
import Derived.Shelf.RegionOpen
import Derived.WalkKit
import Derived.OwnWalkIn
import Derived.TacticsInMore
import Derived.LoopNIn
import Derived.LoopIn
import Derived.Maps.AppendAt
import Derived.Lib.Hide
import Derived.Sort.CutIn
import Derived.Deep.Slices
import Derived.Deep.QuietTactic
import Derived.BigQuiet
import Derived.Test.YtegkgandlpiobaaProg
set_option linter.unusedVariables false
namespace Go.Proofs.Ytegkgandlpiobaa.HB
open Go Go.RowKit Go.Shelf
attribute [local go_sem] Oper.semAt_some

theorem pw_cell_below {w w1 : World} (h : Below w.heap.size w w1) {a : Addr} {v : Value} (hc : w.cell? a = some v) : w1.cell? a = some v := (h.cell (World.block_lt_of_cell? w a hc)).trans hc
structure Hd (p : Prop) : Prop where mk :: (out : p)
abbrev Ix2 (m : Nat) := { k : Nat // k < m }
def uptoI (m : Nat) : Nat → List (Ix2 m)
  | 0 => []
  | k + 1 => if h : k < m then uptoI m k ++ [⟨k, h⟩] else uptoI m k
theorem uptoI_succ (m k : Nat) (h : k < m) : uptoI m (k + 1) = uptoI m k ++ [⟨k, h⟩] := by simp [uptoI, h]
theorem uptoI_length (m : Nat) : ∀ k, k ≤ m → (uptoI m k).length = k := by
  intro k
  induction k with
  | zero => intro _; rfl
  | succ k ih => intro h; rw [uptoI_succ m k (by omega)]; simp [ih (by omega)]
theorem uptoI_mem (m : Nat) : ∀ k, k ≤ m → ∀ x ∈ uptoI m k, x ∈ uptoI m m := by
  have step : ∀ k, k + 1 ≤ m → ∀ x ∈ uptoI m k, x ∈ uptoI m (k + 1) := fun k hk x hx => by rw [uptoI_succ m k (by omega)]; exact List.mem_append_left _ hx
  intro k hk
  obtain ⟨d, rfl⟩ : ∃ d, m = k + d := ⟨m - k, by omega⟩
  have key : ∀ d', d' ≤ d → ∀ x ∈ uptoI (k + d) k, x ∈ uptoI (k + d) (k + d') := by
    intro d'
    induction d' with
    | zero => intro _ x hx; exact hx
    | succ d' ih => intro h x hx; exact step (k + d') (by omega) x (ih (by omega) x hx)
  exact key d (Nat.le_refl _)
def ck (ad : Addr) (k : Nat) : Value := .slice (some (ad.add (2 * k))) 2 2
/-- what a round keeps -/
def Kp (n₀ Bs Bn : Nat) (A B : World) : Prop := Below n₀ A B ∧ (∀ v, A.cell? ⟨Bs, 0, none⟩ = some v → B.cell? ⟨Bs, 0, none⟩ = some v) ∧ (∀ v, A.cell? ⟨Bn, 0, none⟩ = some v → B.cell? ⟨Bn, 0, none⟩ = some v)
theorem kp_t {n₀ Bs Bn : Nat} {A B C : World} (h : Kp n₀ Bs Bn A B) (k : Kp n₀ Bs Bn B C) : Kp n₀ Bs Bn A C := ⟨h.1.trans k.1, fun v hv => k.2.1 v (h.2.1 v hv), fun v hv => k.2.2 v (h.2.2 v hv)⟩

theorem grown_of_drewN (w : World) (n : Nat) : w.grownBy (w.drewN n) none := ⟨rfl, rfl, rfl, Nat.le_refl _, fun _ _ _ => rfl⟩
set_option maxRecDepth 100000 in
set_option maxHeartbeats 2000000 in
theorem chunk1_in (n : Nat) (hn : 1 ≤ n) (l Bs Bn n₀ m cap : Nat) (ad : Addr) (hcap : 2 * m ≤ cap) (hm : 2 * m ≤ 400) (J Jx : List (Ix2 m) → World → Prop) (D : Nat) (hJa : AbidesFrom D J)
    (hY : ∀ pre x W, J pre W → pre.length < m → YieldAt Fence.wide (n - 1) Try.prog l #[ck ad x.1] W fun e W' =>
      (e = .returned (.bool true) ∧ J (pre ++ [x]) W' ∧ Kp n₀ Bs Bn W W') ∨ (e = .returned (.bool false) ∧ Jx (pre ++ [x]) W'))
    (W : World) (hBs : W.cell? ⟨Bs, 0, none⟩ = some (.slice (some ad) (2 * m) cap)) (hBn : W.cell? ⟨Bn, 0, none⟩ = some (.int .i64 2)) (h0 : J [] W) :
    CallsIn Fence.wide n Try.prog 53 #[.func (.yield l) #[] #[], .pointer (some ⟨Bs, 0, none⟩), .pointer (some ⟨Bn, 0, none⟩)] W fun e W' => (∃ v, e = .returned v) ∧
      ((∃ ys, ys = uptoI m m ∧ J ys W') ∨ (∃ pre, (∃ k, k ≤ m ∧ pre = uptoI m k) ∧ Jx pre W')) := by
  refine callsIn_of_wp Try.func53 rfl trivial ?_ rfl
  simp only [Try.ntmps53, List.size_toArray, List.length_cons, List.length_nil, Nat.reduceAdd, Nat.reduceSub, Array.replicate_succ, Array.replicate_zero, List.push_toArray, List.append_toArray, List.nil_append, List.cons_append]
  gi_wp2
  gi_loopw [4] (fun i wr => ∃ k j : Nat, k ≤ m ∧ Hd (j = 2 * k) ∧ i = .int .i64 (j : Int) ∧ J (uptoI m k) wr ∧ wr.cell? ⟨Bs, 0, none⟩ = some (.slice (some ad) (2 * m) cap) ∧ wr.cell? ⟨Bn, 0, none⟩ = some (.int .i64 2))
    (fun i _ => 2 * m - (intOf i).toNat)
  case atStart => exact ⟨0, 0, Nat.zero_le _, ⟨rfl⟩, rfl, h0, hBs, hBn⟩
  case round =>
    obtain ⟨k, j, hk, HJ, rfl, hJs, hs, hn2⟩ := hrel
    by_cases hlt : k < m
    · have q1 : j < 2 * m := by have := HJ.out; omega
      have q2 : ¬ cap = j := by have := HJ.out; omega
      have q3 : (2 : Int) ≤ (2 * m - j : Nat) := by have := HJ.out; omega
      gi_wp2
      gi_quiet (fail)
      have hJ' : J (uptoI m k) (wr.drewN nq) := hJa _ _ _ none hJs (grown_of_drewN wr nq) (by simp)
      obtain ⟨fn, tmps, assign, body, hy, hR⟩ := hY _ ⟨k, hlt⟩ (wr.drewN nq) hJ' (by rw [uptoI_length m k hk]; exact hlt)
      dsimp only [ck] at hy
      rw [← HJ.out] at hy
      gi_wp2
      refine hR.mono ?_
      rintro e W3 (⟨rfl, hJ3, hk3⟩ | ⟨rfl, hJx3⟩)
      · have hs3 : W3.cell? ⟨Bs, 0, none⟩ = some (.slice (some ad) (2 * m) cap) := hk3.2.1 _ hs
        have hn3 : W3.cell? ⟨Bn, 0, none⟩ = some (.int .i64 2) := hk3.2.2 _ hn2
        gi_wp2
        go_roundw
        case rel => exact ⟨k + 1, j + 2, by omega, ⟨by have := HJ.out; omega⟩, by go_num, by rw [uptoI_succ m k hlt]; exact hJ3, hs3, hn3⟩
        case measure => simp [intOf]; omega
      · gi_wp2
        refine bodyPost_ret (results_none rfl _ _ _) rfl ?_
        exact ⟨⟨_, rfl⟩, .inr ⟨_, ⟨k + 1, by omega, (uptoI_succ m k hlt).symm⟩, hJx3⟩⟩
    · obtain rfl : k = m := by omega
      have q1 : ¬ j < 2 * k := by have := HJ.out; omega
      gi_wp2
      go_end0
      exact ⟨⟨_, rfl⟩, .inl ⟨_, rfl, hJs⟩⟩

set_option maxRecDepth 100000 in
set_option maxHeartbeats 2000000 in
theorem chunk0_in (n : Nat) (hn : 1 ≤ n) (l Bs Bn cap : Nat) (A : Option Addr) (J : List (Ix2 0) → World → Prop)
    (W : World) (hBs : W.cell? ⟨Bs, 0, none⟩ = some (.slice A 0 cap)) (h0 : J [] W) :
    CallsIn Fence.wide n Try.prog 53 #[.func (.yield l) #[] #[], .pointer (some ⟨Bs, 0, none⟩), .pointer (some ⟨Bn, 0, none⟩)] W fun e W' => (∃ v, e = .returned v) ∧ J [] W' := by
  refine callsIn_of_wp Try.func53 rfl trivial ?_ rfl
  simp only [Try.ntmps53, List.size_toArray, List.length_cons, List.length_nil, Nat.reduceAdd, Nat.reduceSub, Array.replicate_succ, Array.replicate_zero, List.push_toArray, List.append_toArray, List.nil_append, List.cons_append]
  gi_wp2
  gi_loopw [4] (fun i wr => i = .int .i64 0 ∧ J [] wr ∧ wr.cell? ⟨Bs, 0, none⟩ = some (.slice A 0 cap)) (fun _ _ => 0)
  case atStart => exact ⟨rfl, h0, hBs⟩
  case round =>
    obtain ⟨rfl, hJs, hs⟩ := hrel
    gi_wp2
    go_end0
    exact ⟨⟨_, rfl⟩, hJs⟩
set_option maxHeartbeats 1000000 in
theorem chunk_in (n : Nat) (A : Option Addr) (len cap : Nat) (w : World) :
    CallsIn Fence.wide n Try.prog 42 #[.slice A len cap, .int .i64 2] w fun e w' => e = .returned (.func (.func 53) #[] #[.pointer (some ⟨w.heap.size, 0, none⟩), .pointer (some ⟨w.heap.size + 1, 0, none⟩)]) ∧ w' = (w.alloc (.cells #[.slice A len cap] 22)).alloc (.cells #[.int .i64 2] 3) := by
  refine callsIn_of_wp Try.func42 rfl trivial ?_ rfl
  simp only [Try.ntmps42, List.size_toArray, List.length_cons, List.length_nil, Nat.reduceAdd, Nat.reduceSub, Array.replicate_succ, Array.replicate_zero, List.push_toArray, List.append_toArray, List.nil_append, List.cons_append]
  gi_wp2
  go_ret
  exact ⟨rfl, rfl⟩
theorem chunk_stops (n : Nat) (hn : 1 ≤ n) (Bs Bn n₀ m cap : Nat) (A : Option Addr) (ad : Addr) (hA : 0 < m → A = some ad) (hcap : 2 * m ≤ cap) (hm : 2 * m ≤ 400) (w : World) (hBs : Bs < w.heap.size) (hBn : Bn < w.heap.size)
    (hc : w.cell? ⟨Bs, 0, none⟩ = some (.slice A (2 * m) cap)) (hc2 : w.cell? ⟨Bn, 0, none⟩ = some (.int .i64 2)) :
    SeqStopsK Fence.wide n Try.prog 53 #[.pointer (some ⟨Bs, 0, none⟩), .pointer (some ⟨Bn, 0, none⟩)] (fun x : Ix2 m => #[ck ad x.1]) (Kp n₀ Bs Bn) (fun ys => ys = uptoI m m)
      (fun pre => ∃ k, k ≤ m ∧ pre = uptoI m k) m w := fun l J Jx W hW hJa _ hY h0 => by
  have hc' := (hW.cell (p := ⟨Bs, 0, none⟩) hBs).trans hc
  have hc2' := (hW.cell (p := ⟨Bn, 0, none⟩) hBn).trans hc2
  rcases Nat.eq_zero_or_pos m with h | h
  · subst h
    exact (chunk0_in n hn l Bs Bn cap A J W hc' h0).mono fun e W' ⟨he, hj⟩ => ⟨he, .inl ⟨_, rfl, hj⟩⟩
  · obtain rfl := hA h
    exact chunk1_in n hn l Bs Bn n₀ m cap ad hcap hm J Jx _ hJa hY W hc' hc2' h0
theorem own_weaken' {W : World} {b b' : Nat} {e : TypeId} {size k : Nat} {v : Value} {xs : List Value} (h : W.ownsRow b e size v k xs) (hb : b' ≤ b) : W.ownsRow b' e size v k xs := by
  obtain ⟨h1, h2⟩ := h
  refine ⟨h1, ?_⟩
  rcases h2 with h2 | ⟨g, cap, cur, rfl, hg, r⟩
  · exact .inl h2
  · exact .inr ⟨g, cap, cur, rfl, Nat.le_trans hb hg, r⟩
theorem appended2 {W w1 : World} {n₀ n₁ B : Nat} {t e : TypeId} {size : Nat} {v v' : Value} {k m : Nat} {xs ys : List Value} {tmp : Obj}
    (hv : Boxed W B t v) (hte : t ≠ e) (hrow : W.ownsRow n₁ e size v k xs) (hn : n₀ ≤ n₁) (hn₁ : n₁ ≤ W.heap.size) (hB : n₀ ≤ B)
    (hown' : w1.ownsRow n₁ e size v' m ys) (hgrow : (W.alloc tmp).grownBy w1 v.ownBlock) :
    Boxed w1 B t v ∧ Boxed (w1.setCell ⟨B, 0, none⟩ v') B t v' ∧ (w1.setCell ⟨B, 0, none⟩ v').ownsRow n₁ e size v' m ys ∧ KeepsOthers W (w1.setCell ⟨B, 0, none⟩ v') ∧ Below n₀ W (w1.setCell ⟨B, 0, none⟩ v') ∧
      ∀ b, b < n₁ → b ≠ B → (w1.setCell ⟨B, 0, none⟩ v').heap[b]? = W.heap[b]? := by
  obtain ⟨h1, h2, h3, h4, h5⟩ := hv.appended hte (own_weaken' hrow hn) (Nat.le_trans hn hn₁) hB (own_weaken' hown' hn) hgrow
  refine ⟨h1, h2, hown'.kept (grownBy_setCell' w1 B v') (.inr (h1.not_row hte hown').symm), h4, h5, fun b hb hne => ?_⟩
  rw [Below.heap_setCell w1 ⟨B, 0, none⟩ v' b hne]
  rw [hgrow.block b (by simp; omega) ?_]
  · exact Below.heap_alloc W tmp b (by omega)
  · rcases hrow.2 with ⟨rfl, _⟩ | ⟨g, cap, cur, rfl, hg, _⟩
    · simp [Value.ownBlock]
    · intro e'
      obtain rfl : b = g := by simpa [Value.ownBlock] using e'
      omega
theorem step_append_in {F : Fence} {n : Nat} {P : Program} {ops : Array Oper} {o : Oper} {a : Act} {K : Act → World → Prop} {Q' : Exit → Act → World → Prop} {w w' : World} {v' : Value} (hgd : o.guard = none) (s x : Operand) (t : TypeId)
    (hop : o.op = Op.call { callee := Callee.builtin Builtin.append, args := #[s, x], argTypes := #[t, t] }) (vs vx : Value) (hs : a.eval s = vs) (hx : a.eval x = vx)
    (hrun : (Builtin.append_ #[t, t] o.type #[vs, vx]).run P w = .ok v' w') (hK : K (a.put o.dst v') w') :
    if Region.wanted o (yielded ops a.tmps) = true then Oper.wpIn F n P o a w K Q' else (∀ f, o.about P w a.eval = some f → F.fn f) ∧ K (a.put o.dst undef) w := by
  rw [if_pos (by simp [Region.wanted, hgd])]
  unfold Oper.wpIn
  refine ⟨by simp [Oper.about, hop, resolve, Target.leads, Sem.run_pure], ?_⟩
  rw [Oper.semAt_plain F _ _ (by rw [hop]; intro c hc'; cases hc')]
  simp [execOp, hop, resolve, invoke, builtin, hs, hx, hrun, Result.andThen]
  exact hK
theorem grown_undrew {W w' : World} {r : Option Nat} (h : W.drew.drew.grownBy w' r) : W.grownBy w' r := ⟨h.os, h.tape, h.output, h.size, h.block⟩
theorem cell_of_heap {W W' : World} {b : Nat} (h : W'.heap[b]? = W.heap[b]?) : W'.cell? ⟨b, 0, none⟩ = W.cell? ⟨b, 0, none⟩ := by simp [World.cell?, h]
theorem box_kept {X Y : World} {row : Option Nat} {B : Nat} {t : TypeId} {v : Value} (h : Boxed X B t v) (hg : X.grownBy Y row) (hr : ∀ r, row = some r → ∃ o : Obj, X.heap[r]? = some o ∧ o.isCells = false) : Boxed Y B t v :=
  h.kept hg (fun e => by
    obtain ⟨o, ho, hc⟩ := hr B e.symm
    rw [show X.heap[B]? = _ from h] at ho; cases ho; cases hc)
theorem own_slice' {w : World} {base n : Nat} {e : TypeId} {size : Nat} {v : Value} {xs : List Value} (h : w.ownsRow base e size v n xs) : ∃ A c, v = .slice A n c := by
  rcases h.2 with ⟨rfl, rfl⟩ | ⟨g, cap, cur, rfl, _⟩
  · exact ⟨none, 0, rfl⟩
  · exact ⟨_, cap, rfl⟩
theorem box_drew {W : World} {B : Nat} {t : TypeId} {v : Value} (h : Boxed W B t v) : Boxed W.drew B t v := h
theorem info3 : (Try.prog.info? 3).map (fun i => (i.zero, i.size, i.bytes)) = some (some (.int .i64 0), 1, 8) := by kernel_rfl
def bsOf (l : List Int) {m : Nat} (pre : List (Ix2 m)) : List Int := pre.map fun x => l.getD (2 * x.1) 0
def bf (l : List Int) (m : Nat) : List Int × Bool := if (uptoI m m).all (fun x => decide (l.getD (2 * x.1) 0 ≠ l.getD (2 * x.1 + 1) 0)) then (bsOf l (uptoI m m), true) else ([], false)
def Post (l : List Int) (m : Nat) (w : World) (e : Ending) (w' : World) : Prop := ∃ v, e = .returned (.tuple #[v, .bool (bf l m).2]) ∧ w'.ownsRow w.heap.size 3 1 v (bf l m).1.length ((bf l m).1.map (Value.int .i64)) ∧ Below w.heap.size w w'
set_option maxRecDepth 100000 in
set_option maxHeartbeats 4000000 in
theorem bits_good (l : List Int) (m cap : Nat) (A : Option Addr) (ad : Addr) (hl : l.length = 2 * m) (hA : 0 < m → A = some ad) (hcap : 2 * m ≤ cap) (hm : 2 * m ≤ 400) (w : World)
    (hcells : ∀ j, j < 2 * m → w.cell? (ad.add j) = some (.int .i64 (l.getD j 0)))
    (hall : ∀ W : World, Below w.heap.size w W → CallsIn Fence.wide 3 Try.prog 40 #[.slice A (2 * m) cap, .func (.func 41) #[] #[]] W fun e w' => e = .returned (.bool true) ∧ Below W.heap.size W w') :
    CallsIn Fence.wide 4 Try.prog 25 #[.slice A (2 * m) cap] w (Post l m w) := by
  refine callsIn_of_wp_marks Try.func25 rfl trivial ?_ rfl
  simp only [Try.ntmps25, List.size_toArray, List.length_cons, List.length_nil, Nat.reduceAdd, Nat.reduceSub, Array.replicate_succ, Array.replicate_zero, List.push_toArray, List.append_toArray, List.nil_append, List.cons_append]
  have c1 : decide ((2 * (m : Int)) % 2 > 0) = false := by simp
  have c2 : decide (2 * (m : Int) > 400) = false := by simp; omega
  gi_wp2_with fail
  refine ⟨trivial, (hall _ (((Below.refl _ w).alloc (Nat.le_refl _) _).alloc (by simp) _)).mono ?_⟩
  rintro e W1 ⟨rfl, hb1⟩
  have hsz : w.heap.size + 2 ≤ W1.heap.size := by have := hb1.size; simp at this; omega
  have b2 : Boxed W1 w.heap.size 22 (.slice none 0 0) := (hb1.block _ (by simp; omega)).trans ((Boxed.new w 22 (.slice none 0 0)).alloc _)
  have b3 : Boxed W1 (w.heap.size + 1) 4 (.bool false) := (hb1.block _ (by simp)).trans (by have := Boxed.new (w.alloc (.cells #[.slice none 0 0] 22)) 4 (.bool false); rwa [World.size_alloc] at this)
  have hB1 : Below w.heap.size w W1 := ((((Below.refl _ w).alloc (Nat.le_refl _) _).alloc (by simp) _).trans (hb1.mono (by simp; omega)))
  clear hb1 hall
  gi_wp2_with fail
  refine ⟨trivial, (chunk_in 3 A (2 * m) cap _).mono ?_⟩
  rintro e W2 ⟨rfl, rfl⟩
  gi_wp2_with fail
  have bo := Boxed.new W1 22 (.slice none 0 0)
  have bs := Boxed.new (W1.alloc (.cells #[.slice none 0 0] 22)) 22 (.slice A (2 * m) cap)
  have bn := Boxed.new ((W1.alloc (.cells #[.slice none 0 0] 22)).alloc (.cells #[.slice A (2 * m) cap] 22)) 3 (.int .i64 2)
  rw [World.size_alloc] at bs
  rw [World.size_alloc, World.size_alloc] at bn
  have hB3 : Below w.heap.size w (((W1.alloc (.cells #[.slice none 0 0] 22)).alloc (.cells #[.slice A (2 * m) cap] 22)).alloc (.cells #[.int .i64 2] 3)) := ((hB1.alloc (by omega) _).alloc (by simp; omega) _).alloc (by simp; omega) _
  refine wpIn_rangeFunc_ownG rfl (by omega) (gf := 53) (lb := #[.pointer (some ⟨W1.heap.size + 1, 0, none⟩), .pointer (some ⟨W1.heap.size + 1 + 1, 0, none⟩)]) rfl trivial (enters_of Try.func53 (by kernel_rfl) rfl)
    (chunk_stops 3 (by omega) (W1.heap.size + 1) (W1.heap.size + 1 + 1) w.heap.size m cap A ad hA hcap hm _ (by simp) (by simp) (bs.alloc _).cell bn.cell)
    (fun h k => kp_t h k) ?hKb (Below.refl _ _) (fun _ => rfl)
    (fun pre W => ((W1.heap.size + 3 ≤ W.heap.size ∧ ∃ v, Boxed W W1.heap.size 22 v ∧ W.ownsRow (W1.heap.size + 3) 3 1 v (bsOf l pre).length ((bsOf l pre).map (Value.int .i64)) ∧ Hd (∀ x ∈ pre, l.getD (2 * x.1) 0 ≠ l.getD (2 * x.1 + 1) 0)) ∧ Boxed W w.heap.size 22 (.slice none 0 0) ∧ Boxed W (w.heap.size + 1) 4 (.bool false)) ∧ Below w.heap.size w W)
    (fun c pre W => (c = .ret ∧ (∃ x ∈ pre, l.getD (2 * x.1) 0 = l.getD (2 * x.1 + 1) 0) ∧ Boxed W w.heap.size 22 (.slice none 0 0) ∧ Boxed W (w.heap.size + 1) 4 (.bool false)) ∧ Below w.heap.size w W)
    ?hI ?hIx ?h0
    (fun x => { tmps := #[Value.slice A (2 * m) cap, undef, .pointer (some ⟨w.heap.size, 0, none⟩), .pointer (some ⟨w.heap.size + 1, 0, none⟩), .pointer (some ⟨W1.heap.size, 0, none⟩), ck ad x.1, .slice A (2 * m) cap, .int .i64 (2 * m), .int .i64 0, .bool false, .bool false, .slice A (2 * m) cap, .int .i64 (2 * m), .bool false, .bool false, .bool false, .slice A (2 * m) cap, .bool true, .bool false, .bool false, .slice A (2 * m) cap, .func (.func 53) #[] #[.pointer (some ⟨W1.heap.size + 1, 0, none⟩), .pointer (some ⟨W1.heap.size + 1 + 1, 0, none⟩)], ck ad x.1, undef, undef, undef, undef, undef, undef, undef, undef, undef, undef, undef, undef, undef, undef], defers := [] }) ?assign ?body ?done ?stop
  case hKb =>
    intro W l' o o' hl' ho hc1 hc2
    have hsz3 : W1.heap.size + 3 ≤ l' := by simpa using hl'
    refine ⟨belowK_b (w := ((W1.alloc (.cells #[.slice none 0 0] 22)).alloc (.cells #[.slice A (2 * m) cap] 22)).alloc (.cells #[.int .i64 2] 3)) (by simp; omega) W l' o o' hl' ho hc1 hc2, fun v hv => ?_, fun v hv => ?_⟩
    · rw [← hv]; exact cell_of_heap ((grownBy_putObj' W l' o').block _ ((World.block_lt_of_cell? _ _ hv)) (by intro e; injection e with e; omega))
    · rw [← hv]; exact cell_of_heap ((grownBy_putObj' W l' o').block _ ((World.block_lt_of_cell? _ _ hv)) (by intro e; injection e with e; omega))
  case hI =>
    refine OwnFrom.and (Own.from ?_ _) (ownFrom_below (Nat.le_refl _) (by simp; omega))
    intro s X Y row hs hg hr
    obtain ⟨⟨hs0, hs1⟩, hs2, hs3⟩ := hs
    exact ⟨⟨Nat.le_trans hs0 hg.size, holdsRow_own (W1.heap.size + 3) W1.heap.size 22 3 1 (fun pre => (bsOf l pre).length) (fun pre => (bsOf l pre).map (Value.int .i64)) (fun pre v => Hd (∀ x ∈ pre, l.getD (2 * x.1) 0 ≠ l.getD (2 * x.1 + 1) 0)) s X Y row hs1 hg hr⟩, box_kept hs2 hg hr, box_kept hs3 hg hr⟩
  case hIx =>
    intro c
    refine OwnFrom.and (Own.from ?_ _) (ownFrom_below (Nat.le_refl _) (by simp; omega))
    intro s X Y row hs hg hr
    exact ⟨hs.1, hs.2.1, box_kept hs.2.2.1 hg hr, box_kept hs.2.2.2 hg hr⟩
  case h0 =>
    exact ⟨⟨⟨by simp, _, (bo.alloc _).alloc _, World.ownsRow_nil _ _ _ _, ⟨by simp⟩⟩, ((b2.alloc _).alloc _).alloc _, ((b3.alloc _).alloc _).alloc _⟩, hB3⟩
  case assign =>
    intro l x W K hK
    gi_wp2
    exact hK
  case body =>
    rintro lo pre x W ⟨⟨⟨hsz2, v, hv, hrow, hne⟩, h2, h3⟩, hB⟩ hlt
    have hc := hv.cell
    have r0 : W.cell? (ad.add (2 * x.1)) = some (.int .i64 (l.getD (2 * x.1) 0)) := pw_cell_below hB (hcells _ (by have := x.2; omega))
    have r1 : W.cell? ⟨(ad.add (2 * x.1)).block, (ad.add (2 * x.1)).off + 1, none⟩ = some (.int .i64 (l.getD (2 * x.1 + 1) 0)) := by
      have h := pw_cell_below hB (hcells (2 * x.1 + 1) (by have := x.2; omega))
      rw [← Go.Deep.add_add] at h
      exact h
    generalize hy0 : l.getD (2 * x.1) 0 = y0 at r0
    generalize hy1 : l.getD (2 * x.1 + 1) 0 = y1 at r1
    have HY0 := Hd.mk hy0
    have HY1 := Hd.mk hy1
    clear hy0 hy1
    dsimp only [ck]
    generalize ad.add (2 * x.1) = b at r0 r1 ⊢
    have hmx : Try.prog.follows .mixedOrders = true := by kernel_rfl
    gi_wp2
    gi_cut [29] from 30 (fun s29 wc => s29 = .bool (y0 == y1) ∧ wc = W.drew)
    case first =>
      rename_i J K1 hJ hK1
      gi_region_with_o (fail)
      all_goals
        refine hK1 _ _ (hJ _ _ ?_)
        repeat apply Exists.intro
        exact ⟨⟨rfl, rfl⟩, rfl⟩
    case rest =>
      obtain ⟨rfl, rfl⟩ := hcut
      by_cases hy : y0 = y1
      · have hd : (y0 == y1) = true := by simpa using hy
        rw [hd]
        clear hd
        have HYY := Hd.mk hy
        clear hy
        have c2 := h2.cell
        have f2 := h2.frozen
        have c3 := h3.cell
        have f3 := h3.frozen
        gi_wp2
        refine ⟨((KeepsOthers.setCell _ _ _).trans ((KeepsOthers.setCell _ _ _).trans (KeepsOthers.drew _))).from _, ⟨rfl, ⟨x, by simp, by rw [HY0.out, HY1.out]; exact HYY.out⟩, ?_, ?_⟩, ?_⟩
        · exact box_drew ((h2.set (.slice none 0 0)).kept (grownBy_setCell' _ (w.heap.size + 1) (.bool false)) (by simp))
        · exact box_drew ((h3.kept (grownBy_setCell' _ w.heap.size (.slice none 0 0)) (by simp)).set (.bool false))
        · exact ((hB.setCell (p := ⟨w.heap.size, 0, none⟩) (Nat.le_refl _) _).setCell (p := ⟨w.heap.size + 1, 0, none⟩) (by simp) _).drew
      · have hd : (y0 == y1) = false := by simpa using hy
        rw [hd]
        clear hd
        have HYY := Hd.mk hy
        clear hy
        have hsW : W1.heap.size + 3 ≤ W.heap.size := hsz2
        have hrowD : (W.alloc (.cells #[.int .i64 y0] 3)).drew.drew.ownsRow (W1.heap.size + 3) 3 1 v (bsOf l pre).length ((bsOf l pre).map (Value.int .i64)) := hrow.alloc _
        have hcD : ∀ j u, [Value.int .i64 y0][j]? = some u → (W.alloc (.cells #[.int .i64 y0] 3)).drew.drew.cell? ((⟨W.heap.size, 0, none⟩ : Addr).add j) = some u := cell_one_new W _ _
        obtain ⟨i0, hi, hz0, hz1, hz2⟩ := info_parts info3
        have hbl : (bsOf l pre).length = pre.length := by simp [bsOf]
        obtain ⟨v', w', hrun, r1, r2, r3⟩ := run_append_own (P := Try.prog) (W.alloc (.cells #[.int .i64 y0] 3)).drew.drew (W1.heap.size + 3) 22 22 3 i0 (.int .i64 0) 1 8 Try.underlying22 hi hz0 hz1 hz2 rfl (by decide) v (bsOf l pre).length ((bsOf l pre).map (Value.int .i64)) hrowD ⟨W.heap.size, 0, none⟩ 1 1 [.int .i64 y0] rfl hcD (by simp [Value.oneCell']) (by unfold maxLen; omega) (by omega) (by simp; omega)
        obtain ⟨g', cap', rfl⟩ := ownsRow_succ r1
        obtain ⟨q1, q2, q3, q4, q5, q6⟩ := appended2 (n₀ := w.heap.size) hv (by decide) hrow (by omega) hsW (by omega) r1 (grown_undrew r2)
        have hca : (W.alloc (.cells #[.int .i64 y0] 3)).cell? ⟨W1.heap.size, 0, none⟩ = some v := (hv.alloc _).cell
        clear hcD
        have hpost : KeepsFrom (((W1.alloc (.cells #[.slice none 0 0] 22)).alloc (.cells #[.slice A (2 * m) cap] 22)).alloc (.cells #[.int .i64 2] 3)).heap.size W (w'.setCell ⟨W1.heap.size, 0, none⟩ (.slice (some ⟨g', 0, none⟩) ((bsOf l pre).length + 1) cap')) ∧
            Kp w.heap.size (W1.heap.size + 1) (W1.heap.size + 1 + 1) W (w'.setCell ⟨W1.heap.size, 0, none⟩ (.slice (some ⟨g', 0, none⟩) ((bsOf l pre).length + 1) cap')) ∧
            ((W1.heap.size + 3 ≤ (w'.setCell ⟨W1.heap.size, 0, none⟩ (.slice (some ⟨g', 0, none⟩) ((bsOf l pre).length + 1) cap')).heap.size ∧ ∃ v, Boxed (w'.setCell ⟨W1.heap.size, 0, none⟩ (.slice (some ⟨g', 0, none⟩) ((bsOf l pre).length + 1) cap')) W1.heap.size 22 v ∧
              (w'.setCell ⟨W1.heap.size, 0, none⟩ (.slice (some ⟨g', 0, none⟩) ((bsOf l pre).length + 1) cap')).ownsRow (W1.heap.size + 3) 3 1 v (bsOf l (pre ++ [x])).length ((bsOf l (pre ++ [x])).map (Value.int .i64)) ∧ Hd (∀ x_ ∈ pre ++ [x], l.getD (2 * x_.1) 0 ≠ l.getD (2 * x_.1 + 1) 0)) ∧
              Boxed (w'.setCell ⟨W1.heap.size, 0, none⟩ (.slice (some ⟨g', 0, none⟩) ((bsOf l pre).length + 1) cap')) w.heap.size 22 (.slice none 0 0) ∧ Boxed (w'.setCell ⟨W1.heap.size, 0, none⟩ (.slice (some ⟨g', 0, none⟩) ((bsOf l pre).length + 1) cap')) (w.heap.size + 1) 4 (.bool false)) ∧ Below w.heap.size w (w'.setCell ⟨W1.heap.size, 0, none⟩ (.slice (some ⟨g', 0, none⟩) ((bsOf l pre).length + 1) cap')) := by
          refine ⟨q4.from _, ⟨q5, fun v hv => ?_, fun v hv => ?_⟩, ⟨⟨?_, _, q2, ?_, ⟨?_⟩⟩, ?_, ?_⟩, hB.trans q5⟩
          · rw [← hv]; exact cell_of_heap (q6 _ (by omega) (by omega))
          · rw [← hv]; exact cell_of_heap (q6 _ (by omega) (by omega))
          · have := q5.size; have h5 := r2.size; simp at h5 ⊢; omega
          · have e : bsOf l (pre ++ [x]) = bsOf l pre ++ [y0] := by simp only [bsOf, List.map_append, List.map_cons, List.map_nil, HY0.out]
            rw [e, List.map_append, List.length_append]
            exact q3
          · intro x' hx'
            rcases List.mem_append.1 hx' with h | h
            · exact hne.out x' h
            · obtain rfl : x' = x := by simpa using h
              rw [HY0.out, HY1.out]; exact HYY.out
          · exact (q6 _ (by omega) (by omega)).trans h2
          · exact (q6 _ (by omega) (by omega)).trans h3
        have hc1 := q1.cell
        have hf1 := q1.frozen
        clear hi hz0 hz1 hz2 hbl
        gi_wp2
        refine wpIn_region_any (by kernel_rfl) ?_
        try (change wpAnyIn _ _ _ _ _ _ _ _ _ (World.drew _))
        refine wpAnyIn_ready (rs := [0, 1]) (by kernel_rfl) (by simp) ?_
        refine AllReadyIn.cons rfl (fun K1 hK1 => ?_) ?_
        · go_simp
          refine hK1 _ _ ?_
          refine wpAnyIn_ready (rs := [1]) (by kernel_rfl) (by simp) ?_
          refine AllReadyIn.cons rfl (fun K2 hK2 => ?_) ?_
          · go_simp
            refine hK2 _ _ ?_
            refine wpAnyIn_ready (rs := [2]) (by kernel_rfl) (by simp) ?_
            refine AllReadyIn.cons rfl (fun K3 hK3 => ?_) ?_
            · go_simp
              refine hK3 _ _ ?_
              refine wpAnyIn_ready (rs := [3]) (by kernel_rfl) (by simp) ?_
              refine AllReadyIn.cons rfl (fun K4 hK4 => ?_) ?_
              · go_simp
                refine hK4 _ _ ?_
                refine wpAnyIn_ready (rs := [4]) (by kernel_rfl) (by simp) ?_
                refine AllReadyIn.cons rfl (fun K5 hK5 => ?_) ?_
                · go_simp
                  refine hK5 _ _ ?_
                  refine wpAnyIn_ready (rs := [5]) (by kernel_rfl) (by simp) ?_
                  refine AllReadyIn.cons rfl (fun K6 hK6 => ?_) ?_
                  · refine step_append_in rfl (.tmp 30) (.tmp 34) 22 rfl _ _ rfl rfl hrun ?_
                    refine hK6 _ _ ?_
                    refine wpAnyIn_ready (rs := [6]) (by kernel_rfl) (by simp) ?_
                    refine AllReadyIn.cons rfl (fun K7 hK7 => ?_) ?_
                    · go_simp
                      refine hK7 _ _ ?_
                      refine wpAnyIn_done (by kernel_rfl) ?_ _
                      exact hpost
                    exact AllReadyIn.nil
                  exact AllReadyIn.nil
                exact AllReadyIn.nil
              exact AllReadyIn.nil
            exact AllReadyIn.nil
          exact AllReadyIn.nil
        refine AllReadyIn.cons rfl (fun K8 hK8 => ?_) ?_
        · go_simp
          refine hK8 _ _ ?_
          refine wpAnyIn_ready (rs := [0, 2]) (by kernel_rfl) (by simp) ?_
          refine AllReadyIn.cons rfl (fun K9 hK9 => ?_) ?_
          · go_simp
            refine hK9 _ _ ?_
            refine wpAnyIn_ready (rs := [2]) (by kernel_rfl) (by simp) ?_
            refine AllReadyIn.cons rfl (fun K10 hK10 => ?_) ?_
            · go_simp
              refine hK10 _ _ ?_
              refine wpAnyIn_ready (rs := [3]) (by kernel_rfl) (by simp) ?_
              refine AllReadyIn.cons rfl (fun K11 hK11 => ?_) ?_
              · go_simp
                refine hK11 _ _ ?_
                refine wpAnyIn_ready (rs := [4]) (by kernel_rfl) (by simp) ?_
                refine AllReadyIn.cons rfl (fun K12 hK12 => ?_) ?_
                · go_simp
                  refine hK12 _ _ ?_
                  refine wpAnyIn_ready (rs := [5]) (by kernel_rfl) (by simp) ?_
                  refine AllReadyIn.cons rfl (fun K13 hK13 => ?_) ?_
                  · refine step_append_in rfl (.tmp 30) (.tmp 34) 22 rfl _ _ rfl rfl hrun ?_
                    refine hK13 _ _ ?_
                    refine wpAnyIn_ready (rs := [6]) (by kernel_rfl) (by simp) ?_
                    refine AllReadyIn.cons rfl (fun K14 hK14 => ?_) ?_
                    · go_simp
                      refine hK14 _ _ ?_
                      refine wpAnyIn_done (by kernel_rfl) ?_ _
                      exact hpost
                    exact AllReadyIn.nil
                  exact AllReadyIn.nil
                exact AllReadyIn.nil
              exact AllReadyIn.nil
            exact AllReadyIn.nil
          refine AllReadyIn.cons rfl (fun K15 hK15 => ?_) ?_
          · go_simp
            refine hK15 _ _ ?_
            refine wpAnyIn_ready (rs := [0, 3]) (by kernel_rfl) (by simp) ?_
            refine AllReadyIn.cons rfl (fun K16 hK16 => ?_) ?_
            · go_simp
              refine hK16 _ _ ?_
              refine wpAnyIn_ready (rs := [3]) (by kernel_rfl) (by simp) ?_
              refine AllReadyIn.cons rfl (fun K17 hK17 => ?_) ?_
              · go_simp
                refine hK17 _ _ ?_
                refine wpAnyIn_ready (rs := [4]) (by kernel_rfl) (by simp) ?_
                refine AllReadyIn.cons rfl (fun K18 hK18 => ?_) ?_
                · go_simp
                  refine hK18 _ _ ?_
                  refine wpAnyIn_ready (rs := [5]) (by kernel_rfl) (by simp) ?_
                  refine AllReadyIn.cons rfl (fun K19 hK19 => ?_) ?_
                  · refine step_append_in rfl (.tmp 30) (.tmp 34) 22 rfl _ _ rfl rfl hrun ?_
                    refine hK19 _ _ ?_
                    refine wpAnyIn_ready (rs := [6]) (by kernel_rfl) (by simp) ?_
                    refine AllReadyIn.cons rfl (fun K20 hK20 => ?_) ?_
                    · go_simp
                      refine hK20 _ _ ?_
                      refine wpAnyIn_done (by kernel_rfl) ?_ _
                      exact hpost
                    exact AllReadyIn.nil
                  exact AllReadyIn.nil
                exact AllReadyIn.nil
              exact AllReadyIn.nil
            refine AllReadyIn.cons rfl (fun K21 hK21 => ?_) ?_
            · go_simp
              refine hK21 _ _ ?_
              refine wpAnyIn_ready (rs := [0, 4]) (by kernel_rfl) (by simp) ?_
              refine AllReadyIn.cons rfl (fun K22 hK22 => ?_) ?_
              · go_simp
                refine hK22 _ _ ?_
                refine wpAnyIn_ready (rs := [4]) (by kernel_rfl) (by simp) ?_
                refine AllReadyIn.cons rfl (fun K23 hK23 => ?_) ?_
                · go_simp
                  refine hK23 _ _ ?_
                  refine wpAnyIn_ready (rs := [5]) (by kernel_rfl) (by simp) ?_
                  refine AllReadyIn.cons rfl (fun K24 hK24 => ?_) ?_
                  · refine step_append_in rfl (.tmp 30) (.tmp 34) 22 rfl _ _ rfl rfl hrun ?_
                    refine hK24 _ _ ?_
                    refine wpAnyIn_ready (rs := [6]) (by kernel_rfl) (by simp) ?_
                    refine AllReadyIn.cons rfl (fun K25 hK25 => ?_) ?_
                    · go_simp
                      refine hK25 _ _ ?_
                      refine wpAnyIn_done (by kernel_rfl) ?_ _
                      exact hpost
                    exact AllReadyIn.nil
                  exact AllReadyIn.nil
                exact AllReadyIn.nil
              refine AllReadyIn.cons rfl (fun K26 hK26 => ?_) ?_
              · go_simp
                refine hK26 _ _ ?_
                refine wpAnyIn_ready (rs := [0]) (by kernel_rfl) (by simp) ?_
                refine AllReadyIn.cons rfl (fun K27 hK27 => ?_) ?_
                · go_simp
                  refine hK27 _ _ ?_
                  refine wpAnyIn_ready (rs := [5]) (by kernel_rfl) (by simp) ?_
                  refine AllReadyIn.cons rfl (fun K28 hK28 => ?_) ?_
                  · refine step_append_in rfl (.tmp 30) (.tmp 34) 22 rfl _ _ rfl rfl hrun ?_
                    refine hK28 _ _ ?_
                    refine wpAnyIn_ready (rs := [6]) (by kernel_rfl) (by simp) ?_
                    refine AllReadyIn.cons rfl (fun K29 hK29 => ?_) ?_
                    · go_simp
                      refine hK29 _ _ ?_
                      refine wpAnyIn_done (by kernel_rfl) ?_ _
                      exact hpost
                    exact AllReadyIn.nil
                  exact AllReadyIn.nil
                exact AllReadyIn.nil
              exact AllReadyIn.nil
            exact AllReadyIn.nil
          exact AllReadyIn.nil
        exact AllReadyIn.nil
  case done =>
    rintro D ys W hD rfl ⟨⟨⟨hsz2, v, hv, hrow, hne⟩, h2, h3⟩, hB⟩ hK
    obtain ⟨A', c', rfl⟩ := own_slice' hrow
    have hc := hv.cell
    have c2 := h2.cell
    have f2 := h2.frozen
    have c3 := h3.cell
    have f3 := h3.frozen
    gi_wp2
    have hf : bf l m = (bsOf l (uptoI m m), true) := by
      unfold bf
      rw [if_pos (List.all_eq_true.2 fun x hx => decide_eq_true (hne.out x hx))]
    have k2 := (h2.set (.slice A' (bsOf l (uptoI m m)).length c')).kept (grownBy_setCell' _ (w.heap.size + 1) (.bool true)) (by simp)
    have k3 := (h3.kept (grownBy_setCell' _ w.heap.size (.slice A' (bsOf l (uptoI m m)).length c')) (by simp)).set (.bool true)
    have hK' := (KeepsOthers.setCell _ ⟨w.heap.size + 1, 0, none⟩ (.bool true)).same D _ ((KeepsOthers.setCell W ⟨w.heap.size, 0, none⟩ (.slice A' (bsOf l (uptoI m m)).length c')).same D _ hK rfl) rfl
    have hrow2 := (hrow.kept (grownBy_setCell' W w.heap.size (.slice A' (bsOf l (uptoI m m)).length c')) (.inr (h2.not_row (by decide) hrow).symm))
    have h3' := h3.kept (grownBy_setCell' W w.heap.size (.slice A' (bsOf l (uptoI m m)).length c')) (by simp)
    have hrow3 := hrow2.kept (grownBy_setCell' _ (w.heap.size + 1) (.bool true)) (.inr (h3'.not_row (by decide) hrow2).symm)
    have e2 := cell_kept k2.cell (grownBy_putObj' _ D (.deferred none)) (fun r e => by cases e; exact ⟨_, hK', rfl⟩)
    have e3 := cell_kept k3.cell (grownBy_putObj' _ D (.deferred none)) (fun r e => by cases e; exact ⟨_, hK', rfl⟩)
    have hBf := ((hB.setCell (p := ⟨w.heap.size, 0, none⟩) (Nat.le_refl _) (.slice A' (bsOf l (uptoI m m)).length c')).setCell (p := ⟨w.heap.size + 1, 0, none⟩) (by simp) (.bool true)).trans (belowK_b (w := w) (Nat.le_refl _) _ D _ (.deferred none) (by simp at hD; omega) hK' rfl rfl)
    refine ⟨by simp, .inl ⟨_, _, rfl, run_takeDeferred hK', ?_⟩⟩
    refine ⟨.tuple #[.slice A' (bsOf l (uptoI m m)).length c', .bool true], ?_, ?_⟩
    · simp [results, Try.f25, go_sem, e2, e3]
    · unfold Post
      rw [hf]
      exact ⟨_, rfl, own_weaken' (ownsRow_putObj hrow3 _ hK' rfl) (by omega), hBf⟩
  case stop =>
    rintro D c pre W hD ⟨k, hk, rfl⟩ ⟨⟨rfl, hne, h2, h3⟩, hB⟩ hK
    gi_wp2
    have hf : bf l m = ([], false) := by
      unfold bf
      rw [if_neg]
      intro h
      obtain ⟨x, hx, he⟩ := hne
      have hm := List.all_eq_true.1 h x (uptoI_mem m k hk x hx)
      exact of_decide_eq_true hm he
    have e2 := cell_kept h2.cell (grownBy_putObj' _ D (.deferred none)) (fun r e => by cases e; exact ⟨_, hK, rfl⟩)
    have e3 := cell_kept h3.cell (grownBy_putObj' _ D (.deferred none)) (fun r e => by cases e; exact ⟨_, hK, rfl⟩)
    have hBf := hB.trans (belowK_b (w := w) (Nat.le_refl _) _ D _ (.deferred none) (by simp at hD; omega) hK rfl rfl)
    refine ⟨by simp, .inl ⟨_, _, rfl, run_takeDeferred hK, ?_⟩⟩
    refine ⟨.tuple #[.slice none 0 0, .bool false], ?_, ?_⟩
    · simp [results, Try.f25, go_sem, e2, e3]
    · unfold Post
      rw [hf]
      exact ⟨_, rfl, World.ownsRow_nil _ _ _ _, hBf⟩
set_option maxHeartbeats 4000000 in
theorem bits_odd (A : Option Addr) (n c : Nat) (w : World) (hn : (n : Int) % 2 = 1) (hm : n ≤ 9223372036854775807) :
    Calls Try.prog 25 #[.slice A n c] w fun e w' => e = .returned (.tuple #[.slice none 0 0, .bool false]) ∧ Below w.heap.size w w' := by
  have c0 : decide ((n : Int) % 2 > 0) = true := decide_eq_true (by omega)
  have c1 : 0 < (n : Int) % 2 := by omega
  clear hn
  go_enter Try.func25, Try.ntmps25
  go_wp2
  exact bodyPost_ret (v := .tuple #[.slice none 0 0, .bool false]) (by simp [results, Try.results25, go_sem]) rfl ⟨rfl, ((Below.refl _ w).alloc (Nat.le_refl _) _).alloc (by simp) _⟩
set_option maxHeartbeats 4000000 in
theorem bits_long (A : Option Addr) (n c : Nat) (w : World) (hn : (n : Int) % 2 = 0) (hm : n ≤ 9223372036854775807) (hl : 400 < n) :
    Calls Try.prog 25 #[.slice A n c] w fun e w' => e = .returned (.tuple #[.slice none 0 0, .bool false]) ∧ Below w.heap.size w w' := by
  have c0 : ¬ (0 < (n : Int) % 2) := by omega
  have c1 : 400 < (n : Int) := by omega
  go_enter Try.func25, Try.ntmps25
  go_wp2
  exact bodyPost_ret (v := .tuple #[.slice none 0 0, .bool false]) (by simp [results, Try.results25, go_sem]) rfl ⟨rfl, ((Below.refl _ w).alloc (Nat.le_refl _) _).alloc (by simp) _⟩
set_option maxHeartbeats 4000000 in
theorem bits_no (A : Option Addr) (n c : Nat) (w : World) (hn : (n : Int) % 2 = 0) (hl : n ≤ 400)
    (hall : ∀ W : World, Below w.heap.size w W → Calls Try.prog 40 #[.slice A n c, .func (.func 41) #[] #[]] W fun e w' => e = .returned (.bool false) ∧ Below W.heap.size W w') :
    Calls Try.prog 25 #[.slice A n c] w fun e w' => e = .returned (.tuple #[.slice none 0 0, .bool false]) ∧ Below w.heap.size w w' := by
  have c0 : ¬ (0 < (n : Int) % 2) := by omega
  have c1 : ¬ (400 < (n : Int)) := by omega
  have hc := hall _ (((Below.refl _ w).alloc (Nat.le_refl _) (.cells #[.slice none 0 0] 22)).alloc (by simp) (.cells #[.bool false] 4))
  clear hall
  go_enter Try.func25, Try.ntmps25
  go_wp2_with fail
  refine hc.mono ?_
  clear hc
  rintro e W1 ⟨rfl, hb1⟩
  have hB1 : Below w.heap.size w W1 := ((((Below.refl _ w).alloc (Nat.le_refl _) _).alloc (by simp) _).trans (hb1.mono (by simp; omega)))
  have b2 : Boxed W1 w.heap.size 22 (.slice none 0 0) := (hb1.block _ (by simp; omega)).trans ((Boxed.new w 22 (.slice none 0 0)).alloc _)
  have b3 : Boxed W1 (w.heap.size + 1) 4 (.bool false) := (hb1.block _ (by simp)).trans (by have := Boxed.new (w.alloc (.cells #[.slice none 0 0] 22)) 4 (.bool false); rwa [World.size_alloc] at this)
  have c2 := b2.cell
  have f2 := b2.frozen
  have c3 := b3.cell
  have f3 := b3.frozen
  have hB2 := (hB1.setCell (p := ⟨w.heap.size, 0, none⟩) (Nat.le_refl _) (.slice none 0 0)).setCell (p := ⟨w.heap.size + 1, 0, none⟩) (by simp) (.bool false)
  have e2 := ((b2.set (.slice none 0 0)).kept (grownBy_setCell' _ (w.heap.size + 1) (.bool false)) (by simp)).cell
  have e3 := ((b3.kept (grownBy_setCell' _ w.heap.size (.slice none 0 0)) (by simp)).set (.bool false)).cell
  have HB2 := Hd.mk hB2
  clear hb1 hB1 b2 b3 hB2
  go_wp2
  exact bodyPost_ret (v := .tuple #[.slice none 0 0, .bool false]) (by simp [results, Try.results25, go_sem, e2, e3]) rfl ⟨rfl, HB2.out⟩
end Go.Proofs.Ytegkgandlpiobaa.HB

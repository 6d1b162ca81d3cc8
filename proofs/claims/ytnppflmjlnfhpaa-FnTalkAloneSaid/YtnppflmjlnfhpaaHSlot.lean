/- The state of spec.RunTalk behind its pointer: what its parts are, and how they change. Conditions: each lemma's own. -/
import Derived.Test.YtnppflmjlnfhpaaPA0
import Derived.Test.YtnppflmjlnfhpaaPA1
import Derived.Test.YtnppflmjlnfhpaaHTalk
set_option linter.unusedVariables false
set_option linter.unusedSimpArgs false
namespace Go.Proofs.Ytnppflmjlnfhpaa.Sk
open Go Go.RowKit Go.Proofs.Ytnppflmjlnfhpaa.PA Go.Proofs.YtnppflmjlnfhpaaW.PrintWords Go.Proofs.YtnppflmjlnfhpaaW.PrintLast Go.Proofs.YtnppflmjlnfhpaaW.PrintMore
structure Sp where
  order : List Int
  hits : Int
  slots : Int
  qs : List Int
  ws : List Int
  tr : List Int
  ds : List Int
abbrev tT : Nat := 59
def cells (s : Sp) (vo : Value) (gq gw gt cq cw ct n : Nat) (Ad : Option Addr) (cd : Nat) : Array Value :=
  #[vo, .int .i64 s.hits, .int .i64 s.slots, .bool false, .slice (some ⟨gq, 0, none⟩) n cq, .slice (some ⟨gw, 0, none⟩) n cw, .slice (some ⟨gt, 0, none⟩) n ct, .slice Ad s.ds.length cd]
/-- the state at a world: its block, its rows, and that they are apart -/
structure Fc (w W : World) (gT gq gw gt cq cw ct n : Nat) (s : Sp) (vo : Value) (Ad : Option Addr) (cd : Nat) : Prop where
  blk : W.heap[gT]? = some (.cells (cells s vo gq gw gt cq cw ct n Ad cd) tT (0, 0))
  rq : Kd.R (Kd.int .i64) 3 W w.heap.size (fun k => k = gq) (.slice (some ⟨gq, 0, none⟩) n cq) s.qs
  rw_ : Kd.R (Kd.int .i64) 3 W w.heap.size (fun k => k = gw) (.slice (some ⟨gw, 0, none⟩) n cw) s.ws
  rt : Kd.R (Kd.int .i64) 3 W w.heap.size (fun k => k = gt) (.slice (some ⟨gt, 0, none⟩) n ct) s.tr
  ro : Kd.R (Kd.int .i64) 3 W w.heap.size (fun k => k ≠ gq ∧ k ≠ gw ∧ k ≠ gt) vo s.order
  cdr : Kd.C (Kd.int .i64) w Ad s.ds.length s.ds
  cdl : s.ds.length ≤ cd
  bel : Below w.heap.size w W
  ge : w.heap.size ≤ gT
  qw : gq ≠ gw
  qt : gq ≠ gt
  wt : gw ≠ gt
section
variable {w W : World} {gT gq gw gt cq cw ct n : Nat} {s : Sp} {vo : Value} {Ad : Option Addr} {cd : Nat}
theorem Fc.below (h : Fc w W gT gq gw gt cq cw ct n s vo Ad cd) {W' : World} (hb : Below W.heap.size W W') : Fc w W' gT gq gw gt cq cw ct n s vo Ad cd :=
  ⟨blk_below h.blk hb, Kd.R_below h.rq hb, Kd.R_below h.rw_ hb, Kd.R_below h.rt hb, Kd.R_below h.ro hb, h.cdr, h.cdl, below_step h.bel hb, h.ge, h.qw, h.qt, h.wt⟩
theorem Fc.drew (h : Fc w W gT gq gw gt cq cw ct n s vo Ad cd) : Fc w W.drew gT gq gw gt cq cw ct n s vo Ad cd := h.below (below_drew1 (Below.refl _ _))
theorem Fc.geq (h : Fc w W gT gq gw gt cq cw ct n s vo Ad cd) : w.heap.size ≤ gq ∧ w.heap.size ≤ gw ∧ w.heap.size ≤ gt :=
  ⟨Kd.R_base h.rq gq rfl, Kd.R_base h.rw_ gw rfl, Kd.R_base h.rt gt rfl⟩
theorem Fc.typ (h : Fc w W gT gq gw gt cq cw ct n s vo Ad cd) : (∃ c, W.heap[gq]? = some (.cells c 3 (0, 0))) ∧ (∃ c, W.heap[gw]? = some (.cells c 3 (0, 0))) ∧ ∃ c, W.heap[gt]? = some (.cells c 3 (0, 0)) :=
  ⟨Kd.R_typed h.rq gq rfl, Kd.R_typed h.rw_ gw rfl, Kd.R_typed h.rt gt rfl⟩
theorem Fc.setq (h : Fc w W gT gq gw gt cq cw ct n s vo Ad cd) (i : Nat) (v : Int) : Fc w (W.setCell ⟨gq, i, none⟩ (.int .i64 v)) gT gq gw gt cq cw ct n { s with qs := s.qs.set i v } vo Ad cd := by
  obtain ⟨c, hc⟩ := h.typ.1
  have hp := Kd.R_putn h.rq (i : Int) v
  rw [Int.toNat_natCast] at hp
  exact ⟨blk_far h.blk (p := ⟨gq, i, none⟩) (blk_ne h.blk hc (by decide)) _, hp, Kd.R_far h.rw_ (p := ⟨gq, i, none⟩) (fun k hk => by rw [hk]; exact h.qw.symm) _, Kd.R_far h.rt (p := ⟨gq, i, none⟩) (fun k hk => by rw [hk]; exact h.qt.symm) _,
    Kd.R_far h.ro (p := ⟨gq, i, none⟩) (fun k hk => hk.1) _, h.cdr, h.cdl, below_set h.bel h.geq.1, h.ge, h.qw, h.qt, h.wt⟩
theorem Fc.setw (h : Fc w W gT gq gw gt cq cw ct n s vo Ad cd) (i : Nat) (v : Int) : Fc w (W.setCell ⟨gw, i, none⟩ (.int .i64 v)) gT gq gw gt cq cw ct n { s with ws := s.ws.set i v } vo Ad cd := by
  obtain ⟨c, hc⟩ := h.typ.2.1
  have hp := Kd.R_putn h.rw_ (i : Int) v
  rw [Int.toNat_natCast] at hp
  exact ⟨blk_far h.blk (p := ⟨gw, i, none⟩) (blk_ne h.blk hc (by decide)) _, Kd.R_far h.rq (p := ⟨gw, i, none⟩) (fun k hk => by rw [hk]; exact h.qw) _, hp, Kd.R_far h.rt (p := ⟨gw, i, none⟩) (fun k hk => by rw [hk]; exact h.wt.symm) _,
    Kd.R_far h.ro (p := ⟨gw, i, none⟩) (fun k hk => hk.2.1) _, h.cdr, h.cdl, below_set h.bel h.geq.2.1, h.ge, h.qw, h.qt, h.wt⟩
theorem Fc.sett (h : Fc w W gT gq gw gt cq cw ct n s vo Ad cd) (i : Nat) (v : Int) : Fc w (W.setCell ⟨gt, i, none⟩ (.int .i64 v)) gT gq gw gt cq cw ct n { s with tr := s.tr.set i v } vo Ad cd := by
  obtain ⟨c, hc⟩ := h.typ.2.2
  have hp := Kd.R_putn h.rt (i : Int) v
  rw [Int.toNat_natCast] at hp
  exact ⟨blk_far h.blk (p := ⟨gt, i, none⟩) (blk_ne h.blk hc (by decide)) _, Kd.R_far h.rq (p := ⟨gt, i, none⟩) (fun k hk => by rw [hk]; exact h.qt) _, Kd.R_far h.rw_ (p := ⟨gt, i, none⟩) (fun k hk => by rw [hk]; exact h.wt) _, hp,
    Kd.R_far h.ro (p := ⟨gt, i, none⟩) (fun k hk => hk.2.2) _, h.cdr, h.cdl, below_set h.bel h.geq.2.2, h.ge, h.qw, h.qt, h.wt⟩
/-- an append to the order: all but its own row stays -/
theorem Fc.grown (h : Fc w W gT gq gw gt cq cw ct n s vo Ad cd) {W' : World} (hg : W.grownBy W' vo.ownBlock) (hb : Below w.heap.size w W') :
    W'.heap[gT]? = some (.cells (cells s vo gq gw gt cq cw ct n Ad cd) tT (0, 0)) ∧ Kd.R (Kd.int .i64) 3 W' w.heap.size (fun k => k = gq) (.slice (some ⟨gq, 0, none⟩) n cq) s.qs ∧ Kd.R (Kd.int .i64) 3 W' w.heap.size (fun k => k = gw) (.slice (some ⟨gw, 0, none⟩) n cw) s.ws ∧
      Kd.R (Kd.int .i64) 3 W' w.heap.size (fun k => k = gt) (.slice (some ⟨gt, 0, none⟩) n ct) s.tr :=
  ⟨blk_grown h.blk hg (Kd.R_ne h.ro h.blk (by decide)), Kd.R_grown h.rq hg (fun k hk e => by subst hk; exact (h.ro.1 _ e.symm).1 rfl), Kd.R_grown h.rw_ hg (fun k hk e => by subst hk; exact (h.ro.1 _ e.symm).2.1 rfl), Kd.R_grown h.rt hg (fun k hk e => by subst hk; exact (h.ro.1 _ e.symm).2.2 rfl)⟩
theorem Fc.append (h : Fc w W gT gq gw gt cq cw ct n s vo Ad cd) {W' : World} (hg : W.grownBy W' vo.ownBlock) (hb : Below w.heap.size w W') {v1 : Value} {ord : List Int}
    (ho : Kd.R (Kd.int .i64) 3 W' w.heap.size (fun k => k ≠ gq ∧ k ≠ gw ∧ k ≠ gt) v1 ord) : Fc w (W'.setCell ⟨gT, 0, none⟩ v1) gT gq gw gt cq cw ct n { s with order := ord } v1 Ad cd := by
  obtain ⟨h1, h2, h3, h4⟩ := h.grown hg hb
  exact ⟨blk_put h1 0 v1 rfl, Kd.R_set h2 h1 (by decide) 0 v1, Kd.R_set h3 h1 (by decide) 0 v1, Kd.R_set h4 h1 (by decide) 0 v1, Kd.R_set ho h1 (by decide) 0 v1, h.cdr, h.cdl, below_set hb h.ge, h.ge, h.qw, h.qt, h.wt⟩
/-- a store into the state's own block -/
theorem Fc.own (h : Fc w W gT gq gw gt cq cw ct n s vo Ad cd) (j : Nat) (u : Value) {s' : Sp} {vo' : Value} {Ad' : Option Addr} {cd' : Nat} (hq : s'.qs = s.qs) (hw : s'.ws = s.ws) (ht : s'.tr = s.tr)
    (hc : (cells s vo gq gw gt cq cw ct n Ad cd).setIfInBounds j u = cells s' vo' gq gw gt cq cw ct n Ad' cd') (ho : Kd.R (Kd.int .i64) 3 W w.heap.size (fun k => k ≠ gq ∧ k ≠ gw ∧ k ≠ gt) vo' s'.order)
    (hd : Kd.C (Kd.int .i64) w Ad' s'.ds.length s'.ds) (hl : s'.ds.length ≤ cd') : Fc w (W.setCell ⟨gT, j, none⟩ u) gT gq gw gt cq cw ct n s' vo' Ad' cd' := by
  refine ⟨blk_put h.blk j u hc, ?_, ?_, ?_, Kd.R_set ho h.blk (by decide) j u, hd, hl, below_set h.bel h.ge, h.ge, h.qw, h.qt, h.wt⟩
  · rw [hq]; exact Kd.R_set h.rq h.blk (by decide) j u
  · rw [hw]; exact Kd.R_set h.rw_ h.blk (by decide) j u
  · rw [ht]; exact Kd.R_set h.rt h.blk (by decide) j u
/-- the cells that a walk reads -/
theorem Fc.flds (h : Fc w W gT gq gw gt cq cw ct n s vo Ad cd) : W.cell? ⟨gT, 0, none⟩ = some vo ∧ W.cell? ⟨gT, 1, none⟩ = some (.int .i64 s.hits) ∧ W.cell? ⟨gT, 2, none⟩ = some (.int .i64 s.slots) ∧ W.cell? ⟨gT, 3, none⟩ = some (.bool false) ∧
    W.cell? ⟨gT, 4, none⟩ = some (.slice (some ⟨gq, 0, none⟩) n cq) ∧ W.cell? ⟨gT, 5, none⟩ = some (.slice (some ⟨gw, 0, none⟩) n cw) ∧ W.cell? ⟨gT, 6, none⟩ = some (.slice (some ⟨gt, 0, none⟩) n ct) ∧ W.cell? ⟨gT, 7, none⟩ = some (.slice Ad s.ds.length cd) ∧ ∀ j, W.frozen? ⟨gT, j, none⟩ = false :=
  ⟨(blk_cell h.blk 0).trans rfl, (blk_cell h.blk 1).trans rfl, (blk_cell h.blk 2).trans rfl, (blk_cell h.blk 3).trans rfl, (blk_cell h.blk 4).trans rfl, (blk_cell h.blk 5).trans rfl, (blk_cell h.blk 6).trans rfl, (blk_cell h.blk 7).trans rfl, fun j => blk_frozen h.blk j⟩
theorem row_cell {g cap : Nat} {ok : Nat → Prop} {xs : List Int} {b : Nat} (h : Kd.R (Kd.int .i64) 3 W b ok (.slice (some ⟨g, 0, none⟩) n cap) xs) (i : Nat) (hi : i < n) : W.cell? ⟨g, i, none⟩ = some (.int .i64 (xs.getD i 0)) ∧ W.frozen? ⟨g, i, none⟩ = false := by
  have hp := Kd.R_celln 0 h (i : Int) (by omega) (by omega)
  rw [Int.toNat_natCast] at hp
  refine ⟨?_, hp.2⟩
  have h2 := hp.1
  simp only [rdOf, Int.toNat_natCast] at h2
  exact h2
theorem Fc.cq_ (h : Fc w W gT gq gw gt cq cw ct n s vo Ad cd) (i : Nat) (hi : i < n) : W.cell? ⟨gq, i, none⟩ = some (.int .i64 (s.qs.getD i 0)) ∧ W.frozen? ⟨gq, i, none⟩ = false := row_cell h.rq i hi
theorem Fc.cw_ (h : Fc w W gT gq gw gt cq cw ct n s vo Ad cd) (i : Nat) (hi : i < n) : W.cell? ⟨gw, i, none⟩ = some (.int .i64 (s.ws.getD i 0)) ∧ W.frozen? ⟨gw, i, none⟩ = false := row_cell h.rw_ i hi
theorem Fc.ct_ (h : Fc w W gT gq gw gt cq cw ct n s vo Ad cd) (i : Nat) (hi : i < n) : W.cell? ⟨gt, i, none⟩ = some (.int .i64 (s.tr.getD i 0)) ∧ W.frozen? ⟨gt, i, none⟩ = false := row_cell h.rt i hi
theorem Fc.lens (h : Fc w W gT gq gw gt cq cw ct n s vo Ad cd) : s.qs.length = n ∧ s.ws.length = n ∧ s.tr.length = n := ⟨(Kd.R_reads' h.rq).1.symm, (Kd.R_reads' h.rw_).1.symm, (Kd.R_reads' h.rt).1.symm⟩
end
set_option maxHeartbeats 4000000 in
set_option maxRecDepth 100000 in
theorem draw {w W : World} {gT gq gw gt cq cw ct n : Nat} {s : Sp} {vo : Value} {Ad : Option Addr} {cd : Nat} (h : Fc w W gT gq gw gt cq cw ct n s vo Ad cd) (i : Nat) (hi : i ≤ 10) :
    Calls Try.prog 43 #[.pointer (some ⟨gT, 0, none⟩), .int .i64 (i : Int)] W fun e W' => e = .returned (.int .i64 (s.ds.headD (33 * (i : Int)))) ∧ (∃ Ad' cd', Fc w W' gT gq gw gt cq cw ct n { s with ds := s.ds.tail } vo Ad' cd') ∧ ∀ k, k ≠ gT → W'.heap[k]? = W.heap[k]? := by
  have HF := Aside0.mk h
  obtain ⟨k0, k1, k2, k3, k4, k5, k6, k7, kf⟩ := h.flds
  clear k0 k1 k2 k3 k4 k5 k6 h
  have kf7 := kf 7
  clear kf
  have e1 : wrap64 (33 * (i : Int)) = 33 * (i : Int) := by unfold wrap64; omega
  have e2 : IntKind.i64.wrap (33 * (i : Int)) = 33 * (i : Int) := by rw [IntKind.wrap_i64]; omega
  cases hds : s.ds with
  | nil =>
    rw [hds] at k7
    go_enter Try.func43, Try.ntmps43
    go_wp2_with fail
    go_ret
    refine ⟨rfl, ⟨Ad, cd, ?_⟩, fun _ _ => rfl⟩
    have h2 := HF.out
    have e : ({ s with ds := [].tail } : Sp) = s := by cases s; simp only at hds; subst hds; rfl
    rw [e]
    exact h2
  | cons dd tl =>
    rw [hds] at k7
    have hcdr := HF.out.cdr
    have hcd := HF.out.cdl
    rw [hds] at hcdr hcd
    rw [List.length_cons] at hcd
    obtain ⟨adA, eA, hxA⟩ := Kd.at_int (Kd.C_below hcdr HF.out.bel) 0 (by omega) (by simp only [List.length_cons]; omega)
    subst eA
    (try rw [show ((0 : Int)).toNat = 0 from rfl] at hxA)
    (try rw [Addr.add_zero'] at hxA)
    have hxA' : W.cell? adA = some (.int .i64 dd) := hxA
    obtain ⟨i0, hi0, _, hsz0, _⟩ := info_parts info3
    have hcut := cut_from (P := Try.prog) 23 3 .i64 Try.underlying23 hi0 1 hsz0 (some adA) (tl.length + 1) cd 1 (by omega) (by omega)
    have hdr := Kd.C_drop (m := (1 : Int).toNat) (c := cd) hcdr (by simp) hcd
    obtain ⟨A2, hA2⟩ : ∃ A2, A2 = (if cd = (1 : Int).toNat then (some adA) else ((some adA) : Option Addr).map (·.add ((1 : Int).toNat * 1))) := ⟨_, rfl⟩
    obtain ⟨c2, hc2⟩ : ∃ c2, c2 = cd - (1 : Int).toNat := ⟨_, rfl⟩
    rw [← hA2, ← hc2, show tl.length + 1 - (1 : Int).toNat = tl.length by simp] at hcut
    have HDA2 := Aside0.mk (show Kd.C (Kd.int .i64) w A2 tl.length tl by rw [hA2]; exact hdr)
    have HDD2 := Aside0.mk (show tl.length ≤ c2 by rw [hc2, show (1 : Int).toNat = 1 from rfl]; omega)
    have HDS := Aside0.mk hds
    have q9 : ((0 : Int) < ((tl.length + 1 : Nat) : Int)) = True := eq_true (by omega)
    have q9' : ((0 : Int) < (tl.length : Int) + 1) = True := eq_true (by omega)
    have q8 : (((tl.length : Int) + 1) == 0) = false := beq_eq_false_iff_ne.mpr (by omega)
    clear hdr hA2 hc2 hxA hi0 hsz0 hcdr hcd hds
    go_enter Try.func43, Try.ntmps43
    go_wp2_with fail
    go_ret
    exact ⟨rfl, ⟨A2, c2, HF.out.own 7 (.slice A2 tl.length c2) rfl rfl rfl rfl HF.out.ro HDA2.out HDD2.out⟩, fun k hk => Below.heap_setCell W ⟨gT, 7, none⟩ _ k hk⟩
/-! ### the slot as a machine -/
def nowP (q u : Int) : Bool := decide (0 < q) && decide (u = 0)
def now (qs ws : List Int) : Nat → List Int
  | 0 => []
  | j + 1 => now qs ws j ++ (if nowP (qs.getD j 0) (ws.getD j 0) = true then [(j : Int)] else [])
theorem now_mem {qs ws : List Int} {k : Int} : ∀ n, k ∈ now qs ws n → ∃ j : Nat, k = (j : Int) ∧ j < n ∧ nowP (qs.getD j 0) (ws.getD j 0) = true := by
  intro n
  induction n with
  | zero => intro h; simp [now] at h
  | succ n ih =>
    intro h
    rw [now, List.mem_append] at h
    rcases h with h | h
    · obtain ⟨j, h1, h2, h3⟩ := ih h
      exact ⟨j, h1, by omega, h3⟩
    · by_cases c : nowP (qs.getD n 0) (ws.getD n 0) = true
      · rw [if_pos c] at h
        exact ⟨n, by simpa using h, by omega, c⟩
      · rw [if_neg c] at h; simp at h
theorem now_len (qs ws : List Int) : ∀ n, (now qs ws n).length ≤ n := by
  intro n
  induction n with
  | zero => exact Nat.le_refl _
  | succ n ih =>
    rw [now, List.length_append]
    split <;> simp <;> omega
def hit1 (s : Sp) (k : Int) : Sp := { s with tr := s.tr.set k.toNat (s.tr.getD k.toNat 0 + 1), ws := s.ws.set k.toNat (Tk.wait (s.tr.getD k.toNat 0 + 1) (s.ds.headD (33 * k))), ds := s.ds.tail }
def decS (old : List Int) (s : Sp) (j : Nat) : Sp := if 0 < old.getD j 0 then { s with ws := s.ws.set j (s.ws.getD j 0 - 1) } else s
def decL (old : List Int) (s : Sp) : Nat → Sp
  | 0 => s
  | j + 1 => decS old (decL old s j) j
def mid (n : Nat) (s : Sp) : Sp :=
  if (now s.qs s.ws n).length = 1 then { s with qs := s.qs.set ((now s.qs s.ws n).headD 0).toNat (s.qs.getD ((now s.qs s.ws n).headD 0).toNat 0 - 1), tr := s.tr.set ((now s.qs s.ws n).headD 0).toNat 0, order := s.order ++ [(now s.qs s.ws n).headD 0] }
  else if 1 < (now s.qs s.ws n).length then (now s.qs s.ws n).foldl hit1 { s with hits := s.hits + 1 }
  else s
def slot (n : Nat) (s : Sp) : Sp := { decL s.ws (mid n s) n with slots := s.slots + 1 }
def InL (lo hi : Int) (l : List Int) : Prop := ∀ i : Nat, i < l.length → lo ≤ l.getD i 0 ∧ l.getD i 0 ≤ hi
theorem InL.mono {lo hi lo' hi' : Int} {l : List Int} (h : InL lo hi l) (h1 : lo' ≤ lo) (h2 : hi ≤ hi') : InL lo' hi' l := fun i hi => by have := h i hi; omega
theorem getD_set (l : List Int) (i j : Nat) (v : Int) (h : i < l.length) : (l.set i v).getD j 0 = if i = j then v else l.getD j 0 := by
  rw [List.getD_eq_getElem?_getD, List.getD_eq_getElem?_getD, List.getElem?_set]
  by_cases e : i = j
  · subst e; simp [h]
  · simp [e]
theorem InL.set {lo hi : Int} {l : List Int} (h : InL lo hi l) (i : Nat) (v : Int) (h1 : lo ≤ v) (h2 : v ≤ hi) : InL lo hi (l.set i v) := by
  intro j hj
  rw [List.length_set] at hj
  by_cases hi' : i < l.length
  · rw [getD_set l i j v hi']
    split
    · exact ⟨h1, h2⟩
    · exact h j hj
  · rw [List.set_eq_of_length_le (by omega)]; exact h j hj
/-- bounds, and lengths -/
structure InS (m : Int) (n : Nat) (s : Sp) : Prop where
  lq : s.qs.length = n
  lw : s.ws.length = n
  lt : s.tr.length = n
  q : InL (-m) 9 s.qs
  w : InL (-m) 1000 s.ws
  t : InL 0 m s.tr
  d : Tk.Dr s.ds
theorem hit1_in {m : Int} {n : Nat} {s : Sp} (h : InS m n s) (hm : 0 ≤ m) (h6 : n ≤ 6) (j : Nat) (hj : j < n) : InS (m + 1) n (hit1 s (j : Int)) ∧ (0 ≤ s.ds.headD (33 * (j : Int)) ∧ s.ds.headD (33 * (j : Int)) ≤ 1000) ∧ (0 ≤ s.tr.getD j 0 ∧ s.tr.getD j 0 ≤ m) := by
  have hdr : 0 ≤ s.ds.headD (33 * (j : Int)) ∧ s.ds.headD (33 * (j : Int)) ≤ 1000 := by
    have hd := h.d
    match hds : s.ds, hd with
    | [], _ => simp only [List.headD_nil]; omega
    | d :: _, hd => exact hd d (by simp)
  have ht := h.t j (by rw [h.lt]; exact hj)
  have hw := Tk.wait_eq (t := s.tr.getD j 0 + 1) (by omega) hdr.1 hdr.2
  refine ⟨⟨h.lq, ?_, ?_, h.q.mono (by omega) (by omega), ?_, ?_, fun d hd => h.d d (List.mem_of_mem_tail hd)⟩, hdr, ht⟩
  · show (s.ws.set _ _).length = n; rw [List.length_set]; exact h.lw
  · show (s.tr.set _ _).length = n; rw [List.length_set]; exact h.lt
  · show InL (-(m + 1)) 1000 (s.ws.set (j : Int).toNat (Tk.wait (s.tr.getD (j : Int).toNat 0 + 1) (s.ds.headD (33 * (j : Int)))))
    rw [Int.toNat_natCast]
    exact (h.w.mono (by omega) (by omega)).set j _ (by omega) (by omega)
  · show InL 0 (m + 1) (s.tr.set (j : Int).toNat (s.tr.getD (j : Int).toNat 0 + 1))
    rw [Int.toNat_natCast]
    exact (h.t.mono (by omega) (by omega)).set j _ (by omega) (by omega)
theorem hits_in {n : Nat} (h6 : n ≤ 6) : ∀ (l : List Int) {m : Int} {s : Sp}, InS m n s → 0 ≤ m → (∀ k ∈ l, ∃ j : Nat, k = (j : Int) ∧ j < n) → InS (m + l.length) n (l.foldl hit1 s) ∧ (l.foldl hit1 s).order = s.order ∧ (l.foldl hit1 s).hits = s.hits ∧ (l.foldl hit1 s).slots = s.slots := by
  intro l
  induction l with
  | nil => intro m s h hm _; exact ⟨by simpa using h, rfl, rfl, rfl⟩
  | cons k l ih =>
    intro m s h hm hl
    obtain ⟨j, rfl, hj⟩ := hl k (by simp)
    obtain ⟨h1, _, _⟩ := hit1_in h hm h6 j hj
    obtain ⟨k1, k2, k3, k4⟩ := ih h1 (by omega) (fun x hx => hl x (by simp [hx]))
    rw [List.foldl_cons]
    refine ⟨?_, k2, k3, k4⟩
    have e : m + 1 + (l.length : Int) = m + ((((j : Int) :: l).length : Nat) : Int) := by simp; omega
    rw [← e]; exact k1
theorem decS_in {m : Int} {n : Nat} {s : Sp} (old : List Int) (h : InS m n s) (hm : 0 ≤ m) (j : Nat) (hj : j < n) : InS (m + 1) n (decS old s j) ∧ (decS old s j).order = s.order ∧ (decS old s j).hits = s.hits ∧ (decS old s j).slots = s.slots ∧ (-m ≤ s.ws.getD j 0 ∧ s.ws.getD j 0 ≤ 1000) := by
  have hw := h.w j (by rw [h.lw]; exact hj)
  unfold decS
  by_cases c : 0 < old.getD j 0
  · rw [if_pos c]
    refine ⟨⟨h.lq, ?_, h.lt, h.q.mono (by omega) (by omega), ?_, h.t.mono (by omega) (by omega), h.d⟩, rfl, rfl, rfl, hw⟩
    · show (s.ws.set _ _).length = n; rw [List.length_set]; exact h.lw
    · exact (h.w.mono (by omega) (by omega)).set j _ (by omega) (by omega)
  · rw [if_neg c]
    exact ⟨⟨h.lq, h.lw, h.lt, h.q.mono (by omega) (by omega), h.w.mono (by omega) (by omega), h.t.mono (by omega) (by omega), h.d⟩, rfl, rfl, rfl, hw⟩
theorem decL_in {m : Int} {n : Nat} {s : Sp} (old : List Int) (h : InS m n s) (hm : 0 ≤ m) : ∀ j : Nat, j ≤ n → InS (m + j) n (decL old s j) ∧ (decL old s j).order = s.order ∧ (decL old s j).hits = s.hits ∧ (decL old s j).slots = s.slots := by
  intro j
  induction j with
  | zero => intro _; exact ⟨by simpa [decL] using h, rfl, rfl, rfl⟩
  | succ j ih =>
    intro hj
    obtain ⟨h1, h2, h3, h4⟩ := ih (by omega)
    obtain ⟨k1, k2, k3, k4, _⟩ := decS_in old h1 (by omega) j (by omega)
    refine ⟨?_, k2.trans h2, k3.trans h3, k4.trans h4⟩
    have e : m + (j : Int) + 1 = m + ((j + 1 : Nat) : Int) := by omega
    rw [← e]; exact k1
structure Inv (n : Nat) (s : Sp) : Prop where
  n6 : n ≤ 6
  sl : 0 ≤ s.slots ∧ s.slots ≤ 2000
  ins : InS (20 * s.slots) n s
  ht : 0 ≤ s.hits ∧ s.hits ≤ s.slots
  od : (s.order.length : Int) ≤ s.slots
theorem now_nat {qs ws : List Int} {n : Nat} : ∀ k ∈ now qs ws n, ∃ j : Nat, k = (j : Int) ∧ j < n := fun k hk => by
  obtain ⟨j, h1, h2, _⟩ := now_mem _ hk
  exact ⟨j, h1, h2⟩
theorem mid_in {n : Nat} {s : Sp} (h : Inv n s) : InS (20 * s.slots + 6) n (mid n s) ∧ (mid n s).slots = s.slots ∧ (0 ≤ (mid n s).hits ∧ (mid n s).hits ≤ s.slots + 1) ∧ ((mid n s).order.length : Int) ≤ s.slots + 1 := by
  have hs := h.sl
  have hh := h.ht
  have ho := h.od
  have h6 := h.n6
  have hl := now_len s.qs s.ws n
  have hi := h.ins
  unfold mid
  by_cases c1 : (now s.qs s.ws n).length = 1
  · rw [if_pos c1]
    have hx : (now s.qs s.ws n).headD 0 ∈ now s.qs s.ws n := by
      match now s.qs s.ws n, c1 with
      | x :: _, _ => simp
    obtain ⟨j, hj, hjl⟩ := now_nat _ hx
    rw [hj, Int.toNat_natCast]
    have hq := hi.q j (by rw [hi.lq]; exact hjl)
    refine ⟨⟨?_, hi.lw, ?_, ?_, hi.w.mono (by omega) (by omega), ?_, hi.d⟩, rfl, ⟨hh.1, by show s.hits ≤ _; omega⟩, ?_⟩
    · show (s.qs.set _ _).length = n; rw [List.length_set]; exact hi.lq
    · show (s.tr.set _ _).length = n; rw [List.length_set]; exact hi.lt
    · exact (hi.q.mono (by omega) (by omega)).set j _ (by omega) (by omega)
    · exact (hi.t.mono (by omega) (by omega)).set j _ (by omega) (by omega)
    · show ((s.order ++ [(j : Int)]).length : Int) ≤ _; rw [List.length_append]; simp; omega
  · rw [if_neg c1]
    by_cases c2 : 1 < (now s.qs s.ws n).length
    · rw [if_pos c2]
      have hi2 : InS (20 * s.slots) n { s with hits := s.hits + 1 } := ⟨hi.lq, hi.lw, hi.lt, hi.q, hi.w, hi.t, hi.d⟩
      obtain ⟨k1, k2, k3, k4⟩ := hits_in h6 (now s.qs s.ws n) hi2 (by omega) (fun k hk => now_nat k hk)
      refine ⟨⟨k1.lq, k1.lw, k1.lt, k1.q.mono (by omega) (by omega), k1.w.mono (by omega) (by omega), k1.t.mono (by omega) (by omega), k1.d⟩, k4, ?_, ?_⟩
      · rw [k3]; exact ⟨by show 0 ≤ s.hits + 1; omega, by show s.hits + 1 ≤ _; omega⟩
      · rw [k2]; show (s.order.length : Int) ≤ _; omega
    · rw [if_neg c2]
      exact ⟨⟨hi.lq, hi.lw, hi.lt, hi.q.mono (by omega) (by omega), hi.w.mono (by omega) (by omega), hi.t.mono (by omega) (by omega), hi.d⟩, rfl, ⟨hh.1, by omega⟩, by omega⟩
theorem slot_inv {n : Nat} {s : Sp} (h : Inv n s) (hs : s.slots < 2000) : Inv n (slot n s) ∧ (slot n s).slots = s.slots + 1 := by
  obtain ⟨h1, h2, h3, h4⟩ := mid_in h
  have hs0 := h.sl
  have h6 := h.n6
  obtain ⟨k1, k2, k3, k4⟩ := decL_in s.ws h1 (by omega) n (Nat.le_refl _)
  refine ⟨⟨h6, ⟨by show 0 ≤ s.slots + 1; omega, by show s.slots + 1 ≤ 2000; omega⟩, ?_, ?_, ?_⟩, rfl⟩
  · show InS (20 * (s.slots + 1)) n (slot n s)
    exact ⟨k1.lq, k1.lw, k1.lt, k1.q.mono (by omega) (by omega), k1.w.mono (by omega) (by omega), k1.t.mono (by omega) (by omega), k1.d⟩
  · show 0 ≤ (decL s.ws (mid n s) n).hits ∧ (decL s.ws (mid n s) n).hits ≤ s.slots + 1
    rw [k3]; exact h3
  · show ((decL s.ws (mid n s) n).order.length : Int) ≤ s.slots + 1
    rw [k2]; exact h4
theorem mid_def (n : Nat) (s : Sp) (S : List Int) (h : now s.qs s.ws n = S) : mid n s =
    if S.length = 1 then { s with qs := s.qs.set (S.headD 0).toNat (s.qs.getD (S.headD 0).toNat 0 - 1), tr := s.tr.set (S.headD 0).toNat 0, order := s.order ++ [S.headD 0] }
    else if 1 < S.length then S.foldl hit1 { s with hits := s.hits + 1 } else s := by
  subst h; rfl
theorem l9Wait_eq {t d : Int} (ht : 0 ≤ t) : spec_l9Wait.f t d = some (Tk.wait t d) := by
  have hm : 0 ≤ mn t 5 ∧ mn t 5 ≤ 5 := by unfold mn; split <;> omega
  have hp := Tk.pow_ok (mn t 5).toNat (by omega)
  unfold spec_l9Wait.f
  rw [if_pos hm.1, if_neg (by omega)]
  rfl
/-! ### what is left to send, and the run -/
theorem sum_l0 (l : List Int) (hl : l.length ≤ 6) (hb : InL (-50000) 9 l) : ∀ (d i : Nat) (acc : Int), i + d = l.length → -50000 * (i : Int) ≤ acc → acc ≤ 9 * (i : Int) → spec_l9Sum.l0 (d + 1) l acc (i : Int) = some (acc + (l.drop i).sum) := by
  intro d
  induction d with
  | zero =>
    intro i acc hi h1 h2
    rw [spec_l9Sum.l0, if_neg (by omega), List.drop_of_length_le (by omega)]
    simp
  | succ d ih =>
    intro i acc hi h1 h2
    have hil : i < l.length := by omega
    have hx := hb i hil
    have hr : rd l (i : Int) = l.getD i 0 := by simp [rd]
    have hg : l.getD i 0 = l[i] := by simp [List.getD_eq_getElem?_getD, hil]
    have e1 : wrap64 (acc + l.getD i 0) = acc + l.getD i 0 := by unfold wrap64; omega
    have e2 : wrap64 ((i : Int) + 1) = ((i + 1 : Nat) : Int) := by unfold wrap64; omega
    rw [spec_l9Sum.l0, if_pos (by omega), if_pos (by omega), hr, e1, e2, ih (i + 1) (acc + l.getD i 0) (by omega) (by omega) (by omega)]
    rw [List.drop_eq_getElem_cons hil, List.sum_cons, hg]
    congr 1
    omega
theorem sum_eq (l : List Int) (hl : l.length ≤ 6) (hb : InL (-50000) 9 l) : spec_l9Sum.f (l.length + 1) l = some l.sum := by
  unfold spec_l9Sum.f
  have := sum_l0 l hl hb l.length 0 0 (by omega) (by omega) (by omega)
  rw [List.drop_zero, Int.zero_add] at this
  exact this
def run (m : Nat) : Nat → Sp → Sp
  | 0, s => s
  | n + 1, s => if 0 < s.qs.sum then run m n (slot m s) else s
theorem run_stop (m : Nat) {s : Sp} (h : ¬ 0 < s.qs.sum) : ∀ n, run m n s = s := by
  intro n
  cases n with
  | zero => rfl
  | succ n => rw [run, if_neg h]
theorem run_slot {m : Nat} {s : Sp} {a : Int} (hb : 0 < s.qs.sum) (hs : s.slots < a) : run m (a - (slot m s).slots).toNat (slot m s) = run m (a - s.slots).toNat s := by
  have e : (slot m s).slots = s.slots + 1 := rfl
  rw [e]
  obtain ⟨n, hn⟩ : ∃ n, (a - s.slots).toNat = n + 1 := ⟨(a - s.slots).toNat - 1, by omega⟩
  rw [hn, run, if_pos hb, show (a - (s.slots + 1)).toNat = n by omega]
end Go.Proofs.Ytnppflmjlnfhpaa.Sk

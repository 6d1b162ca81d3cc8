/- The talkers of impl.RunTalk: what its helpers answer (mapped, the closure 'busy'), and a row of talkers whose fields are read and written. Conditions: each lemma's own. -/
import Derived.Test.YtnppflmjlnfhpaaPA0
import Derived.Test.YtnppflmjlnfhpaaPA1
import Derived.Test.YtnppflmjlnfhpaaHInt
set_option linter.unusedVariables false
set_option linter.unusedSimpArgs false
namespace Go.Proofs.Ytnppflmjlnfhpaa.Tk
open Go Go.RowKit Go.Proofs.Ytnppflmjlnfhpaa.PA Go.Proofs.YtnppflmjlnfhpaaW.PrintWords Go.Proofs.YtnppflmjlnfhpaaW.PrintLast Go.Proofs.YtnppflmjlnfhpaaW.PrintMore
abbrev T := S50
abbrev K := k50
abbrev te : Nat := 50
def busyP (x : T) : Bool := decide (0 < x.f0)
theorem cell {W : World} {base : Nat} {ok : Nat → Prop} {g n cap : Nat} {ts : List T} (h : Kd.R K te W base ok (.slice (some ⟨g, 0, none⟩) n cap) ts) (i : Nat) (hi : i < n) :
    W.cell? ⟨g, i * 3, none⟩ = some (.int .i64 (ts.getD i z50).f0) ∧ W.cell? ⟨g, i * 3 + 1, none⟩ = some (.int .i64 (ts.getD i z50).f1) ∧ W.cell? ⟨g, i * 3 + 2, none⟩ = some (.int .i64 (ts.getD i z50).f2) ∧
      W.frozen? ⟨g, i * 3, none⟩ = false ∧ W.frozen? ⟨g, i * 3 + 1, none⟩ = false ∧ W.frozen? ⟨g, i * 3 + 2, none⟩ = false := by
  obtain ⟨c, hcl, hM, hcc, hfr⟩ := Kd.R_elem h z50 (i : Int) (by omega) (by omega)
  obtain rfl := k50_openM hM
  have e : (i : Int).toNat = i := Int.toNat_natCast i
  rw [e] at hcc hfr
  exact ⟨hcc 0 _ rfl, hcc 1 _ rfl, hcc 2 _ rfl, hfr 0, hfr 1, hfr 2⟩
theorem put {W : World} {base : Nat} {ok : Nat → Prop} {g n cap : Nat} {ts : List T} (h : Kd.R K te W base ok (.slice (some ⟨g, 0, none⟩) n cap) ts) (i : Nat) (hi : i < n) :
    (∀ v : Int, Kd.R K te (W.setCell ⟨g, i * 3, none⟩ (.int .i64 v)) base ok (.slice (some ⟨g, 0, none⟩) n cap) (ts.set i ⟨v, (ts.getD i z50).f1, (ts.getD i z50).f2⟩) ∧ W.grownBy (W.setCell ⟨g, i * 3, none⟩ (.int .i64 v)) (some g)) ∧
    (∀ v : Int, Kd.R K te (W.setCell ⟨g, i * 3 + 1, none⟩ (.int .i64 v)) base ok (.slice (some ⟨g, 0, none⟩) n cap) (ts.set i ⟨(ts.getD i z50).f0, v, (ts.getD i z50).f2⟩) ∧ W.grownBy (W.setCell ⟨g, i * 3 + 1, none⟩ (.int .i64 v)) (some g)) ∧
    (∀ v : Int, Kd.R K te (W.setCell ⟨g, i * 3 + 2, none⟩ (.int .i64 v)) base ok (.slice (some ⟨g, 0, none⟩) n cap) (ts.set i ⟨(ts.getD i z50).f0, (ts.getD i z50).f1, v⟩) ∧ W.grownBy (W.setCell ⟨g, i * 3 + 2, none⟩ (.int .i64 v)) (some g)) := by
  obtain ⟨c, hcl, hM, hcc, hfr⟩ := Kd.R_elem h z50 (i : Int) (by omega) (by omega)
  obtain rfl := k50_openM hM
  have e : (i : Int).toNat = i := Int.toNat_natCast i
  have hg : ts.getD (i : Int).toNat z50 = ts.getD i z50 := by rw [e]
  rw [hg] at hcl hcc
  generalize ts.getD i z50 = x at hcl hcc
  refine ⟨fun v => ?_, fun v => ?_, fun v => ?_⟩
  · have hp := Kd.R_seg h (i : Int) (by omega) (by omega) (seg := [.int .i64 v]) (j := 0) hcl hcc (show 1 ≤ 3 from by decide) (x' := (⟨v, x.f1, x.f2⟩ : T)) (k50_mkM _ _ _ (⟨v, x.f1, x.f2⟩ : T)) (fun _ hk => hk)
    rw [e] at hp
    exact hp
  · have hp := Kd.R_seg h (i : Int) (by omega) (by omega) (seg := [.int .i64 v]) (j := 1) hcl hcc (show 1 + 1 ≤ 3 from by decide) (x' := (⟨x.f0, v, x.f2⟩ : T)) (k50_mkM _ _ _ (⟨x.f0, v, x.f2⟩ : T)) (fun _ hk => hk)
    rw [e] at hp
    exact hp
  · have hp := Kd.R_seg h (i : Int) (by omega) (by omega) (seg := [.int .i64 v]) (j := 2) hcl hcc (show 2 + 1 ≤ 3 from by decide) (x' := (⟨x.f0, x.f1, v⟩ : T)) (k50_mkM _ _ _ (⟨x.f0, x.f1, v⟩ : T)) (fun _ hk => hk)
    rw [e] at hp
    exact hp

def Pred (g : Nat) (p : T → Bool) (w : World) : Prop :=
  ∀ (W : World) (x : T), Below w.heap.size w W → Calls Try.prog g (#[.agg #[.int .i64 x.f0, .int .i64 x.f1, .int .i64 x.f2]]) W fun e w' => e = .returned (.bool (p x)) ∧ Below W.heap.size W w'
def SomeIdx (b : Bool) (w : World) (e : Ending) (w' : World) : Prop := ∃ z : Int, e = .returned (.int .i64 z) ∧ decide (0 ≤ z) = b ∧ Below w.heap.size w w'
theorem take_any {l : List T} {p : T → Bool} {n : Nat} (hn : n < l.length) : (l.take (n + 1)).any p = ((l.take n).any p || p (l.getD n z50)) := by
  rw [List.take_succ_eq_append_getElem hn, List.any_append]
  simp [List.getD_eq_getElem?_getD, hn]
theorem at3 {w : World} {A : Option Addr} {ts : List T} (h : Kd.C K w A ts.length ts) {n : Nat} (hn : n < ts.length) : ∃ ad, A = some ad ∧ w.cell? (ad.add (n * 3)) = some (.int .i64 (ts.getD n z50).f0) ∧
    w.cell? ⟨(ad.add (n * 3)).block, (ad.add (n * 3)).off + 1, none⟩ = some (.int .i64 (ts.getD n z50).f1) ∧ w.cell? ⟨(ad.add (n * 3)).block, (ad.add (n * 3)).off + 2, none⟩ = some (.int .i64 (ts.getD n z50).f2) := by
  obtain ⟨ad, e, h0, h1, h2⟩ := at_T50 h (n : Int) (by omega) (by omega)
  rw [Int.toNat_natCast] at h0 h1 h2
  simp only [rd_T50, Int.toNat_natCast] at h0 h1 h2
  exact ⟨ad, e, h0, h1, h2⟩
set_option maxHeartbeats 4000000 in
theorem isBusy (w : World) : Pred 34 busyP w := by
  intro W x hb
  clear hb
  show Calls Try.prog 34 #[.agg #[.int .i64 x.f0, .int .i64 x.f1, .int .i64 x.f2]] W fun e w' => e = .returned (.bool (decide (0 < x.f0))) ∧ Below W.heap.size W w'
  have HB := Aside0.mk (Below.refl W.heap.size W)
  generalize hb0 : decide (0 < x.f0) = b
  have hb1 : decide (x.f0 > 0) = b := hb0
  go_enter Try.func34, Try.ntmps34
  go_wp2_with fail
  go_ret
  exact ⟨by first | rfl | simp [hb0], by repeat (first | (with_reducible first | exact HB.out | apply below_alloc | apply pw_below_drewN | apply below_drew1) | exact HB.out)⟩
set_option maxHeartbeats 4000000 in
theorem idx (p : T → Bool) (g : Nat) (eg : ∀ args w, (callFunc g args).run Try.prog w = .ok (.enter g args) w) (A : Option Addr) (c : Nat) (l : List T) (w : World)
    (hp : Pred g p w) (hr : Kd.C K w A l.length l) :
    Calls Try.prog 41 #[.slice A l.length c, .func (.func g) #[] #[]] w (SomeIdx (l.any p) w) := by
  have hlen : l.length ≤ 9223372036854775807 := hr.2.1
  have HR := Aside0.mk hr
  have HP := Aside0.mk hp
  clear hr hp
  have HB := Aside0.mk (Below.refl w.heap.size w)
  go_enter Try.func41, Try.ntmps41
  go_wp2
  go_loopg [5, 8] l.length (fun gg _ s8 wr => ∃ n : Nat, s8 = .int .i64 (n : Int) ∧ Aside0 (n ≤ l.length ∧ l.length - n ≤ gg) ∧ Aside0 (Below w.heap.size w wr) ∧ Aside0 ((l.take n).any p = false))
  case atStart => exact ⟨0, rfl, ⟨⟨by omega, by omega⟩⟩, HB, ⟨by simp⟩⟩
  case round =>
    clear HB
    obtain ⟨n, rfl, HX, HB, HA⟩ := hrel
    have hx := HX.out
    by_cases hlt : n < l.length
    · have c1 : decide ((n : Int) < (l.length : Int)) = true := decide_eq_true (by omega)
      have c2 : (n < l.length) = True := eq_true hlt
      obtain ⟨ad, e0, hk0, hk1, hk2⟩ := at3 (Kd.C_below HR.out HB.out) hlt
      cases e0
      have hcall := HP.out _ (l.getD n z50) HB.out
      have HT := Aside0.mk (take_any (p := p) hlt)
      have HM := Aside0.mk (show l.getD n z50 ∈ l by simp [List.getD_eq_getElem?_getD, hlt])
      generalize l.getD n z50 = y at hk0 hk1 hk2 hcall HT HM
      cases hq : p y with
      | true =>
        rw [hq] at hcall
        have HQ := Aside0.mk hq
        clear hq
        go_wp2_with fail
        refine hcall.mono ?_
        clear hcall
        rintro e w' ⟨rfl, hb'⟩
        have HB' := Aside0.mk ((HB.out).trans (hb'.mono HB.out.size))
        clear hb'
        go_wp2_with fail
        go_ret
        refine ⟨(n : Int), rfl, ?_, HB'.out⟩
        rw [decide_eq_true (by omega)]
        symm
        rw [List.any_eq_true]
        exact ⟨y, HM.out, HQ.out⟩
      | false =>
        rw [hq] at hcall
        have HQ := Aside0.mk hq
        clear hq
        go_wp2_with fail
        refine hcall.mono ?_
        clear hcall
        rintro e w' ⟨rfl, hb'⟩
        have HB' := Aside0.mk ((HB.out).trans (hb'.mono HB.out.size))
        clear hb'
        go_wp2_with fail
        go_roundg (l.length - (n + 1))
        case measure => omega
        case rel =>
          refine ⟨n + 1, by go_num, ⟨⟨by omega, by omega⟩⟩, ⟨HB'.out⟩, ⟨?_⟩⟩
          rw [HT.out, HA.out, HQ.out]; rfl
    · have c1 : decide ((n : Int) < (l.length : Int)) = false := decide_eq_false (by omega)
      have c2 : (n < l.length) = False := eq_false hlt
      go_wp2_with fail
      go_ret
      refine ⟨-1, rfl, ?_, HB.out⟩
      have : n = l.length := by omega
      have h := HA.out
      rw [this, List.take_length] at h
      rw [h]; rfl
set_option maxHeartbeats 4000000 in
theorem cont (p : T → Bool) (g : Nat) (eg : ∀ args w, (callFunc g args).run Try.prog w = .ok (.enter g args) w) (A : Option Addr) (c : Nat) (l : List T) (w : World)
    (hp : Pred g p w) (hr : Kd.C K w A l.length l) :
    Calls Try.prog 33 #[.slice A l.length c, .func (.func g) #[] #[]] w fun e w' => e = .returned (.bool (l.any p)) ∧ Below w.heap.size w w' := by
  have hcall := idx p g eg A c l w hp hr
  clear hp hr
  generalize l.any p = b at hcall ⊢
  go_enter Try.func33, Try.ntmps33
  go_wp2_with fail
  refine hcall.mono ?_
  clear hcall eg
  rintro e w' ⟨z, rfl, hz, hb⟩
  have HZ := Aside0.mk hz
  have HBB := Aside0.mk hb
  clear hz hb
  go_wp2_with fail
  go_ret
  exact ⟨by simp; exact HZ.out, HBB.out⟩
set_option maxHeartbeats 4000000 in
theorem busy (B : Nat) (A : Option Addr) (c : Nat) (l : List T) (w : World) (hc : w.cell? ⟨B, 0, none⟩ = some (.slice A l.length c)) (hr : Kd.C K w A l.length l) :
    Calls Try.prog 32 #[.pointer (some ⟨B, 0, none⟩)] w fun e w' => e = .returned (.bool (l.any busyP)) ∧ Below w.heap.size w w' := by
  have hcall := cont busyP 34 (enters_of Try.func34 (by kernel_rfl) rfl) A c l w (isBusy w) hr
  clear hr
  generalize l.any busyP = b at hcall ⊢
  go_enter Try.func32, Try.ntmps32
  go_wp2_with fail
  refine hcall.mono ?_
  clear hcall
  rintro e w' ⟨rfl, hb⟩
  have HBB := Aside0.mk hb
  clear hb
  go_wp2_with fail
  go_ret
  exact ⟨rfl, HBB.out⟩
theorem results_c {P : Program} {fn : Func} {p : Tmp} {ty : TypeId} (h : fn.results = #[.cell p ty]) (tmps : Array Value) (w : World) (g : Nat) (t : TypeId) (cs : Array Value) (fr : Nat × Nat) (d : TypeDesc)
    (hp : tmps.getD p undef = .pointer (some ⟨g, 0, none⟩)) (hg : w.heap[g]? = some (.cells cs t fr))
    (hu : P.underlying ty = some d) (hd : (match d with | .struct _ | .array _ _ => true | _ => false) = true) (hi : (P.info? ty).map (·.size) = some cs.size) :
    (results fn tmps).run P w = .ok (.agg cs) w := by
  have hp' : tmps[p]?.getD undef = .pointer (some ⟨g, 0, none⟩) := by simpa using hp
  simp [results, h, hp', asAddr, run_loadVar_row w g t ty cs fr d hg hu hd hi]
set_option maxHeartbeats 4000000 in
theorem new (x : Int) (W : World) : Calls Try.prog 31 #[.int .i64 x] W fun e w' => e = .returned (.agg #[.int .i64 x, .int .i64 0, .int .i64 0]) ∧ Below W.heap.size W w' := by
  go_enter Try.func31, Try.ntmps31
  go_wp2_with (first | ((with_reducible refine gate_dst (N := 2) rfl ?_); refine box_event ?hg (N := 2) ?hd (cs := #[.int .i64 0, .int .i64 0, .int .i64 0]) (t := te) ?hr ?_; (case hd => rfl); (case hg => rfl); (case hr => first | (go_simp; done) | (go_simp; rfl)); intro g hg w1 hbox hb; have HG := Aside0.mk (show W.heap.size ≤ g from Nat.le_of_eq hg.symm); have HX := Aside0.mk hbox; have HB := Aside0.mk hb; have hz0 := (blk_cell hbox 0).trans rfl; have hz1 := (blk_cell hbox 1).trans rfl; have hz2 := (blk_cell hbox 2).trans rfl; have hf0 := blk_frozen hbox 0; have hf1 := blk_frozen hbox 1; have hf2 := blk_frozen hbox 2; clear hbox hb hg))
  refine bodyPost_ret (results_c rfl _ _ g te #[.int .i64 x, .int .i64 0, .int .i64 0] (0, 0) _ rfl (by refine blk_put (cs := #[.int .i64 x, .int .i64 0, .int .i64 0]) ?_ 2 _ rfl; refine blk_put (cs := #[.int .i64 x, .int .i64 0, .int .i64 0]) ?_ 1 _ rfl; refine blk_put (cs := #[.int .i64 0, .int .i64 0, .int .i64 0]) ?_ 0 _ rfl; exact HX.out) Try.underlying50 rfl (by kernel_rfl)) rfl ?_
  exact ⟨rfl, below_set (below_set (below_set HB.out HG.out) HG.out) HG.out⟩
def mk (n : Int) : T := ⟨n, 0, 0⟩
theorem map_take {l : List Int} {j : Nat} (h : j < l.length) : (l.take (j + 1)).map mk = (l.take j).map mk ++ [mk (rd l (j : Int))] := by
  rw [List.take_succ_eq_append_getElem h, List.map_append]
  simp [rd, List.getD_eq_getElem?_getD, h]
set_option maxHeartbeats 4000000 in
set_option maxRecDepth 100000 in
theorem mapped (A : Option Addr) (c : Nat) (l : List Int) (hll : l.length ≤ 1000) (w : World) (hr : Kd.C (Kd.int .i64) w A l.length l) :
    Calls Try.prog 30 #[.slice A l.length c, .func (.func 31) #[] #[]] w fun e w' => ∃ v : Value, e = .returned v ∧ Kd.R K te w' w.heap.size (fun _ => True) v (l.map mk) ∧ Below w.heap.size w w' := by
  have e1 : ∀ args w, (callFunc 31 args).run Try.prog w = .ok (.enter 31 args) w := enters_of Try.func31 (by kernel_rfl) rfl
  have HR := Aside0.mk hr
  have HB := Aside0.mk (Below.refl w.heap.size w)
  clear hr
  go_enter Try.func30, Try.ntmps30
  go_wp2_with fail
  go_loopg [5, 10] l.length (fun kq v5 v10 wr => ∃ j : Nat, v10 = .int .i64 (j : Int) ∧ Aside0 (j ≤ l.length ∧ l.length - j ≤ kq) ∧ Aside0 (Kd.R K te wr w.heap.size (fun _ => True) v5 ((l.take j).map mk)) ∧ Aside0 (Below w.heap.size w wr))
  case atStart => exact ⟨0, rfl, ⟨⟨Nat.zero_le _, by omega⟩⟩, ⟨Kd.R_nil _ _ _ _ _⟩, ⟨by repeat (first | (with_reducible first | exact HB.out | apply below_alloc | apply pw_below_drewN | apply below_drew1) | exact HB.out)⟩⟩
  case round =>
    clear HB
    obtain ⟨j, rfl, HJ, HO, HB⟩ := hrel
    have hj := HJ.out
    by_cases hlt : j < l.length
    · have q1 : decide ((j : Int) < (l.length : Int)) = true := decide_eq_true (by omega)
      have q2 : (j < l.length) = True := eq_true hlt
      obtain ⟨ad, e, hx⟩ := Kd.at_int (Kd.C_below HR.out HB.out) (j : Int) (by omega) (by omega)
      cases e
      simp only [Int.toNat_natCast] at hx
      have HT := Aside0.mk (map_take hlt)
      have HL := Aside0.mk (show ((l.take j).map mk).length ≤ 1000 by rw [List.length_map, List.length_take]; omega)
      generalize rd l (j : Int) = x at hx HT
      generalize (l.take j).map mk = pre at HO HT HL
      obtain ⟨A5, c5, e5⟩ := Kd.R_slice HO.out
      subst e5
      go_wp2_with fail
      refine (new x _).mono ?_
      rintro e w2 ⟨rfl, hb⟩
      have HB2 := Aside0.mk (below_step (by repeat (first | (with_reducible first | exact HB.out | apply below_alloc | apply pw_below_drewN | apply below_drew1) | exact HB.out)) hb)
      have HO2 := Aside0.mk (Kd.R_below (by (with_reducible repeat (first | apply Kd.R_alloc | apply Kd.R_drewN | apply Kd.R_drew)); exact HO.out) hb)
      clear hb HO HB
      go_wp2_with (first | ((with_reducible refine gate_builtin (b := .append) (xs := #[.tmp 14, .tmp 18]) rfl ?_); at_builtin; refine Kd.R_append K (w0 := w) w.heap.size rfl (.tmp 14) (.tmp 18) 47 te (.agg #[.int .i64 0, .int .i64 0, .int .i64 0]) 24 rfl Try.underlying47 info50 rfl (by decide) (by omega) (.slice A5 pre.length c5) pre (mk x) [.int .i64 x, .int .i64 0, .int .i64 0] (fun _ => True) (fun _ => False) rfl rfl (k50_mkM _ _ _ (mk x)) (fun _ hk => hk.elim) (fun _ _ => trivial) (by (with_reducible repeat (first | apply Kd.R_alloc | apply Kd.R_drewN | apply Kd.R_drew)); exact HO2.out) (by repeat (first | (with_reducible first | exact HB2.out | apply below_alloc | apply pw_below_drewN | apply below_drew1) | exact HB2.out)) (below_size (by repeat (first | (with_reducible first | exact HB2.out | apply below_alloc | apply pw_below_drewN | apply below_drew1) | exact HB2.out))) (by have := HL.out; omega) ?_; intro v3 w3 ho3 hb3 hg3 hat3; rw [← HT.out] at ho3; have HO3 := Aside0.mk ho3; have HB3 := Aside0.mk hb3; clear ho3 hb3 hg3 hat3))
      go_roundg (l.length - (j + 1))
      case measure => omega
      case rel => exact ⟨j + 1, by go_num, ⟨⟨by omega, by omega⟩⟩, ⟨by (with_reducible repeat (first | apply Kd.R_alloc | apply Kd.R_drewN | apply Kd.R_drew)); exact HO3.out⟩, ⟨by repeat (first | (with_reducible first | exact HB3.out | apply below_alloc | apply pw_below_drewN | apply below_drew1) | exact HB3.out)⟩⟩
    · have hje : j = l.length := by omega
      subst hje
      rw [List.take_length] at HO
      have q1 : decide ((l.length : Int) < (l.length : Int)) = false := decide_eq_false (by omega)
      have q2 : (l.length < l.length) = False := eq_false (by omega)
      go_wp2_with fail
      go_ret
      exact ⟨_, rfl, by (with_reducible repeat (first | apply Kd.R_alloc | apply Kd.R_drewN | apply Kd.R_drew)); exact HO.out, by repeat (first | (with_reducible first | exact HB.out | apply below_alloc | apply pw_below_drewN | apply below_drew1) | exact HB.out)⟩

/-! ### the run as a machine -/
structure St where
  ts : List T
  order : List Int
  hits : Int
  slots : Int
  draws : List Int
def wait (t d : Int) : Int := Int.tmod d (wrap64 (2 ^ (mn t 5).toNat))
theorem pow_ok : ∀ n, n < 6 → 1 ≤ wrap64 ((2 : Int) ^ n) ∧ wrap64 ((2 : Int) ^ n) ≤ 32 := by decide +kernel
theorem wait_eq {t d : Int} (ht : 1 ≤ t) (h0 : 0 ≤ d) (h1 : d ≤ 1000) : impl_WaitOf.f t d = some (wait t d) ∧ 0 ≤ wait t d ∧ wait t d ≤ 1000 := by
  have hw : impl_within.f d 0 1000 = some true := by
    unfold impl_within.f
    rw [if_pos h0, decide_eq_true h1]
  have hm : 0 ≤ mn t 5 ∧ mn t 5 ≤ 5 := by unfold mn; split <;> omega
  have hp := pow_ok (mn t 5).toNat (by omega)
  have hz : 0 ≤ wait t d := Int.tmod_nonneg _ h0
  refine ⟨?_, hz, ?_⟩
  · unfold impl_WaitOf.f impl_isDraw.f
    rw [if_neg (by omega), hw]
    simp only [Option.bind_some, if_true]
    rw [if_pos hm.1, if_neg (by omega)]
    rfl
  · have : wait t d < wrap64 (2 ^ (mn t 5).toNat) := Int.tmod_lt_of_pos _ (by omega)
    omega
def sel (p : T → Bool) (ts : List T) : Nat → List Int
  | 0 => []
  | j + 1 => sel p ts j ++ (if p (ts.getD j z50) = true then [(j : Int)] else [])
def waitP (x : T) : Bool := decide (0 < x.f1)
def sendP (x : T) : Bool := !waitP x && busyP x
theorem sel_mem {p : T → Bool} {ts : List T} {k : Int} : ∀ n, k ∈ sel p ts n → ∃ j : Nat, k = (j : Int) ∧ j < n ∧ p (ts.getD j z50) = true := by
  intro n
  induction n with
  | zero => intro h; simp [sel] at h
  | succ n ih =>
    intro h
    rw [sel, List.mem_append] at h
    rcases h with h | h
    · obtain ⟨j, h1, h2, h3⟩ := ih h
      exact ⟨j, h1, by omega, h3⟩
    · by_cases c : p (ts.getD n z50) = true
      · rw [if_pos c] at h
        exact ⟨n, by simpa using h, by omega, c⟩
      · rw [if_neg c] at h; simp at h
theorem sel_len (p : T → Bool) (ts : List T) : ∀ n, (sel p ts n).length ≤ n := by
  intro n
  induction n with
  | zero => exact Nat.le_refl _
  | succ n ih =>
    rw [sel, List.length_append]
    split <;> simp <;> omega
def hit1 (s : List T × List Int) (k : Int) : List T × List Int :=
  (s.1.set k.toNat ⟨(s.1.getD k.toNat z50).f0, wait ((s.1.getD k.toNat z50).f2 + 1) (s.2.headD (33 * k)), (s.1.getD k.toNat z50).f2 + 1⟩, s.2.tail)
def dec1 (ts : List T) (k : Int) : List T := ts.set k.toNat ⟨(ts.getD k.toNat z50).f0, (ts.getD k.toNat z50).f1 - 1, (ts.getD k.toNat z50).f2⟩
def sent1 (ts : List T) (k : Int) : List T := ts.set k.toNat ⟨(ts.getD k.toNat z50).f0 - 1, (ts.getD k.toNat z50).f1, 0⟩
def mid (s : St) : St :=
  if (sel sendP s.ts s.ts.length).length = 1 then ⟨sent1 s.ts ((sel sendP s.ts s.ts.length).headD 0), s.order ++ [(sel sendP s.ts s.ts.length).headD 0], s.hits, s.slots + 1, s.draws⟩
  else if 1 < (sel sendP s.ts s.ts.length).length then ⟨((sel sendP s.ts s.ts.length).foldl hit1 (s.ts, s.draws)).1, s.order, s.hits + 1, s.slots + 1, ((sel sendP s.ts s.ts.length).foldl hit1 (s.ts, s.draws)).2⟩
  else ⟨s.ts, s.order, s.hits, s.slots + 1, s.draws⟩
def slot (s : St) : St := ⟨(sel waitP s.ts s.ts.length).foldl dec1 (mid s).ts, (mid s).order, (mid s).hits, (mid s).slots, (mid s).draws⟩
def run : Nat → St → St
  | 0, s => s
  | n + 1, s => if s.ts.any busyP = true then run n (slot s) else s
/-- bounds that keep all numbers from wrapping -/
def InT (m : Int) (ts : List T) : Prop := ∀ i : Nat, i < ts.length → (-m ≤ (ts.getD i z50).f0 ∧ (ts.getD i z50).f0 ≤ 9) ∧ (-m ≤ (ts.getD i z50).f1 ∧ (ts.getD i z50).f1 ≤ 1000) ∧ 0 ≤ (ts.getD i z50).f2 ∧ (ts.getD i z50).f2 ≤ m
theorem InT.mono {m m' : Int} {ts : List T} (h : InT m ts) (hm : m ≤ m') : InT m' ts := fun i hi => by have := h i hi; omega
theorem getD_set (ts : List T) (i j : Nat) (x : T) (h : i < ts.length) : (ts.set i x).getD j z50 = if i = j then x else ts.getD j z50 := by
  rw [List.getD_eq_getElem?_getD, List.getD_eq_getElem?_getD, List.getElem?_set]
  by_cases e : i = j
  · subst e; simp [h]
  · simp [e]
theorem InT.set {m : Int} {ts : List T} (h : InT m ts) (i : Nat) (x : T) (hx : (-m ≤ x.f0 ∧ x.f0 ≤ 9) ∧ (-m ≤ x.f1 ∧ x.f1 ≤ 1000) ∧ 0 ≤ x.f2 ∧ x.f2 ≤ m) : InT m (ts.set i x) := by
  intro j hj
  rw [List.length_set] at hj
  by_cases hi : i < ts.length
  · rw [getD_set ts i j x hi]
    split
    · exact hx
    · exact h j hj
  · rw [List.set_eq_of_length_le (by omega)]
    exact h j hj
theorem InT.set3 {m : Int} {ts : List T} (h : InT m ts) (i : Nat) (a b c : Int) (h0 : -m ≤ a ∧ a ≤ 9) (h1 : -m ≤ b ∧ b ≤ 1000) (h2 : 0 ≤ c) (h3 : c ≤ m) : InT m (ts.set i ⟨a, b, c⟩) := h.set i ⟨a, b, c⟩ ⟨h0, h1, h2, h3⟩
def Dr (ds : List Int) : Prop := ∀ d ∈ ds, 0 ≤ d ∧ d ≤ 1000
theorem hit1_in {m : Int} {ts : List T} {ds : List Int} (h : InT m ts) (hm : 0 ≤ m) (hd : Dr ds) (j : Nat) (hj : j < ts.length) (h6 : ts.length ≤ 6) :
    InT (m + 1) (hit1 (ts, ds) (j : Int)).1 ∧ Dr (hit1 (ts, ds) (j : Int)).2 ∧ (hit1 (ts, ds) (j : Int)).1.length = ts.length ∧ (0 ≤ ds.headD (33 * (j : Int)) ∧ ds.headD (33 * (j : Int)) ≤ 1000) := by
  have hdr : 0 ≤ ds.headD (33 * (j : Int)) ∧ ds.headD (33 * (j : Int)) ≤ 1000 := by
    match ds, hd with
    | [], _ => simp only [List.headD_nil]; omega
    | d :: _, hd => exact hd d (by simp)
  have hx := h j hj
  refine ⟨?_, fun d hd' => hd d (List.mem_of_mem_tail hd'), by simp [hit1], hdr⟩
  show InT (m + 1) (ts.set (j : Int).toNat ⟨(ts.getD (j : Int).toNat z50).f0, wait ((ts.getD (j : Int).toNat z50).f2 + 1) (ds.headD (33 * (j : Int))), (ts.getD (j : Int).toNat z50).f2 + 1⟩)
  rw [Int.toNat_natCast]
  have hw := wait_eq (t := (ts.getD j z50).f2 + 1) (by omega) hdr.1 hdr.2
  exact (h.mono (by omega)).set3 j _ _ _ (by omega) (by omega) (by omega) (by omega)
theorem dec1_in {m : Int} {ts : List T} (h : InT m ts) (hm : 0 ≤ m) (j : Nat) (hj : j < ts.length) : InT (m + 1) (dec1 ts (j : Int)) ∧ (dec1 ts (j : Int)).length = ts.length := by
  have hx := h j hj
  refine ⟨?_, by simp [dec1]⟩
  unfold dec1
  rw [Int.toNat_natCast]
  exact (h.mono (by omega)).set3 j _ _ _ (by omega) (by omega) (by omega) (by omega)
theorem sent1_in {m : Int} {ts : List T} (h : InT m ts) (hm : 0 ≤ m) (j : Nat) (hj : j < ts.length) : InT (m + 1) (sent1 ts (j : Int)) ∧ (sent1 ts (j : Int)).length = ts.length := by
  have hx := h j hj
  refine ⟨?_, by simp [sent1]⟩
  unfold sent1
  rw [Int.toNat_natCast]
  exact (h.mono (by omega)).set3 j _ _ _ (by omega) (by omega) (by omega) (by omega)
theorem hits_in {ds : List Int} (hd : Dr ds) : ∀ (l : List Int) {m : Int} {ts : List T}, InT m ts → 0 ≤ m → ts.length ≤ 6 → (∀ k ∈ l, ∃ j : Nat, k = (j : Int) ∧ j < ts.length) →
    InT (m + l.length) (l.foldl hit1 (ts, ds)).1 ∧ Dr (l.foldl hit1 (ts, ds)).2 ∧ (l.foldl hit1 (ts, ds)).1.length = ts.length := by
  intro l
  induction l generalizing ds with
  | nil => intro m ts h hm _ _; exact ⟨by simpa using h, hd, rfl⟩
  | cons k l ih =>
    intro m ts h hm h6 hl
    obtain ⟨j, rfl, hj⟩ := hl k (by simp)
    obtain ⟨h1, h2, h3, _⟩ := hit1_in h hm hd j hj h6
    have := ih (ds := (hit1 (ts, ds) (j : Int)).2) h2 h1 (by omega) (by rw [h3]; exact h6) (fun x hx => by rw [h3]; exact hl x (by simp [hx]))
    rw [h3] at this
    rw [List.foldl_cons]
    refine ⟨this.1.mono (by simp; omega), this.2⟩
theorem decs_in : ∀ (l : List Int) {m : Int} {ts : List T}, InT m ts → 0 ≤ m → (∀ k ∈ l, ∃ j : Nat, k = (j : Int) ∧ j < ts.length) → InT (m + l.length) (l.foldl dec1 ts) ∧ (l.foldl dec1 ts).length = ts.length := by
  intro l
  induction l with
  | nil => intro m ts h hm _; exact ⟨by simpa using h, rfl⟩
  | cons k l ih =>
    intro m ts h hm hl
    obtain ⟨j, rfl, hj⟩ := hl k (by simp)
    obtain ⟨h1, h3⟩ := dec1_in h hm j hj
    have := ih h1 (by omega) (fun x hx => by rw [h3]; exact hl x (by simp [hx]))
    rw [h3] at this
    rw [List.foldl_cons]
    exact ⟨this.1.mono (by simp; omega), this.2⟩
structure Inv (s : St) : Prop where
  t6 : s.ts.length ≤ 6
  sl : 0 ≤ s.slots ∧ s.slots ≤ 2000
  tin : InT (20 * s.slots) s.ts
  dr : Dr s.draws
  ht : 0 ≤ s.hits ∧ s.hits ≤ s.slots
  od : (s.order.length : Int) ≤ s.slots
theorem sel_nat {p : T → Bool} {ts : List T} : ∀ k ∈ sel p ts ts.length, ∃ j : Nat, k = (j : Int) ∧ j < ts.length := fun k hk => by
  obtain ⟨j, h1, h2, _⟩ := sel_mem _ hk
  exact ⟨j, h1, h2⟩
theorem mid_in {s : St} (h : Inv s) : InT (20 * s.slots + 6) (mid s).ts ∧ (mid s).ts.length = s.ts.length ∧ Dr (mid s).draws ∧ (mid s).slots = s.slots + 1 ∧ (0 ≤ (mid s).hits ∧ (mid s).hits ≤ s.slots + 1) ∧ ((mid s).order.length : Int) ≤ s.slots + 1 := by
  have hs := h.sl
  have hh := h.ht
  have ho := h.od
  have hl := sel_len sendP s.ts s.ts.length
  have h6 := h.t6
  have hm : (0 : Int) ≤ 20 * s.slots := by omega
  unfold mid
  by_cases c1 : (sel sendP s.ts s.ts.length).length = 1
  · rw [if_pos c1]
    have hx : (sel sendP s.ts s.ts.length).headD 0 ∈ sel sendP s.ts s.ts.length := by
      match sel sendP s.ts s.ts.length, c1 with
      | x :: _, _ => simp
    obtain ⟨j, hj, hjl⟩ := sel_nat _ hx
    rw [hj]
    obtain ⟨h1, h2⟩ := sent1_in h.tin hm j hjl
    exact ⟨h1.mono (by omega), h2, h.dr, rfl, ⟨hh.1, by show s.hits ≤ _; omega⟩, by show ((s.order ++ [(j : Int)]).length : Int) ≤ _; rw [List.length_append]; simp; omega⟩
  · rw [if_neg c1]
    by_cases c2 : 1 < (sel sendP s.ts s.ts.length).length
    · rw [if_pos c2]
      obtain ⟨h1, h2, h3⟩ := hits_in h.dr _ h.tin hm h6 (fun k hk => sel_nat k hk)
      exact ⟨h1.mono (by omega), h3, h2, rfl, ⟨by show 0 ≤ s.hits + 1; omega, by show s.hits + 1 ≤ _; omega⟩, by show (s.order.length : Int) ≤ _; omega⟩
    · rw [if_neg c2]
      exact ⟨h.tin.mono (by omega), rfl, h.dr, rfl, ⟨hh.1, by show s.hits ≤ _; omega⟩, by show (s.order.length : Int) ≤ _; omega⟩
theorem slot_inv {s : St} (h : Inv s) (hs : s.slots < 2000) : Inv (slot s) ∧ (slot s).ts.length = s.ts.length ∧ (slot s).slots = s.slots + 1 := by
  obtain ⟨h1, h2, h3, h4, h5, h6⟩ := mid_in h
  have hs0 := h.sl
  have hl := sel_len waitP s.ts s.ts.length
  have ht := h.t6
  obtain ⟨k1, k2⟩ := decs_in (sel waitP s.ts s.ts.length) h1 (by omega) (fun k hk => by rw [h2]; exact sel_nat k hk)
  refine ⟨⟨?_, ?_, ?_, h3, ?_, ?_⟩, k2.trans h2, h4⟩
  · show (List.foldl dec1 (mid s).ts (sel waitP s.ts s.ts.length)).length ≤ 6
    rw [k2, h2]; exact ht
  · show 0 ≤ (mid s).slots ∧ (mid s).slots ≤ 2000
    rw [h4]; omega
  · show InT (20 * (mid s).slots) (List.foldl dec1 (mid s).ts (sel waitP s.ts s.ts.length))
    rw [h4]
    exact k1.mono (by omega)
  · show 0 ≤ (mid s).hits ∧ (mid s).hits ≤ (mid s).slots
    rw [h4]; exact h5
  · show ((mid s).order.length : Int) ≤ (mid s).slots
    rw [h4]; exact h6
theorem run_slot {s : St} {a : Int} (hb : s.ts.any busyP = true) (hs : s.slots < a) (h : Inv s) : run (a - (slot s).slots).toNat (slot s) = run (a - s.slots).toNat s := by
  have e : (slot s).slots = s.slots + 1 := (mid_in h).2.2.2.1
  rw [e]
  obtain ⟨n, hn⟩ : ∃ n, (a - s.slots).toNat = n + 1 := ⟨(a - s.slots).toNat - 1, by omega⟩
  rw [hn, run, if_pos hb, show (a - (s.slots + 1)).toNat = n by omega]
theorem mid_def (s : St) (S : List Int) (h : sel sendP s.ts s.ts.length = S) : mid s =
    if S.length = 1 then ⟨sent1 s.ts (S.headD 0), s.order ++ [S.headD 0], s.hits, s.slots + 1, s.draws⟩
    else if 1 < S.length then ⟨(S.foldl hit1 (s.ts, s.draws)).1, s.order, s.hits + 1, s.slots + 1, (S.foldl hit1 (s.ts, s.draws)).2⟩
    else ⟨s.ts, s.order, s.hits, s.slots + 1, s.draws⟩ := by
  subst h; rfl
theorem slot_def (s : St) (W : List Int) (h : sel waitP s.ts s.ts.length = W) : slot s = ⟨W.foldl dec1 (mid s).ts, (mid s).order, (mid s).hits, (mid s).slots, (mid s).draws⟩ := by
  subst h; rfl
theorem hit1_def (ts : List T) (ds : List Int) (i : Nat) (hi : i < ts.length) (x : T) (hx : ts.getD i z50 = x) :
    hit1 (ts, ds) (i : Int) = ((ts.set i ⟨x.f0, x.f1, x.f2 + 1⟩).set i ⟨((ts.set i ⟨x.f0, x.f1, x.f2 + 1⟩).getD i z50).f0, wait (x.f2 + 1) (ds.headD (33 * (i : Int))), ((ts.set i ⟨x.f0, x.f1, x.f2 + 1⟩).getD i z50).f2⟩, ds.tail) := by
  have e : (ts.set i (⟨x.f0, x.f1, x.f2 + 1⟩ : T)).getD i z50 = ⟨x.f0, x.f1, x.f2 + 1⟩ := by rw [getD_set ts i i _ hi, if_pos rfl]
  rw [e, List.set_set]
  unfold hit1
  rw [Int.toNat_natCast]
  simp only [hx]
theorem sent1_def (ts : List T) (i : Nat) (hi : i < ts.length) (x : T) (hx : ts.getD i z50 = x) :
    sent1 ts (i : Int) = (ts.set i ⟨x.f0 - 1, x.f1, x.f2⟩).set i ⟨((ts.set i ⟨x.f0 - 1, x.f1, x.f2⟩).getD i z50).f0, ((ts.set i ⟨x.f0 - 1, x.f1, x.f2⟩).getD i z50).f1, 0⟩ := by
  have e : (ts.set i (⟨x.f0 - 1, x.f1, x.f2⟩ : T)).getD i z50 = ⟨x.f0 - 1, x.f1, x.f2⟩ := by rw [getD_set ts i i _ hi, if_pos rfl]
  rw [e, List.set_set]
  unfold sent1
  rw [Int.toNat_natCast, hx]
end Go.Proofs.Ytnppflmjlnfhpaa.Tk

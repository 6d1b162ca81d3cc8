/- Plain lemmas on what the printed functions compute (seat Ytegkgandlpiobaa, module QReadLine). Conditions: each lemma's own. -/
import Derived.Test.YtegkgandlpiobaaQr
import Derived.Test.YtegkgandlpiobaaPA0
import Derived.Test.YtegkgandlpiobaaPA11
import Derived.Test.YtegkgandlpiobaaPA12
import Derived.Test.YtegkgandlpiobaaPA15
import Derived.Test.YtegkgandlpiobaaPA31
set_option linter.unusedVariables false
set_option linter.unusedSimpArgs false
namespace Go.Proofs.Ytegkgandlpiobaa.Q
open Go Go.RowKit Go.Proofs.Ytegkgandlpiobaa.PA Go.Proofs.YtegkgandlpiobaaW.PrintWords Go.Proofs.YtegkgandlpiobaaW.PrintLast

theorem drawLevelsFrom_ev (l : List Int) (hb : ∀ x ∈ l, (Lit.int .u8 x).wf = true) : ∃ ts w, Ev (fun k => spec_DrawLevelsFrom.f k l) (ts, w) ∧ ts.length ≤ 16001 ∧ 0 ≤ w ∧ w ≤ 41 := by
  obtain ⟨b, ho, hl⟩ := open_ev l hb
  obtain ⟨w, hw, hm⟩ := num_ev b hl 0 ([8, 4, 1, 20, 3, 5] : List Int) (by omega) (by omega) (by simp) (by simp)
  have hwb : 1 ≤ w ∧ w ≤ 20 := by simp at hm; omega
  obtain ⟨xs, q, hd, k1, k2, k3, k4⟩ := l8Draw_ev b hl (0 + 1) (by omega) (by omega)
  obtain ⟨ws, q2, hw2, j1, j2, j3, j4⟩ := l8Widths_ev b hl q w (by omega) (by omega) (by omega)
  have hlv := levels_len xs
  have htk := ticks_len (levels xs) ws
  obtain ⟨v, hv, v0, v1⟩ := pick_ev b hl q2 20 (by omega) (by omega) (by omega)
  obtain ⟨u, hu, hum⟩ := num_ev b hl (q2 + 1) ([0, 41, 2] : List Int) (by omega) (by omega) (by simp) (by simp)
  have hub : 0 ≤ u ∧ u ≤ 41 := by simp at hum; omega
  have pre : ∀ {r : List Int × Int}, Ev (fun k => if v = 0 then ((spec_l21Rd_num.f k b (q2 + 1) (([0, 41, 2] : List Int))).bind fun bt350 => (some (ticks (levels xs) ws, bt350.1))) else (if v = 1 then (if (ticks (levels xs) ws).length < 17592186044416 then (some ((ticks (levels xs) ws ++ [2]), w)) else (none)) else (some (ticks (levels xs) ws, w)))) r → Ev (fun k => spec_DrawLevelsFrom.f k l) r := by
    intro r h
    simp only [spec_DrawLevelsFrom.f]
    exact evS ho (Ev.bind hw (Ev.bind hd (Ev.bind (specLevels_ev xs (by omega)) (Ev.bind hw2 (Ev.bind (specTicks_ev _ ws (by omega) (by omega)) (Ev.bind hv h))))))
  by_cases c0 : v = 0
  · exact ⟨_, u, pre (evT c0 (Ev.bind hu (Ev.now _))), by omega, by omega, by omega⟩
  · by_cases c1 : v = 1
    · exact ⟨_, w, pre (evF c0 (evT c1 (evT (by omega) (Ev.now _)))), by simp; omega, by omega, by omega⟩
    · exact ⟨_, w, pre (evF c0 (evF c1 (Ev.now _))), by omega, by omega, by omega⟩

theorem q_FnReadLine : laws_FnReadLine.Pure := by
  intro l hl1 hl2 hb
  refine Ev.rounds ?_
  simp only [laws_FnReadLine.f]
  by_cases h0 : (l.length : Int) > 1048576
  · exact evT h0 (Ev.now _)
  obtain ⟨ts, w, hd, k1, k2, k3⟩ := drawLevelsFrom_ev l hb
  have hd2 : Ev (fun k => spec_DrawReadLine.f k l) (ts, w) := by
    simp only [spec_DrawReadLine.f]
    exact Ev.bind hd (Ev.now _)
  have hs := readLine_len ts w
  have hi := implRead_ev ts (by omega) w
  have hsp := specRead_ev ts (by omega) w
  have hfrom := implFrom_ev ts (by omega) w
  have hfl := levelsFrom_len ts w
  have hno : ∀ b, readLine ts w = (b, false) → b = [] := fun b h => by
    unfold readLine at h
    split at h
    · exact bits_no h
    · exact (Prod.mk.inj h).1.symm
  have hyes : ∀ b, readLine ts w = (b, true) → (levelsFrom ts w).2 = true ∧ levels b = (levelsFrom ts w).1 := fun b h => by
    unfold readLine at h
    split at h
    · rename_i c; exact ⟨c, bits_levels h⟩
    · simp at h
  generalize readLine ts w = g at hs hi hsp hno hyes
  obtain ⟨g0, g1⟩ := g
  replace hs : g0.length ≤ 200 := hs
  have hq : Ev (fun k => laws_wnInts.f k g0 g0) true := evE (wnInts_ev _ _ (by omega)) (by simp)
  refine evF h0 (Ev.bind hd2 (Ev.bind hi (Ev.bind hsp ?_)))
  refine evF (by simp) (Ev.bind hq ?_)
  refine evT rfl ?_
  refine Ev.step (fun k => by rw [laws_FnReadLine.j0]) ?_
  cases g1 with
  | false =>
    refine evT rfl (evT (by simp) (Ev.bind hq (evT rfl (evE (Ev.now _) ?_))))
    rw [hno g0 rfl]; rfl
  | true =>
    obtain ⟨y1, y2⟩ := hyes g0 rfl
    refine evF (by simp) (Ev.bind hfrom ?_)
    refine evT y1 (Ev.bind (implLevels_ev g0 (by omega)) ?_)
    rw [y2]
    exact Ev.bind (evE (wnInts_ev _ _ (by omega)) (show decide ((levelsFrom ts w).1 = (levelsFrom ts w).1) = true by simp)) (Ev.now _)

end Go.Proofs.Ytegkgandlpiobaa.Q

/- Part 2 of the proof that PassageMore holds: who is earlier or has more is nowhere later, and more ways never make less. No condition. -/
import Derived.Test.YtoeendggmalcpaaMr1
set_option linter.unusedVariables false
set_option linter.unusedSimpArgs false
open Go.Vm
open Psg
namespace Psg
structure WdW (n : Nat) (w v : Wy) : Prop where
  wid : Wid w v
  h : w.h ≤ v.h
  ok : WOk n v
  ne : v.f ≠ v.t
theorem WdW.refl {n : Nat} {w : Wy} (h : WOk n w) (h2 : w.f ≠ w.t) : WdW n w w := ⟨⟨rfl, rfl, rfl, rfl, Int.le_refl _, Int.le_refl _, fun _ _ h => h⟩, Int.le_refl _, h, h2⟩
structure WdI (n : Nat) (ws : List Wy) (k : Nat) (vs : List Wy) : Prop where
  len : vs.length = ws.length
  at_ : ∀ (i : Nat) (w : Wy), ws[i]? = some w → ∃ v, vs[i]? = some v ∧ WdW n w v
  rest : ∀ i, k ≤ i → vs[i]? = ws[i]?
theorem WdI.zero {n : Nat} {ws : List Wy} (h : ∀ w ∈ ws, WOk n w ∧ w.f ≠ w.t) : WdI n ws 0 ws :=
  ⟨rfl, fun i w hw => ⟨w, hw, WdW.refl (h w (List.mem_of_getElem? hw)).1 (h w (List.mem_of_getElem? hw)).2⟩, fun _ _ => rfl⟩
theorem WdI.skip {n : Nat} {ws vs : List Wy} {k : Nat} (h : WdI n ws k vs) : WdI n ws (k + 1) vs := ⟨h.len, h.at_, fun i hi => h.rest i (by omega)⟩
theorem WdI.put {n : Nat} {ws vs : List Wy} {k : Nat} {w v : Wy} (h : WdI n ws k vs) (hw : ws[k]? = some w) (hv : WdW n w v) : WdI n ws (k + 1) (vs.set k v) := by
  have hk := (List.getElem?_eq_some_iff.1 hw).1
  have hl := h.len
  refine ⟨by rw [List.length_set]; exact h.len, fun i u hu => ?_, fun i hi => ?_⟩
  · by_cases e : k = i
    · subst e
      rw [hw] at hu; injection hu with hu; subst hu
      exact ⟨v, List.getElem?_set_self (by omega), hv⟩
    · rw [List.getElem?_set_ne e]; exact h.at_ i u hu
  · rw [List.getElem?_set_ne (by omega)]; exact h.rest i (by omega)
theorem less_of : ∀ {a b : List Wy}, (∀ (i : Nat) (w : Wy), a[i]? = some w → ∃ v, b[i]? = some v ∧ w.f = v.f ∧ w.t = v.t ∧ w.h ≤ v.h) → Less a b
  | [], b, _ => by cases b <;> trivial
  | w :: a, b, h => by
    obtain ⟨v, h1, h2⟩ := h 0 w rfl
    cases b with
    | nil => cases h1
    | cons u b =>
      simp only [List.getElem?_cons_zero, Option.some.injEq] at h1
      subst h1
      exact ⟨h2, less_of fun i x hx => h (i + 1) x hx⟩
end Psg
namespace Go.Proofs.Ytoeendggmalcpaa
set_option maxRecDepth 20000
set_option maxHeartbeats 4000000
theorem mdN_small (bs : List Int) (d : DS) {p w : Int} (hp : 2 ≤ p ∧ p ≤ 10) : ∀ v ∈ (mdN bs d p w).ws, v.h ≤ 19 ∧ v.hi ≤ 48 := by
  have b1 := dNx_bd bs d (p - 2 + 1)
  rw [show dNx bs d (p - 2 + 1) = mdX bs d p from rfl] at b1
  obtain ⟨n, hn⟩ : ∃ n : Nat, 2 + (mdX bs d p).1 = n := ⟨(2 + (mdX bs d p).1).toNat, by omega⟩
  have key : ∀ k, ∀ v ∈ (mIt bs n ((mdC bs d p w).2, []) k).2, v.h ≤ 19 ∧ v.hi ≤ 48 := by
    intro k
    induction k with
    | zero => intro v hv; simp [mIt] at hv
    | succ k ih =>
      intro v hv
      rw [mIt] at hv
      rcases List.mem_append.1 hv with hv | hv
      · exact ih v hv
      · rw [List.mem_singleton.1 hv]
        have h := mW_ok bs n (mIt bs n ((mdC bs d p w).2, []) k).1 (by omega)
        have h1 := h.a5; have h2 := h.a2; have h3 := h.a6
        unfold mWy
        dsimp only
        omega
  have := key (mdC bs d p w).1.toNat
  rw [← hn] at this
  exact this
structure MoR (n : Nat) (N : Nt) (x : Hd) (W : Nt) (g : Hd) : Prop where
  okW : NOk n W
  okG : HOk n g
  sup : Sup x g
  wid : WidL N.ws W.ws
  less : Less N.ws W.ws
theorem mor_of {n : Nat} {N : Nt} {x g : Hd} {vs : List Wy} {wA : Wy} (hN : NOk n N) (hl : N.ws.length ≤ 23) (hw : WdI n N.ws N.ws.length vs) (hA : WOk n wA ∧ wA.f ≠ wA.t) (hg : HOk n g) (hs : Sup x g) : MoR n N x ⟨N.p, vs ++ [wA]⟩ g := by
  have hvl := hw.len
  have hat : ∀ (i : Nat) (w : Wy), N.ws[i]? = some w → ∃ v, (vs ++ [wA])[i]? = some v ∧ WdW n w v := fun i w h => by
    obtain ⟨v, h1, h2⟩ := hw.at_ i w h
    refine ⟨v, ?_, h2⟩
    rw [List.getElem?_append_left (List.getElem?_eq_some_iff.1 h1).1]; exact h1
  have hmem : ∀ v ∈ vs ++ [wA], WOk n v ∧ v.f ≠ v.t := fun v hv => by
    rcases List.mem_append.1 hv with hv | hv
    · obtain ⟨i, hi⟩ := List.mem_iff_getElem?.1 hv
      have hil := (List.getElem?_eq_some_iff.1 hi).1
      obtain ⟨u, h1, h2⟩ := hw.at_ i (N.ws[i]'(by omega)) (List.getElem?_eq_getElem _)
      rw [hi] at h1; injection h1 with h1; subst h1
      exact ⟨h2.ok, h2.ne⟩
    · rw [List.mem_singleton.1 hv]; exact hA
  refine ⟨⟨hN.p, hN.n1, by dsimp only; rw [List.length_append]; simp; omega, fun v hv => (hmem v hv).1, fun v hv => (hmem v hv).2⟩, hg, hs, fun i w h => ?_, less_of fun i w h => ?_⟩
  · obtain ⟨v, h1, h2⟩ := hat i w h
    exact ⟨v, h1, h2.wid⟩
  · obtain ⟨v, h1, h2⟩ := hat i w h
    exact ⟨v, h1, h2.wid.f.symm, h2.wid.t.symm, h2.h⟩
theorem dyP_sup {n : Nat} {N W : Nt} {x g : Hd} (hN : NOk n N) (hW : NOk n W) (hx : HOk n x) (hg : HOk n g) (hl : WidL N.ws W.ws) (hs : Sup x g) {k : Nat} (hk : k < n) (h : dyP N x k ≠ -1) : dyP W g k ≠ -1 ∧ dyP W g k ≤ dyP N x k := by
  have hD := bgn_lst hN.n1.2 hN.ws hx
  have hE := bgn_lst hW.n1.2 hW.ws hg
  have c1 := dayOf_cap hD (p := (k : Int)) (by omega)
  have c2 := dayOf_cap hE (p := (k : Int)) (by omega)
  have hd : dayOf (atD (bgn N.ws x).D) k ≤ 1000 := Decidable.byContradiction fun h9 => h (by unfold dyP tell; rw [if_neg h9])
  have := day_sup hN.ws hW.ws hx hg hl hs hD hE (p := (k : Int)) (by omega) hd
  unfold dyP tell
  rw [if_pos hd, if_pos (by omega)]
  omega
theorem sup_refl {n : Nat} {x : Hd} (hx : HOk n x) : Sup x x := ⟨rfl, Int.le_refl _, has_refl hx.s, hx.s⟩
theorem widl_refl (ws : List Wy) : WidL ws ws := fun i w h => ⟨w, h, ⟨rfl, rfl, rfl, rfl, Int.le_refl _, Int.le_refl _, fun _ _ h => h⟩⟩
theorem drv_less {n : Nat} {N W : Nt} {a b : List Int} (hN : NOk n N) (hW : NOk n W) (hP : Ps n N.ws a b) (hl : Less N.ws W.ws) : (dvP N a b).2.1 ≤ (dvP W a b).2.1 := by
  have hP2 : Ps n W.ws a b := ⟨hW.inN, hP.smt, hP.gin, hP.dis⟩
  exact Mn.less ((dvP_ok hN hP).mn hP) ((dvP_ok hW hP2).mn hP2) hl fun w hw => (hW.ws w hw).h.1
theorem pas_to {n : Nat} {N W : Nt} {a b : List Int} (hW : NOk n W) (hP : Ps n N.ws a b) (h0 : pas N a b = 0) : pas W a b = 0 := by
  obtain ⟨_, _, _, q3, q4, q5, q6⟩ := pas_ok h0
  exact pas_of hW (fun x hx => hP.smt.inN x hx) hP.gin q3 q4 q5 q6 hP.dis
def repH (x : Hd) (k : Nat) : List Hd := List.replicate k x
def allP (k : Nat) : List Int := (List.range k).map fun i : Nat => (i : Int)
theorem repH_succ (x : Hd) (k : Nat) : repH x (k + 1) = repH x k ++ [x] := List.replicate_succ'
theorem allP_succ (k : Nat) : allP (k + 1) = allP k ++ [(k : Int)] := by unfold allP; rw [List.range_succ, List.map_append]; rfl
theorem allP_len (k : Nat) : (allP k).length = k := by unfold allP; rw [List.length_map, List.length_range]
theorem repH_len (x : Hd) (k : Nat) : (repH x k).length = k := List.length_replicate
theorem bd_all {n : Nat} {N : Nt} {x : Hd} (hN : NOk n N) (hx : HOk n x) : bdE N (repH x n) (allP n) = 0 ∧ ∀ k : Nat, k < n → ((k : Int) ∈ bdL N (repH x n) (allP n) n ↔ dyP N x k = -1) := by
  have hn := hN.n1
  have hp := hN.p
  refine ⟨?_, fun k hk => ?_⟩
  · unfold bdE
    rw [if_pos hN.chk, if_pos ⟨by rw [repH_len]; omega, by rw [repH_len, allP_len]⟩, if_pos (hrdL_of fun y hy => ?_), if_pos ?_]
    · rw [List.all_eq_true]
      intro p hp2
      unfold allP at hp2
      obtain ⟨i, hi, rfl⟩ := List.mem_map.1 hp2
      have := List.mem_range.1 hi
      exact decide_eq_true (by omega)
    · rw [List.eq_of_mem_replicate hy]; exact hN.hrd hx
  · rw [bdL_mem]
    have hb : bdB N (repH x n) (allP n) k = decide (dyP N x k = -1) := by
      unfold bdB repH allP
      rw [List.getD_eq_getElem?_getD, List.getD_eq_getElem?_getD, List.getElem?_replicate, if_pos hk, List.getElem?_map, List.getElem?_range hk]
      rfl
    constructor
    · rintro ⟨j, h1, h2, h3⟩
      have : j = k := by omega
      subst this
      rw [hb] at h3; exact of_decide_eq_true h3
    · intro h
      exact ⟨k, hk, rfl, by rw [hb]; exact decide_eq_true h⟩
end Go.Proofs.Ytoeendggmalcpaa


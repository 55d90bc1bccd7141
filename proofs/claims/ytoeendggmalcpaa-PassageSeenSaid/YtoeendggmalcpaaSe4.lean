/- Part 4 of the proof that passageSeen: with fewer sights word goes no faster. No condition. -/
import Derived.Test.YtoeendggmalcpaaSe3
set_option linter.unusedVariables false
set_option linter.unusedSimpArgs false
open Go.Vm
open Clip (Pn Sg Nt crs okD okD_iff)
namespace Go.Proofs.Ytoeendggmalcpaa.St
set_option maxRecDepth 20000
set_option maxHeartbeats 4000000

def vvP (a b : Pn) : Pn := ⟨b.x - a.x, b.y - a.y⟩
def scP (v : Pn) : Int := max (max (max (max 1 v.x) (0 - v.x)) v.y) (0 - v.y)
def nrP (v : Pn) : Pn := ⟨(30 * v.x).tdiv (scP v), (30 * v.y).tdiv (scP v)⟩
theorem nrP_bd (v : Pn) : (-30 ≤ (nrP v).x ∧ (nrP v).x ≤ 30) ∧ (-30 ≤ (nrP v).y ∧ (nrP v).y ≤ 30) ∧ 1 ≤ scP v := by
  have hs : 1 ≤ scP v ∧ v.x ≤ scP v ∧ -scP v ≤ v.x ∧ v.y ≤ scP v ∧ -scP v ≤ v.y := by unfold scP; omega
  unfold nrP
  generalize scP v = s at hs
  have key : ∀ x : Int, -s ≤ x → x ≤ s → -30 ≤ (30 * x).tdiv s ∧ (30 * x).tdiv s ≤ 30 := by
    intro x h1 h2
    have hle : (30 * x).natAbs / s.natAbs ≤ 30 := by
      refine Nat.div_le_of_le_mul ?_
      have : x.natAbs ≤ s.natAbs := by omega
      rw [Int.natAbs_mul]
      have : (30 : Int).natAbs = 30 := rfl
      rw [this, Nat.mul_comm]; exact Nat.mul_le_mul_right _ (by omega)
    have h3 : ((30 * x).tdiv s).natAbs ≤ 30 := by rw [Int.natAbs_tdiv]; exact hle
    omega
  exact ⟨key v.x hs.2.2.1 hs.2.1, key v.y hs.2.2.2.2 hs.2.2.2.1, hs.1⟩
/-! What is dealt: two directions, and the deck behind them. -/
def sg1 (bs : List Int) (d : DS) : Pn × DS := tnV bs d 30
def sg2 (bs : List Int) (d : DS) : Pn × DS := tnV bs (sg1 bs d).2 30
def sgC (bs : List Int) (d : DS) : Int × DS := dNx bs (sg2 bs d).2 2
def sg3 (bs : List Int) (d : DS) : Pn × DS := tnV bs (sgC bs d).2 8
def sgO (bs : List Int) (d : DS) (v : Pn) : Pn := if crs (sg3 bs d).1 v < 0 then bkP (sg3 bs d).1 else (sg3 bs d).1
def sgR (bs : List Int) (d : DS) (v : Pn) : Pn := if (sgC bs d).1 = 0 then ⟨(nrP v).x + (sgO bs d v).x, (nrP v).y + (sgO bs d v).y⟩ else (sg1 bs d).1
def sgL (bs : List Int) (d : DS) (v : Pn) : Pn := if (sgC bs d).1 = 0 then ⟨(nrP v).x - (sgO bs d v).x, (nrP v).y - (sgO bs d v).y⟩ else (sg2 bs d).1
def sgD (bs : List Int) (d : DS) : DS := if (sgC bs d).1 = 0 then (sg3 bs d).2 else (sgC bs d).2
def sgR1 (bs : List Int) (d : DS) (v : Pn) : Pn := if crs (sgR bs d v) v < 0 then bkP (sgR bs d v) else sgR bs d v
def sgL1 (bs : List Int) (d : DS) (v : Pn) : Pn := if crs v (sgL bs d v) < 0 then bkP (sgL bs d v) else sgL bs d v
def sgR2 (bs : List Int) (d : DS) (v : Pn) : Pn := if crs (sgR1 bs d v) (sgL1 bs d v) < 0 then bkP (sgL1 bs d v) else sgR1 bs d v
def sgL2 (bs : List Int) (d : DS) (v : Pn) : Pn := if crs (sgR1 bs d v) (sgL1 bs d v) < 0 then bkP (sgR1 bs d v) else sgL1 bs d v
def sgB (bs : List Int) (d : DS) (v : Pn) : Bool := decide ((0 < crs (sgR2 bs d v) (sgL2 bs d v) ∧ 0 ≤ crs (sgR2 bs d v) v) ∧ 0 ≤ crs v (sgL2 bs d v))
structure P38 (p : Pn) : Prop where
  x : -38 ≤ p.x ∧ p.x ≤ 38
  y : -38 ≤ p.y ∧ p.y ≤ 38
theorem P38.b {p : Pn} (h : P38 p) : PnB p := ⟨by have := h.x; omega, by have := h.y; omega⟩
theorem P38.bk {p : Pn} (h : P38 p) : P38 (bkP p) := ⟨by have := h.x; unfold bkP; dsimp only; omega, by have := h.y; unfold bkP; dsimp only; omega⟩
structure SgD (d : DS) (v R L : Pn) (D : DS) : Prop where
  r : P38 R
  l : P38 L
  n : D.1 ≤ d.1 + 7
theorem sg_ok (bs : List Int) (d : DS) (v : Pn) : SgD d v (sgR bs d v) (sgL bs d v) (sgD bs d) := by
  have h1 := tn_ok bs d (m := 30) (by omega)
  have h2 := tn_ok bs (sg1 bs d).2 (m := 30) (by omega)
  have h3 := dNx_bd bs (sg2 bs d).2 2
  have h4 := tn_ok bs (sgC bs d).2 (m := 8) (by omega)
  have hn := nrP_bd v
  have e1 : tnV bs d 30 = sg1 bs d := rfl
  have e2 : tnV bs (sg1 bs d).2 30 = sg2 bs d := rfl
  have e3 : dNx bs (sg2 bs d).2 2 = sgC bs d := rfl
  have e4 : tnV bs (sgC bs d).2 8 = sg3 bs d := rfl
  rw [e1] at h1
  rw [e2] at h2
  rw [e3] at h3
  rw [e4] at h4
  have hO : (-8 ≤ (sgO bs d v).x ∧ (sgO bs d v).x ≤ 8) ∧ (-8 ≤ (sgO bs d v).y ∧ (sgO bs d v).y ≤ 8) := by
    have := h4.x
    have := h4.y
    unfold sgO bkP
    split <;> (try dsimp only) <;> omega
  have g1x := h1.x
  have g1y := h1.y
  have g2x := h2.x
  have g2y := h2.y
  have g1 := h1.n
  have g2 := h2.n
  have g4 := h4.n
  unfold sgR sgL sgD
  refine ⟨?_, ?_, ?_⟩
  · split
    · exact ⟨by dsimp only; omega, by dsimp only; omega⟩
    · exact ⟨by omega, by omega⟩
  · split
    · exact ⟨by dsimp only; omega, by dsimp only; omega⟩
    · exact ⟨by omega, by omega⟩
  · split <;> omega
theorem sg_sz (bs : List Int) (d : DS) (v : Pn) : P38 (sgR1 bs d v) ∧ P38 (sgL1 bs d v) ∧ P38 (sgR2 bs d v) ∧ P38 (sgL2 bs d v) := by
  obtain ⟨hr, hl, _⟩ := sg_ok bs d v
  have h1 : P38 (sgR1 bs d v) := by unfold sgR1; split; exact hr.bk; exact hr
  have h2 : P38 (sgL1 bs d v) := by unfold sgL1; split; exact hl.bk; exact hl
  refine ⟨h1, h2, ?_, ?_⟩
  · unfold sgR2; split; exact h2.bk; exact h1
  · unfold sgL2; split; exact h1.bk; exact h2
end Go.Proofs.Ytoeendggmalcpaa.St

open Go.Vm
open Clip (Pn Sg Nt crs okD okD_iff)
namespace Go.Proofs.Ytoeendggmalcpaa.St
set_option maxRecDepth 20000
set_option maxHeartbeats 4000000

theorem vc_SightedO (bs : List Int) (d : DS) (N : Nt) (f t : Int) (a b : Pn) (i : Vm.Id) (h : Hp) (ja jb : Vm.Id) (kb : Nat) (hja : h.get ja = some (.flat true (N.ps.flatMap encPn))) (hN : d.1 ≤ 1000000) (hn : N.ps.length ≤ 4000000) (hfb : 0 ≤ f ∧ f < N.ps.length) (htb : 0 ≤ t ∧ t < N.ps.length) (hf : N.ps[f.toNat]? = some a) (ht : N.ps[t.toNat]? = some b) (sa : Clip.okP a = true) (sb : Clip.okP b = true) (hd : h.get i = some (deckB bs d)) :
    VC Try.prog 104 [.ptr i 0, .agg [.gl ja 2 N.ps.length, .gl jb 6 kb], I f, I t] h (.tuple [vSg ⟨f, t, sgR2 bs d (vvP a b), sgL2 bs d (vvP a b)⟩, B (sgB bs d (vvP a b))]) (h.set i (deckB bs (sgD bs d))) := by
  have sa := Clip.okP_iff.1 sa
  have sb := Clip.okP_iff.1 sb
  obtain ⟨v, hv0⟩ : ∃ v, v = vvP a b := ⟨_, rfl⟩
  rw [← hv0]
  have exv : v.x = b.x - a.x := by rw [hv0]; rfl
  have eyv : v.y = b.y - a.y := by rw [hv0]; rfl
  have hv : PnB v := ⟨by omega, by omega⟩
  have hvx := hv.1
  have hvy := hv.2
  have p1 := fun h => vc_point (b.x - a.x) (b.y - a.y) h
  have ev : (⟨b.x - a.x, b.y - a.y⟩ : Pn) = v := hv0.symm
  rw [ev] at p1
  obtain ⟨z1, z2, z3, z4⟩ := sg_sz bs d v
  obtain ⟨y1, y2, y3⟩ := sg_ok bs d v
  have hnr := nrP_bd v
  have h1 := tn_ok bs d (m := 30) (by omega)
  have c1 := fun (h2 : Hp) hh => vc_Turn bs d 30 (.out i) h2 (by omega) (by omega) hh
  have e1 : tnV bs d 30 = sg1 bs d := rfl
  rw [e1] at h1 c1
  have g1 := h1.n
  have h2 := tn_ok bs (sg1 bs d).2 (m := 30) (by omega)
  have c2 := fun (h2 : Hp) hh => vc_Turn bs (sg1 bs d).2 30 (.out i) h2 (by omega) (by omega) hh
  have e2 : tnV bs (sg1 bs d).2 30 = sg2 bs d := rfl
  rw [e2] at h2 c2
  have g2 := h2.n
  have c3 := fun (h2 : Hp) hh => vc_coin bs (sg2 bs d).2 2 (.out i) h2 (by omega) hh
  have h3 := dNx_bd bs (sg2 bs d).2 2
  have e3 : dNx bs (sg2 bs d).2 2 = sgC bs d := rfl
  rw [e3] at c3 h3
  have c4 := fun (h2 : Hp) hh => vc_Turn bs (sgC bs d).2 8 (.out i) h2 (by omega) (by omega) hh
  have h4 := tn_ok bs (sgC bs d).2 (m := 8) (by omega)
  have e4 : tnV bs (sgC bs d).2 8 = sg3 bs d := rfl
  rw [e4] at c4 h4
  have g4 := h4.n
  have hO : PnB (sg3 bs d).1 := ⟨by have := h4.x; omega, by have := h4.y; omega⟩
  have k1 := fun h => vc_crossL (sg3 bs d).1 v h hO hv
  have k1b := fun h => vc_back (sg3 bs d).1 h hO
  have eO : sgO bs d v = if crs (sg3 bs d).1 v < 0 then bkP (sg3 bs d).1 else (sg3 bs d).1 := rfl
  have k2 := fun h => vc_crossL (sgR bs d v) v h y1.b hv
  have k2b := fun h => vc_back (sgR bs d v) h y1.b
  have k3 := fun h => vc_crossL v (sgL bs d v) h hv y2.b
  have k3b := fun h => vc_back (sgL bs d v) h y2.b
  have k4 := fun h => vc_crossL (sgR1 bs d v) (sgL1 bs d v) h z1.b z2.b
  have k4a := fun h => vc_back (sgR1 bs d v) h z1.b
  have k4b := fun h => vc_back (sgL1 bs d v) h z2.b
  have k5 := fun h => vc_crossL (sgR2 bs d v) (sgL2 bs d v) h z3.b z4.b
  have k6 := fun h => vc_crossL (sgR2 bs d v) v h z3.b hv
  have k7 := fun h => vc_crossL v (sgL2 bs d v) h hv z4.b
  have eR : sgR bs d v = if (sgC bs d).1 = 0 then ⟨(nrP v).x + (sgO bs d v).x, (nrP v).y + (sgO bs d v).y⟩ else (sg1 bs d).1 := rfl
  have eL : sgL bs d v = if (sgC bs d).1 = 0 then ⟨(nrP v).x - (sgO bs d v).x, (nrP v).y - (sgO bs d v).y⟩ else (sg2 bs d).1 := rfl
  have eD : sgD bs d = if (sgC bs d).1 = 0 then (sg3 bs d).2 else (sgC bs d).2 := rfl
  have eR1 : sgR1 bs d v = if crs (sgR bs d v) v < 0 then bkP (sgR bs d v) else sgR bs d v := rfl
  have eL1 : sgL1 bs d v = if crs v (sgL bs d v) < 0 then bkP (sgL bs d v) else sgL bs d v := rfl
  have eR2 : sgR2 bs d v = if crs (sgR1 bs d v) (sgL1 bs d v) < 0 then bkP (sgL1 bs d v) else sgR1 bs d v := rfl
  have eL2 : sgL2 bs d v = if crs (sgR1 bs d v) (sgL1 bs d v) < 0 then bkP (sgR1 bs d v) else sgL1 bs d v := rfl
  have eB : sgB bs d v = decide ((0 < crs (sgR2 bs d v) (sgL2 bs d v) ∧ 0 ≤ crs (sgR2 bs d v) v) ∧ 0 ≤ crs v (sgL2 bs d v)) := rfl
  have eN : nrP v = ⟨(30 * v.x).tdiv (scP v), (30 * v.y).tdiv (scP v)⟩ := rfl
  have eS : scP v = max (max (max (max 1 v.x) (0 - v.x)) v.y) (0 - v.y) := rfl
  generalize sgB bs d v = BB at *
  generalize sgR2 bs d v = R2 at *
  generalize sgL2 bs d v = L2 at *
  generalize sgR1 bs d v = R1 at *
  generalize sgL1 bs d v = L1 at *
  generalize sgR bs d v = R at *
  generalize sgL bs d v = L at *
  generalize sgD bs d = D at *
  generalize sgO bs d v = O at *
  generalize sg3 bs d = u3 at *
  generalize sgC bs d = uc at *
  generalize sg2 bs d = u2 at *
  generalize sg1 bs d = u1 at *
  generalize nrP v = nr at *
  generalize scP v = sc at *
  have o1 := h4.x
  have o2 := h4.y
  have o3 : (-8 ≤ (bkP u3.1).x ∧ (bkP u3.1).x ≤ 8) ∧ (-8 ≤ (bkP u3.1).y ∧ (bkP u3.1).y ≤ 8) := by unfold bkP; dsimp only; omega
  clear e1 e2 e3 e4 h1 h2 h3 ev
  refine VC.bodyC 6 Try.func104 rfl Try.ntmps104 Try.call104 (h.grows_set _ _) rfl ?_; conv => whnf
  repeat' (first | ((first | refine zs1 ?_ | refine zs2 ?_ | refine zs3 ?_ | refine zs4 ?_ | refine zs5 ?_); conv => whnf) | ((first | apply zi1 | apply zi2 | apply zi3 | apply zi4 | apply zi5) <;> intro _ <;> conv => whnf))
  refine zs6 [(6, 12), (9, 12)] ?_
  conv => whnf
  repeat' (first | ((first | refine zs1 ?_ | refine zs2 ?_ | refine zs3 ?_ | refine zs4 ?_ | refine zs5 ?_); conv => whnf) | ((first | apply zi1 | apply zi2 | apply zi3 | apply zi4 | apply zi5) <;> intro _ <;> conv => whnf) | (refine VLd.recd encPn_len f.toNat rfl rfl rfl (get_out hja _) hf rfl ?_; conv => whnf) | (refine VLd.recd encPn_len t.toNat rfl rfl rfl (get_out hja _) ht rfl ?_; conv => whnf) | (refine VCall.intro (p1 _) ?_; conv => whnf))
  refine zs6 [] ?_
  conv => whnf
  repeat' (first | ((first | refine zs1 ?_ | refine zs2 ?_ | refine zs3 ?_ | refine zs4 ?_ | refine zs5 ?_); conv => whnf) | ((first | apply zi1 | apply zi2 | apply zi3 | apply zi4 | apply zi5) <;> intro _ <;> conv => whnf) | (refine VCall.intro (vc_point _ _ _) ?_; conv => whnf) | (refine VCall.intro (c1 _ (get_out hd _)) ?_; conv => whnf) | (refine VCall.intro (c2 _ (outW_get _ _ _ _)) ?_; conv => whnf))
  have w1 : IntKind.i64.wrap ((30 * v.x).tdiv (max (max (max (max 1 v.x) (0 - v.x)) v.y) (0 - v.y))) = nr.x := by
    rw [← eS]
    have : (30 * v.x).tdiv sc = nr.x := by rw [eN]
    rw [this]; exact wrap_i64 (by omega)
  have w2 : IntKind.i64.wrap ((30 * v.y).tdiv (max (max (max (max 1 v.x) (0 - v.x)) v.y) (0 - v.y))) = nr.y := by
    rw [← eS]
    have : (30 * v.y).tdiv sc = nr.y := by rw [eN]
    rw [this]; exact wrap_i64 (by omega)
  rw [w1, w2]
  clear w1 w2 eN eS
  refine VCut.atO 1 [(0, .ptr (.out i) 0), (8, .ptr (.loc 0) 0), (12, .fp (encPn v)), (14, .fp (encPn nr)), (15, .ptr (.loc 1) 0)] (outW h.lift i (deckB bs u2.2)) [.flat true [DI 0, DI 0, DI 0, DI 0, DI 0, DI 0], .flat true (encSg ⟨f, t, u1.1, u2.1⟩)] (by funext j; by_cases e : j = i <;> simp [outW, e, Hp.set]) ?_ ?_
  · conv => whnf
    refine Retell.turn ⟨[1,6], 7, [(4, encPn v), (5, encPn nr)], []⟩ (TurnOk.mk' _ _ [(4, encPn v), (5, encPn nr)] [] (OutOk.outW (OutOk.lift _) rfl) rfl (by decide) zb zf trivial rfl) zv zm
  conv => whnf
  apply suffices_
  · intro hrest
    repeat' (first | ((first | refine zs1 ?_ | refine zs2 ?_ | refine zs3 ?_ | refine zs4 ?_ | refine zs5 ?_); conv => whnf) | ((first | apply zi1 | apply zi2 | apply zi3 | apply zi4 | apply zi5) <;> intro _ <;> conv => whnf) | (refine VCall.intro (c3 _ (outW_get _ _ _ _)) ?_; conv => whnf) | (refine VCall.intro (c4 _ (outW_get _ _ _ _)) ?_; conv => whnf) | (refine VCall.intro (k1 _) ?_; conv => whnf) | (refine VCall.intro (k1b _) ?_; conv => whnf) | (refine VCall.intro (vc_point _ _ _) ?_; conv => whnf))
    · rename_i hc hx
      have r1 : R = ⟨nr.x + (bkP u3.1).x, nr.y + (bkP u3.1).y⟩ := by rw [eR, if_pos hc, eO, if_pos hx]
      have l1 : L = ⟨nr.x - (bkP u3.1).x, nr.y - (bkP u3.1).y⟩ := by rw [eL, if_pos hc, eO, if_pos hx]
      have d1 : u3.2 = D := by rw [eD, if_pos hc]
      rw [d1]
      refine VCut.atO 1 [(8, .ptr (.loc 0) 0), (12, .fp (encPn v)), (15, .ptr (.loc 1) 0)] (outW h.lift i (deckB bs D)) [.flat true [DI 0, DI 0, DI 0, DI 0, DI 0, DI 0], .flat true (encSg ⟨f, t, R, L⟩)] (by funext j; by_cases e : j = i <;> simp [outW, e, Hp.set]) ?_ hrest.out
      rw [r1, l1]
      conv => whnf
      refine Retell.turn ⟨[0,1], 3, [], []⟩ (TurnOk.mk' _ _ [] [] (OutOk.outW (OutOk.lift _) rfl) rfl (by decide) zb trivial trivial rfl) zv zm
    · rename_i hc hx
      have r1 : R = ⟨nr.x + u3.1.x, nr.y + u3.1.y⟩ := by rw [eR, if_pos hc, eO, if_neg hx]
      have l1 : L = ⟨nr.x - u3.1.x, nr.y - u3.1.y⟩ := by rw [eL, if_pos hc, eO, if_neg hx]
      have d1 : u3.2 = D := by rw [eD, if_pos hc]
      rw [d1]
      refine VCut.atO 1 [(8, .ptr (.loc 0) 0), (12, .fp (encPn v)), (15, .ptr (.loc 1) 0)] (outW h.lift i (deckB bs D)) [.flat true [DI 0, DI 0, DI 0, DI 0, DI 0, DI 0], .flat true (encSg ⟨f, t, R, L⟩)] (by funext j; by_cases e : j = i <;> simp [outW, e, Hp.set]) ?_ hrest.out
      rw [r1, l1]
      conv => whnf
      refine Retell.turn ⟨[0,1], 3, [], []⟩ (TurnOk.mk' _ _ [] [] (OutOk.outW (OutOk.lift _) rfl) rfl (by decide) zb trivial trivial rfl) zv zm
    · rename_i hc
      have r1 : R = u1.1 := by rw [eR, if_neg hc]
      have l1 : L = u2.1 := by rw [eL, if_neg hc]
      have d1 : uc.2 = D := by rw [eD, if_neg hc]
      rw [d1]
      refine VCut.atO 1 [(8, .ptr (.loc 0) 0), (12, .fp (encPn v)), (15, .ptr (.loc 1) 0)] (outW h.lift i (deckB bs D)) [.flat true [DI 0, DI 0, DI 0, DI 0, DI 0, DI 0], .flat true (encSg ⟨f, t, R, L⟩)] (by funext j; by_cases e : j = i <;> simp [outW, e, Hp.set]) ?_ hrest.out
      rw [r1, l1]
      conv => whnf
      refine Retell.turn ⟨[0,1], 3, [], []⟩ (TurnOk.mk' _ _ [] [] (OutOk.outW (OutOk.lift _) rfl) rfl (by decide) zb trivial trivial rfl) zv zm
  · conv => whnf
    clear eR eL eD eO k1 k1b c1 c2 c3 c4 hnr o1 o2 o3 hO
    apply suffices_
    · intro hrest
      repeat' (first | ((first | refine zs1 ?_ | refine zs2 ?_ | refine zs3 ?_ | refine zs4 ?_ | refine zs5 ?_); conv => whnf) | ((first | apply zi1 | apply zi2 | apply zi3 | apply zi4 | apply zi5) <;> intro _ <;> conv => whnf) | (refine VCall.intro (k2 _) ?_; conv => whnf) | (refine VCall.intro (k2b _) ?_; conv => whnf))
      · rename_i hx
        have r1 : R1 = bkP R := by rw [eR1, if_pos hx]
        refine VCut.atO 1 [(8, .ptr (.loc 0) 0), (12, .fp (encPn v)), (15, .ptr (.loc 1) 0)] (outW h.lift i (deckB bs D)) [.flat true [DI 0, DI 0, DI 0, DI 0, DI 0, DI 0], .flat true (encSg ⟨f, t, R1, L⟩)] (by funext j; by_cases e : j = i <;> simp [outW, e, Hp.set]) ?_ hrest.out
        rw [r1]
        conv => whnf
        refine Retell.turn ⟨[0,1], 2, [], []⟩ (TurnOk.mk' _ _ [] [] (OutOk.outW (OutOk.lift _) rfl) rfl (by decide) zb trivial trivial rfl) zv zm
      · rename_i hx
        have r1 : R1 = R := by rw [eR1, if_neg hx]
        refine VCut.atO 1 [(8, .ptr (.loc 0) 0), (12, .fp (encPn v)), (15, .ptr (.loc 1) 0)] (outW h.lift i (deckB bs D)) [.flat true [DI 0, DI 0, DI 0, DI 0, DI 0, DI 0], .flat true (encSg ⟨f, t, R1, L⟩)] (by funext j; by_cases e : j = i <;> simp [outW, e, Hp.set]) ?_ hrest.out
        rw [r1]
        conv => whnf
        refine Retell.turn ⟨[0,1], 2, [], []⟩ (TurnOk.mk' _ _ [] [] (OutOk.outW (OutOk.lift _) rfl) rfl (by decide) zb trivial trivial rfl) zv zm
    · conv => whnf
      clear eR1 k2 k2b
      apply suffices_
      · intro hrest
        repeat' (first | ((first | refine zs1 ?_ | refine zs2 ?_ | refine zs3 ?_ | refine zs4 ?_ | refine zs5 ?_); conv => whnf) | ((first | apply zi1 | apply zi2 | apply zi3 | apply zi4 | apply zi5) <;> intro _ <;> conv => whnf) | (refine VCall.intro (k3 _) ?_; conv => whnf) | (refine VCall.intro (k3b _) ?_; conv => whnf))
        · rename_i hx
          have r1 : L1 = bkP L := by rw [eL1, if_pos hx]
          refine VCut.atO 1 [(8, .ptr (.loc 0) 0), (12, .fp (encPn v)), (15, .ptr (.loc 1) 0)] (outW h.lift i (deckB bs D)) [.flat true [DI 0, DI 0, DI 0, DI 0, DI 0, DI 0], .flat true (encSg ⟨f, t, R1, L1⟩)] (by funext j; by_cases e : j = i <;> simp [outW, e, Hp.set]) ?_ hrest.out
          rw [r1]
          conv => whnf
          refine Retell.turn ⟨[0,1], 2, [], []⟩ (TurnOk.mk' _ _ [] [] (OutOk.outW (OutOk.lift _) rfl) rfl (by decide) zb trivial trivial rfl) zv zm
        · rename_i hx
          have r1 : L1 = L := by rw [eL1, if_neg hx]
          refine VCut.atO 1 [(8, .ptr (.loc 0) 0), (12, .fp (encPn v)), (15, .ptr (.loc 1) 0)] (outW h.lift i (deckB bs D)) [.flat true [DI 0, DI 0, DI 0, DI 0, DI 0, DI 0], .flat true (encSg ⟨f, t, R1, L1⟩)] (by funext j; by_cases e : j = i <;> simp [outW, e, Hp.set]) ?_ hrest.out
          rw [r1]
          conv => whnf
          refine Retell.turn ⟨[0,1], 2, [], []⟩ (TurnOk.mk' _ _ [] [] (OutOk.outW (OutOk.lift _) rfl) rfl (by decide) zb trivial trivial rfl) zv zm
      · conv => whnf
        clear eL1 k3 k3b
        apply suffices_
        · intro hrest
          repeat' (first | ((first | refine zs1 ?_ | refine zs2 ?_ | refine zs3 ?_ | refine zs4 ?_ | refine zs5 ?_); conv => whnf) | ((first | apply zi1 | apply zi2 | apply zi3 | apply zi4 | apply zi5) <;> intro _ <;> conv => whnf) | (refine VCall.intro (k4 _) ?_; conv => whnf))
          · rename_i hx
            have r1 : R2 = bkP L1 := by rw [eR2, if_pos hx]
            have l1 : L2 = bkP R1 := by rw [eL2, if_pos hx]
            refine zs6 [(2, 4)] ?_
            conv => whnf
            repeat' (first | ((first | refine zs1 ?_ | refine zs2 ?_ | refine zs3 ?_ | refine zs4 ?_ | refine zs5 ?_); conv => whnf) | ((first | apply zi1 | apply zi2 | apply zi3 | apply zi4 | apply zi5) <;> intro _ <;> conv => whnf) | (refine VCall.intro (k4a _) ?_; conv => whnf) | (refine VCall.intro (k4b _) ?_; conv => whnf))
            refine VCut.atO 99 [(8, .ptr (.loc 0) 0), (12, .fp (encPn v)), (15, .ptr (.loc 1) 0)] (outW h.lift i (deckB bs D)) [.flat true [DI 0, DI 0, DI 0, DI 0, DI 0, DI 0], .flat true (encSg ⟨f, t, R2, L2⟩)] (by funext j; by_cases e : j = i <;> simp [outW, e, Hp.set]) ?_ hrest.out
            rw [r1, l1]
            conv => whnf
            refine Retell.turn ⟨[0,1], 2, [], []⟩ (TurnOk.mk' _ _ [] [] (OutOk.outW (OutOk.lift _) rfl) rfl (by decide) zb trivial trivial rfl) zv zm
          · rename_i hx
            have r1 : R2 = R1 := by rw [eR2, if_neg hx]
            have l1 : L2 = L1 := by rw [eL2, if_neg hx]
            refine VCut.atO 99 [(8, .ptr (.loc 0) 0), (12, .fp (encPn v)), (15, .ptr (.loc 1) 0)] (outW h.lift i (deckB bs D)) [.flat true [DI 0, DI 0, DI 0, DI 0, DI 0, DI 0], .flat true (encSg ⟨f, t, R2, L2⟩)] (by funext j; by_cases e : j = i <;> simp [outW, e, Hp.set]) ?_ hrest.out
            rw [r1, l1]
            conv => whnf
            refine Retell.turn ⟨[0,1], 2, [], []⟩ (TurnOk.mk' _ _ [] [] (OutOk.outW (OutOk.lift _) rfl) rfl (by decide) zb trivial trivial rfl) zv zm
        · conv => whnf
          refine zs6 [(0, 5), (0, 11), (0, 18)] ?_
          conv => whnf
          repeat' (first | ((first | refine zs1 ?_ | refine zs2 ?_ | refine zs3 ?_ | refine zs4 ?_ | refine zs5 ?_); conv => whnf) | ((first | apply zi1 | apply zi2 | apply zi3 | apply zi4 | apply zi5) <;> intro _ <;> conv => whnf) | (refine VCall.intro (k5 _) ?_; conv => whnf) | (refine VCall.intro (k6 _) ?_; conv => whnf) | (refine VCall.intro (k7 _) ?_; conv => whnf))
          · have e : BB = decide (0 ≤ crs v L2) := by rw [eB]; exact decide_eq_decide.2 (by omega)
            rw [e]
            refine (show VOut h ⟨outW h.lift i (deckB bs D), _⟩ _ _ _ from ?_)
            exact VOut.setF (L := 2) rfl hd fun _ => rfl
          · have e : BB = false := by rw [eB]; exact decide_eq_false (by omega)
            rw [e]
            refine (show VOut h ⟨outW h.lift i (deckB bs D), _⟩ _ _ _ from ?_)
            exact VOut.setF (L := 2) rfl hd fun _ => rfl
          · have e : BB = false := by rw [eB]; exact decide_eq_false (by omega)
            rw [e]
            refine (show VOut h ⟨outW h.lift i (deckB bs D), _⟩ _ _ _ from ?_)
            exact VOut.setF (L := 2) rfl hd fun _ => rfl
end Go.Proofs.Ytoeendggmalcpaa.St

open Go.Vm
open Clip (Pn Sg Nt NtOk SgOk crs okD okP okD_iff okP_iff pAt pAt_get pAt_ok offB)
namespace Go.Proofs.Ytoeendggmalcpaa.St
set_option maxRecDepth 20000
set_option maxHeartbeats 4000000

/-! ### A net that is dealt: all its sights hold -/
def pX (bs : List Int) (d : DS) : Int × DS := dNx bs d (250 - 0 + 1)
def pY (bs : List Int) (d : DS) : Int × DS := dNx bs (pX bs d).2 (250 - 0 + 1)
def pIt (bs : List Int) (u : DS × List Pn) : Nat → DS × List Pn
  | 0 => u
  | k + 1 => ((pY bs (pIt bs u k).1).2, (pIt bs u k).2 ++ [⟨(0 + (pX bs (pIt bs u k).1).1) * 4, (0 + (pY bs (pIt bs u k).1).1) * 4⟩])
structure PIok (N k : Nat) (u : DS × List Pn) : Prop where
  n : u.1.1 ≤ N + 2 * k
  len : u.2.length = k
  ok : ∀ p ∈ u.2, okP p = true
theorem pIt_ok {bs : List Int} {u : DS × List Pn} {N : Nat} (h : PIok N 0 u) : ∀ k, PIok N k (pIt bs u k)
  | 0 => h
  | k + 1 => by
    obtain ⟨h1, h2, h3⟩ := pIt_ok (bs := bs) h k
    obtain ⟨a1, a2, a3⟩ := dNx_bd bs (pIt bs u k).1 (250 - 0 + 1)
    obtain ⟨b1, b2, b3⟩ := dNx_bd bs (pX bs (pIt bs u k).1).2 (250 - 0 + 1)
    have e1 : dNx bs (pIt bs u k).1 (250 - 0 + 1) = pX bs (pIt bs u k).1 := rfl
    have e2 : dNx bs (pX bs (pIt bs u k).1).2 (250 - 0 + 1) = pY bs (pIt bs u k).1 := rfl
    rw [e1] at a1 a2 a3
    rw [e2] at b1 b2 b3
    rw [pIt]
    generalize pY bs (pIt bs u k).1 = y at *
    generalize pX bs (pIt bs u k).1 = x at *
    refine ⟨by dsimp only; omega, by simp [h2], fun p hp => ?_⟩
    rcases List.mem_append.1 hp with hp | hp
    · exact h3 p hp
    · rw [List.mem_singleton.1 hp]
      exact okP_iff.2 ⟨by dsimp only; omega, by dsimp only; omega⟩
def sF (bs : List Int) (n : Int) (d : DS) : Int × DS := dNx bs d n
def sT (bs : List Int) (n : Int) (d : DS) : Int × DS := dNx bs (sF bs n d).2 (n - 1 - 1 + 1)
def sTo (bs : List Int) (n : Int) (d : DS) : Int := ((sF bs n d).1 + (1 + (sT bs n d).1)).tmod n
def sV (bs : List Int) (ps : List Pn) (d : DS) : Pn := vvP (pAt ps (sF bs ps.length d).1) (pAt ps (sTo bs ps.length d))
def sSg (bs : List Int) (ps : List Pn) (d : DS) : Sg := ⟨(sF bs ps.length d).1, sTo bs ps.length d, sgR2 bs (sT bs ps.length d).2 (sV bs ps d), sgL2 bs (sT bs ps.length d).2 (sV bs ps d)⟩
def sOk (bs : List Int) (ps : List Pn) (d : DS) : Bool := sgB bs (sT bs ps.length d).2 (sV bs ps d)
def sDk (bs : List Int) (ps : List Pn) (d : DS) : DS := sgD bs (sT bs ps.length d).2
def sIt (bs : List Int) (ps : List Pn) (u : DS × List Sg) : Nat → DS × List Sg
  | 0 => u
  | k + 1 => (sDk bs ps (sIt bs ps u k).1, if sOk bs ps (sIt bs ps u k).1 = true then (sIt bs ps u k).2 ++ [sSg bs ps (sIt bs ps u k).1] else (sIt bs ps u k).2)
theorem sFT (bs : List Int) (n : Nat) (d : DS) (hn : 2 ≤ n) : (0 ≤ (sF bs n d).1 ∧ (sF bs n d).1 < n) ∧ (0 ≤ sTo bs n d ∧ sTo bs n d < n) ∧ (sF bs n d).1 ≠ sTo bs n d ∧ (sT bs n d).2.1 ≤ d.1 + 2 ∧ (sF bs n d).2.1 ≤ d.1 + 1 ∧ (0 ≤ (sT bs n d).1 ∧ (sT bs n d).1 < n) := by
  obtain ⟨a1, a2, a3⟩ := dNx_bd bs d n
  obtain ⟨b1, b2, b3⟩ := dNx_bd bs (sF bs n d).2 ((n : Int) - 1 - 1 + 1)
  have e1 : dNx bs d n = sF bs n d := rfl
  have e2 : dNx bs (sF bs n d).2 ((n : Int) - 1 - 1 + 1) = sT bs n d := rfl
  rw [e1] at a1 a2 a3
  rw [e2] at b1 b2 b3
  have et : sTo bs n d = ((sF bs n d).1 + (1 + (sT bs n d).1)).tmod n := rfl
  rw [et]
  generalize sF bs n d = x at *
  generalize sT bs n d = y at *
  have hm : (x.1 + (1 + y.1)).tmod n = if x.1 + (1 + y.1) < n then x.1 + (1 + y.1) else x.1 + (1 + y.1) - n := by
    rw [Int.tmod_eq_emod_of_nonneg (by omega)]
    split
    · exact Int.emod_eq_of_lt (by omega) (by omega)
    · rw [← Int.sub_emod_right]; exact Int.emod_eq_of_lt (by omega) (by omega)
  rw [hm]
  refine ⟨by omega, ?_, ?_, by omega, by omega, by omega⟩
  · split <;> omega
  · split <;> omega
structure SIok (ps : List Pn) (N k : Nat) (u : DS × List Sg) : Prop where
  n : u.1.1 ≤ N + 9 * k
  len : u.2.length ≤ k
  ok : ∀ s ∈ u.2, SgOk ps.length s ∧ offB ps s = false
theorem p38_ok {a b : Pn} (ha : P38 a) (hb : P38 b) (h : 0 < crs a b) : okD a = true ∧ okD b = true := by
  have x1 := ha.x
  have x2 := ha.y
  have x3 := hb.x
  have x4 := hb.y
  refine ⟨okD_iff.2 ⟨fun e => ?_, by omega, by omega⟩, okD_iff.2 ⟨fun e => ?_, by omega, by omega⟩⟩
  · unfold crs at h; rw [e.1, e.2, Int.zero_mul, Int.zero_mul] at h; omega
  · unfold crs at h; rw [e.1, e.2, Int.mul_zero, Int.mul_zero] at h; omega
theorem sSg_ok {bs : List Int} {ps : List Pn} {d : DS} (hn : 2 ≤ ps.length) (h : sOk bs ps d = true) : SgOk ps.length (sSg bs ps d) ∧ offB ps (sSg bs ps d) = false := by
  obtain ⟨f1, f2, f3, _⟩ := sFT bs ps.length d hn
  obtain ⟨_, _, z3, z4⟩ := sg_sz bs (sT bs ps.length d).2 (sV bs ps d)
  unfold sOk sgB at h
  rw [decide_eq_true_eq] at h
  obtain ⟨⟨h1, h2⟩, h3⟩ := h
  obtain ⟨k1, k2⟩ := p38_ok z3 z4 h1
  refine ⟨⟨f1, f2, f3, k1, k2, h1⟩, ?_⟩
  unfold offB
  refine decide_eq_false ?_
  have e : (⟨(pAt ps (sSg bs ps d).t).x - (pAt ps (sSg bs ps d).f).x, (pAt ps (sSg bs ps d).t).y - (pAt ps (sSg bs ps d).f).y⟩ : Pn) = sV bs ps d := rfl
  rw [e]
  show ¬ (crs (sgR2 bs (sT bs ps.length d).2 (sV bs ps d)) (sV bs ps d) < 0 ∨ crs (sV bs ps d) (sgL2 bs (sT bs ps.length d).2 (sV bs ps d)) < 0)
  omega
theorem sIt_ok {bs : List Int} {ps : List Pn} {u : DS × List Sg} {N : Nat} (hn : 2 ≤ ps.length) (h : SIok ps N 0 u) : ∀ k, SIok ps N k (sIt bs ps u k)
  | 0 => h
  | k + 1 => by
    obtain ⟨h1, h2, h3⟩ := sIt_ok (bs := bs) hn h k
    have hf := sFT bs ps.length (sIt bs ps u k).1 hn
    have hd := (sg_ok bs (sT bs ps.length (sIt bs ps u k).1).2 (sV bs ps (sIt bs ps u k).1)).n
    have e : sDk bs ps (sIt bs ps u k).1 = sgD bs (sT bs ps.length (sIt bs ps u k).1).2 := rfl
    rw [← e] at hd
    have hs := fun hh => sSg_ok (bs := bs) (ps := ps) (d := (sIt bs ps u k).1) hn hh
    rw [sIt]
    generalize sDk bs ps (sIt bs ps u k).1 = D at *
    generalize sSg bs ps (sIt bs ps u k).1 = s at *
    generalize sOk bs ps (sIt bs ps u k).1 = b at *
    refine ⟨by dsimp only; omega, ?_, ?_⟩
    · dsimp only; split
      · rw [List.length_append]; simp only [List.length_singleton]; omega
      · omega
    · dsimp only; split
      · rename_i hb
        intro q hq
        rcases List.mem_append.1 hq with hq | hq
        · exact h3 q hq
        · rw [List.mem_singleton.1 hq]; exact hs hb
      · exact h3
def mdX (bs : List Int) (d : DS) (p : Int) : Int × DS := dNx bs d (p - 2 + 1)
def mdP (bs : List Int) (d : DS) (p : Int) : DS × List Pn := pIt bs ((mdX bs d p).2, []) (2 + (mdX bs d p).1).toNat
def mdC (bs : List Int) (d : DS) (p s : Int) : Int × DS := dNx bs (mdP bs d p).1 (s + 1)
def mdS (bs : List Int) (d : DS) (p s : Int) : DS × List Sg := sIt bs (mdP bs d p).2 ((mdC bs d p s).2, []) (mdC bs d p s).1.toNat
def mdN (bs : List Int) (d : DS) (p s : Int) : Nt := ⟨(mdP bs d p).2, (mdS bs d p s).2⟩
structure MdOk (p s : Int) (N : Nt) : Prop where
  ok : NtOk N
  n : 2 ≤ N.ps.length ∧ (N.ps.length : Int) ≤ p
  m : (N.ss.length : Int) ≤ s
  on : ∀ x ∈ N.ss, offB N.ps x = false
theorem mdP_ok (bs : List Int) (d : DS) {p : Int} (hp : 2 ≤ p ∧ p ≤ 10) : (mdP bs d p).1.1 ≤ d.1 + 21 ∧ (mdP bs d p).2.length = (2 + (mdX bs d p).1).toNat ∧ 2 ≤ (mdP bs d p).2.length ∧ ((mdP bs d p).2.length : Int) ≤ p ∧ ∀ q ∈ (mdP bs d p).2, okP q = true := by
  obtain ⟨a1, a2, a3⟩ := dNx_bd bs d (p - 2 + 1)
  have e : dNx bs d (p - 2 + 1) = mdX bs d p := rfl
  rw [e] at a1 a2 a3
  obtain ⟨h1, h2, h3⟩ := pIt_ok (bs := bs) (u := ((mdX bs d p).2, [])) (N := (mdX bs d p).2.1) ⟨by dsimp only; omega, rfl, by simp⟩ (2 + (mdX bs d p).1).toNat
  have e2 : pIt bs ((mdX bs d p).2, []) (2 + (mdX bs d p).1).toNat = mdP bs d p := rfl
  rw [e2] at h1 h2 h3
  exact ⟨by omega, h2, by omega, by omega, h3⟩
theorem mdN_ok (bs : List Int) (d : DS) {p s : Int} (hp : 2 ≤ p ∧ p ≤ 10) (hs : 0 ≤ s ∧ s ≤ 20) : MdOk p s (mdN bs d p s) ∧ (mdS bs d p s).1.1 ≤ d.1 + 300 := by
  obtain ⟨q1, q2, q3, q4, q5⟩ := mdP_ok bs d hp
  obtain ⟨a1, a2, a3⟩ := dNx_bd bs (mdP bs d p).1 (s + 1)
  have e : dNx bs (mdP bs d p).1 (s + 1) = mdC bs d p s := rfl
  rw [e] at a1 a2 a3
  obtain ⟨h1, h2, h3⟩ := sIt_ok (bs := bs) (ps := (mdP bs d p).2) (u := ((mdC bs d p s).2, [])) (N := (mdC bs d p s).2.1) q3 ⟨by dsimp only; omega, Nat.le_refl _, by simp⟩ (mdC bs d p s).1.toNat
  have e2 : sIt bs (mdP bs d p).2 ((mdC bs d p s).2, []) (mdC bs d p s).1.toNat = mdS bs d p s := rfl
  rw [e2] at h1 h2 h3
  refine ⟨⟨⟨?_, ?_, q5, fun x hx => (h3 x hx).1⟩, ⟨q3, q4⟩, ?_, fun x hx => (h3 x hx).2⟩, by omega⟩
  · show 1 ≤ (mdP bs d p).2.length ∧ (mdP bs d p).2.length ≤ 10
    omega
  · show (mdS bs d p s).2.length ≤ 20
    omega
  · show ((mdS bs d p s).2.length : Int) ≤ s
    omega
end Go.Proofs.Ytoeendggmalcpaa.St

open Go.Vm
open Clip (Pn Sg Nt NtOk SgOk crs okD okP okD_iff okP_iff pAt pAt_get pAt_ok offB)
namespace Go.Proofs.Ytoeendggmalcpaa.St
set_option maxRecDepth 20000
set_option maxHeartbeats 4000000

theorem vc_Made (bs : List Int) (d : DS) (p s : Int) (i : Vm.Id) (h : Hp) (hN : d.1 ≤ 900000) (hp : 2 ≤ p ∧ p ≤ 10) (hs : 0 ≤ s ∧ s ≤ 20) (hd : h.get i = some (deckB bs d)) :
    VC Try.prog 58 [.ptr i 0, I p, I s] h (vN (mdN bs d p s)) (h.set i (deckB bs (mdS bs d p s).1)) := by
  have a1 := dNx_bd bs d (p - 2 + 1)
  have c1 := fun (h2 : Hp) hh => vc_between bs d 2 p (.out i) h2 (by omega) (by omega) (by omega) hh
  obtain ⟨q1, q2, q3, q4, q5⟩ := mdP_ok bs d hp
  have eN : mdN bs d p s = ⟨(mdP bs d p).2, (mdS bs d p s).2⟩ := rfl
  rw [eN]
  unfold mdS mdC
  have hP0 : mdP bs d p = pIt bs ((mdX bs d p).2, []) (2 + (mdX bs d p).1).toNat := rfl
  have e1 : dNx bs d (p - 2 + 1) = mdX bs d p := rfl
  rw [e1] at a1 c1
  generalize mdX bs d p = x1 at *
  have hPk := fun k => pIt_ok (bs := bs) (u := (x1.2, [])) (N := x1.2.1) ⟨by dsimp only; omega, rfl, by simp⟩ k
  obtain ⟨n, hn⟩ : ∃ n : Nat, 2 + x1.1 = n := ⟨(2 + x1.1).toNat, by omega⟩
  rw [hn] at c1 hP0 q2
  rw [Int.toNat_natCast] at hP0 q2
  generalize mdP bs d p = W at *
  have a2 := dNx_bd bs W.1 (s + 1)
  have c2 := fun (h2 : Hp) hh => vc_draw bs W.1 (s + 1) (.out i) h2 (by omega) hh
  generalize dNx bs W.1 (s + 1) = x2 at *
  have hSk := fun k => sIt_ok (bs := bs) (ps := W.2) (u := (x2.2, [])) (N := x2.2.1) q3 ⟨by dsimp only; omega, Nat.le_refl _, by simp⟩ k
  obtain ⟨m, hm⟩ : ∃ m : Nat, x2.1 = m := ⟨x2.1.toNat, by omega⟩
  rw [hm] at c2 ⊢
  rw [Int.toNat_natCast]
  obtain ⟨R, hR⟩ : ∃ R, R = sIt bs W.2 (x2.2, []) m := ⟨_, rfl⟩
  rw [← hR]
  clear eN e1
  refine VC.body Try.func58 rfl Try.ntmps58 Try.call58 (h.grows_set _ _) rfl ?_
  conv => whnf
  repeat' (first | ((first | refine zs1 ?_ | refine zs2 ?_ | refine zs3 ?_ | refine zs4 ?_ | refine zs5 ?_ | refine zs6 [] ?_); conv => whnf) | ((first | apply zi1 | apply zi2 | apply zi3 | apply zi4 | apply zi5) <;> intro _ <;> conv => whnf) | (refine VCall.intro (c1 _ (get_out hd _)) ?_; conv => whnf))
  refine VCode.lpo (fun y : Nat × (DS × List Pn) => [(0, .ptr (.out i) 0), (2, I s), (6, .ptr (.loc 0) 0), (7, .ptr (.loc 1) 0), (14, I n), (15, I y.1)]) (fun y => outW h.lift i (deckB bs y.2.1))
    (fun y => [.flat true [.nilslice, .nilslice], .cells true [.gl (.loc 2) 2 y.2.2.length, .nilslice], .flat true (y.2.2.flatMap encPn)]) (fun y => y.1 ≤ n ∧ y.2 = pIt bs (x1.2, []) y.1) (fun y => n - y.1) (0, (x1.2, [])) ⟨Nat.zero_le _, rfl⟩ ?_ ?_ ?_
  · funext j; by_cases e : j = i <;> simp [outW, e, Hp.set]
  · conv => whnf
    refine Retell.turn ⟨[0,1,2], 2, [], []⟩ (TurnOk.mk' _ _ [] [] (OutOk.outW (OutOk.lift _) rfl) rfl (by decide) zb trivial trivial rfl) zv zm
  · rintro ⟨k, w⟩ ⟨hk, hw⟩
    dsimp only at hk hw
    have hwk := hPk k
    have hnx : pIt bs (x1.2, []) (k + 1) = ((pY bs w.1).2, w.2 ++ [⟨(0 + (pX bs w.1).1) * 4, (0 + (pY bs w.1).1) * 4⟩]) := by rw [pIt, hw]
    rw [← hw] at hwk
    obtain ⟨n1, n2, n3⟩ := hwk
    have y1 := dNx_bd bs w.1 (250 - 0 + 1)
    have g1 := fun (h2 : Hp) hh => vc_between bs w.1 0 250 (.out i) h2 (by omega) (by omega) (by omega) hh
    have ex : dNx bs w.1 (250 - 0 + 1) = pX bs w.1 := rfl
    rw [ex] at y1 g1
    have y2 := dNx_bd bs (pX bs w.1).2 (250 - 0 + 1)
    have g2 := fun (h2 : Hp) hh => vc_between bs (pX bs w.1).2 0 250 (.out i) h2 (by omega) (by omega) (by omega) hh
    have ey : dNx bs (pX bs w.1).2 (250 - 0 + 1) = pY bs w.1 := rfl
    rw [ey] at y2 g2
    clear ex ey
    generalize pY bs w.1 = z2 at *
    generalize pX bs w.1 = z1 at *
    conv => whnf
    refine VIte.dec (fun h3 => ?_) (fun h3 => ?_)
    · conv => whnf
      refine zs6 [(1, 3), (1, 6), (1, 8)] ?_
      conv => whnf
      repeat' (first | ((first | refine zs1 ?_ | refine zs2 ?_ | refine zs3 ?_ | refine zs4 ?_ | refine zs5 ?_); conv => whnf) | ((first | apply zi1 | apply zi2 | apply zi3 | apply zi4 | apply zi5) <;> intro _ <;> conv => whnf) | (refine VCall.intro (g1 _ (outW_get _ _ _ _)) ?_; conv => whnf) | (refine VCall.intro (g2 _ (outW_get _ _ _ _)) ?_; conv => whnf) | (refine VCall.intro (vc_point _ _ _) ?_; conv => whnf))
      refine VMem.app1 (l := w.2) (⟨(0 + z1.1) * 4, (0 + z2.1) * 4⟩ : Pn) encPn_len rfl rfl rfl rfl rfl (by omega) ?_
      conv => whnf
      repeat' (first | ((first | refine zs1 ?_ | refine zs2 ?_ | refine zs3 ?_ | refine zs4 ?_ | refine zs5 ?_); conv => whnf) | ((first | apply zi1 | apply zi2 | apply zi3 | apply zi4 | apply zi5) <;> intro _ <;> conv => whnf))
      refine LEndO.intro (k + 1, _) ⟨by dsimp only; omega, hnx.symm⟩ (by dsimp only; omega) ?_ ?_
      · funext j; by_cases e : j = i <;> simp [outW, e, Hp.set]
      · conv => whnf
        rw [List.length_append]
        refine Retell.turn ⟨[0,1,4], 5, [], []⟩ (TurnOk.mk' _ _ [] [] (OutOk.outW (OutOk.lift _) rfl) rfl (by decide) zb trivial trivial rfl) zv zm
    · have hkn : k = n := by dsimp only at h3; omega
      subst hkn
      rw [← hP0] at hw
      subst hw
      conv => whnf
      repeat' (first | ((first | refine zs1 ?_ | refine zs2 ?_ | refine zs3 ?_ | refine zs4 ?_ | refine zs5 ?_); conv => whnf) | ((first | apply zi1 | apply zi2 | apply zi3 | apply zi4 | apply zi5) <;> intro _ <;> conv => whnf) | (refine VCall.intro (c2 _ (outW_get _ _ _ _)) ?_; conv => whnf))
      refine VCode.lpo (fun y : Nat × (DS × List Sg) => [(0, .ptr (.out i) 0), (6, .ptr (.loc 0) 0), (7, .ptr (.loc 1) 0), (33, I m), (34, I y.1)]) (fun y => outW h.lift i (deckB bs y.2.1))
        (fun y => [.flat true [.nilslice, .nilslice], .cells true [.gl (.loc 2) 2 w.2.length, .gl (.loc 3) 6 y.2.2.length], .flat true (w.2.flatMap encPn), .flat true (y.2.2.flatMap encSg)]) (fun y => y.1 ≤ m ∧ y.2 = sIt bs w.2 (x2.2, []) y.1) (fun y => m - y.1) (0, (x2.2, [])) ⟨Nat.zero_le _, rfl⟩ ?_ ?_ ?_
      · funext j; by_cases e : j = i <;> simp [outW, e, Hp.set]
      · conv => whnf
        refine Retell.turn ⟨[0,1,2,3], 3, [], []⟩ (TurnOk.mk' _ _ [] [] (OutOk.outW (OutOk.lift _) rfl) rfl (by decide) zb trivial trivial rfl) zv zm
      · rintro ⟨k, u⟩ ⟨hk, hu⟩
        dsimp only at hk hu
        have huk := hSk k
        have hnx : sIt bs w.2 (x2.2, []) (k + 1) = (sDk bs w.2 u.1, if sOk bs w.2 u.1 = true then u.2 ++ [sSg bs w.2 u.1] else u.2) := by rw [sIt, hu]
        rw [← hu] at huk
        obtain ⟨n1, n2, n3⟩ := huk
        have hft := sFT bs w.2.length u.1 q3
        have km : k ≤ 20 := by omega
        have hpk := fun (q : Int) (hq : 0 ≤ q ∧ q < w.2.length) => (List.getElem?_eq_getElem (l := w.2) (i := q.toNat) (by omega))
        have g1 := fun (h2 : Hp) hh => vc_draw bs u.1 (w.2.length : Int) (.out i) h2 (by omega) hh
        have ef : dNx bs u.1 (w.2.length : Int) = sF bs w.2.length u.1 := rfl
        rw [ef] at g1
        have g2 := fun (h2 : Hp) hh => vc_between bs (sF bs w.2.length u.1).2 1 ((w.2.length : Int) - 1) (.out i) h2 (by omega) (by omega) (by omega) hh
        have et : dNx bs (sF bs w.2.length u.1).2 ((w.2.length : Int) - 1 - 1 + 1) = sT bs w.2.length u.1 := rfl
        rw [et] at g2
        have hneB : ((w.2.length : Int) != 0) = true := by rw [bne_iff_ne]; omega
        have eTo : ((sF bs w.2.length u.1).1 + (1 + (sT bs w.2.length u.1).1)).tmod (w.2.length : Int) = sTo bs w.2.length u.1 := rfl
        have hf := hpk _ hft.1
        have ht := hpk _ hft.2.1
        have oF := q5 _ (List.getElem_mem (l := w.2) (n := (sF bs w.2.length u.1).1.toNat) (by omega))
        have oT := q5 _ (List.getElem_mem (l := w.2) (n := (sTo bs w.2.length u.1).toNat) (by omega))
        have g3 := fun (h2 : Hp) (hh : h2.get (.loc 2) = some (.flat true (w.2.flatMap encPn))) hd2 => vc_SightedO bs (sT bs w.2.length u.1).2 ⟨w.2, []⟩ (sF bs w.2.length u.1).1 (sTo bs w.2.length u.1) _ _ (.out i) h2 (.loc 2) (.loc 3) u.2.length hh (by omega) (by dsimp only; omega) hft.1 hft.2.1 hf ht oF oT hd2
        rw [← pAt_get hf, ← pAt_get ht] at g3
        have ev : vvP (pAt w.2 (sF bs w.2.length u.1).1) (pAt w.2 (sTo bs w.2.length u.1)) = sV bs w.2 u.1 := rfl
        rw [ev] at g3
        have es : (⟨(sF bs w.2.length u.1).1, sTo bs w.2.length u.1, sgR2 bs (sT bs w.2.length u.1).2 (sV bs w.2 u.1), sgL2 bs (sT bs w.2.length u.1).2 (sV bs w.2 u.1)⟩ : Sg) = sSg bs w.2 u.1 := rfl
        rw [es] at g3
        have eo : sgB bs (sT bs w.2.length u.1).2 (sV bs w.2 u.1) = sOk bs w.2 u.1 := rfl
        have ed : sgD bs (sT bs w.2.length u.1).2 = sDk bs w.2 u.1 := rfl
        rw [eo, ed] at g3
        clear hf ht oF oT ev es eo ed ef et hpk
        generalize sSg bs w.2 u.1 = sx at *
        generalize sOk bs w.2 u.1 = ok at *
        generalize sDk bs w.2 u.1 = D at *
        generalize sTo bs w.2.length u.1 = to at *
        generalize sT bs w.2.length u.1 = zt at *
        generalize sF bs w.2.length u.1 = zf at *
        conv => whnf
        refine VIte.dec (fun h3 => ?_) (fun h3 => ?_)
        · conv => whnf
          repeat' (first | ((first | refine zs1 ?_ | refine zs2 ?_ | refine zs3 ?_ | refine zs4 ?_ | refine zs5 ?_); conv => whnf) | ((first | apply zi1 | apply zi2 | apply zi3 | apply zi4 | apply zi5) <;> intro _ <;> conv => whnf) | (refine VCall.intro (g1 _ (outW_get _ _ _ _)) ?_; conv => whnf))
          refine zs6 [(6, 9)] ?_
          conv => whnf
          repeat' (first | ((first | refine zs1 ?_ | refine zs2 ?_ | refine zs3 ?_ | refine zs4 ?_ | refine zs5 ?_); conv => whnf) | ((first | apply zi1 | apply zi2 | apply zi3 | apply zi4 | apply zi5) <;> intro _ <;> conv => whnf) | (refine VCall.intro (g2 _ (outW_get _ _ _ _)) ?_; conv => whnf) | (refine VNeed.intro hneB ?_; conv => whnf))
          rw [eTo]
          refine VCall.intro (g3 _ rfl (outW_get _ _ _ _)) ?_
          cases ok with
          | false =>
            rw [if_neg (by decide)] at hnx
            conv => whnf
            repeat' (first | ((first | refine zs1 ?_ | refine zs2 ?_ | refine zs3 ?_ | refine zs4 ?_ | refine zs5 ?_); conv => whnf) | ((first | apply zi1 | apply zi2 | apply zi3 | apply zi4 | apply zi5) <;> intro _ <;> conv => whnf))
            refine LEndO.intro (k + 1, _) ⟨by dsimp only; omega, hnx.symm⟩ (by dsimp only; omega) ?_ ?_
            · funext j; by_cases e : j = i <;> simp [outW, e, Hp.set]
            · conv => whnf
              refine Retell.turn ⟨[0,1,2,3], 5, [], []⟩ (TurnOk.mk' _ _ [] [] (OutOk.outW (OutOk.lift _) rfl) rfl (by decide) zb trivial trivial rfl) zv zm
          | true =>
            rw [if_pos rfl] at hnx
            conv => whnf
            repeat' (first | ((first | refine zs1 ?_ | refine zs2 ?_ | refine zs3 ?_ | refine zs4 ?_ | refine zs5 ?_); conv => whnf) | ((first | apply zi1 | apply zi2 | apply zi3 | apply zi4 | apply zi5) <;> intro _ <;> conv => whnf))
            refine VMem.app1 (l := u.2) sx encSg_len rfl rfl rfl rfl rfl (by omega) ?_
            conv => whnf
            repeat' (first | ((first | refine zs1 ?_ | refine zs2 ?_ | refine zs3 ?_ | refine zs4 ?_ | refine zs5 ?_); conv => whnf) | ((first | apply zi1 | apply zi2 | apply zi3 | apply zi4 | apply zi5) <;> intro _ <;> conv => whnf))
            refine LEndO.intro (k + 1, _) ⟨by dsimp only; omega, hnx.symm⟩ (by dsimp only; omega) ?_ ?_
            · funext j; by_cases e : j = i <;> simp [outW, e, Hp.set]
            · conv => whnf
              rw [List.length_append]
              refine Retell.turn ⟨[0,1,2,6], 7, [], []⟩ (TurnOk.mk' _ _ [] [] (OutOk.outW (OutOk.lift _) rfl) rfl (by decide) zb trivial trivial rfl) zv zm
        · have hkm : k = m := by dsimp only at h3; omega
          subst hkm
          rw [← hR] at hu
          subst hu
          conv => whnf
          repeat' (first | ((first | refine zs1 ?_ | refine zs2 ?_ | refine zs3 ?_ | refine zs4 ?_ | refine zs5 ?_); conv => whnf) | ((first | apply zi1 | apply zi2 | apply zi3 | apply zi4 | apply zi5) <;> intro _ <;> conv => whnf))
          have hfl1 := flat_len encPn_len w.2
          have hfl2 := flat_len encSg_len u.2
          refine VOut.turn ⟨[], 4, [(2, w.2.flatMap encPn), (3, u.2.flatMap encSg)], []⟩ (loc' := []) (r1' := vN ⟨w.2, u.2⟩) (TurnOk.mk' [] 4 [(2, w.2.flatMap encPn), (3, u.2.flatMap encSg)] [] (OutOk.outW (OutOk.lift _) rfl) rfl List.nodup_nil BTos.nil (FzAll.flat rfl (FzAll.flat rfl FzAll.nil)) trivial rfl) zv ?_
          exact VOut.setF (L := 0) rfl hd fun _ => rfl
end Go.Proofs.Ytoeendggmalcpaa.St

open Go.Vm
open Clip (Pn Sg Nt Bd Sp Rt NtOk SgOk beyond BdSz SpSz SpOk offB offS offL pAt pAt_ok Feas chk_ok okD)
namespace Go.Proofs.Ytoeendggmalcpaa.St
set_option maxRecDepth 20000
set_option maxHeartbeats 4000000

/-! ### Sights that hold: the place keeps all bounds -/
theorem offS_nil {ps : List Pn} : ∀ {l : List Sg} {k : Int}, (∀ s ∈ l, offB ps s = false) → offS ps k l = []
  | [], _, _ => rfl
  | s :: r, k, h => by
    rw [offS, if_neg (by rw [h s (by simp)]; decide)]
    exact offS_nil fun x hx => h x (List.mem_cons_of_mem _ hx)
theorem offL_nil {N : Nt} (h : ∀ s ∈ N.ss, offB N.ps s = false) : offL N = [] := offS_nil h
end Go.Proofs.Ytoeendggmalcpaa.St

open Go.Vm
open Clip (Pn Sg Nt Bd Sp Rt NtOk SgOk beyond BdSz SpSz SpOk offB offL pAt pAt_ok pAt_get Feas chk_ok okD okD_iff okP_iff)
namespace Go.Proofs.Ytoeendggmalcpaa.St
set_option maxRecDepth 20000
set_option maxHeartbeats 4000000

theorem tmod_pos {w : Int} {n : Nat} (hw : 0 ≤ w) (hn : 0 < n) : 0 ≤ w.tmod n ∧ w.tmod n < n := by
  rw [Int.tmod_eq_emod_of_nonneg hw]
  exact ⟨Int.emod_nonneg _ (by omega), Int.emod_lt_of_pos _ (by omega)⟩
end Go.Proofs.Ytoeendggmalcpaa.St

open Go.Vm
open Clip (Pn Sg Nt Bd Sp Rt NtOk SgOk offB offL offS)
namespace Go.Vm
end Go.Vm
namespace Go.Proofs.Ytoeendggmalcpaa.St
set_option maxRecDepth 20000
set_option maxHeartbeats 4000000

/-! ### A net of one's own -/
theorem vc_clonePO (l : List Pn) (h : Hp) (hl : l.length ≤ 4000000) : VC Try.prog 105 [pns l] h (.gl h.fresh 2 l.length) (h.push (.flat true (l.flatMap encPn))) := by
  refine VC.body Try.func105 rfl Try.ntmps105 Try.call105 (h.grows_push _) rfl ?_; conv => whnf
  repeat (first | ((first | refine zs1 ?_ | refine zs2 ?_ | refine zs3 ?_ | refine zs4 ?_ | refine zs5 ?_ | refine zs6 [] ?_); conv => whnf))
  refine VMem.appNil encPn_len rfl rfl rfl (by omega) ?_
  conv => whnf
  repeat (first | ((first | refine zs1 ?_ | refine zs2 ?_ | refine zs3 ?_ | refine zs4 ?_ | refine zs5 ?_ | refine zs6 [] ?_); conv => whnf))
  exact VOut.own1 0 1 rfl rfl
theorem vc_cloneSgO (l : List Sg) (h : Hp) (hl : l.length ≤ 4000000) : VC Try.prog 106 [sgs l] h (.gl h.fresh 6 l.length) (h.push (.flat true (l.flatMap encSg))) := by
  refine VC.body Try.func106 rfl Try.ntmps106 Try.call106 (h.grows_push _) rfl ?_; conv => whnf
  repeat (first | ((first | refine zs1 ?_ | refine zs2 ?_ | refine zs3 ?_ | refine zs4 ?_ | refine zs5 ?_ | refine zs6 [] ?_); conv => whnf))
  refine VMem.appNil encSg_len rfl rfl rfl (by omega) ?_
  conv => whnf
  repeat (first | ((first | refine zs1 ?_ | refine zs2 ?_ | refine zs3 ?_ | refine zs4 ?_ | refine zs5 ?_ | refine zs6 [] ?_); conv => whnf))
  exact VOut.own1 0 1 rfl rfl
theorem vc_CloneNetO (N : Nt) (h : Hp) (hn : N.ps.length ≤ 4000000) (hm : N.ss.length ≤ 4000000) : VC Try.prog 59 [vN N] h (.agg [.gl (.loc h.loc.length) 2 N.ps.length, .gl (.loc (h.loc.length + 1)) 6 N.ss.length]) (h.pushes [.flat true (N.ps.flatMap encPn), .flat true (N.ss.flatMap encSg)]) := by
  refine VC.body Try.func59 rfl Try.ntmps59 Try.call59 (Hp.grows_sets (h := h) (upd := []) (by intro p hp; cases hp)) rfl ?_; conv => whnf
  repeat' (first | ((first | refine zs1 ?_ | refine zs2 ?_ | refine zs3 ?_ | refine zs4 ?_ | refine zs5 ?_); conv => whnf) | ((first | apply zi1 | apply zi2 | apply zi3 | apply zi4 | apply zi5) <;> intro _ <;> conv => whnf))
  refine zs6 [(2, 4)] ?_
  conv => whnf
  repeat' (first | ((first | refine zs1 ?_ | refine zs2 ?_ | refine zs3 ?_ | refine zs4 ?_ | refine zs5 ?_); conv => whnf) | ((first | apply zi1 | apply zi2 | apply zi3 | apply zi4 | apply zi5) <;> intro _ <;> conv => whnf) | (refine VCall.intro (vc_clonePO N.ps _ hn) ?_; conv => whnf) | (refine VCall.intro (vc_cloneSgO N.ss _ hm) ?_; conv => whnf))
  exact VOut.ownN 2 3 4 rfl (by decide) rfl rfl
end Go.Proofs.Ytoeendggmalcpaa.St

open Go.Vm
open Clip (Pn Sg Nt Bd Sp Rt NtOk SgOk offB offL offS pAt pAt_ok pAt_get okP okP_iff Feas chk_ok crs)
namespace Go.Proofs.Ytoeendggmalcpaa.St
set_option maxRecDepth 20000
set_option maxHeartbeats 4000000
/-! ### A pillar that moved -/
def tdN (N : Nt) (p : Int) (x : Pn) : Nt := ⟨N.ps.set p.toNat x, N.ss⟩
theorem tdN_ok {N : Nt} (o : NtOk N) {p : Int} {x : Pn} (hx : okP x = true) : NtOk (tdN N p x) := by
  refine ⟨?_, o.m, fun q hq => ?_, fun s hs => ?_⟩
  · show 1 ≤ (N.ps.set p.toNat x).length ∧ (N.ps.set p.toNat x).length ≤ 10
    rw [List.length_set]; exact o.n
  · rcases List.mem_or_eq_of_mem_set hq with h | h
    · exact o.p q h
    · rw [h]; exact hx
  · show SgOk (N.ps.set p.toNat x).length s
    rw [List.length_set]; exact o.s s hs
end Go.Proofs.Ytoeendggmalcpaa.St

namespace Go.Vm
theorem Hp.set_twice (h : Hp) (i : Id) (a b : Blk) : (h.set i a).set i b = h.set i b := by
  cases i with
  | out i =>
    obtain ⟨o, l⟩ := h
    simp only [Hp.set]
    congr 1
    funext j
    by_cases e : j = i <;> simp [e]
  | loc k =>
    obtain ⟨o, l⟩ := h
    simp only [Hp.set, List.set_set]
theorem VMem.set2 {P : Program} {α : Type} {enc : α → List D} {m : Nat} (hm : ∀ a, (enc a).length = m) {t : TypeId} {i : Id} {off : Nat} {x0 x1 : S} {ti : TI} {h : Hp} {l : List α} {a : α} {K : V → Hp → Prop} (j c : Nat) (a1 a2 : α) (hTt : tiOf P t = some ti) (hl : Nat.beq 2 ti.size = true) (hb : h.get i = some (.flat true (l.flatMap enc)))
    (hj : l[j]? = some a) (hc : c + 1 < m) (h1 : (enc a).set c (.s x0) = enc a1) (h2 : (enc a1).set (c + 1) (.s x1) = enc a2) (ho : off = j * m + c) (hK : K .undef (h.set i (.flat true ((l.set j a2).flatMap enc)))) : VMem P (opStore t) [.ptr i off, .agg [.s x0, .s x1]] h K := by
  obtain ⟨hjl, _⟩ := List.getElem?_eq_some_iff.1 hj
  have hle : (j + 1) * m ≤ l.length * m := Nat.mul_le_mul_right _ hjl
  rw [Nat.add_mul] at hle
  have w1 : h.wr1 i off (.s x0) = some (h.set i (.flat true ((l.set j a1).flatMap enc))) := by
    unfold Hp.wr1
    rw [hb]
    have hlt : off < (l.flatMap enc).length := by rw [flat_len hm, ho]; omega
    simp only [Blk.wr1, hlt, if_true]
    rw [ho, flat_set hm hj (by omega) h1]
  have hb2 : (h.set i (.flat true ((l.set j a1).flatMap enc))).get i = some (.flat true ((l.set j a1).flatMap enc)) := by
    rw [Hp.get_set _ _ _ _ (by rw [hb]; simp)]; simp
  have hj2 : (l.set j a1)[j]? = some a1 := by rw [List.getElem?_set_self hjl]
  have w2 : (h.set i (.flat true ((l.set j a1).flatMap enc))).wr1 i (off + 1) (.s x1) = some (h.set i (.flat true ((l.set j a2).flatMap enc))) := by
    unfold Hp.wr1
    rw [hb2]
    have hlt : off + 1 < ((l.set j a1).flatMap enc).length := by rw [flat_len hm, List.length_set, ho]; omega
    simp only [Blk.wr1, hlt, if_true]
    rw [ho, Nat.add_assoc, flat_set hm hj2 hc h2, Hp.set_twice, List.set_set]
  refine VMem.store (cs := [.s x0, .s x1]) hTt rfl hl ?_ hK
  simp only [Hp.wrN, w1, w2]
end Go.Vm


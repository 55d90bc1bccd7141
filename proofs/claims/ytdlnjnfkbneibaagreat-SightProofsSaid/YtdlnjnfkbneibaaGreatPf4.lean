/- Part 4 of the proof that what a proof proves, refutes and leaves loose is as specified. No condition. -/
import Derived.Test.YtdlnjnfkbneibaaGreatPf3
set_option linter.unusedVariables false
set_option linter.unusedSimpArgs false
open Go.Vm
open Clip (Pn Sg Nt Bd Rt Sp Co Pl crs meetI BdSz posD alike keptB pStep ptsIn ptsGo pts)
namespace Go.Proofs.YtdlnjnfkbneibaaGreat
set_option maxRecDepth 20000
set_option maxHeartbeats 4000000

def vPl (p : Pl) : V := .agg [I p.x, I p.y, I p.d]
def pls (l : List Pl) : V := .fs 3 l.length (l.flatMap encPl)
structure PlSz (p : Pl) : Prop where
  x : -10000000 ≤ p.x ∧ p.x ≤ 10000000
  y : -10000000 ≤ p.y ∧ p.y ≤ 10000000
  d : -5000 ≤ p.d ∧ p.d ≤ 5000
theorem meetI_plsz {a b : Bd} (ha : BdSz a) (hb : BdSz b) : PlSz (meetI a b) := by
  obtain ⟨h1, h2, h3⟩ := Clip.meetI_sz ha hb
  exact ⟨h1, h2, h3⟩
theorem posD_sz {p : Pl} (h : PlSz p) : PlSz (posD p) := by
  obtain ⟨h1, h2, h3⟩ := h
  unfold posD
  split
  · exact ⟨by dsimp only; omega, by dsimp only; omega, by dsimp only; omega⟩
  · exact ⟨h1, h2, h3⟩
theorem vc_alike (p q : Pl) (h : Hp) (hp : PlSz p) (hq : PlSz q) : VC Tryz.prog 106 [vPl p, vPl q] h (B (alike p q)) h := by
  have c1 := Clip.mulb (A := 10000000) (B := 5000) hp.x hq.d
  have c2 := Clip.mulb (A := 10000000) (B := 5000) hq.x hp.d
  have c3 := Clip.mulb (A := 10000000) (B := 5000) hp.y hq.d
  have c4 := Clip.mulb (A := 10000000) (B := 5000) hq.y hp.d
  unfold alike
  refine VC.body Tryz.func106 rfl Tryz.ntmps106 Tryz.call106 (h.grows_refl) rfl ?_; conv => whnf
  repeat' (first | ((first | refine zs1 ?_ | refine zs2 ?_ | refine zs3 ?_ | refine zs4 ?_ | refine zs5 ?_ | refine zs6 [] ?_); conv => whnf) | ((first | apply zi1 | apply zi2 | apply zi3 | apply zi4 | apply zi5) <;> intro _ <;> conv => whnf))
  all_goals (refine VOut.dec ?_; first | (simp only [decide_eq_true_eq]; omega) | (simp; omega) | (simp; done))
def fst3 (l : List Bd) (p : Pl) (k : Bool) (m : Nat) : Bool := k && (l.drop m).all fun b => decide (b.val p ≤ 0)
theorem fst3_at {l : List Bd} {p : Pl} {k : Bool} {m : Nat} {b : Bd} (h : l[m]? = some b) : fst3 l p k m = fst3 l p (k && decide (b.val p ≤ 0)) (m + 1) := by
  obtain ⟨hlt, rfl⟩ := List.getElem?_eq_some_iff.1 h
  unfold fst3
  rw [List.drop_eq_getElem_cons hlt, List.all_cons, Bool.and_assoc]
theorem fst3_end {l : List Bd} {p : Pl} {k : Bool} : fst3 l p k l.length = k := by unfold fst3; simp
def snd3 (out : List Pl) (p : Pl) (k : Bool) (m : Nat) : Bool := k && (out.drop m).all fun q => !alike q p
theorem snd3_at {out : List Pl} {p : Pl} {k : Bool} {m : Nat} {q : Pl} (h : out[m]? = some q) : snd3 out p k m = snd3 out p (k && !alike q p) (m + 1) := by
  obtain ⟨hlt, rfl⟩ := List.getElem?_eq_some_iff.1 h
  unfold snd3
  rw [List.drop_eq_getElem_cons hlt, List.all_cons, Bool.and_assoc]
theorem snd3_end {out : List Pl} {p : Pl} {k : Bool} : snd3 out p k out.length = k := by unfold snd3; simp
theorem kept3 (l : List Bd) (out : List Pl) (p : Pl) : keptB l out p = snd3 out p (fst3 l p (decide (p.d ≠ 0)) 0) 0 := by
  unfold keptB snd3 fst3; rfl
theorem ptsGo_at {l : List Bd} {i : Nat} {a : Bd} {out : List Pl} (h : l[i]? = some a) : ptsGo l (l.take i) (l.drop i) out = ptsGo l (l.take (i + 1)) (l.drop (i + 1)) (ptsIn l a (l.take i) out) := by
  obtain ⟨hlt, rfl⟩ := List.getElem?_eq_some_iff.1 h
  rw [List.drop_eq_getElem_cons hlt, ptsGo, List.take_add_one, List.getElem?_eq_getElem hlt]; rfl
theorem ptsIn_at {l : List Bd} {a b : Bd} {i k : Nat} {out : List Pl} (h : l[k]? = some b) (hk : k < i) : ptsIn l a ((l.take i).drop k) out = ptsIn l a ((l.take i).drop (k + 1)) (pStep l a b out) := by
  obtain ⟨hlt, rfl⟩ := List.getElem?_eq_some_iff.1 h
  have : k < (l.take i).length := by rw [List.length_take]; omega
  rw [List.drop_eq_getElem_cons this, ptsIn, List.getElem_take]
structure Hold (R : Prop) : Prop where
  out : R
theorem suffices_ {R G : Prop} (main : Hold R → G) (rest : R) : G := main ⟨rest⟩
theorem vc_points (l : List Bd) (h : Hp) (hn : l.length ≤ 1000) (hb : ∀ b ∈ l, BdSz b) : VC Tryz.prog 63 [bds l] h (pls (pts l)) h := by
  obtain ⟨E, hE⟩ : ∃ E, E = pts l := ⟨_, rfl⟩
  rw [← hE]
  have hE : E = ptsGo l (l.take 0) (l.drop 0) [] := hE
  refine VC.body Tryz.func63 rfl Tryz.ntmps63 Tryz.call63 (h.grows_refl) rfl ?_; conv => whnf
  repeat' (first | ((first | refine zs1 ?_ | refine zs2 ?_ | refine zs3 ?_ | refine zs4 ?_ | refine zs5 ?_); conv => whnf) | ((first | apply zi1 | apply zi2 | apply zi3 | apply zi4 | apply zi5) <;> intro _ <;> conv => whnf))
  refine VCode.lp (fun y : Nat × List Pl => [(0, bds l), (2, .nilslice), (3, .gl (.loc 0) 3 y.2.length), (4, I y.1)]) (fun y => [.flat true (y.2.flatMap encPl)]) (fun y => y.1 ≤ l.length ∧ y.2.length ≤ 1000 * y.1 ∧ (∀ p ∈ y.2, PlSz p) ∧ E = ptsGo l (l.take y.1) (l.drop y.1) y.2) (fun y => l.length - y.1) (0, []) ⟨Nat.zero_le _, Nat.zero_le _, fun _ h => (by cases h), hE⟩ ?_ ?_
  · conv => whnf
    refine Retell.turn ⟨[0], 0, [], []⟩ (TurnOk.mk' _ _ [] [] (OutOk.lift _) rfl (by decide) zb trivial trivial rfl) zv zm
  · rintro ⟨i, out⟩ ⟨h1, h2, h3, h4⟩
    dsimp only at h1 h2 h3 h4
    conv => whnf
    refine VIte.dec (fun h5 => ?_) (fun h5 => ?_)
    · dsimp only at h5
      have ha : l[i]? = some l[i] := List.getElem?_eq_getElem (by omega)
      have sa := hb l[i] (List.getElem_mem (by omega))
      rw [ptsGo_at ha] at h4
      generalize l[i] = a at ha sa h4
      conv => whnf
      repeat' (first | ((first | refine zs1 ?_ | refine zs2 ?_ | refine zs3 ?_ | refine zs4 ?_ | refine zs5 ?_); conv => whnf) | ((first | apply zi1 | apply zi2 | apply zi3 | apply zi4 | apply zi5) <;> intro _ <;> conv => whnf))
      obtain ⟨O, hO⟩ : ∃ O, O = ptsIn l a (l.take i) out := ⟨_, rfl⟩
      rw [← hO] at h4
      refine VCode.lp (fun y : Nat × List Pl => [(0, bds l), (2, .nilslice), (3, .gl (.loc 0) 3 y.2.length), (4, I i), (5, I y.1)]) (fun y => [.flat true (y.2.flatMap encPl)]) (fun y => y.1 ≤ i ∧ y.2.length ≤ 1000 * i + y.1 ∧ (∀ p ∈ y.2, PlSz p) ∧ O = ptsIn l a ((l.take i).drop y.1) y.2) (fun y => i - y.1) (0, out) ⟨Nat.zero_le _, h2, h3, hO⟩ ?_ ?_
      · conv => whnf
        refine Retell.turn ⟨[0], 1, [], []⟩ (TurnOk.mk' _ _ [] [] (OutOk.lift _) rfl (by decide) zb trivial trivial rfl) zv zm
      · clear h2 h3 hO
        rintro ⟨k, w⟩ ⟨g1, g2, g3, g4⟩
        dsimp only at g1 g2 g3 g4
        conv => whnf
        refine VIte.dec (fun g5 => ?_) (fun g5 => ?_)
        · dsimp only at g5
          have hb' : l[k]? = some l[k] := List.getElem?_eq_getElem (by omega)
          have sb := hb l[k] (List.getElem_mem (by omega))
          rw [ptsIn_at hb' (by omega)] at g4
          generalize l[k] = b at hb' sb g4
          unfold pStep at g4
          have c1 := Clip.mulb (A := 100000) (B := 50) sa.c sb.b'
          have c2 := Clip.mulb (A := 100000) (B := 50) sb.c sa.b'
          have c3 := Clip.mulb (A := 50) (B := 100000) sa.a sb.c
          have c4 := Clip.mulb (A := 50) (B := 100000) sb.a sa.c
          have cc := fun h => vc_rcross a.A a.B b.A b.B h ⟨by have := sa.a; dsimp only; omega, by have := sa.b'; dsimp only; omega⟩ ⟨by have := sb.a; dsimp only; omega, by have := sb.b'; dsimp only; omega⟩
          have ep : (⟨a.C * b.B - b.C * a.B, a.A * b.C - b.A * a.C, crs ⟨a.A, a.B⟩ ⟨b.A, b.B⟩⟩ : Pl) = meetI a b := by unfold meetI crs; simp only [Int.mul_comm]
          have hsz := meetI_plsz sa sb
          have psz := posD_sz hsz
          rw [← ep] at hsz psz g4
          generalize crs ⟨a.A, a.B⟩ ⟨b.A, b.B⟩ = C at cc hsz psz g4
          obtain ⟨hx, hy, hd⟩ := hsz
          dsimp only at hx hy hd
          obtain ⟨P, hP⟩ : ∃ P, P = posD ⟨a.C * b.B - b.C * a.B, a.A * b.C - b.A * a.C, C⟩ := ⟨_, rfl⟩
          rw [← hP] at psz g4
          unfold posD at hP
          dsimp only at hP
          conv => whnf
          repeat' (first | ((first | refine zs1 ?_ | refine zs2 ?_ | refine zs3 ?_ | refine zs4 ?_ | refine zs5 ?_); conv => whnf) | ((first | apply zi1 | apply zi2 | apply zi3 | apply zi4 | apply zi5) <;> intro _ <;> conv => whnf))
          refine zs6 [(4, 66), (9, 66), (15, 66), (20, 66), (27, 66), (32, 66), (38, 66), (43, 66)] ?_
          conv => whnf
          apply suffices_
          · intro hrest
            repeat' (first | ((first | refine zs1 ?_ | refine zs2 ?_ | refine zs3 ?_ | refine zs4 ?_ | refine zs5 ?_); conv => whnf) | ((first | apply zi1 | apply zi2 | apply zi3 | apply zi4 | apply zi5) <;> intro _ <;> conv => whnf) | (refine VCall.intro (cc _) ?_; conv => whnf) | (refine VAny.ix encBd_len i rfl rfl ha ?_; conv => whnf) | (refine VAny.ix encBd_len k rfl rfl hb' ?_; conv => whnf))
            · rename_i hneg
              rw [if_pos hneg] at hP
              have e1 : encPl P = [DI (0 - (a.C * b.B - b.C * a.B)), DI (0 - (a.A * b.C - b.A * a.C)), DI (0 - C)] := by rw [hP]; unfold encPl; simp only [Int.zero_sub]
              have e2 : decide (P.d ≠ 0) = (0 - C != 0) := by rw [hP, Bool.eq_iff_iff, decide_eq_true_eq, bne_iff_ne]; dsimp only; omega
              refine VCode.tell (marks' := []) [(0, bds l), (2, .nilslice), (3, .gl (.loc 0) 3 w.length), (4, I i), (5, I k), (6, .ptr (.loc 1) 0), (7, B (decide (P.d ≠ 0))), (8, I 0)] [.flat true (w.flatMap encPl), .flat true (encPl P)] ?_ hrest.out
              rw [e1, e2]
              conv => whnf
              refine Retell.turn ⟨[0,1], 2, [], []⟩ (TurnOk.mk' _ _ [] [] (OutOk.lift _) rfl (by decide) zb trivial trivial rfl) zv zm
            · rename_i hneg
              rw [if_neg hneg] at hP
              have e1 : encPl P = [DI (a.C * b.B - b.C * a.B), DI (a.A * b.C - b.A * a.C), DI C] := by rw [hP]; rfl
              have e2 : decide (P.d ≠ 0) = (C != 0) := by rw [hP, Bool.eq_iff_iff, decide_eq_true_eq, bne_iff_ne]
              refine VCode.tell (marks' := []) [(0, bds l), (2, .nilslice), (3, .gl (.loc 0) 3 w.length), (4, I i), (5, I k), (6, .ptr (.loc 1) 0), (7, B (decide (P.d ≠ 0))), (8, I 0)] [.flat true (w.flatMap encPl), .flat true (encPl P)] ?_ hrest.out
              rw [e1, e2]
              conv => whnf
              refine Retell.turn ⟨[0,1], 2, [], []⟩ (TurnOk.mk' _ _ [] [] (OutOk.lift _) rfl (by decide) zb trivial trivial rfl) zv zm
          · conv => whnf
            rw [kept3] at g4
            clear hP cc c1 c2 c3 c4
            obtain ⟨F, hF⟩ : ∃ F, F = fst3 l P (decide (P.d ≠ 0)) 0 := ⟨_, rfl⟩
            rw [← hF] at g4
            obtain ⟨px, py, pd⟩ := psz
            generalize decide (P.d ≠ 0) = f0 at hF
            refine VCode.lp (fun y : Nat × Bool => [(0, bds l), (2, .nilslice), (3, .gl (.loc 0) 3 w.length), (4, I i), (5, I k), (6, .ptr (.loc 1) 0), (7, B y.2), (8, I y.1)]) (fun _ => [.flat true (w.flatMap encPl), .flat true (encPl P)]) (fun y => y.1 ≤ l.length ∧ F = fst3 l P y.2 y.1) (fun y => l.length - y.1) (0, f0) ⟨Nat.zero_le _, hF⟩ ?_ ?_
            · conv => whnf
              refine Retell.turn ⟨[0,1], 2, [], []⟩ (TurnOk.mk' _ _ [] [] (OutOk.lift _) rfl (by decide) zb trivial trivial rfl) zv zm
            · clear hF
              rintro ⟨m, f⟩ ⟨d1, d2⟩
              dsimp only at d1 d2
              conv => whnf
              refine VIte.dec (fun d3 => ?_) (fun d3 => ?_)
              · dsimp only at d3
                have hm : l[m]? = some l[m] := List.getElem?_eq_getElem (by omega)
                have sm := hb l[m] (List.getElem_mem (by omega))
                rw [fst3_at hm] at d2
                generalize l[m] = c at hm sm d2
                cases f with
                | false =>
                  rw [Bool.false_and] at d2
                  conv => whnf
                  repeat' (first | ((first | refine zs1 ?_ | refine zs2 ?_ | refine zs3 ?_ | refine zs4 ?_ | refine zs5 ?_); conv => whnf) | ((first | apply zi1 | apply zi2 | apply zi3 | apply zi4 | apply zi5) <;> intro _ <;> conv => whnf))
                  refine zs6 [] ?_
                  conv => whnf
                  repeat' (first | ((first | refine zs1 ?_ | refine zs2 ?_ | refine zs3 ?_ | refine zs4 ?_ | refine zs5 ?_); conv => whnf) | ((first | apply zi1 | apply zi2 | apply zi3 | apply zi4 | apply zi5) <;> intro _ <;> conv => whnf))
                  refine LEnd.intro (m + 1, false) ⟨by dsimp only; omega, d2⟩ (by dsimp only; omega) ?_
                  conv => whnf
                  refine Retell.turn ⟨[0,1], 2, [], []⟩ (TurnOk.mk' _ _ [] [] (OutOk.lift _) rfl (by decide) zb trivial trivial rfl) zv zm
                | true =>
                  rw [Bool.true_and] at d2
                  have c1 := Clip.mulb (A := 50) (B := 10000000) sm.a px
                  have c2 := Clip.mulb (A := 50) (B := 10000000) sm.b' py
                  have c3 := Clip.mulb (A := 100000) (B := 5000) sm.c pd
                  have e : decide (c.val P ≤ 0) = decide (c.A * P.x + c.B * P.y ≤ c.C * P.d) := decide_eq_decide.2 (by unfold Clip.Bd.val; omega)
                  rw [e] at d2
                  conv => whnf
                  repeat' (first | ((first | refine zs1 ?_ | refine zs2 ?_ | refine zs3 ?_ | refine zs4 ?_ | refine zs5 ?_); conv => whnf) | ((first | apply zi1 | apply zi2 | apply zi3 | apply zi4 | apply zi5) <;> intro _ <;> conv => whnf))
                  refine zs6 [] ?_
                  conv => whnf
                  repeat' (first | ((first | refine zs1 ?_ | refine zs2 ?_ | refine zs3 ?_ | refine zs4 ?_ | refine zs5 ?_); conv => whnf) | ((first | apply zi1 | apply zi2 | apply zi3 | apply zi4 | apply zi5) <;> intro _ <;> conv => whnf) | (refine VAny.ix encBd_len m rfl rfl hm ?_; conv => whnf))
                  refine LEnd.intro (m + 1, decide (c.A * P.x + c.B * P.y ≤ c.C * P.d)) ⟨by dsimp only; omega, d2⟩ (by dsimp only; omega) ?_
                  conv => whnf
                  refine Retell.turn ⟨[0,1], 2, [], []⟩ (TurnOk.mk' _ _ [] [] (OutOk.lift _) rfl (by decide) zb trivial trivial rfl) zv zm
              · have : m = l.length := by dsimp only at d3; omega
                subst this
                rw [fst3_end] at d2
                subst d2
                conv => whnf
                repeat' (first | ((first | refine zs1 ?_ | refine zs2 ?_ | refine zs3 ?_ | refine zs4 ?_ | refine zs5 ?_); conv => whnf) | ((first | apply zi1 | apply zi2 | apply zi3 | apply zi4 | apply zi5) <;> intro _ <;> conv => whnf))
                obtain ⟨G, hG⟩ : ∃ G, G = snd3 w P F 0 := ⟨_, rfl⟩
                rw [← hG] at g4
                refine VCode.lp (fun y : Nat × Bool => [(0, bds l), (2, .nilslice), (3, .gl (.loc 0) 3 w.length), (4, I i), (5, I k), (6, .ptr (.loc 1) 0), (7, B y.2), (9, I y.1)]) (fun _ => [.flat true (w.flatMap encPl), .flat true (encPl P)]) (fun y => y.1 ≤ w.length ∧ G = snd3 w P y.2 y.1) (fun y => w.length - y.1) (0, F) ⟨Nat.zero_le _, hG⟩ ?_ ?_
                · conv => whnf
                  refine Retell.turn ⟨[0,1], 2, [], []⟩ (TurnOk.mk' _ _ [] [] (OutOk.lift _) rfl (by decide) zb trivial trivial rfl) zv zm
                · clear hG
                  rintro ⟨m, f⟩ ⟨d1, d2⟩
                  dsimp only at d1 d2
                  conv => whnf
                  refine VIte.dec (fun d3 => ?_) (fun d3 => ?_)
                  · dsimp only at d3
                    have hm : w[m]? = some w[m] := List.getElem?_eq_getElem (by omega)
                    have sm := g3 w[m] (List.getElem_mem (by omega))
                    rw [snd3_at hm] at d2
                    generalize w[m] = q at hm sm d2
                    have cA := fun h => vc_alike q P h sm ⟨px, py, pd⟩
                    generalize alike q P = z at cA d2
                    cases f with
                    | false =>
                      rw [Bool.false_and] at d2
                      conv => whnf
                      repeat' (first | ((first | refine zs1 ?_ | refine zs2 ?_ | refine zs3 ?_ | refine zs4 ?_ | refine zs5 ?_); conv => whnf) | ((first | apply zi1 | apply zi2 | apply zi3 | apply zi4 | apply zi5) <;> intro _ <;> conv => whnf))
                      refine zs6 [] ?_
                      conv => whnf
                      repeat' (first | ((first | refine zs1 ?_ | refine zs2 ?_ | refine zs3 ?_ | refine zs4 ?_ | refine zs5 ?_); conv => whnf) | ((first | apply zi1 | apply zi2 | apply zi3 | apply zi4 | apply zi5) <;> intro _ <;> conv => whnf))
                      refine LEnd.intro (m + 1, false) ⟨by dsimp only; omega, d2⟩ (by dsimp only; omega) ?_
                      conv => whnf
                      refine Retell.turn ⟨[0,1], 2, [], []⟩ (TurnOk.mk' _ _ [] [] (OutOk.lift _) rfl (by decide) zb trivial trivial rfl) zv zm
                    | true =>
                      rw [Bool.true_and] at d2
                      conv => whnf
                      repeat' (first | ((first | refine zs1 ?_ | refine zs2 ?_ | refine zs3 ?_ | refine zs4 ?_ | refine zs5 ?_); conv => whnf) | ((first | apply zi1 | apply zi2 | apply zi3 | apply zi4 | apply zi5) <;> intro _ <;> conv => whnf))
                      refine zs6 [] ?_
                      conv => whnf
                      repeat' (first | ((first | refine zs1 ?_ | refine zs2 ?_ | refine zs3 ?_ | refine zs4 ?_ | refine zs5 ?_); conv => whnf) | ((first | apply zi1 | apply zi2 | apply zi3 | apply zi4 | apply zi5) <;> intro _ <;> conv => whnf) | (refine VLd.recd encPl_len m rfl rfl rfl rfl hm rfl ?_; conv => whnf) | (refine VCall.intro (cA _) ?_; conv => whnf))
                      refine LEnd.intro (m + 1, !z) ⟨by dsimp only; omega, d2⟩ (by dsimp only; omega) ?_
                      conv => whnf
                      refine Retell.turn ⟨[0,1], 2, [], []⟩ (TurnOk.mk' _ _ [] [] (OutOk.lift _) rfl (by decide) zb trivial trivial rfl) zv zm
                  · have : m = w.length := by dsimp only at d3; omega
                    subst this
                    rw [snd3_end] at d2
                    subst d2
                    cases G with
                    | false =>
                      rw [if_neg (by decide)] at g4
                      conv => whnf
                      repeat' (first | ((first | refine zs1 ?_ | refine zs2 ?_ | refine zs3 ?_ | refine zs4 ?_ | refine zs5 ?_); conv => whnf) | ((first | apply zi1 | apply zi2 | apply zi3 | apply zi4 | apply zi5) <;> intro _ <;> conv => whnf))
                      refine LEnd.intro (Y := Nat × List Pl) (k + 1, w) ⟨by dsimp only; omega, by dsimp only; omega, g3, g4⟩ (by dsimp only; omega) ?_
                      conv => whnf
                      refine Retell.turn ⟨[0], 2, [], []⟩ (TurnOk.mk' _ _ [] [] (OutOk.lift _) rfl (by decide) zb trivial trivial rfl) zv zm
                    | true =>
                      rw [if_pos rfl] at g4
                      conv => whnf
                      repeat' (first | ((first | refine zs1 ?_ | refine zs2 ?_ | refine zs3 ?_ | refine zs4 ?_ | refine zs5 ?_); conv => whnf) | ((first | apply zi1 | apply zi2 | apply zi3 | apply zi4 | apply zi5) <;> intro _ <;> conv => whnf))
                      refine VMem.app1 (l := w) P encPl_len rfl rfl rfl rfl rfl (by omega) ?_
                      conv => whnf
                      repeat' (first | ((first | refine zs1 ?_ | refine zs2 ?_ | refine zs3 ?_ | refine zs4 ?_ | refine zs5 ?_); conv => whnf) | ((first | apply zi1 | apply zi2 | apply zi3 | apply zi4 | apply zi5) <;> intro _ <;> conv => whnf))
                      refine LEnd.intro (Y := Nat × List Pl) (k + 1, w ++ [P]) ⟨by dsimp only; omega, by dsimp only; rw [List.length_append]; simp only [List.length_cons, List.length_nil]; omega, (fun p hp => by rcases List.mem_append.1 hp with hp | hp; exact g3 p hp; rw [List.mem_singleton.1 hp]; exact ⟨px, py, pd⟩), g4⟩ (by dsimp only; omega) ?_
                      conv => whnf
                      rw [List.length_append]
                      refine Retell.turn ⟨[3], 4, [], []⟩ (TurnOk.mk' _ _ [] [] (OutOk.lift _) rfl (by decide) zb trivial trivial rfl) zv zm
        · have : k = i := by dsimp only at g5; omega
          subst this
          rw [List.drop_of_length_le (by rw [List.length_take]; omega), ptsIn] at g4
          subst g4
          conv => whnf
          repeat' (first | ((first | refine zs1 ?_ | refine zs2 ?_ | refine zs3 ?_ | refine zs4 ?_ | refine zs5 ?_); conv => whnf) | ((first | apply zi1 | apply zi2 | apply zi3 | apply zi4 | apply zi5) <;> intro _ <;> conv => whnf))
          refine LEnd.intro (Y := Nat × List Pl) (k + 1, O) ⟨by dsimp only; omega, by dsimp only; omega, g3, h4⟩ (by dsimp only; omega) ?_
          conv => whnf
          refine Retell.turn ⟨[0], 1, [], []⟩ (TurnOk.mk' _ _ [] [] (OutOk.lift _) rfl (by decide) zb trivial trivial rfl) zv zm
    · have : i = l.length := by dsimp only at h5; omega
      subst this
      rw [List.drop_length, ptsGo] at h4
      subst h4
      conv => whnf
      repeat' (first | ((first | refine zs1 ?_ | refine zs2 ?_ | refine zs3 ?_ | refine zs4 ?_ | refine zs5 ?_); conv => whnf) | ((first | apply zi1 | apply zi2 | apply zi3 | apply zi4 | apply zi5) <;> intro _ <;> conv => whnf))
      refine VOut.data 1 [(0, E.flatMap encPl)] [] rfl zf (by exact FmAll.nil) zv
end Go.Proofs.YtdlnjnfkbneibaaGreat

open Go.Vm
open Clip (Pn Sg Nt Bd Rt Sp Co Pl NtOk chk chk_ok bnds bnds_sz bnds_len offL offS offS_bd offS_len allOf mvB mvS mvL mvS_len regS BdSz)
namespace Go.Proofs.YtdlnjnfkbneibaaGreat
set_option maxRecDepth 20000
set_option maxHeartbeats 4000000

/-! ### all, of numbers -/
theorem vc_IndexFI (l : List Int) (q : Int → Bool) (g : FuncId) (caps : List D) (hl : l.length ≤ 4000000) (hso : ∀ e ∈ l, ∀ h : Hp, VC Tryz.prog g ([I e] ++ D.vs caps) h (B (q e)) h) (h : Hp) :
    VC Tryz.prog 153 [ints l, .func (.func g) [] (D.vs caps)] h (I (fidx q l 0)) h := by
  obtain ⟨E, hE⟩ : ∃ E, E = fidx q l 0 := ⟨_, rfl⟩
  rw [← hE]
  refine VC.body Tryz.func153 rfl Tryz.ntmps153 Tryz.call153 (h.grows_refl) rfl ?_; conv => whnf
  rw [rens_dvs]
  refine VCode.lp (fun k : Nat => [(0, ints l), (1, .func (.func g) [] (D.vs caps)), (7, I l.length), (8, I k)]) (fun _ => []) (fun k => k ≤ l.length ∧ E = fidx q (l.drop k) k) (fun k => l.length - k) 0 ⟨Nat.zero_le _, hE⟩ ?_ ?_
  · conv => whnf
    refine Retell.turn ⟨[], 0, [], []⟩ (TurnOk.mk' _ _ [] [] (OutOk.lift _) rfl (by decide) zb trivial trivial rfl) zv zm
  · rintro k ⟨h1, h2⟩
    conv => whnf
    refine VIte.dec (fun h3 => ?_) (fun h3 => ?_)
    · have ha : l[k]? = some l[k] := List.getElem?_eq_getElem (by omega)
      have hm := hso l[k] (List.getElem_mem (by omega))
      generalize l[k] = a at ha hm
      rw [fidx_at ha] at h2
      conv => whnf
      repeat' (first | ((first | refine zs1 ?_ | refine zs2 ?_ | refine zs3 ?_ | refine zs4 ?_ | refine zs5 ?_ | refine zs6 [] ?_); conv => whnf) | ((first | apply zi1 | apply zi2 | apply zi3 | apply zi4 | apply zi5) <;> intro _ <;> conv => whnf) | (refine VAny.ix encI_len k (by omega) rfl ha ?_; conv => whnf))
      refine VCall.intro (hm _) ?_
      conv => whnf
      cases hq : q a
      · rw [hq] at h2
        conv => whnf
        repeat (first | ((first | refine zs1 ?_ | refine zs2 ?_ | refine zs3 ?_ | refine zs4 ?_ | refine zs5 ?_ | refine zs6 [] ?_); conv => whnf))
        refine LEnd.intro (k + 1) ⟨by omega, h2⟩ (by omega) ?_
        conv => whnf
        refine Retell.turn ⟨[], 0, [], []⟩ (TurnOk.mk' _ _ [] [] (OutOk.lift _) rfl (by decide) zb trivial trivial rfl) zv zm
      · rw [hq] at h2
        rw [h2]
        conv => whnf
        repeat (first | ((first | refine zs1 ?_ | refine zs2 ?_ | refine zs3 ?_ | refine zs4 ?_ | refine zs5 ?_ | refine zs6 [] ?_); conv => whnf))
        exact VOut.same rfl
    · rw [List.drop_of_length_le (by omega), fidx] at h2
      rw [h2]
      conv => whnf
      repeat (first | ((first | refine zs1 ?_ | refine zs2 ?_ | refine zs3 ?_ | refine zs4 ?_ | refine zs5 ?_ | refine zs6 [] ?_); conv => whnf))
      exact VOut.same rfl
theorem vc_ContFI (l : List Int) (q : Int → Bool) (g : FuncId) (caps : List D) (hl : l.length ≤ 4000000) (hso : ∀ e ∈ l, ∀ h : Hp, VC Tryz.prog g ([I e] ++ D.vs caps) h (B (q e)) h) (h : Hp) :
    VC Tryz.prog 131 [ints l, .func (.func g) [] (D.vs caps)] h (B (l.any q)) h := by
  have e := fidx_nn (q := q) l 0 (Int.le_refl _)
  have c := fun h => vc_IndexFI l q g caps hl hso h
  generalize fidx q l 0 = E at e c
  refine VC.body Tryz.func131 rfl Tryz.ntmps131 Tryz.call131 (h.grows_refl) rfl ?_; conv => whnf
  rw [rens_dvs]
  repeat' (first | ((first | refine zs1 ?_ | refine zs2 ?_ | refine zs3 ?_ | refine zs4 ?_ | refine zs5 ?_ | refine zs6 [] ?_); conv => whnf) | ((first | apply zi1 | apply zi2 | apply zi3 | apply zi4 | apply zi5) <;> intro _ <;> conv => whnf) | (refine VCall.intro (c _) ?_; conv => whnf))
  refine VOut.same ?_
  show B (decide (0 ≤ E)) = _
  congr 1
  rw [Bool.eq_iff_iff, decide_eq_true_eq]
  exact e
theorem vc_allI1 (q : Int → Bool) (g : FuncId) (caps : List D) (x : Int) (hso : ∀ h : Hp, VC Tryz.prog g ([I x] ++ D.vs caps) h (B (q x)) h) (h : Hp) : VC Tryz.prog 132 ([I x] ++ D.vs [.pt [.func (.func g) [] caps]]) h (B (!q x)) h := by
  have c := fun h => hso h
  refine VC.body Tryz.func132 rfl Tryz.ntmps132 Tryz.call132 (h.grows_refl) rfl ?_; conv => whnf
  repeat' (first | ((first | refine zs1 ?_ | refine zs2 ?_ | refine zs3 ?_ | refine zs4 ?_ | refine zs5 ?_ | refine zs6 [] ?_); conv => whnf) | ((first | apply zi1 | apply zi2 | apply zi3 | apply zi4 | apply zi5) <;> intro _ <;> conv => whnf) | (refine VCall.intro (c _) ?_; conv => whnf))
  exact VOut.same rfl
theorem vc_allI2 (l : List Int) (q : Int → Bool) (g : FuncId) (a b : List D) (hl : l.length ≤ 4000000) (hso : ∀ e ∈ l, ∀ h : Hp, VC Tryz.prog g ([I e] ++ D.vs [.pt a, .pt b]) h (B (q e)) h) (h : Hp) : VC Tryz.prog 101 [ints l, .func (.func g) [] (D.vs [.pt a, .pt b])] h (B (l.all q)) h := by
  have c := fun h => vc_ContFI l (fun p => !q p) 132 [.pt [.func (.func g) [] [.pt a, .pt b]]] hl (fun p hp h => vc_allI1 q g [.pt a, .pt b] p (hso p hp) h) h
  have e : (!(l.any fun p => !q p)) = l.all q := by rw [List.all_eq_not_any_not]
  rw [← e]
  generalize (l.any fun p => !q p) = E at c
  refine VC.body Tryz.func101 rfl Tryz.ntmps101 Tryz.call101 (h.grows_refl) rfl ?_; conv => whnf
  repeat' (first | ((first | refine zs1 ?_ | refine zs2 ?_ | refine zs3 ?_ | refine zs4 ?_ | refine zs5 ?_ | refine zs6 [] ?_); conv => whnf) | ((first | apply zi1 | apply zi2 | apply zi3 | apply zi4 | apply zi5) <;> intro _ <;> conv => whnf))
  refine VCall.intro (VC.give (args' := [ints l, .func (.func 132) [] [.fp [.func (.func g) [] [.pt a, .pt b]]]]) (loc' := [.dead]) [(0, [.func (.func g) [] [.pt a, .pt b]])] [] (OutOk.lift _) zb zf (by exact FmAll.nil) rfl zv (c _)) ?_
  conv => whnf
  repeat (first | ((first | refine zs1 ?_ | refine zs2 ?_ | refine zs3 ?_ | refine zs4 ?_ | refine zs5 ?_ | refine zs6 [] ?_); conv => whnf))
  exact VOut.same rfl
theorem vc_allI1c (l : List Int) (q : Int → Bool) (g : FuncId) (a : List D) (hl : l.length ≤ 4000000) (hso : ∀ e ∈ l, ∀ h : Hp, VC Tryz.prog g ([I e] ++ D.vs [.pt a]) h (B (q e)) h) (h : Hp) : VC Tryz.prog 101 [ints l, .func (.func g) [] (D.vs [.pt a])] h (B (l.all q)) h := by
  have c := fun h => vc_ContFI l (fun p => !q p) 132 [.pt [.func (.func g) [] [.pt a]]] hl (fun p hp h => vc_allI1 q g [.pt a] p (hso p hp) h) h
  have e : (!(l.any fun p => !q p)) = l.all q := by rw [List.all_eq_not_any_not]
  rw [← e]
  generalize (l.any fun p => !q p) = E at c
  refine VC.body Tryz.func101 rfl Tryz.ntmps101 Tryz.call101 (h.grows_refl) rfl ?_; conv => whnf
  repeat' (first | ((first | refine zs1 ?_ | refine zs2 ?_ | refine zs3 ?_ | refine zs4 ?_ | refine zs5 ?_ | refine zs6 [] ?_); conv => whnf) | ((first | apply zi1 | apply zi2 | apply zi3 | apply zi4 | apply zi5) <;> intro _ <;> conv => whnf))
  refine VCall.intro (VC.give (args' := [ints l, .func (.func 132) [] [.fp [.func (.func g) [] [.pt a]]]]) (loc' := [.dead]) [(0, [.func (.func g) [] [.pt a]])] [] (OutOk.lift _) zb zf (by exact FmAll.nil) rfl zv (c _)) ?_
  conv => whnf
  repeat (first | ((first | refine zs1 ?_ | refine zs2 ?_ | refine zs3 ?_ | refine zs4 ?_ | refine zs5 ?_ | refine zs6 [] ?_); conv => whnf))
  exact VOut.same rfl
theorem vc_allI0 (l : List Int) (q : Int → Bool) (g : FuncId) (hl : l.length ≤ 4000000) (hso : ∀ e ∈ l, ∀ h : Hp, VC Tryz.prog g ([I e] ++ D.vs []) h (B (q e)) h) (h : Hp) : VC Tryz.prog 101 [ints l, .func (.func g) [] (D.vs [])] h (B (l.all q)) h := by
  have c := fun h => vc_ContFI l (fun p => !q p) 132 [.pt [.func (.func g) [] []]] hl (fun p hp h => vc_allI1 q g [] p (hso p hp) h) h
  have e : (!(l.any fun p => !q p)) = l.all q := by rw [List.all_eq_not_any_not]
  rw [← e]
  generalize (l.any fun p => !q p) = E at c
  refine VC.body Tryz.func101 rfl Tryz.ntmps101 Tryz.call101 (h.grows_refl) rfl ?_; conv => whnf
  repeat' (first | ((first | refine zs1 ?_ | refine zs2 ?_ | refine zs3 ?_ | refine zs4 ?_ | refine zs5 ?_ | refine zs6 [] ?_); conv => whnf) | ((first | apply zi1 | apply zi2 | apply zi3 | apply zi4 | apply zi5) <;> intro _ <;> conv => whnf))
  refine VCall.intro (VC.give (args' := [ints l, .func (.func 132) [] [.fp [.func (.func g) [] []]]]) (loc' := [.dead]) [(0, [.func (.func g) [] []])] [] (OutOk.lift _) zb zf (by exact FmAll.nil) rfl zv (c _)) ?_
  conv => whnf
  repeat (first | ((first | refine zs1 ?_ | refine zs2 ?_ | refine zs3 ?_ | refine zs4 ?_ | refine zs5 ?_ | refine zs6 [] ?_); conv => whnf))
  exact VOut.same rfl
end Go.Proofs.YtdlnjnfkbneibaaGreat

open Go.Vm
open Clip (Pn Sg Nt Bd Rt Sp Co Pl NtOk chk chk_ok bnds bnds_sz bnds_len bnds_sq offL offS offS_bd offS_len allOf mvB mvS mvL mvS_len mvB_pts regS BdSz pts)
namespace Go.Proofs.YtdlnjnfkbneibaaGreat
set_option maxRecDepth 20000
set_option maxHeartbeats 4000000

def sgN : Sg := ⟨0, 0, ⟨0, 0⟩, ⟨0, 0⟩⟩
def ofB (N : Nt) (p i : Int) : Bool := decide ((N.ss.getD i.toNat sgN).f = p ∨ (N.ss.getD i.toNat sgN).t = p)
theorem ofB_at {N : Nt} {p i : Int} {s : Sg} (h : N.ss[i.toNat]? = some s) : ofB N p i = decide (s.f = p ∨ s.t = p) := by unfold ofB; rw [List.getD_eq_getElem?_getD, h]; rfl
theorem offL_bd {N : Nt} {i : Int} (h : i ∈ offL N) : 0 ≤ i ∧ i < N.ss.length := by
  have := offS_bd N.ps N.ss 0 i h; omega
theorem offL_len (N : Nt) : (offL N).length ≤ N.ss.length := offS_len N.ps N.ss 0
theorem vc_Mv1 (N : Nt) (p i : Int) (h : Hp) (hi : 0 ≤ i ∧ i < N.ss.length) : VC Tryz.prog 124 ([I i] ++ D.vs [.pt [.pt (encDk N p)], .pt (encN N)]) h (B (ofB N p i)) h := by
  have hk : N.ss[i.toNat]? = some (N.ss[i.toNat]'(by omega)) := List.getElem?_eq_getElem _
  rw [ofB_at hk]
  generalize N.ss[i.toNat]'(by omega) = s at hk
  have c := fun h => vc_of N p s h
  generalize decide (s.f = p ∨ s.t = p) = E at c
  refine VC.body Tryz.func124 rfl Tryz.ntmps124 Tryz.call124 (h.grows_refl) rfl ?_; conv => whnf
  repeat' (first | ((first | refine zs1 ?_ | refine zs2 ?_ | refine zs3 ?_ | refine zs4 ?_ | refine zs5 ?_); conv => whnf) | ((first | apply zi1 | apply zi2 | apply zi3 | apply zi4 | apply zi5) <;> intro _ <;> conv => whnf))
  refine zs6 [] ?_
  conv => whnf
  repeat' (first | ((first | refine zs1 ?_ | refine zs2 ?_ | refine zs3 ?_ | refine zs4 ?_ | refine zs5 ?_); conv => whnf) | ((first | apply zi1 | apply zi2 | apply zi3 | apply zi4 | apply zi5) <;> intro _ <;> conv => whnf) | (refine VAny.ix encSg_len i.toNat (by omega) rfl hk ?_; conv => whnf) | (refine VCall.intro (c _) ?_; conv => whnf))
  exact VOut.same rfl
def mvE (N : Nt) : Int := if chk N ≠ 0 then chk N else if offL N = [] then 10 else 0
theorem mvE_ok {N : Nt} : mvE N = 0 ↔ NtOk N ∧ offL N ≠ [] := by
  unfold mvE
  split
  · rename_i h; exact ⟨fun e => absurd e h, fun h2 => absurd (chk_ok.2 h2.1) h⟩
  · rename_i h
    have := chk_ok.1 (Classical.not_not.1 h)
    split
    · rename_i h2; exact ⟨fun e => by omega, fun h3 => absurd h2 h3.2⟩
    · rename_i h2; exact ⟨fun _ => ⟨this, h2⟩, fun _ => rfl⟩
theorem vc_Movers_no (N : Nt) (h : Hp) (hn : N.ps.length ≤ 4000000) (hm : N.ss.length ≤ 4000000) (h0 : mvE N ≠ 0) : VC Tryz.prog 83 [vN N] h (.tuple [.nilslice, I (mvE N)]) h := by
  by_cases hc : chk N = 0
  · have o := chk_ok.1 hc
    have c := fun h => vc_Off_ok N h o
    have he : offL N = [] := Classical.byContradiction fun e => h0 (mvE_ok.2 ⟨o, e⟩)
    have e : mvE N = 10 := by unfold mvE; rw [if_neg (by omega), if_pos he]
    rw [he] at c
    rw [e]
    refine VC.body Tryz.func83 rfl Tryz.ntmps83 Tryz.call83 (h.grows_refl) rfl ?_; conv => whnf
    repeat' (first | ((first | refine zs1 ?_ | refine zs2 ?_ | refine zs3 ?_ | refine zs4 ?_ | refine zs5 ?_ | refine zs6 [] ?_); conv => whnf) | ((first | apply zi1 | apply zi2 | apply zi3 | apply zi4 | apply zi5) <;> intro _ <;> conv => whnf) | (refine VCall.intro (c _) ?_; conv => whnf))
    · exact VOut.same rfl
  · have c := fun h => vc_Off_no N h hn hm hc
    have e : mvE N = chk N := by unfold mvE; rw [if_pos hc]
    rw [e]
    generalize chk N = E at c hc
    refine VC.body Tryz.func83 rfl Tryz.ntmps83 Tryz.call83 (h.grows_refl) rfl ?_; conv => whnf
    repeat' (first | ((first | refine zs1 ?_ | refine zs2 ?_ | refine zs3 ?_ | refine zs4 ?_ | refine zs5 ?_ | refine zs6 [] ?_); conv => whnf) | ((first | apply zi1 | apply zi2 | apply zi3 | apply zi4 | apply zi5) <;> intro _ <;> conv => whnf) | (refine VCall.intro (c _) ?_; conv => whnf))
    · exact VOut.same rfl
    · exfalso; omega
theorem mvS_at {N : Nt} {k n : Nat} (h : k < n) : mvS N k (n - k) = if mvB N k = true then (k : Int) :: mvS N ((k + 1 : Nat) : Int) (n - (k + 1)) else mvS N ((k + 1 : Nat) : Int) (n - (k + 1)) := by
  obtain ⟨m, hm⟩ : ∃ m, n - k = m + 1 := ⟨n - k - 1, by omega⟩
  have : n - (k + 1) = m := by omega
  rw [hm, this, mvS]; rfl
theorem vc_Movers_ok (N : Nt) (h : Hp) (o : NtOk N) (h0 : offL N ≠ []) : VC Tryz.prog 83 [vN N] h (.tuple [ints (mvL N), I 0]) h := by
  have hn := o.n
  have hm := o.m
  have c := fun h => vc_Off_ok N h o
  have hA := fun p h => vc_allI2 (offL N) (ofB N p) 124 [.pt (encDk N p)] (encN N) (by have := offL_len N; omega) (fun i hi h => vc_Mv1 N p i h (offL_bd hi)) h
  have hA2 : ∀ p, (offL N).all (ofB N p) = allOf N p := fun p => rfl
  simp only [hA2] at hA
  obtain ⟨M, hM⟩ : ∃ M, M = mvL N := ⟨_, rfl⟩
  rw [← hM]
  have hM : M = [] ++ mvS N (0 : Nat) (N.ps.length - 0) := hM
  have hO : 0 < (offL N).length := List.length_pos_iff.2 h0
  generalize offL N = O at *
  refine VC.body Tryz.func83 rfl Tryz.ntmps83 Tryz.call83 (h.grows_refl) rfl ?_; conv => whnf
  repeat' (first | ((first | refine zs1 ?_ | refine zs2 ?_ | refine zs3 ?_ | refine zs4 ?_ | refine zs5 ?_ | refine zs6 [] ?_); conv => whnf) | ((first | apply zi1 | apply zi2 | apply zi3 | apply zi4 | apply zi5) <;> intro _ <;> conv => whnf) | (refine VCall.intro (c _) ?_; conv => whnf))
  · exfalso; omega
  refine VCode.lp (fun y : Nat × List Int => [(1, .fp (encN N)), (2, .nilslice), (3, I 0), (4, ints O), (6, .gl (.loc 0) 1 y.2.length), (24, I N.ps.length), (25, I y.1)]) (fun y => [.flat true (y.2.flatMap encI)]) (fun y => y.1 ≤ N.ps.length ∧ y.2.length ≤ y.1 ∧ M = y.2 ++ mvS N y.1 (N.ps.length - y.1)) (fun y => N.ps.length - y.1) (0, []) ⟨Nat.zero_le _, Nat.zero_le _, hM⟩ ?_ ?_
  · conv => whnf
    refine Retell.turn ⟨[1], 1, [(0, encN N)], []⟩ (TurnOk.mk' _ _ [(0, encN N)] [] (OutOk.lift _) rfl (by decide) zb zf trivial rfl) zv zm
  · clear hM
    rintro ⟨k, w⟩ ⟨h1, h2, h3⟩
    dsimp only at h1 h2 h3
    conv => whnf
    refine VIte.dec (fun h5 => ?_) (fun h5 => ?_)
    · dsimp only at h5
      rw [mvS_at (by omega)] at h3
      have cB := fun h => vc_bounds N k h o
      have cR := fun h => vc_region (bnds N k) h (by have := bnds_len o k; omega) (bnds_sz o k)
      have cA := hA k
      have eB : mvB N k = (allOf N k && !decide (regS (bnds N k) = [])) := rfl
      rw [eB] at h3
      generalize bnds N k = bs at *
      generalize regS bs = S at *
      generalize allOf N k = A at *
      conv => whnf
      repeat' (first | ((first | refine zs1 ?_ | refine zs2 ?_ | refine zs3 ?_ | refine zs4 ?_ | refine zs5 ?_); conv => whnf) | ((first | apply zi1 | apply zi2 | apply zi3 | apply zi4 | apply zi5) <;> intro _ <;> conv => whnf))
      refine VCall.intro (VC.lend1 [dints O, .func (.func 124) [] [.pt [.pt (encDk N k)], .pt (encN N)]] [(1, encDk N k), (2, [.pt (encDk N k)])] [] zr trivial zv (cA Hp.bare)) ?_
      cases A with
      | false =>
        rw [Bool.false_and, if_neg (by decide)] at h3
        conv => whnf
        repeat' (first | ((first | refine zs1 ?_ | refine zs2 ?_ | refine zs3 ?_ | refine zs4 ?_ | refine zs5 ?_); conv => whnf) | ((first | apply zi1 | apply zi2 | apply zi3 | apply zi4 | apply zi5) <;> intro _ <;> conv => whnf))
        refine LEnd.intro (k + 1, w) ⟨by dsimp only; omega, by dsimp only; omega, h3⟩ (by dsimp only; omega) ?_
        conv => whnf
        refine Retell.turn ⟨[0], 3, [], []⟩ (TurnOk.mk' _ _ [] [] (OutOk.lift _) rfl (by decide) zb trivial trivial rfl) zv zm
      | true =>
        rw [Bool.true_and] at h3
        conv => whnf
        repeat' (first | ((first | refine zs1 ?_ | refine zs2 ?_ | refine zs3 ?_ | refine zs4 ?_ | refine zs5 ?_); conv => whnf) | ((first | apply zi1 | apply zi2 | apply zi3 | apply zi4 | apply zi5) <;> intro _ <;> conv => whnf))
        refine VCall.intro (VC.give (args' := [.fp (encDk N k)]) (loc' := [.flat true (w.flatMap encI), .dead, .dead]) [(1, encDk N k)] [] (OutOk.lift _) zb zf (by exact FmAll.nil) rfl zv (cB _)) ?_
        conv => whnf
        repeat' (first | ((first | refine zs1 ?_ | refine zs2 ?_ | refine zs3 ?_ | refine zs4 ?_ | refine zs5 ?_); conv => whnf) | ((first | apply zi1 | apply zi2 | apply zi3 | apply zi4 | apply zi5) <;> intro _ <;> conv => whnf) | (refine VCall.intro (cR _) ?_; conv => whnf))
        · rename_i hS
          have hS2 : ¬ S = [] := fun e => by subst e; dsimp only [List.length_nil] at hS; omega
          rw [decide_eq_false hS2, Bool.not_false, if_pos rfl] at h3
          refine VMem.app1 (l := w) (k : Int) encI_len rfl rfl rfl rfl rfl (by omega) ?_
          conv => whnf
          repeat' (first | ((first | refine zs1 ?_ | refine zs2 ?_ | refine zs3 ?_ | refine zs4 ?_ | refine zs5 ?_); conv => whnf) | ((first | apply zi1 | apply zi2 | apply zi3 | apply zi4 | apply zi5) <;> intro _ <;> conv => whnf))
          refine LEnd.intro (k + 1, w ++ [(k : Int)]) ⟨by dsimp only; omega, by dsimp only; rw [List.length_append]; simp only [List.length_singleton]; omega, by dsimp only; rw [h3, List.append_assoc]; rfl⟩ (by dsimp only; omega) ?_
          conv => whnf
          rw [List.length_append]
          refine Retell.turn ⟨[4], 5, [], []⟩ (TurnOk.mk' _ _ [] [] (OutOk.lift _) rfl (by decide) zb trivial trivial rfl) zv zm
        · rename_i hS
          have hS2 : S = [] := List.length_eq_zero_iff.1 (by omega)
          rw [decide_eq_true hS2, Bool.not_true, if_neg (by decide)] at h3
          refine LEnd.intro (k + 1, w) ⟨by dsimp only; omega, by dsimp only; omega, h3⟩ (by dsimp only; omega) ?_
          conv => whnf
          refine Retell.turn ⟨[0], 3, [], []⟩ (TurnOk.mk' _ _ [] [] (OutOk.lift _) rfl (by decide) zb trivial trivial rfl) zv zm
    · have : k = N.ps.length := by dsimp only at h5; omega
      subst this
      rw [Nat.sub_self, mvS, List.append_nil] at h3
      subst h3
      conv => whnf
      repeat' (first | ((first | refine zs1 ?_ | refine zs2 ?_ | refine zs3 ?_ | refine zs4 ?_ | refine zs5 ?_); conv => whnf) | ((first | apply zi1 | apply zi2 | apply zi3 | apply zi4 | apply zi5) <;> intro _ <;> conv => whnf))
      refine VOut.data 1 [(0, M.flatMap encI)] [] rfl zf (by exact FmAll.nil) zv
end Go.Proofs.YtdlnjnfkbneibaaGreat

open Go.Vm
open Clip (Pn Sg Nt Bd Rt Sp Co Pl NtOk chk chk_ok bnds bnds_sz bnds_len bnds_sq offL offS offS_bd offS_len allOf mvB mvS mvL mvS_len mvB_pts regS BdSz pts)
namespace Go.Proofs.YtdlnjnfkbneibaaGreat
set_option maxRecDepth 20000
set_option maxHeartbeats 4000000
/-! ### Who is convicted -/
def cvE (N : Nt) : Int := if mvE N ≠ 0 then mvE N else if mvL N = [] then 7 else if 1 < (mvL N).length then 11 else 0
def cvV (N : Nt) : Int := if cvE N = 0 then (mvL N).headD 0 else 0
theorem vc_Convict (N : Nt) (h : Hp) (hn : N.ps.length ≤ 4000000) (hm : N.ss.length ≤ 4000000) : VC Tryz.prog 47 [vN N] h (.tuple [I (cvV N), I (cvE N)]) h := by
  unfold cvV cvE
  by_cases h0 : mvE N = 0
  · have o := mvE_ok.1 h0
    have c := fun h => vc_Movers_ok N h o.1 o.2
    rw [h0]
    generalize mvL N = M at c ⊢
    cases M with
    | nil =>
      refine VC.body Tryz.func47 rfl Tryz.ntmps47 Tryz.call47 (h.grows_refl) rfl ?_; conv => whnf
      repeat' (first | ((first | refine zs1 ?_ | refine zs2 ?_ | refine zs3 ?_ | refine zs4 ?_ | refine zs5 ?_ | refine zs6 [] ?_); conv => whnf) | ((first | apply zi1 | apply zi2 | apply zi3 | apply zi4 | apply zi5) <;> intro _ <;> conv => whnf) | (refine VCall.intro (c _) ?_; conv => whnf))
      exact VOut.same rfl
    | cons a r =>
      cases r with
      | nil =>
        have ha : [a][0]? = some a := rfl
        refine VC.body Tryz.func47 rfl Tryz.ntmps47 Tryz.call47 (h.grows_refl) rfl ?_; conv => whnf
        repeat' (first | ((first | refine zs1 ?_ | refine zs2 ?_ | refine zs3 ?_ | refine zs4 ?_ | refine zs5 ?_ | refine zs6 [] ?_); conv => whnf) | ((first | apply zi1 | apply zi2 | apply zi3 | apply zi4 | apply zi5) <;> intro _ <;> conv => whnf) | (refine VCall.intro (c _) ?_; conv => whnf) | (refine VAny.ix encI_len 0 rfl rfl ha ?_; conv => whnf))
        all_goals first | (exact VOut.same rfl) | (exfalso; simp only [List.length_cons, List.length_nil] at *; omega)
      | cons b r =>
        have e : (if (0 : Int) ≠ 0 then (0 : Int) else if (a :: b :: r) = [] then 7 else if 1 < (a :: b :: r).length then 11 else 0) = 11 := by simp
        rw [e]
        refine VC.body Tryz.func47 rfl Tryz.ntmps47 Tryz.call47 (h.grows_refl) rfl ?_; conv => whnf
        repeat' (first | ((first | refine zs1 ?_ | refine zs2 ?_ | refine zs3 ?_ | refine zs4 ?_ | refine zs5 ?_ | refine zs6 [] ?_); conv => whnf) | ((first | apply zi1 | apply zi2 | apply zi3 | apply zi4 | apply zi5) <;> intro _ <;> conv => whnf) | (refine VCall.intro (c _) ?_; conv => whnf))
        all_goals first | (exact VOut.same rfl) | (exfalso; simp only [List.length_cons] at *; omega)
  · have c := fun h => vc_Movers_no N h hn hm h0
    rw [if_pos h0, if_neg h0]
    generalize mvE N = E at c h0
    refine VC.body Tryz.func47 rfl Tryz.ntmps47 Tryz.call47 (h.grows_refl) rfl ?_; conv => whnf
    repeat' (first | ((first | refine zs1 ?_ | refine zs2 ?_ | refine zs3 ?_ | refine zs4 ?_ | refine zs5 ?_ | refine zs6 [] ?_); conv => whnf) | ((first | apply zi1 | apply zi2 | apply zi3 | apply zi4 | apply zi5) <;> intro _ <;> conv => whnf) | (refine VCall.intro (c _) ?_; conv => whnf))
    · exact VOut.same rfl
    · exfalso; omega
end Go.Proofs.YtdlnjnfkbneibaaGreat

open Go.Vm
open Clip (Pn Sg Nt Bd Rt Sp Co Pl NtOk chk chk_ok bnds bnds_sz bnds_len bnds_sq regS BdSz SpSz cmpR regS_sz)
namespace Go.Proofs.YtdlnjnfkbneibaaGreat
set_option maxRecDepth 20000
set_option maxHeartbeats 4000000

def crE (N : Nt) (p : Int) : Int := if brE N p ≠ 0 then brE N p else if regS (bnds N p) = [] then 8 else 0
def crS (N : Nt) (p : Int) : List Sp := if crE N p = 0 then regS (bnds N p) else []
theorem crE_ok {N : Nt} {p : Int} : crE N p = 0 ↔ brE N p = 0 ∧ regS (bnds N p) ≠ [] := by
  unfold crE
  split
  · rename_i h; exact ⟨fun e => absurd e h, fun e => absurd e.1 h⟩
  · rename_i h
    split
    · rename_i h2; exact ⟨fun e => by omega, fun e => absurd h2 e.2⟩
    · rename_i h2; exact ⟨fun _ => ⟨Classical.not_not.1 h, h2⟩, fun _ => rfl⟩
theorem vc_Corners (N : Nt) (p : Int) (h : Hp) (hn : N.ps.length ≤ 4000000) (hm : N.ss.length ≤ 4000000) : VC Tryz.prog 23 [vN N, I p] h (.tuple [sps (crS N p), I (crE N p)]) h := by
  have c := fun h => vc_begun N p h hn hm
  unfold crS crE
  by_cases h0 : brE N p = 0
  · have o := (brE_ok.1 h0).1
    have cB := fun h => vc_bounds N p h o
    have cR := fun h => vc_region (bnds N p) h (by have := bnds_len o p; omega) (bnds_sz o p)
    rw [h0] at c ⊢
    generalize bnds N p = bs at *
    generalize regS bs = S at *
    by_cases hS : S = []
    · subst hS
      refine VC.body Tryz.func23 rfl Tryz.ntmps23 Tryz.call23 (h.grows_refl) rfl ?_; conv => whnf
      repeat' (first | ((first | refine zs1 ?_ | refine zs2 ?_ | refine zs3 ?_ | refine zs4 ?_ | refine zs5 ?_ | refine zs6 [] ?_); conv => whnf) | ((first | apply zi1 | apply zi2 | apply zi3 | apply zi4 | apply zi5) <;> intro _ <;> conv => whnf) | (refine VCall.intro (c _) ?_; conv => whnf) | (refine VCall.intro (cB _) ?_; conv => whnf) | (refine VCall.intro (cR _) ?_; conv => whnf))
      all_goals first | (refine VOut.data 1 [] [] rfl zf (by exact FmAll.nil) zv
                         done) | (exfalso; simp only [List.length_nil] at *; omega)
    · have hl := List.length_pos_iff.2 hS
      have e : (if (0 : Int) ≠ 0 then (0 : Int) else if S = [] then 8 else 0) = 0 := by rw [if_neg (by decide), if_neg hS]
      rw [e, if_pos rfl]
      refine VC.body Tryz.func23 rfl Tryz.ntmps23 Tryz.call23 (h.grows_refl) rfl ?_; conv => whnf
      repeat' (first | ((first | refine zs1 ?_ | refine zs2 ?_ | refine zs3 ?_ | refine zs4 ?_ | refine zs5 ?_ | refine zs6 [] ?_); conv => whnf) | ((first | apply zi1 | apply zi2 | apply zi3 | apply zi4 | apply zi5) <;> intro _ <;> conv => whnf) | (refine VCall.intro (c _) ?_; conv => whnf) | (refine VCall.intro (cB _) ?_; conv => whnf) | (refine VCall.intro (cR _) ?_; conv => whnf))
      all_goals first | (exact VOut.same rfl) | (exfalso; omega)
  · rw [if_pos h0, if_neg h0]
    generalize brE N p = E at c h0
    refine VC.body Tryz.func23 rfl Tryz.ntmps23 Tryz.call23 (h.grows_refl) rfl ?_; conv => whnf
    repeat' (first | ((first | refine zs1 ?_ | refine zs2 ?_ | refine zs3 ?_ | refine zs4 ?_ | refine zs5 ?_ | refine zs6 [] ?_); conv => whnf) | ((first | apply zi1 | apply zi2 | apply zi3 | apply zi4 | apply zi5) <;> intro _ <;> conv => whnf) | (refine VCall.intro (c _) ?_; conv => whnf))
    all_goals first | (exfalso; omega) | (refine VOut.data 1 [] [] rfl zf (by exact FmAll.nil) zv
                                          done)
/-! ### The least and the greatest -/
def mnS (f : Sp → Rt) : Sp → List Sp → Sp
  | m, [] => m
  | m, s :: r => mnS f (if cmpR (f s) (f m) < 0 then s else m) r
def mxS (f : Sp → Rt) : Sp → List Sp → Sp
  | m, [] => m
  | m, s :: r => mxS f (if 0 < cmpR (f s) (f m) then s else m) r
theorem mnS_at {f : Sp → Rt} {m : Sp} {l : List Sp} {k : Nat} {s : Sp} (h : l[k]? = some s) : mnS f m (l.drop k) = mnS f (if cmpR (f s) (f m) < 0 then s else m) (l.drop (k + 1)) := by
  obtain ⟨hlt, rfl⟩ := List.getElem?_eq_some_iff.1 h
  rw [List.drop_eq_getElem_cons hlt, mnS]
theorem mxS_at {f : Sp → Rt} {m : Sp} {l : List Sp} {k : Nat} {s : Sp} (h : l[k]? = some s) : mxS f m (l.drop k) = mxS f (if 0 < cmpR (f s) (f m) then s else m) (l.drop (k + 1)) := by
  obtain ⟨hlt, rfl⟩ := List.getElem?_eq_some_iff.1 h
  rw [List.drop_eq_getElem_cons hlt, mxS]
theorem mnS_mem {f : Sp → Rt} : ∀ {l : List Sp} {m : Sp}, mnS f m l ∈ m :: l
  | [], m => by simp [mnS]
  | s :: r, m => by
    rw [mnS]
    have := mnS_mem (f := f) (l := r) (m := if cmpR (f s) (f m) < 0 then s else m)
    rcases List.mem_cons.1 this with h | h
    · rw [h]; split <;> simp
    · exact List.mem_cons_of_mem _ (List.mem_cons_of_mem _ h)
theorem mxS_mem {f : Sp → Rt} : ∀ {l : List Sp} {m : Sp}, mxS f m l ∈ m :: l
  | [], m => by simp [mxS]
  | s :: r, m => by
    rw [mxS]
    have := mxS_mem (f := f) (l := r) (m := if 0 < cmpR (f s) (f m) then s else m)
    rcases List.mem_cons.1 this with h | h
    · rw [h]; split <;> simp
    · exact List.mem_cons_of_mem _ (List.mem_cons_of_mem _ h)
theorem vc_MinF (g : FuncId) (f : Sp → Rt) (c : ∀ (s : Sp) (h : Hp), VC Tryz.prog g [vSp s] h (vRt (f s)) h) (s0 : Sp) (l : List Sp) (h : Hp) (hn : l.length ≤ 4000000) (hz : ∀ s ∈ s0 :: l, RtSz (f s)) : VC Tryz.prog 117 [sps (s0 :: l), .func (.func 118) [vE g] []] h (vSp (mnS f s0 l)) h := by
  obtain ⟨E, hE⟩ : ∃ E, E = mnS f s0 l := ⟨_, rfl⟩
  rw [← hE]
  have hE : E = mnS f s0 ((s0 :: l).drop 1) := hE
  obtain ⟨L, hL⟩ : ∃ L, L = s0 :: l := ⟨_, rfl⟩
  have h0 : L[0]? = some s0 := by rw [hL]; rfl
  have hs0 : s0 ∈ L := by rw [hL]; simp
  have hlen : L.length ≤ 5000000 ∧ 0 < L.length := by rw [hL, List.length_cons]; omega
  rw [← hL] at hz hE ⊢
  clear hL
  refine VC.body Tryz.func117 rfl Tryz.ntmps117 Tryz.call117 (h.grows_refl) rfl ?_; conv => whnf
  repeat' (first | ((first | refine zs1 ?_ | refine zs2 ?_ | refine zs3 ?_ | refine zs4 ?_ | refine zs5 ?_); conv => whnf) | ((first | apply zi1 | apply zi2 | apply zi3 | apply zi4 | apply zi5) <;> intro _ <;> conv => whnf) | (refine VAny.ix encSp_len 0 rfl rfl h0 ?_; conv => whnf))
  · exfalso; omega
  refine VCode.lp (fun y : Nat × Sp => [(0, sps L), (1, .func (.func 118) [vE g] []), (4, .ptr (.loc 0) 0), (5, .ptr (.loc 1) 0), (6, I y.1)]) (fun y => [.flat true [DI 0, DI 0, DI 0, DI 0], .flat true (encSp y.2)]) (fun y => (1 ≤ y.1 ∧ y.1 ≤ L.length) ∧ y.2 ∈ L ∧ E = mnS f y.2 (L.drop y.1)) (fun y => L.length - y.1) (1, s0) ⟨⟨Nat.le_refl _, hlen.2⟩, hs0, hE⟩ ?_ ?_
  · conv => whnf
    refine Retell.turn ⟨[0,1], 2, [], []⟩ (TurnOk.mk' _ _ [] [] (OutOk.lift _) rfl (by decide) zb trivial trivial rfl) zv zm
  · clear hE
    rintro ⟨k, m⟩ ⟨h1, h2, h3⟩
    dsimp only at h1 h2 h3
    conv => whnf
    refine VIte.dec (fun h5 => ?_) (fun h5 => ?_)
    · dsimp only at h5
      have hk : L[k]? = some L[k] := List.getElem?_eq_getElem (by omega)
      have hm := List.getElem_mem (l := L) (n := k) (by omega)
      rw [mnS_at hk] at h3
      generalize L[k] = s at hk hm h3
      have cc := fun h => vc_cmp g f c s m h (hz s hm) (hz m h2)
      generalize cmpR (f s) (f m) = C at cc h3
      conv => whnf
      repeat' (first | ((first | refine zs1 ?_ | refine zs2 ?_ | refine zs3 ?_ | refine zs4 ?_ | refine zs5 ?_); conv => whnf) | ((first | apply zi1 | apply zi2 | apply zi3 | apply zi4 | apply zi5) <;> intro _ <;> conv => whnf))
      refine zs6 [] ?_
      conv => whnf
      repeat' (first | ((first | refine zs1 ?_ | refine zs2 ?_ | refine zs3 ?_ | refine zs4 ?_ | refine zs5 ?_); conv => whnf) | ((first | apply zi1 | apply zi2 | apply zi3 | apply zi4 | apply zi5) <;> intro _ <;> conv => whnf) | (refine VAny.ix encSp_len k rfl rfl hk ?_; conv => whnf) | (refine VCall.intro (cc _) ?_; conv => whnf))
      · rename_i hc
        rw [if_pos hc] at h3
        refine LEnd.intro (k + 1, s) ⟨by dsimp only; omega, hm, h3⟩ (by dsimp only; omega) ?_
        conv => whnf
        refine Retell.turn ⟨[0,1], 2, [], []⟩ (TurnOk.mk' _ _ [] [] (OutOk.lift _) rfl (by decide) zb trivial trivial rfl) zv zm
      · rename_i hc
        rw [if_neg hc] at h3
        refine LEnd.intro (k + 1, m) ⟨by dsimp only; omega, h2, h3⟩ (by dsimp only; omega) ?_
        conv => whnf
        refine Retell.turn ⟨[0,1], 2, [], []⟩ (TurnOk.mk' _ _ [] [] (OutOk.lift _) rfl (by decide) zb trivial trivial rfl) zv zm
    · rw [List.drop_of_length_le (by dsimp only at h5; omega), mnS] at h3
      subst h3
      conv => whnf
      repeat' (first | ((first | refine zs1 ?_ | refine zs2 ?_ | refine zs3 ?_ | refine zs4 ?_ | refine zs5 ?_); conv => whnf) | ((first | apply zi1 | apply zi2 | apply zi3 | apply zi4 | apply zi5) <;> intro _ <;> conv => whnf))
      exact VOut.same rfl
theorem vc_MaxF (g : FuncId) (f : Sp → Rt) (c : ∀ (s : Sp) (h : Hp), VC Tryz.prog g [vSp s] h (vRt (f s)) h) (s0 : Sp) (l : List Sp) (h : Hp) (hn : l.length ≤ 4000000) (hz : ∀ s ∈ s0 :: l, RtSz (f s)) : VC Tryz.prog 119 [sps (s0 :: l), .func (.func 118) [vE g] []] h (vSp (mxS f s0 l)) h := by
  obtain ⟨E, hE⟩ : ∃ E, E = mxS f s0 l := ⟨_, rfl⟩
  rw [← hE]
  have hE : E = mxS f s0 ((s0 :: l).drop 1) := hE
  obtain ⟨L, hL⟩ : ∃ L, L = s0 :: l := ⟨_, rfl⟩
  have h0 : L[0]? = some s0 := by rw [hL]; rfl
  have hs0 : s0 ∈ L := by rw [hL]; simp
  have hlen : L.length ≤ 5000000 ∧ 0 < L.length := by rw [hL, List.length_cons]; omega
  rw [← hL] at hz hE ⊢
  clear hL
  refine VC.body Tryz.func119 rfl Tryz.ntmps119 Tryz.call119 (h.grows_refl) rfl ?_; conv => whnf
  repeat' (first | ((first | refine zs1 ?_ | refine zs2 ?_ | refine zs3 ?_ | refine zs4 ?_ | refine zs5 ?_); conv => whnf) | ((first | apply zi1 | apply zi2 | apply zi3 | apply zi4 | apply zi5) <;> intro _ <;> conv => whnf) | (refine VAny.ix encSp_len 0 rfl rfl h0 ?_; conv => whnf))
  · exfalso; omega
  refine VCode.lp (fun y : Nat × Sp => [(0, sps L), (1, .func (.func 118) [vE g] []), (4, .ptr (.loc 0) 0), (5, .ptr (.loc 1) 0), (6, I y.1)]) (fun y => [.flat true [DI 0, DI 0, DI 0, DI 0], .flat true (encSp y.2)]) (fun y => (1 ≤ y.1 ∧ y.1 ≤ L.length) ∧ y.2 ∈ L ∧ E = mxS f y.2 (L.drop y.1)) (fun y => L.length - y.1) (1, s0) ⟨⟨Nat.le_refl _, hlen.2⟩, hs0, hE⟩ ?_ ?_
  · conv => whnf
    refine Retell.turn ⟨[0,1], 2, [], []⟩ (TurnOk.mk' _ _ [] [] (OutOk.lift _) rfl (by decide) zb trivial trivial rfl) zv zm
  · clear hE
    rintro ⟨k, m⟩ ⟨h1, h2, h3⟩
    dsimp only at h1 h2 h3
    conv => whnf
    refine VIte.dec (fun h5 => ?_) (fun h5 => ?_)
    · dsimp only at h5
      have hk : L[k]? = some L[k] := List.getElem?_eq_getElem (by omega)
      have hm := List.getElem_mem (l := L) (n := k) (by omega)
      rw [mxS_at hk] at h3
      generalize L[k] = s at hk hm h3
      have cc := fun h => vc_cmp g f c s m h (hz s hm) (hz m h2)
      generalize cmpR (f s) (f m) = C at cc h3
      conv => whnf
      repeat' (first | ((first | refine zs1 ?_ | refine zs2 ?_ | refine zs3 ?_ | refine zs4 ?_ | refine zs5 ?_); conv => whnf) | ((first | apply zi1 | apply zi2 | apply zi3 | apply zi4 | apply zi5) <;> intro _ <;> conv => whnf))
      refine zs6 [] ?_
      conv => whnf
      repeat' (first | ((first | refine zs1 ?_ | refine zs2 ?_ | refine zs3 ?_ | refine zs4 ?_ | refine zs5 ?_); conv => whnf) | ((first | apply zi1 | apply zi2 | apply zi3 | apply zi4 | apply zi5) <;> intro _ <;> conv => whnf) | (refine VAny.ix encSp_len k rfl rfl hk ?_; conv => whnf) | (refine VCall.intro (cc _) ?_; conv => whnf))
      · rename_i hc
        rw [if_pos hc] at h3
        refine LEnd.intro (k + 1, s) ⟨by dsimp only; omega, hm, h3⟩ (by dsimp only; omega) ?_
        conv => whnf
        refine Retell.turn ⟨[0,1], 2, [], []⟩ (TurnOk.mk' _ _ [] [] (OutOk.lift _) rfl (by decide) zb trivial trivial rfl) zv zm
      · rename_i hc
        rw [if_neg hc] at h3
        refine LEnd.intro (k + 1, m) ⟨by dsimp only; omega, h2, h3⟩ (by dsimp only; omega) ?_
        conv => whnf
        refine Retell.turn ⟨[0,1], 2, [], []⟩ (TurnOk.mk' _ _ [] [] (OutOk.lift _) rfl (by decide) zb trivial trivial rfl) zv zm
    · rw [List.drop_of_length_le (by dsimp only at h5; omega), mxS] at h3
      subst h3
      conv => whnf
      repeat' (first | ((first | refine zs1 ?_ | refine zs2 ?_ | refine zs3 ?_ | refine zs4 ?_ | refine zs5 ?_); conv => whnf) | ((first | apply zi1 | apply zi2 | apply zi3 | apply zi4 | apply zi5) <;> intro _ <;> conv => whnf))
      exact VOut.same rfl
theorem vc_least (g : FuncId) (f : Sp → Rt) (c : ∀ (s : Sp) (h : Hp), VC Tryz.prog g [vSp s] h (vRt (f s)) h) (s0 : Sp) (l : List Sp) (h : Hp) (hn : l.length ≤ 4000000) (hz : ∀ s ∈ s0 :: l, RtSz (f s)) : VC Tryz.prog 72 [vE g, sps (s0 :: l)] h (vSp (mnS f s0 l)) h := by
  have cc := fun h => vc_MinF g f c s0 l h hn hz
  generalize mnS f s0 l = E at cc
  refine VC.body Tryz.func72 rfl Tryz.ntmps72 Tryz.call72 (h.grows_refl) rfl ?_; conv => whnf
  repeat' (first | ((first | refine zs1 ?_ | refine zs2 ?_ | refine zs3 ?_ | refine zs4 ?_ | refine zs5 ?_); conv => whnf) | ((first | apply zi1 | apply zi2 | apply zi3 | apply zi4 | apply zi5) <;> intro _ <;> conv => whnf) | (refine VCall.intro (cc _) ?_; conv => whnf))
  exact VOut.same rfl
theorem vc_greatest (g : FuncId) (f : Sp → Rt) (c : ∀ (s : Sp) (h : Hp), VC Tryz.prog g [vSp s] h (vRt (f s)) h) (s0 : Sp) (l : List Sp) (h : Hp) (hn : l.length ≤ 4000000) (hz : ∀ s ∈ s0 :: l, RtSz (f s)) : VC Tryz.prog 74 [vE g, sps (s0 :: l)] h (vSp (mxS f s0 l)) h := by
  have cc := fun h => vc_MaxF g f c s0 l h hn hz
  generalize mxS f s0 l = E at cc
  refine VC.body Tryz.func74 rfl Tryz.ntmps74 Tryz.call74 (h.grows_refl) rfl ?_; conv => whnf
  repeat' (first | ((first | refine zs1 ?_ | refine zs2 ?_ | refine zs3 ?_ | refine zs4 ?_ | refine zs5 ?_); conv => whnf) | ((first | apply zi1 | apply zi2 | apply zi3 | apply zi4 | apply zi5) <;> intro _ <;> conv => whnf) | (refine VCall.intro (cc _) ?_; conv => whnf))
  exact VOut.same rfl
def dnR (r : Rt) : Int := r.N.tdiv r.D
def upR (r : Rt) : Int := (r.N + r.D - 1).tdiv r.D
theorem vc_down (r : Rt) (h : Hp) (hr : RtSz r) : VC Tryz.prog 70 [vRt r] h (I (dnR r)) h := by
  obtain ⟨h1, h2⟩ := hr
  have w : IntKind.i64.wrap (r.N.tdiv r.D) = r.N.tdiv r.D := wrap_i64 (by have := Int.natAbs_tdiv_le_natAbs r.N r.D; omega)
  refine VC.body Tryz.func70 rfl Tryz.ntmps70 Tryz.call70 (h.grows_refl) rfl ?_; conv => whnf
  repeat' (first | ((first | refine zs1 ?_ | refine zs2 ?_ | refine zs3 ?_ | refine zs4 ?_ | refine zs5 ?_ | refine zs6 [] ?_); conv => whnf) | ((first | apply zi1 | apply zi2 | apply zi3 | apply zi4 | apply zi5) <;> intro _ <;> conv => whnf))
  all_goals first | (exfalso; omega) | (refine VOut.same ?_; show I (IntKind.i64.wrap _) = _; rw [w]; rfl)
theorem vc_up (r : Rt) (h : Hp) (hr : RtSz r) : VC Tryz.prog 73 [vRt r] h (I (upR r)) h := by
  obtain ⟨h1, h2⟩ := hr
  have w : IntKind.i64.wrap ((r.N + r.D - 1).tdiv r.D) = (r.N + r.D - 1).tdiv r.D := wrap_i64 (by have := Int.natAbs_tdiv_le_natAbs (r.N + r.D - 1) r.D; omega)
  refine VC.body Tryz.func73 rfl Tryz.ntmps73 Tryz.call73 (h.grows_refl) rfl ?_; conv => whnf
  repeat' (first | ((first | refine zs1 ?_ | refine zs2 ?_ | refine zs3 ?_ | refine zs4 ?_ | refine zs5 ?_ | refine zs6 [] ?_); conv => whnf) | ((first | apply zi1 | apply zi2 | apply zi3 | apply zi4 | apply zi5) <;> intro _ <;> conv => whnf))
  all_goals first | (exfalso; omega) | (refine VOut.same ?_; show I (IntKind.i64.wrap _) = _; rw [w]; rfl)
end Go.Proofs.YtdlnjnfkbneibaaGreat

open Go.Vm
open Clip (Pn Sg Nt Bd Rt Sp Co Pl NtOk chk chk_ok bnds bnds_sz bnds_len bnds_sq regS BdSz SpSz cmpR regS_sz)
namespace Go.Proofs.YtdlnjnfkbneibaaGreat
set_option maxRecDepth 20000
set_option maxHeartbeats 4000000

def vSpan (a : Int × Int) : V := .agg [I a.1, I a.2]
def bxV (f : Sp → Rt) : List Sp → Int × Int
  | [] => (0, 0)
  | s :: r => (dnR (f (mnS f s r)), upR (f (mxS f s r)))
theorem crS_ne {N : Nt} {p : Int} (h : crE N p ≠ 0) : crS N p = [] := by unfold crS; rw [if_neg h]
theorem crS_eq {N : Nt} {p : Int} (h : crE N p = 0) : crS N p = regS (bnds N p) ∧ regS (bnds N p) ≠ [] ∧ NtOk N := by
  refine ⟨by unfold crS; rw [if_pos h], (crE_ok.1 h).2, (brE_ok.1 (crE_ok.1 h).1).1⟩
theorem crS_sz {N : Nt} {p : Int} : ∀ s ∈ crS N p, SpSz s := by
  intro s hs
  unfold crS at hs
  split at hs
  · rename_i h
    exact regS_sz (bnds_sz (crS_eq h).2.2 p) hs
  · cases hs
theorem regS_len {N : Nt} {p : Int} (o : NtOk N) : (regS (bnds N p)).length ≤ 48 := by
  have h1 := Clip.cutsL_inv (bnds_sz o p) Clip.sqI_inv
  have h2 := bnds_len o p
  have e : regS (bnds N p) = Clip.turnS (Clip.ddS [] ((Clip.cutsL (bnds N p) Clip.sqI).map Co.s)) := by unfold regS Clip.regI; rw [Clip.cutsI_foldl]
  rw [e, Clip.turnS_len]
  have := Clip.ddS_len ((Clip.cutsL (bnds N p) Clip.sqI).map Co.s) []
  rw [List.length_map, List.length_nil] at this
  have e4 : Clip.sqI.length = 4 := rfl
  omega
theorem vc_Box (N : Nt) (p : Int) (h : Hp) (hn : N.ps.length ≤ 4000000) (hm : N.ss.length ≤ 4000000) : VC Tryz.prog 25 [vN N, I p] h (.tuple [vSpan (bxV Sp.X (crS N p)), vSpan (bxV Sp.Y (crS N p)), I (crE N p)]) h := by
  have c := fun h => vc_Corners N p h hn hm
  by_cases h0 : crE N p = 0
  · obtain ⟨e1, e2, o⟩ := crS_eq h0
    have hz := crS_sz (N := N) (p := p)
    have hl := regS_len (p := p) o
    rw [← e1] at e2 hl
    rw [h0] at c ⊢
    generalize crS N p = S at *
    cases S with
    | nil => exact absurd rfl e2
    | cons s r =>
      have zx : ∀ x ∈ s :: r, RtSz x.X := fun x hx => (hz x hx).rx
      have zy : ∀ x ∈ s :: r, RtSz x.Y := fun x hx => (hz x hx).ry
      have hr : r.length ≤ 4000000 := by rw [List.length_cons] at hl; omega
      have l1 := fun h => vc_least 116 Sp.X vc_east1 s r h hr zx
      have l2 := fun h => vc_greatest 116 Sp.X vc_east1 s r h hr zx
      have l3 := fun h => vc_least 120 Sp.Y vc_north1 s r h hr zy
      have l4 := fun h => vc_greatest 120 Sp.Y vc_north1 s r h hr zy
      have d1 := fun h => vc_down (mnS Sp.X s r).X h (zx _ mnS_mem)
      have d2 := fun h => vc_up (mxS Sp.X s r).X h (zx _ mxS_mem)
      have d3 := fun h => vc_down (mnS Sp.Y s r).Y h (zy _ mnS_mem)
      have d4 := fun h => vc_up (mxS Sp.Y s r).Y h (zy _ mxS_mem)
      unfold bxV
      dsimp only
      generalize mnS Sp.X s r = a1 at *
      generalize mxS Sp.X s r = a2 at *
      generalize mnS Sp.Y s r = a3 at *
      generalize mxS Sp.Y s r = a4 at *
      generalize dnR a1.X = b1 at *
      generalize upR a2.X = b2 at *
      generalize dnR a3.Y = b3 at *
      generalize upR a4.Y = b4 at *
      generalize s :: r = S at *
      refine VC.body Tryz.func25 rfl Tryz.ntmps25 Tryz.call25 (h.grows_refl) rfl ?_; conv => whnf
      repeat' (first | ((first | refine zs1 ?_ | refine zs2 ?_ | refine zs3 ?_ | refine zs4 ?_ | refine zs5 ?_); conv => whnf) | ((first | apply zi1 | apply zi2 | apply zi3 | apply zi4 | apply zi5) <;> intro _ <;> conv => whnf) | (refine VCall.intro (c _) ?_; conv => whnf) | (refine VCall.intro (vc_east _) ?_; conv => whnf) | (refine VCall.intro (vc_north _) ?_; conv => whnf) | (refine VCall.intro (l1 _) ?_; conv => whnf) | (refine VCall.intro (l2 _) ?_; conv => whnf) | (refine VCall.intro (l3 _) ?_; conv => whnf) | (refine VCall.intro (l4 _) ?_; conv => whnf) | (refine VCall.intro (d1 _) ?_; conv => whnf) | (refine VCall.intro (d2 _) ?_; conv => whnf) | (refine VCall.intro (d3 _) ?_; conv => whnf) | (refine VCall.intro (d4 _) ?_; conv => whnf))
      refine zs6 [(1, 2)] ?_
      conv => whnf
      repeat' (first | ((first | refine zs1 ?_ | refine zs2 ?_ | refine zs3 ?_ | refine zs4 ?_ | refine zs5 ?_); conv => whnf) | ((first | apply zi1 | apply zi2 | apply zi3 | apply zi4 | apply zi5) <;> intro _ <;> conv => whnf))
      exact VOut.same rfl
  · rw [crS_ne h0] at c ⊢
    generalize crE N p = E at c h0
    refine VC.body Tryz.func25 rfl Tryz.ntmps25 Tryz.call25 (h.grows_refl) rfl ?_; conv => whnf
    repeat' (first | ((first | refine zs1 ?_ | refine zs2 ?_ | refine zs3 ?_ | refine zs4 ?_ | refine zs5 ?_); conv => whnf) | ((first | apply zi1 | apply zi2 | apply zi3 | apply zi4 | apply zi5) <;> intro _ <;> conv => whnf) | (refine VCall.intro (c _) ?_; conv => whnf))
    · refine zs6 [(1, 3)] ?_
      conv => whnf
      repeat' (first | ((first | refine zs1 ?_ | refine zs2 ?_ | refine zs3 ?_ | refine zs4 ?_ | refine zs5 ?_); conv => whnf) | ((first | apply zi1 | apply zi2 | apply zi3 | apply zi4 | apply zi5) <;> intro _ <;> conv => whnf))
      exact VOut.same rfl
    · exfalso; omega
end Go.Proofs.YtdlnjnfkbneibaaGreat

open Go.Vm
open Clip (Pn Sg Nt Bd Rt Sp Co Pl NtOk chk chk_ok bnds bnds_sz bnds_len bnds_sq regS BdSz SpSz cmpR regS_sz okD okD_iff farS' farR rcStep rcS red)
namespace Go.Proofs.YtdlnjnfkbneibaaGreat
set_option maxRecDepth 20000
set_option maxHeartbeats 4000000

/-! ### How far a region reaches -/
structure FrSz (r : Rt) : Prop where
  n : -1000000000 ≤ r.N ∧ r.N ≤ 1000000000
  d : 1 ≤ r.D ∧ r.D ≤ 5000
theorem far_sz {bs : List Bd} {to : Pn} (hsq : ∀ b ∈ Clip.bsq, b ∈ bs) (hr : ∀ b ∈ bs, BdSz b) (ht : okD to = true) {s : Sp} (hs : s ∈ regS bs) : FrSz (farR to s) := by
  obtain ⟨_, a, ha, b, hb, hd, z1, z2⟩ := Clip.reg_corner hsq hr hs
  have ht := okD_iff.1 ht
  have hdet : Clip.det a.af b.af ≠ 0 := fun h => hd (Clip.det_zero.1 h)
  have e1 := Clip.meetP_uniq hdet z1 z2
  rw [← Clip.meetI_pt] at e1
  have hso := (regS_sz hr hs).ok
  have q1 := (Clip.farR_q (to := to) hso).1
  rw [e1] at q1
  have sz := Clip.meetI_sz (hr a ha) (hr b hb)
  have hx := Clip.mulb (x := to.x) (y := (Clip.meetI a b).x) (A := 50) (B := 10000000) ht.2.1 sz.1
  have hy := Clip.mulb (x := to.y) (y := (Clip.meetI a b).y) (A := 50) (B := 10000000) ht.2.2 sz.2.1
  generalize Clip.meetI a b = m at *
  have hd2 : s.X.D * s.Y.D ≠ 0 := Int.ne_of_gt (Int.mul_pos hso.x hso.y)
  have q2 : (red (to.x * m.x + to.y * m.y) m.d).q = (Clip.dirAf to).ev m.pt := by
    rw [Clip.red_q hd]
    have n1 := Clip.ne_cast hd
    unfold Clip.dirAf Clip.Af.ev Clip.Pl.pt
    simp only [Rat.intCast_add, Rat.intCast_mul]
    have h1 := Rat.div_mul_cancel (a := (m.x : Rat)) n1
    have h2 := Rat.div_mul_cancel (a := (m.y : Rat)) n1
    have h3 := Rat.div_mul_cancel (a := (to.x : Rat) * m.x + to.y * m.y) n1
    generalize (m.x : Rat) / m.d = P at *
    generalize (m.y : Rat) / m.d = Q at *
    generalize ((to.x : Rat) * m.x + to.y * m.y) / m.d = R at *
    have e : (R - (to.x * P + to.y * Q + 0)) * m.d = 0 := by grind
    rcases Rat.mul_eq_zero.1 e with h4 | h4
    · grind
    · exact absurd h4 n1
  have e : farR to s = red (to.x * m.x + to.y * m.y) m.d := by
    unfold farR at q1 ⊢
    exact Clip.red_uniq hd2 hd (q1.trans q2.symm)
  have := Clip.red_sz (n := to.x * m.x + to.y * m.y) (d := m.d) (N := 1000000000) (D := 5000) hd (by omega) (by omega)
  rw [e]
  exact ⟨this.1, this.2⟩
theorem far_bd {to : Pn} {s : Sp} (ht : okD to = true) (hs : SpSz s) : (-500000000 ≤ to.x * s.X.N ∧ to.x * s.X.N ≤ 500000000) ∧ (-500000000 ≤ to.y * s.Y.N ∧ to.y * s.Y.N ≤ 500000000) ∧ (-2500000000000 ≤ to.x * s.X.N * s.Y.D ∧ to.x * s.X.N * s.Y.D ≤ 2500000000000) ∧ (-2500000000000 ≤ to.y * s.Y.N * s.X.D ∧ to.y * s.Y.N * s.X.D ≤ 2500000000000) ∧ (-25000000 ≤ s.X.D * s.Y.D ∧ s.X.D * s.Y.D ≤ 25000000) ∧ s.X.D * s.Y.D ≠ 0 := by
  have ht := okD_iff.1 ht
  have xd := hs.xd
  have yd := hs.yd
  have h1 := Clip.mulb (x := to.x) (y := s.X.N) (A := 50) (B := 10000000) ht.2.1 hs.xn
  have h2 := Clip.mulb (x := to.y) (y := s.Y.N) (A := 50) (B := 10000000) ht.2.2 hs.yn
  have h3 := Clip.mulb (x := to.x * s.X.N) (y := s.Y.D) (A := 500000000) (B := 5000) (by omega) (by omega)
  have h4 := Clip.mulb (x := to.y * s.Y.N) (y := s.X.D) (A := 500000000) (B := 5000) (by omega) (by omega)
  have h5 := Clip.mulb (x := s.X.D) (y := s.Y.D) (A := 5000) (B := 5000) (by omega) (by omega)
  have h6 := Int.mul_pos (show 0 < s.X.D by omega) (show 0 < s.Y.D by omega)
  refine ⟨by omega, by omega, by omega, by omega, by omega, by omega⟩
def asE (N : Nt) (p : Int) (to : Pn) : Int := if brE N p ≠ 0 then brE N p else if okD to = true then (if regS (bnds N p) = [] then 8 else 0) else 4
theorem asE_ok {N : Nt} {p : Int} {to : Pn} : asE N p to = 0 ↔ brE N p = 0 ∧ okD to = true ∧ regS (bnds N p) ≠ [] := by
  unfold asE
  split
  · rename_i h; exact ⟨fun e => absurd e h, fun e => absurd e.1 h⟩
  · rename_i h
    split
    · rename_i ht
      split
      · rename_i h2; exact ⟨fun e => by omega, fun e => absurd h2 e.2.2⟩
      · rename_i h2; exact ⟨fun _ => ⟨Classical.not_not.1 h, ht, h2⟩, fun _ => rfl⟩
    · rename_i ht; exact ⟨fun e => by omega, fun e => absurd e.2.1 ht⟩
theorem vc_asked_ok (N : Nt) (p : Int) (to : Pn) (h : Hp) (h0 : asE N p to = 0) : VC Tryz.prog 76 [vN N, I p, vPn to] h (.tuple [.fp (encDk N p), bds (bnds N p), I 0]) h := by
  obtain ⟨b0, ht, hS⟩ := asE_ok.1 h0
  have o := (brE_ok.1 b0).1
  have hn := o.n
  have hm := o.m
  have c := fun h => vc_begun N p h (by omega) (by omega)
  have cT := fun h => vc_turned to h
  have cB := fun h => vc_bounds N p h o
  have cR := fun h => vc_region (bnds N p) h (by have := bnds_len o p; omega) (bnds_sz o p)
  have hl := List.length_pos_iff.2 hS
  rw [b0] at c
  rw [ht] at cT
  generalize bnds N p = bs at *
  generalize regS bs = S at *
  refine VC.body Tryz.func76 rfl Tryz.ntmps76 Tryz.call76 (h.grows_refl) rfl ?_; conv => whnf
  repeat' (first | ((first | refine zs1 ?_ | refine zs2 ?_ | refine zs3 ?_ | refine zs4 ?_ | refine zs5 ?_ | refine zs6 [] ?_); conv => whnf) | ((first | apply zi1 | apply zi2 | apply zi3 | apply zi4 | apply zi5) <;> intro _ <;> conv => whnf) | (refine VCall.intro (c _) ?_; conv => whnf) | (refine VCall.intro (cB _) ?_; conv => whnf) | (refine VCall.intro (cR _) ?_; conv => whnf) | (refine VCall.intro (cT _) ?_; conv => whnf))
  all_goals first | (exact VOut.same rfl) | (exfalso; omega)
theorem vc_asked_no (N : Nt) (p : Int) (to : Pn) (h : Hp) (hn : N.ps.length ≤ 4000000) (hm : N.ss.length ≤ 4000000) (h0 : asE N p to ≠ 0) : VC Tryz.prog 76 [vN N, I p, vPn to] h (.tuple [.nilptr, .nilslice, I (asE N p to)]) h := by
  have c := fun h => vc_begun N p h hn hm
  have cT := fun h => vc_turned to h
  by_cases b0 : brE N p = 0
  · have o := (brE_ok.1 b0).1
    rw [b0] at c
    cases ht : okD to
    · have e : asE N p to = 4 := by unfold asE; rw [if_neg (by omega), if_neg (by rw [ht]; decide)]
      rw [e]
      rw [ht] at cT
      refine VC.body Tryz.func76 rfl Tryz.ntmps76 Tryz.call76 (h.grows_refl) rfl ?_; conv => whnf
      repeat' (first | ((first | refine zs1 ?_ | refine zs2 ?_ | refine zs3 ?_ | refine zs4 ?_ | refine zs5 ?_ | refine zs6 [] ?_); conv => whnf) | ((first | apply zi1 | apply zi2 | apply zi3 | apply zi4 | apply zi5) <;> intro _ <;> conv => whnf) | (refine VCall.intro (c _) ?_; conv => whnf) | (refine VCall.intro (cT _) ?_; conv => whnf))
      all_goals first | (exact VOut.same rfl) | (exfalso; omega)
    · have hS : regS (bnds N p) = [] := Classical.byContradiction fun hS => h0 (asE_ok.2 ⟨b0, ht, hS⟩)
      have e : asE N p to = 8 := by unfold asE; rw [if_neg (by omega), if_pos ht, if_pos hS]
      have cB := fun h => vc_bounds N p h o
      have cR := fun h => vc_region (bnds N p) h (by have := bnds_len o p; omega) (bnds_sz o p)
      rw [hS] at cR
      rw [ht] at cT
      rw [e]
      generalize bnds N p = bs at *
      refine VC.body Tryz.func76 rfl Tryz.ntmps76 Tryz.call76 (h.grows_refl) rfl ?_; conv => whnf
      repeat' (first | ((first | refine zs1 ?_ | refine zs2 ?_ | refine zs3 ?_ | refine zs4 ?_ | refine zs5 ?_ | refine zs6 [] ?_); conv => whnf) | ((first | apply zi1 | apply zi2 | apply zi3 | apply zi4 | apply zi5) <;> intro _ <;> conv => whnf) | (refine VCall.intro (c _) ?_; conv => whnf) | (refine VCall.intro (cB _) ?_; conv => whnf) | (refine VCall.intro (cR _) ?_; conv => whnf) | (refine VCall.intro (cT _) ?_; conv => whnf))
      all_goals first | (exact VOut.same rfl) | (exfalso; omega)
  · have e : asE N p to = brE N p := by unfold asE; rw [if_pos b0]
    rw [e]
    generalize brE N p = E at *
    refine VC.body Tryz.func76 rfl Tryz.ntmps76 Tryz.call76 (h.grows_refl) rfl ?_; conv => whnf
    repeat' (first | ((first | refine zs1 ?_ | refine zs2 ?_ | refine zs3 ?_ | refine zs4 ?_ | refine zs5 ?_ | refine zs6 [] ?_); conv => whnf) | ((first | apply zi1 | apply zi2 | apply zi3 | apply zi4 | apply zi5) <;> intro _ <;> conv => whnf) | (refine VCall.intro (c _) ?_; conv => whnf))
    all_goals first | (exact VOut.same rfl) | (exfalso; omega)
def rcV (N : Nt) (p : Int) (to : Pn) : Rt := if asE N p to = 0 then rcS to ⟨0, 0⟩ (regS (bnds N p)) else ⟨0, 0⟩
theorem rcS_at {to : Pn} {r : Rt} {l : List Sp} {k : Nat} {s : Sp} (h : l[k]? = some s) : rcS to r (l.drop k) = rcS to (rcStep to r s) (l.drop (k + 1)) := by
  obtain ⟨hlt, rfl⟩ := List.getElem?_eq_some_iff.1 h
  rw [List.drop_eq_getElem_cons hlt, rcS]
theorem vc_Reach (N : Nt) (p : Int) (to : Pn) (h : Hp) (hn : N.ps.length ≤ 4000000) (hm : N.ss.length ≤ 4000000) : VC Tryz.prog 27 [vN N, I p, vPn to] h (.tuple [vRt (rcV N p to), I (asE N p to)]) h := by
  unfold rcV
  by_cases h0 : asE N p to = 0
  · obtain ⟨b0, ht, hS⟩ := asE_ok.1 h0
    have o := (brE_ok.1 b0).1
    have c := fun h => vc_asked_ok N p to h h0
    have cR := fun h => vc_region (bnds N p) h (by have := bnds_len o p; omega) (bnds_sz o p)
    have hl := regS_len (p := p) o
    have hz : ∀ s ∈ regS (bnds N p), SpSz s := fun s hs => regS_sz (bnds_sz o p) hs
    have hf : ∀ s ∈ regS (bnds N p), FrSz (farR to s) := fun s hs => far_sz (bnds_sq N p) (bnds_sz o p) ht hs
    rw [if_pos h0, h0]
    obtain ⟨E, hE⟩ : ∃ E, E = rcS to ⟨0, 0⟩ (regS (bnds N p)) := ⟨_, rfl⟩
    rw [← hE]
    generalize bnds N p = bs at *
    generalize regS bs = S at *
    have hE : E = rcS to ⟨0, 0⟩ (S.drop 0) := hE
    refine VC.body Tryz.func27 rfl Tryz.ntmps27 Tryz.call27 (h.grows_refl) rfl ?_; conv => whnf
    repeat' (first | ((first | refine zs1 ?_ | refine zs2 ?_ | refine zs3 ?_ | refine zs4 ?_ | refine zs5 ?_ | refine zs6 [] ?_); conv => whnf) | ((first | apply zi1 | apply zi2 | apply zi3 | apply zi4 | apply zi5) <;> intro _ <;> conv => whnf) | (refine VCall.intro (c _) ?_; conv => whnf) | (refine VCall.intro (cR _) ?_; conv => whnf))
    refine VCode.lp (fun y : Nat × Rt => [(5, .fp (encPn to)), (6, .ptr (.loc 0) 0), (7, I 0), (11, .ptr (.loc 1) 0), (28, sps S), (29, I S.length), (30, I y.1)]) (fun y => [.flat true [DI 0, DI 0], .flat true [DI y.2.N, DI y.2.D]]) (fun y => y.1 ≤ S.length ∧ ((-1000000000 ≤ y.2.N ∧ y.2.N ≤ 1000000000) ∧ (0 ≤ y.2.D ∧ y.2.D ≤ 5000)) ∧ E = rcS to y.2 (S.drop y.1)) (fun y => S.length - y.1) (0, ⟨0, 0⟩) ⟨Nat.zero_le _, by dsimp only; omega, hE⟩ ?_ ?_
    · conv => whnf
      refine Retell.turn ⟨[2,3], 4, [(1, encPn to)], []⟩ (TurnOk.mk' _ _ [(1, encPn to)] [] (OutOk.lift _) rfl (by decide) zb zf trivial rfl) zv zm
    · clear hE
      rintro ⟨k, r⟩ ⟨h1, h2, h3⟩
      dsimp only at h1 h2 h3
      conv => whnf
      refine VIte.dec (fun h5 => ?_) (fun h5 => ?_)
      · dsimp only at h5
        have hk : S[k]? = some S[k] := List.getElem?_eq_getElem (by omega)
        have sz := hz S[k] (List.getElem_mem (by omega))
        have sf := hf S[k] (List.getElem_mem (by omega))
        rw [rcS_at hk] at h3
        generalize S[k] = s at hk sz sf h3
        obtain ⟨z1, z2, z3, z4, z5, z6⟩ := far_bd ht sz
        have cQ := fun h => vc_ratio (farS' to s) (s.X.D * s.Y.D) h z6 (by omega) (by unfold farS'; omega)
        have eF : red (farS' to s) (s.X.D * s.Y.D) = farR to s := rfl
        rw [eF] at cQ
        unfold farS' at cQ
        unfold rcStep at h3
        generalize farR to s = f at *
        have m1 := Clip.mulb (x := f.N) (y := r.D) (A := 1000000000) (B := 5000) sf.n (by omega)
        have m2 := Clip.mulb (x := r.N) (y := f.D) (A := 1000000000) (B := 5000) h2.1 (by have := sf.d; omega)
        have sfn := sf.n
        have sfd := sf.d
        conv => whnf
        repeat' (first | ((first | refine zs1 ?_ | refine zs2 ?_ | refine zs3 ?_ | refine zs4 ?_ | refine zs5 ?_ | refine zs6 [] ?_); conv => whnf) | ((first | apply zi1 | apply zi2 | apply zi3 | apply zi4 | apply zi5) <;> intro _ <;> conv => whnf) | (refine VAny.ix encSp_len k rfl rfl hk ?_; conv => whnf) | (refine VCall.intro (cQ _) ?_; conv => whnf))
        · rename_i hD
          dsimp only at hD
          rw [if_pos (.inl hD)] at h3
          refine LEnd.intro (k + 1, f) ⟨by dsimp only; omega, by dsimp only; omega, h3⟩ (by dsimp only; omega) ?_
          conv => whnf
          refine Retell.turn ⟨[0,1], 4, [], []⟩ (TurnOk.mk' _ _ [] [] (OutOk.lift _) rfl (by decide) zb trivial trivial rfl) zv zm
        · rename_i hD hC
          dsimp only at hD hC
          rw [if_pos (.inr hC)] at h3
          refine LEnd.intro (k + 1, f) ⟨by dsimp only; omega, by dsimp only; omega, h3⟩ (by dsimp only; omega) ?_
          conv => whnf
          refine Retell.turn ⟨[0,1], 4, [], []⟩ (TurnOk.mk' _ _ [] [] (OutOk.lift _) rfl (by decide) zb trivial trivial rfl) zv zm
        · rename_i hD hC
          dsimp only at hD hC
          rw [if_neg (by omega)] at h3
          refine LEnd.intro (k + 1, r) ⟨by dsimp only; omega, by dsimp only; omega, h3⟩ (by dsimp only; omega) ?_
          conv => whnf
          refine Retell.turn ⟨[0,1], 4, [], []⟩ (TurnOk.mk' _ _ [] [] (OutOk.lift _) rfl (by decide) zb trivial trivial rfl) zv zm
      · rw [List.drop_of_length_le (by dsimp only at h5; omega), rcS] at h3
        subst h3
        conv => whnf
        repeat' (first | ((first | refine zs1 ?_ | refine zs2 ?_ | refine zs3 ?_ | refine zs4 ?_ | refine zs5 ?_ | refine zs6 [] ?_); conv => whnf) | ((first | apply zi1 | apply zi2 | apply zi3 | apply zi4 | apply zi5) <;> intro _ <;> conv => whnf))
        exact VOut.same rfl
  · have c := fun h => vc_asked_no N p to h hn hm h0
    rw [if_neg h0]
    generalize asE N p to = E at *
    refine VC.body Tryz.func27 rfl Tryz.ntmps27 Tryz.call27 (h.grows_refl) rfl ?_; conv => whnf
    repeat' (first | ((first | refine zs1 ?_ | refine zs2 ?_ | refine zs3 ?_ | refine zs4 ?_ | refine zs5 ?_ | refine zs6 [] ?_); conv => whnf) | ((first | apply zi1 | apply zi2 | apply zi3 | apply zi4 | apply zi5) <;> intro _ <;> conv => whnf) | (refine VCall.intro (c _) ?_; conv => whnf))
    all_goals first | (exact VOut.same rfl) | (exfalso; omega)
end Go.Proofs.YtdlnjnfkbneibaaGreat

open Go.Vm
open Clip (Pn Sg Nt Bd Rt Sp Co Pl NtOk chk chk_ok bnds bnds_sz bnds_len bnds_sq regS BdSz SpSz okD okD_iff red)
namespace Go.Proofs.YtdlnjnfkbneibaaGreat
set_option maxRecDepth 20000
set_option maxHeartbeats 4000000

/-! ### Proofs -/
structure Pf where
  bs : List Int
  ws : List Int
  t : Int
def encPf (p : Pf) : List D := [dints p.bs, dints p.ws, DI p.t]
def vPf (p : Pf) : V := .agg [ints p.bs, ints p.ws, I p.t]
def dBds (l : List Bd) : D := .sl 3 l.length (l.flatMap encBd)
def sumG : Bd → List Int → List Bd → Bd
  | s, w :: ws, b :: bs => sumG ⟨s.A + w * b.A, s.B + w * b.B, s.C + w * b.C⟩ ws bs
  | s, _, _ => s
theorem sumG_at {s : Bd} {ws : List Int} {bs : List Bd} {k : Nat} {w : Int} {b : Bd} (hw : ws[k]? = some w) (hb : bs[k]? = some b) : sumG s (ws.drop k) (bs.drop k) = sumG ⟨s.A + w * b.A, s.B + w * b.B, s.C + w * b.C⟩ (ws.drop (k + 1)) (bs.drop (k + 1)) := by
  obtain ⟨h1, rfl⟩ := List.getElem?_eq_some_iff.1 hw
  obtain ⟨h2, rfl⟩ := List.getElem?_eq_some_iff.1 hb
  rw [List.drop_eq_getElem_cons h1, List.drop_eq_getElem_cons h2, sumG]
theorem vc_sum (ws : List Int) (bs : List Bd) (h : Hp) (hl : ws.length = bs.length) (hn : bs.length ≤ 1000) (hw : ∀ w ∈ ws, -1000000 ≤ w ∧ w ≤ 1000000) (hb : ∀ b ∈ bs, BdSz b) : VC Tryz.prog 103 [ints ws, bds bs] h (vBd (sumG ⟨0, 0, 0⟩ ws bs)) h := by
  obtain ⟨E, hE⟩ : ∃ E, E = sumG ⟨0, 0, 0⟩ ws bs := ⟨_, rfl⟩
  rw [← hE]
  have hE : E = sumG ⟨0, 0, 0⟩ (ws.drop 0) (bs.drop 0) := hE
  refine VC.body Tryz.func103 rfl Tryz.ntmps103 Tryz.call103 (h.grows_refl) rfl ?_; conv => whnf
  repeat' (first | ((first | refine zs1 ?_ | refine zs2 ?_ | refine zs3 ?_ | refine zs4 ?_ | refine zs5 ?_ | refine zs6 [] ?_); conv => whnf) | ((first | apply zi1 | apply zi2 | apply zi3 | apply zi4 | apply zi5) <;> intro _ <;> conv => whnf))
  refine VCode.lp (fun y : Nat × Bd => [(0, ints ws), (4, .ptr (.loc 0) 0), (5, .ptr (.loc 1) 0), (9, bds bs), (10, I bs.length), (11, I y.1)]) (fun y => [.flat true [DI 0, DI 0, DI 0], .flat true (encBd y.2)]) (fun y => y.1 ≤ bs.length ∧ ((-100000000 * (y.1 : Int) ≤ y.2.A ∧ y.2.A ≤ 100000000 * (y.1 : Int)) ∧ (-100000000 * (y.1 : Int) ≤ y.2.B ∧ y.2.B ≤ 100000000 * (y.1 : Int)) ∧ (-100000000000 * (y.1 : Int) ≤ y.2.C ∧ y.2.C ≤ 100000000000 * (y.1 : Int))) ∧ E = sumG y.2 (ws.drop y.1) (bs.drop y.1)) (fun y => bs.length - y.1) (0, ⟨0, 0, 0⟩) ⟨Nat.zero_le _, by dsimp only; omega, hE⟩ ?_ ?_
  · conv => whnf
    refine Retell.turn ⟨[0,1], 2, [], []⟩ (TurnOk.mk' _ _ [] [] (OutOk.lift _) rfl (by decide) zb trivial trivial rfl) zv zm
  · clear hE
    rintro ⟨k, s⟩ ⟨h1, h2, h3⟩
    dsimp only at h1 h2 h3
    conv => whnf
    refine VIte.dec (fun h5 => ?_) (fun h5 => ?_)
    · dsimp only at h5
      have hk : bs[k]? = some bs[k] := List.getElem?_eq_getElem (by omega)
      have hv : ws[k]? = some (ws[k]'(by omega)) := List.getElem?_eq_getElem _
      have sb := hb bs[k] (List.getElem_mem (by omega))
      have sw := hw (ws[k]'(by omega)) (List.getElem_mem (by omega))
      rw [sumG_at hv hk] at h3
      generalize bs[k] = b at *
      generalize ws[k]'(by omega) = w at *
      have m1 := Clip.mulb (x := w) (y := b.A) (A := 1000000) (B := 50) sw sb.a
      have m2 := Clip.mulb (x := w) (y := b.B) (A := 1000000) (B := 50) sw sb.b'
      have m3 := Clip.mulb (x := w) (y := b.C) (A := 1000000) (B := 100000) sw sb.c
      conv => whnf
      repeat' (first | ((first | refine zs1 ?_ | refine zs2 ?_ | refine zs3 ?_ | refine zs4 ?_ | refine zs5 ?_ | refine zs6 [] ?_); conv => whnf) | ((first | apply zi1 | apply zi2 | apply zi3 | apply zi4 | apply zi5) <;> intro _ <;> conv => whnf) | (refine VAny.ix encBd_len k rfl rfl hk ?_; conv => whnf) | (refine VAny.ix encI_len k rfl rfl hv ?_; conv => whnf))
      refine LEnd.intro (k + 1, (⟨s.A + w * b.A, s.B + w * b.B, s.C + w * b.C⟩ : Bd)) ⟨by dsimp only; omega, by dsimp only; omega, h3⟩ (by dsimp only; omega) ?_
      conv => whnf
      refine Retell.turn ⟨[0,1], 3, [], []⟩ (TurnOk.mk' _ _ [] [] (OutOk.lift _) rfl (by decide) zb trivial trivial rfl) zv zm
    · rw [List.drop_of_length_le (by dsimp only at h5; omega), List.drop_of_length_le (by dsimp only at h5; omega), show sumG s [] [] = s from rfl] at h3
      subst h3
      conv => whnf
      repeat' (first | ((first | refine zs1 ?_ | refine zs2 ?_ | refine zs3 ?_ | refine zs4 ?_ | refine zs5 ?_ | refine zs6 [] ?_); conv => whnf) | ((first | apply zi1 | apply zi2 | apply zi3 | apply zi4 | apply zi5) <;> intro _ <;> conv => whnf))
      exact VOut.same rfl
def bAt (l : List Bd) (i : Int) : Bd := l.getD i.toNat ⟨0, 0, 0⟩
def totB (l : List Bd) (p : Pf) : Bd := sumG ⟨0, 0, 0⟩ p.ws (p.bs.map (bAt l))
def w01 (n : Int) : Bool := decide (0 ≤ n ∧ n ≤ 1000000)
def incB : List Int → Bool
  | a :: b :: r => decide (a < b) && incB (b :: r)
  | _ => true
theorem incB_at {l : List Int} {k : Nat} {a b : Int} (ha : l[k]? = some a) (hb : l[k + 1]? = some b) : incB (l.drop k) = (decide (a < b) && incB (l.drop (k + 1))) := by
  obtain ⟨h1, rfl⟩ := List.getElem?_eq_some_iff.1 ha
  obtain ⟨h2, rfl⟩ := List.getElem?_eq_some_iff.1 hb
  rw [List.drop_eq_getElem_cons h1, List.drop_eq_getElem_cons h2, incB]
theorem incB_end {l : List Int} {k : Nat} (h : l.length ≤ k + 1) : incB (l.drop k) = true := by
  rcases Nat.lt_or_ge k l.length with h1 | h1
  · rw [List.drop_eq_getElem_cons h1, List.drop_of_length_le h, incB]; simp
  · rw [List.drop_of_length_le h1, incB]; simp
def rgE (p : Pf) (n : Int) : Int := if ¬ (1 ≤ p.bs.length ∧ p.bs.length ≤ 3) ∨ p.ws.length ≠ p.bs.length then 3 else if p.bs.all (fun i => decide (0 ≤ i ∧ i ≤ n - 1)) = true then (if incB p.bs = true then (if p.ws.all w01 = true ∧ w01 p.t = true then 0 else 4) else 5) else 2
structure RgOk (p : Pf) (n : Int) : Prop where
  l : 1 ≤ p.bs.length ∧ p.bs.length ≤ 3
  m : p.ws.length = p.bs.length
  i : ∀ i ∈ p.bs, 0 ≤ i ∧ i ≤ n - 1
  o : incB p.bs = true
  w : ∀ w ∈ p.ws, 0 ≤ w ∧ w ≤ 1000000
  t : 0 ≤ p.t ∧ p.t ≤ 1000000
theorem rgE_ok {p : Pf} {n : Int} : rgE p n = 0 ↔ RgOk p n := by
  unfold rgE
  constructor
  · intro h
    split at h
    · omega
    · rename_i h1
      split at h
      · rename_i h2
        split at h
        · rename_i h3
          split at h
          · rename_i h4
            refine ⟨by omega, by omega, fun i hi => ?_, h3, fun w hw => ?_, ?_⟩
            · have := List.all_eq_true.1 h2 i hi; rwa [decide_eq_true_eq] at this
            · have := List.all_eq_true.1 h4.1 w hw; unfold w01 at this; rwa [decide_eq_true_eq] at this
            · have := h4.2; unfold w01 at this; rwa [decide_eq_true_eq] at this
          · omega
        · omega
      · omega
  · rintro ⟨a, b, c, d, e, f⟩
    rw [if_neg (by omega), if_pos (List.all_eq_true.2 fun i hi => by rw [decide_eq_true_eq]; exact c i hi), if_pos d, if_pos ⟨List.all_eq_true.2 fun w hw => by unfold w01; rw [decide_eq_true_eq]; exact e w hw, by unfold w01; rw [decide_eq_true_eq]; exact f⟩]
theorem map_at {l : List Int} {bs : List Bd} {k : Nat} {i : Int} (h : l[k]? = some i) : (l.take (k + 1)).map (bAt bs) = (l.take k).map (bAt bs) ++ [bAt bs i] := by
  rw [List.take_add_one, h, List.map_append]; rfl
theorem bAt_get {bs : List Bd} {i : Int} {b : Bd} (h : bs[i.toNat]? = some b) : bAt bs i = b := by unfold bAt; rw [List.getD_eq_getElem?_getD, h]; rfl
theorem vc_total (p : Pf) (l : List Bd) (h : Hp) (hp : RgOk p l.length) (hb : ∀ b ∈ l, BdSz b) : VC Tryz.prog 54 [vPf p, bds l] h (vBd (totB l p)) h := by
  have hs := fun h => vc_sum p.ws (p.bs.map (bAt l)) h (by rw [List.length_map]; exact hp.m) (by rw [List.length_map]; have := hp.l; omega) (fun w hw => by have := hp.w w hw; omega) (fun b hb' => by
    obtain ⟨i, hi, rfl⟩ := List.mem_map.1 hb'
    have := hp.i i hi
    have hk : l[i.toNat]? = some (l[i.toNat]'(by omega)) := List.getElem?_eq_getElem _
    rw [bAt_get hk]; exact hb _ (List.getElem_mem _))
  obtain ⟨E, hE⟩ : ∃ E, E = totB l p := ⟨_, rfl⟩
  have e : sumG ⟨0, 0, 0⟩ p.ws (p.bs.map (bAt l)) = E := hE.symm
  rw [← hE]
  rw [e] at hs
  have hpl := hp.l
  refine VC.body Tryz.func54 rfl Tryz.ntmps54 Tryz.call54 (h.grows_refl) rfl ?_; conv => whnf
  repeat' (first | ((first | refine zs1 ?_ | refine zs2 ?_ | refine zs3 ?_ | refine zs4 ?_ | refine zs5 ?_ | refine zs6 [] ?_); conv => whnf) | ((first | apply zi1 | apply zi2 | apply zi3 | apply zi4 | apply zi5) <;> intro _ <;> conv => whnf))
  refine VCode.lp (fun y : Nat => [(1, bds l), (2, .fp (encPf p)), (4, .ptr (.loc 0) 0), (5, .gl (.loc 1) 3 ((p.bs.take y).map (bAt l)).length), (9, ints p.bs), (10, I p.bs.length), (11, I y)]) (fun y => [.flat true [DI 0, DI 0, DI 0], .flat true (((p.bs.take y).map (bAt l)).flatMap encBd)]) (fun y => y ≤ p.bs.length) (fun y => p.bs.length - y) 0 (Nat.zero_le _) ?_ ?_
  · conv => whnf
    refine Retell.turn ⟨[1,2], 2, [(0, encPf p)], []⟩ (TurnOk.mk' _ _ [(0, encPf p)] [] (OutOk.lift _) rfl (by decide) zb zf trivial rfl) zv zm
  · intro k h1
    conv => whnf
    refine VIte.dec (fun h5 => ?_) (fun h5 => ?_)
    · have hk : p.bs[k]? = some p.bs[k] := List.getElem?_eq_getElem (by omega)
      have hi := hp.i p.bs[k] (List.getElem_mem (by omega))
      have hm := map_at (bs := l) hk
      generalize p.bs[k] = i at hk hi hm
      have hbk : l[i.toNat]? = some (l[i.toNat]'(by omega)) := List.getElem?_eq_getElem _
      rw [bAt_get hbk] at hm
      generalize l[i.toNat]'(by omega) = b at hbk hm
      have hlen : ((p.bs.take k).map (bAt l)).length = k := by rw [List.length_map, List.length_take]; omega
      generalize (p.bs.take k).map (bAt l) = W at hm hlen
      conv => whnf
      repeat' (first | ((first | refine zs1 ?_ | refine zs2 ?_ | refine zs3 ?_ | refine zs4 ?_ | refine zs5 ?_ | refine zs6 [] ?_); conv => whnf) | ((first | apply zi1 | apply zi2 | apply zi3 | apply zi4 | apply zi5) <;> intro _ <;> conv => whnf) | (refine VAny.ix encI_len k rfl rfl hk ?_; conv => whnf) | (refine VAny.ix encBd_len i.toNat (by omega) rfl hbk ?_; conv => whnf))
      refine VMem.app1 (l := W) b encBd_len rfl rfl rfl rfl rfl (by omega) ?_
      conv => whnf
      repeat' (first | ((first | refine zs1 ?_ | refine zs2 ?_ | refine zs3 ?_ | refine zs4 ?_ | refine zs5 ?_ | refine zs6 [] ?_); conv => whnf) | ((first | apply zi1 | apply zi2 | apply zi3 | apply zi4 | apply zi5) <;> intro _ <;> conv => whnf))
      refine LEnd.intro (k + 1) (by omega) (by omega) ?_
      rw [hm]
      conv => whnf
      rw [List.length_append]
      refine Retell.turn ⟨[0,3], 4, [], []⟩ (TurnOk.mk' _ _ [] [] (OutOk.lift _) rfl (by decide) zb trivial trivial rfl) zv zm
    · have hk2 : k = p.bs.length := by omega
      subst hk2
      rw [List.take_length]
      conv => whnf
      repeat' (first | ((first | refine zs1 ?_ | refine zs2 ?_ | refine zs3 ?_ | refine zs4 ?_ | refine zs5 ?_ | refine zs6 [] ?_); conv => whnf) | ((first | apply zi1 | apply zi2 | apply zi3 | apply zi4 | apply zi5) <;> intro _ <;> conv => whnf))
      generalize p.bs.map (bAt l) = W at hs
      refine VCall.intro (VC.give (args' := [ints p.ws, bds W]) (loc' := [.flat true [DI 0, DI 0, DI 0], .dead]) [(1, W.flatMap encBd)] [] (OutOk.lift _) zb zf (by exact FmAll.nil) rfl zv (hs _)) ?_
      conv => whnf
      repeat' (first | ((first | refine zs1 ?_ | refine zs2 ?_ | refine zs3 ?_ | refine zs4 ?_ | refine zs5 ?_ | refine zs6 [] ?_); conv => whnf) | ((first | apply zi1 | apply zi2 | apply zi3 | apply zi4 | apply zi5) <;> intro _ <;> conv => whnf))
      exact VOut.same rfl
theorem vc_rg1 (n : Int) (h : Hp) : VC Tryz.prog 100 ([I n] ++ D.vs []) h (B (w01 n)) h := by
  have c := fun h => vc_from n 0 1000000 h
  refine VC.body Tryz.func100 rfl Tryz.ntmps100 Tryz.call100 (h.grows_refl) rfl ?_; conv => whnf
  repeat' (first | ((first | refine zs1 ?_ | refine zs2 ?_ | refine zs3 ?_ | refine zs4 ?_ | refine zs5 ?_ | refine zs6 [] ?_); conv => whnf) | ((first | apply zi1 | apply zi2 | apply zi3 | apply zi4 | apply zi5) <;> intro _ <;> conv => whnf) | (refine VCall.intro (c _) ?_; conv => whnf))
  exact VOut.same rfl
theorem vc_rg2 (n : Int) (l : List Bd) (h : Hp) (hn : l.length ≤ 4000000) : VC Tryz.prog 102 ([I n] ++ D.vs [.pt [dBds l]]) h (B (decide (0 ≤ n ∧ n ≤ (l.length : Int) - 1))) h := by
  have c := fun h => vc_from n 0 ((l.length : Int) - 1) h
  refine VC.body Tryz.func102 rfl Tryz.ntmps102 Tryz.call102 (h.grows_refl) rfl ?_; conv => whnf
  repeat' (first | ((first | refine zs1 ?_ | refine zs2 ?_ | refine zs3 ?_ | refine zs4 ?_ | refine zs5 ?_ | refine zs6 [] ?_); conv => whnf) | ((first | apply zi1 | apply zi2 | apply zi3 | apply zi4 | apply zi5) <;> intro _ <;> conv => whnf) | (refine VCall.intro (c _) ?_; conv => whnf))
  exact VOut.same rfl
theorem vc_right (p : Pf) (l : List Bd) (h : Hp) (hn : l.length ≤ 4000000) (hb : p.bs.length ≤ 4000000) (hw : p.ws.length ≤ 4000000) : VC Tryz.prog 53 [vPf p, bds l] h (I (rgE p l.length)) h := by
  have cI := fun h => vc_allI1c p.bs (fun i => decide (0 ≤ i ∧ i ≤ (l.length : Int) - 1)) 102 [dBds l] hb (fun e he h => vc_rg2 e l h hn) h
  have cW := fun h => vc_allI0 p.ws w01 100 hw (fun e he h => vc_rg1 e h) h
  have cT := fun h => vc_rg1 p.t h
  obtain ⟨E, hE⟩ : ∃ E, E = rgE p l.length := ⟨_, rfl⟩
  rw [← hE]
  unfold rgE at hE
  generalize p.bs.all (fun i => decide (0 ≤ i ∧ i ≤ (l.length : Int) - 1)) = A at *
  generalize p.ws.all w01 = W at *
  generalize w01 p.t = T at *
  obtain ⟨O, hO⟩ : ∃ O, O = incB p.bs := ⟨_, rfl⟩
  rw [← hO] at hE
  have hO : O = incB (p.bs.drop 0) := hO
  have cF := fun h => vc_from (p.bs.length : Int) 1 3 h
  refine VC.bodyC 2 Tryz.func53 rfl Tryz.ntmps53 Tryz.call53 (h.grows_refl) rfl ?_; conv => whnf
  repeat' (first | ((first | refine zs1 ?_ | refine zs2 ?_ | refine zs3 ?_ | refine zs4 ?_ | refine zs5 ?_); conv => whnf) | ((first | apply zi1 | apply zi2 | apply zi3 | apply zi4 | apply zi5) <;> intro _ <;> conv => whnf))
  refine VCut.at' 99 [(2, .fp (encPf p)), (3, .fp [dBds l]), (4, I 0), (5, .func (.func 100) [] [])] [] ?_ ?_
  · conv => whnf
    refine Retell.turn ⟨[], 2, [(0, encPf p), (1, [dBds l])], []⟩ (TurnOk.mk' _ _ [(0, encPf p), (1, [dBds l])] [] (OutOk.lift _) rfl (by decide) zb zf trivial rfl) zv zm
  conv => whnf
  repeat' (first | ((first | refine zs1 ?_ | refine zs2 ?_ | refine zs3 ?_ | refine zs4 ?_ | refine zs5 ?_); conv => whnf) | ((first | apply zi1 | apply zi2 | apply zi3 | apply zi4 | apply zi5) <;> intro _ <;> conv => whnf) | (refine VCall.intro (cF _) ?_; conv => whnf) | (refine VCall.intro (cI _) ?_; conv => whnf))
  · rw [if_pos (by omega)] at hE
    rw [hE]
    exact VOut.same rfl
  · rw [if_pos (by omega)] at hE
    rw [hE]
    exact VOut.same rfl
  · rename_i hA
    rw [if_neg (by omega), if_neg (by cases A <;> simp at *)] at hE
    rw [hE]
    exact VOut.same rfl
  · rename_i hA
    rw [if_neg (by omega), if_pos (by cases A <;> simp at *)] at hE
    refine VCode.lp (fun j : Nat => [(2, .fp (encPf p)), (3, .fp [dBds l]), (4, I 0), (5, .func (.func 100) [] []), (6, I ((j : Int) + 1))]) (fun _ => []) (fun j => j + 1 ≤ p.bs.length ∧ O = incB (p.bs.drop j)) (fun j => p.bs.length - j) 0 ⟨by omega, hO⟩ ?_ ?_
    · conv => whnf
      refine Retell.turn ⟨[], 0, [], []⟩ (TurnOk.mk' _ _ [] [] (OutOk.lift _) rfl (by decide) zb trivial trivial rfl) zv zm
    · clear hO
      rintro k ⟨h1, hO⟩
      conv => whnf
      repeat' (first | ((first | refine zs1 ?_ | refine zs2 ?_ | refine zs3 ?_ | refine zs4 ?_ | refine zs5 ?_); conv => whnf) | ((first | apply zi1 | apply zi2 | apply zi3 | apply zi4 | apply zi5) <;> intro _ <;> conv => whnf))
      · rename_i h5
        have ha : p.bs[k]? = some p.bs[k] := List.getElem?_eq_getElem (by omega)
        have hb' : p.bs[k + 1]? = some (p.bs[k + 1]'(by omega)) := List.getElem?_eq_getElem _
        rw [incB_at ha hb'] at hO
        generalize p.bs[k] = a at ha hO
        generalize p.bs[k + 1]'(by omega) = b at hb' hO
        conv => whnf
        repeat' (first | ((first | refine zs1 ?_ | refine zs2 ?_ | refine zs3 ?_ | refine zs4 ?_ | refine zs5 ?_); conv => whnf) | ((first | apply zi1 | apply zi2 | apply zi3 | apply zi4 | apply zi5) <;> intro _ <;> conv => whnf))
        refine zs6 [] ?_
        conv => whnf
        repeat' (first | ((first | refine zs1 ?_ | refine zs2 ?_ | refine zs3 ?_ | refine zs4 ?_ | refine zs5 ?_); conv => whnf) | ((first | apply zi1 | apply zi2 | apply zi3 | apply zi4 | apply zi5) <;> intro _ <;> conv => whnf) | (refine VAny.ix encI_len (k + 1) (by omega) rfl hb' ?_; conv => whnf) | (refine VAny.ix encI_len k (by omega) rfl ha ?_; conv => whnf))
        · rename_i hc
          rw [decide_eq_false (show ¬ a < b by omega), Bool.false_and] at hO
          subst hO
          simp only [Bool.false_eq_true, if_false] at hE
          rw [hE]
          exact VOut.same rfl
        · rename_i hc
          rw [decide_eq_true (show a < b by omega), Bool.true_and] at hO
          refine LEnd.intro (k + 1) ⟨by omega, hO⟩ (by omega) ?_
          conv => whnf
          refine Retell.turn ⟨[], 0, [], []⟩ (TurnOk.mk' _ _ [] [] (OutOk.lift _) rfl (by decide) zb trivial trivial rfl) zv zm
      · rename_i h5
        rw [incB_end (by omega)] at hO
        subst hO
        rw [if_pos rfl] at hE
        conv => whnf
        repeat' (first | ((first | refine zs1 ?_ | refine zs2 ?_ | refine zs3 ?_ | refine zs4 ?_ | refine zs5 ?_); conv => whnf) | ((first | apply zi1 | apply zi2 | apply zi3 | apply zi4 | apply zi5) <;> intro _ <;> conv => whnf) | (refine VCall.intro (cW _) ?_; conv => whnf) | (refine VCall.intro (cT _) ?_; conv => whnf))
        all_goals (subst hE; cases W <;> cases T <;> first | (exact VOut.same rfl) | (exfalso; simp at *; done))
end Go.Proofs.YtdlnjnfkbneibaaGreat

open Go.Vm
open Clip (Pn Sg Nt Bd Rt Sp Co Pl NtOk chk chk_ok bnds bnds_sz bnds_len bnds_sq regS BdSz SpSz okD okD_iff red)
namespace Go.Proofs.YtdlnjnfkbneibaaGreat
set_option maxRecDepth 20000
set_option maxHeartbeats 4000000

theorem vne49 (a b c d e f : Int) : vaggeq Tryz.prog .neq 100 (.agg [I a, I b, I c]) (.agg [I d, I e, I f]) = some (B (decide (¬ (a = d ∧ b = e ∧ c = f)))) := by
  have : (!((a == d) && ((b == e) && ((c == f) && true)))) = decide (¬ (a = d ∧ b = e ∧ c = f)) := by
    rw [Bool.eq_iff_iff, decide_eq_true_eq]; simp [-not_and]; omega
  rw [← this]
  unfold vaggeq
  rw [show eqTop Tryz.prog 100 = some (Sh.cons 0 1 false Sh.int (Sh.cons 1 1 false Sh.int (Sh.cons 2 1 false Sh.int Sh.nil))) by kernel_rfl]
  rfl
theorem totB_sz {l : List Bd} {p : Pf} (hp : RgOk p l.length) (hb : ∀ b ∈ l, BdSz b) : (-1000000000 ≤ (totB l p).A ∧ (totB l p).A ≤ 1000000000) ∧ (-1000000000 ≤ (totB l p).B ∧ (totB l p).B ≤ 1000000000) ∧ (-1000000000000 ≤ (totB l p).C ∧ (totB l p).C ≤ 1000000000000) := by
  have key : ∀ (ws : List Int) (bs : List Bd) (s : Bd) (k : Int), (∀ w ∈ ws, -1000000 ≤ w ∧ w ≤ 1000000) → (∀ b ∈ bs, BdSz b) → ((-100000000 * k ≤ s.A ∧ s.A ≤ 100000000 * k) ∧ (-100000000 * k ≤ s.B ∧ s.B ≤ 100000000 * k) ∧ (-100000000000 * k ≤ s.C ∧ s.C ≤ 100000000000 * k)) → 0 ≤ k →
      (-100000000 * (k + bs.length) ≤ (sumG s ws bs).A ∧ (sumG s ws bs).A ≤ 100000000 * (k + bs.length)) ∧ (-100000000 * (k + bs.length) ≤ (sumG s ws bs).B ∧ (sumG s ws bs).B ≤ 100000000 * (k + bs.length)) ∧ (-100000000000 * (k + bs.length) ≤ (sumG s ws bs).C ∧ (sumG s ws bs).C ≤ 100000000000 * (k + bs.length)) := by
    intro ws
    induction ws with
    | nil => intro bs s k _ _ h hk; have e : sumG s [] bs = s := by cases bs <;> rfl
             rw [e]; omega
    | cons w ws ih =>
      intro bs s k hw hbs h hk
      cases bs with
      | nil => have e : sumG s (w :: ws) [] = s := rfl
               rw [e]; simp only [List.length_nil]; omega
      | cons b bs =>
        have sw := hw w (by simp)
        have sb := hbs b (by simp)
        have m1 := Clip.mulb (x := w) (y := b.A) (A := 1000000) (B := 50) sw sb.a
        have m2 := Clip.mulb (x := w) (y := b.B) (A := 1000000) (B := 50) sw sb.b'
        have m3 := Clip.mulb (x := w) (y := b.C) (A := 1000000) (B := 100000) sw sb.c
        have := ih bs ⟨s.A + w * b.A, s.B + w * b.B, s.C + w * b.C⟩ (k + 1) (fun w hw' => hw w (List.mem_cons_of_mem _ hw')) (fun b hb' => hbs b (List.mem_cons_of_mem _ hb')) (by dsimp only; omega) (by omega)
        rw [sumG, List.length_cons]
        have e : (k : Int) + 1 + (bs.length : Int) = k + ((bs.length + 1 : Nat) : Int) := by omega
        rw [e] at this
        exact this
  have := key p.ws (p.bs.map (bAt l)) ⟨0, 0, 0⟩ 0 (fun w hw => by have := hp.w w hw; omega) (fun b hb' => by
    obtain ⟨i, hi, rfl⟩ := List.mem_map.1 hb'
    have := hp.i i hi
    have hk : l[i.toNat]? = some (l[i.toNat]'(by omega)) := List.getElem?_eq_getElem _
    rw [bAt_get hk]; exact hb _ (List.getElem_mem _)) (by dsimp only; omega) (by omega)
  rw [List.length_map] at this
  have hl := hp.l
  unfold totB
  omega
def prE (N : Nt) (p : Int) (to : Pn) (f : Pf) : Int := if brE N p ≠ 0 then brE N p else if okD to = true then (if rgE f (bnds N p).length ≠ 0 then rgE f (bnds N p).length else if f.t < 1 ∨ ¬ ((totB (bnds N p) f).A = f.t * to.x ∧ (totB (bnds N p) f).B = f.t * to.y) then 9 else 0) else 4
def prV (N : Nt) (p : Int) (to : Pn) (f : Pf) : Rt := if prE N p to f = 0 then red (totB (bnds N p) f).C f.t else ⟨0, 0⟩
theorem vc_Proves (N : Nt) (p : Int) (to : Pn) (f : Pf) (h : Hp) (hn : N.ps.length ≤ 4000000) (hm : N.ss.length ≤ 4000000) (h1 : f.bs.length ≤ 4000000) (h2 : f.ws.length ≤ 4000000) : VC Tryz.prog 12 [vN N, I p, vPn to, vPf f] h (.tuple [vRt (prV N p to f), I (prE N p to f)]) h := by
  have c := fun h => vc_begun N p h hn hm
  have cT := fun h => vc_turned to h
  obtain ⟨E, hE⟩ : ∃ E, E = prE N p to f := ⟨_, rfl⟩
  obtain ⟨R, hR⟩ : ∃ R, R = prV N p to f := ⟨_, rfl⟩
  rw [← hE, ← hR]
  unfold prV at hR
  rw [← hE] at hR
  unfold prE at hE
  by_cases b0 : brE N p = 0
  · have o := (brE_ok.1 b0).1
    rw [b0] at c
    rw [if_neg (by omega)] at hE
    cases ht : okD to
    · rw [ht] at cT hE
      rw [if_neg (by decide)] at hE
      subst hE
      rw [if_neg (by decide)] at hR
      subst hR
      refine VC.body Tryz.func12 rfl Tryz.ntmps12 Tryz.call12 (h.grows_refl) rfl ?_; conv => whnf
      repeat' (first | ((first | refine zs1 ?_ | refine zs2 ?_ | refine zs3 ?_ | refine zs4 ?_ | refine zs5 ?_ | refine zs6 [] ?_); conv => whnf) | ((first | apply zi1 | apply zi2 | apply zi3 | apply zi4 | apply zi5) <;> intro _ <;> conv => whnf) | (refine VCall.intro (c _) ?_; conv => whnf) | (refine VCall.intro (cT _) ?_; conv => whnf))
      all_goals first | (exact VOut.same rfl) | (exfalso; omega)
    · rw [ht] at cT hE
      rw [if_pos rfl] at hE
      have cB := fun h => vc_bounds N p h o
      have hz := bnds_sz o p
      have hln := bnds_len o p
      have cG := fun h => vc_right f (bnds N p) h (by omega) h1 h2
      generalize bnds N p = bs at *
      by_cases g0 : rgE f bs.length = 0
      · have go := rgE_ok.1 g0
        have cS := fun h => vc_total f bs h go hz
        have tz := totB_sz go hz
        have t0 := okD_iff.1 ht
        have ft := go.t
        have m1 := Clip.mulb (x := f.t) (y := to.x) (A := 1000000) (B := 50) (by omega) t0.2.1
        have m2 := Clip.mulb (x := f.t) (y := to.y) (A := 1000000) (B := 50) (by omega) t0.2.2
        rw [g0] at cG
        rw [if_neg (by omega)] at hE
        generalize totB bs f = s at *
        by_cases hbad : f.t < 1 ∨ ¬ (s.A = f.t * to.x ∧ s.B = f.t * to.y)
        · rw [if_pos hbad] at hE
          subst hE
          rw [if_neg (by decide)] at hR
          subst hR
          refine VC.body Tryz.func12 rfl Tryz.ntmps12 Tryz.call12 (h.grows_refl) rfl ?_; conv => whnf
          repeat' (first | ((first | refine zs1 ?_ | refine zs2 ?_ | refine zs3 ?_ | refine zs4 ?_ | refine zs5 ?_ | refine zs6 [] ?_); conv => whnf) | ((first | apply zi1 | apply zi2 | apply zi3 | apply zi4 | apply zi5) <;> intro _ <;> conv => whnf) | (refine VCall.intro (c _) ?_; conv => whnf) | (refine VCall.intro (cT _) ?_; conv => whnf) | (refine VCall.intro (cB _) ?_; conv => whnf) | (refine VCall.intro (cG _) ?_; conv => whnf) | (refine VCall.intro (cS _) ?_; conv => whnf) | (refine VAgg.intro (vne49 _ _ _ _ _ _) ?_; conv => whnf))
          all_goals first | (exact VOut.same rfl) | (exfalso; omega)
        · rw [if_neg hbad] at hE
          subst hE
          rw [if_pos rfl] at hR
          subst hR
          have cQ := fun h => vc_ratio s.C f.t h (by omega) (by omega) (by omega)
          generalize red s.C f.t = Q at *
          refine VC.body Tryz.func12 rfl Tryz.ntmps12 Tryz.call12 (h.grows_refl) rfl ?_; conv => whnf
          repeat' (first | ((first | refine zs1 ?_ | refine zs2 ?_ | refine zs3 ?_ | refine zs4 ?_ | refine zs5 ?_ | refine zs6 [] ?_); conv => whnf) | ((first | apply zi1 | apply zi2 | apply zi3 | apply zi4 | apply zi5) <;> intro _ <;> conv => whnf) | (refine VCall.intro (c _) ?_; conv => whnf) | (refine VCall.intro (cT _) ?_; conv => whnf) | (refine VCall.intro (cB _) ?_; conv => whnf) | (refine VCall.intro (cG _) ?_; conv => whnf) | (refine VCall.intro (cS _) ?_; conv => whnf) | (refine VCall.intro (cQ _) ?_; conv => whnf) | (refine VAgg.intro (vne49 _ _ _ _ _ _) ?_; conv => whnf))
          all_goals first | (exact VOut.same rfl) | (exfalso; omega)
      · rw [if_pos g0] at hE
        subst hE
        rw [if_neg g0] at hR
        subst hR
        generalize rgE f bs.length = G at *
        refine VC.body Tryz.func12 rfl Tryz.ntmps12 Tryz.call12 (h.grows_refl) rfl ?_; conv => whnf
        repeat' (first | ((first | refine zs1 ?_ | refine zs2 ?_ | refine zs3 ?_ | refine zs4 ?_ | refine zs5 ?_ | refine zs6 [] ?_); conv => whnf) | ((first | apply zi1 | apply zi2 | apply zi3 | apply zi4 | apply zi5) <;> intro _ <;> conv => whnf) | (refine VCall.intro (c _) ?_; conv => whnf) | (refine VCall.intro (cT _) ?_; conv => whnf) | (refine VCall.intro (cB _) ?_; conv => whnf) | (refine VCall.intro (cG _) ?_; conv => whnf))
        all_goals first | (exact VOut.same rfl) | (exfalso; omega)
  · rw [if_pos b0] at hE
    rw [hE, if_neg b0] at hR
    subst hR
    subst hE
    generalize brE N p = E at *
    refine VC.body Tryz.func12 rfl Tryz.ntmps12 Tryz.call12 (h.grows_refl) rfl ?_; conv => whnf
    repeat' (first | ((first | refine zs1 ?_ | refine zs2 ?_ | refine zs3 ?_ | refine zs4 ?_ | refine zs5 ?_ | refine zs6 [] ?_); conv => whnf) | ((first | apply zi1 | apply zi2 | apply zi3 | apply zi4 | apply zi5) <;> intro _ <;> conv => whnf) | (refine VCall.intro (c _) ?_; conv => whnf))
    all_goals first | (exact VOut.same rfl) | (exfalso; omega)
def rfE (N : Nt) (p : Int) (f : Pf) : Int := if brE N p ≠ 0 then brE N p else rgE f (bnds N p).length
def rfB (N : Nt) (p : Int) (f : Pf) : Bool := if rfE N p f = 0 then decide (f.t = 0 ∧ (totB (bnds N p) f).A = 0 ∧ (totB (bnds N p) f).B = 0 ∧ (totB (bnds N p) f).C < 0) else false
theorem vc_Refutes (N : Nt) (p : Int) (f : Pf) (h : Hp) (hn : N.ps.length ≤ 4000000) (hm : N.ss.length ≤ 4000000) (h1 : f.bs.length ≤ 4000000) (h2 : f.ws.length ≤ 4000000) : VC Tryz.prog 15 [vN N, I p, vPf f] h (.tuple [B (rfB N p f), I (rfE N p f)]) h := by
  have c := fun h => vc_begun N p h hn hm
  obtain ⟨E, hE⟩ : ∃ E, E = rfE N p f := ⟨_, rfl⟩
  obtain ⟨R, hR⟩ : ∃ R, R = rfB N p f := ⟨_, rfl⟩
  rw [← hE, ← hR]
  unfold rfB at hR
  rw [← hE] at hR
  unfold rfE at hE
  by_cases b0 : brE N p = 0
  · have o := (brE_ok.1 b0).1
    rw [b0] at c
    rw [if_neg (by omega)] at hE
    have cB := fun h => vc_bounds N p h o
    have hz := bnds_sz o p
    have hln := bnds_len o p
    have cG := fun h => vc_right f (bnds N p) h (by omega) h1 h2
    generalize bnds N p = bs at *
    by_cases g0 : rgE f bs.length = 0
    · have go := rgE_ok.1 g0
      have cS := fun h => vc_total f bs h go hz
      rw [g0] at cG hE
      rw [hE, if_pos rfl] at hR
      subst hE
      generalize totB bs f = s at *
      subst hR
      refine VC.body Tryz.func15 rfl Tryz.ntmps15 Tryz.call15 (h.grows_refl) rfl ?_; conv => whnf
      repeat' (first | ((first | refine zs1 ?_ | refine zs2 ?_ | refine zs3 ?_ | refine zs4 ?_ | refine zs5 ?_ | refine zs6 [] ?_); conv => whnf) | ((first | apply zi1 | apply zi2 | apply zi3 | apply zi4 | apply zi5) <;> intro _ <;> conv => whnf) | (refine VCall.intro (c _) ?_; conv => whnf) | (refine VCall.intro (cB _) ?_; conv => whnf) | (refine VCall.intro (cG _) ?_; conv => whnf) | (refine VCall.intro (cS _) ?_; conv => whnf))
      · rw [show decide (f.t = 0 ∧ s.A = 0 ∧ s.B = 0 ∧ s.C < 0) = decide (s.C < 0) from decide_eq_decide.2 (by omega)]
        exact VOut.same rfl
      all_goals (rw [decide_eq_false (show ¬ (f.t = 0 ∧ s.A = 0 ∧ s.B = 0 ∧ s.C < 0) by omega)]
                 exact VOut.same rfl)
    · rw [hE, if_neg g0] at hR
      subst hR
      subst hE
      generalize rgE f bs.length = G at *
      refine VC.body Tryz.func15 rfl Tryz.ntmps15 Tryz.call15 (h.grows_refl) rfl ?_; conv => whnf
      repeat' (first | ((first | refine zs1 ?_ | refine zs2 ?_ | refine zs3 ?_ | refine zs4 ?_ | refine zs5 ?_ | refine zs6 [] ?_); conv => whnf) | ((first | apply zi1 | apply zi2 | apply zi3 | apply zi4 | apply zi5) <;> intro _ <;> conv => whnf) | (refine VCall.intro (c _) ?_; conv => whnf) | (refine VCall.intro (cB _) ?_; conv => whnf) | (refine VCall.intro (cG _) ?_; conv => whnf))
      all_goals first | (exact VOut.same rfl) | (exfalso; omega)
  · rw [if_pos b0] at hE
    rw [hE, if_neg b0] at hR
    subst hR
    subst hE
    generalize brE N p = E at *
    refine VC.body Tryz.func15 rfl Tryz.ntmps15 Tryz.call15 (h.grows_refl) rfl ?_; conv => whnf
    repeat' (first | ((first | refine zs1 ?_ | refine zs2 ?_ | refine zs3 ?_ | refine zs4 ?_ | refine zs5 ?_ | refine zs6 [] ?_); conv => whnf) | ((first | apply zi1 | apply zi2 | apply zi3 | apply zi4 | apply zi5) <;> intro _ <;> conv => whnf) | (refine VCall.intro (c _) ?_; conv => whnf))
    all_goals first | (exact VOut.same rfl) | (exfalso; omega)
end Go.Proofs.YtdlnjnfkbneibaaGreat

open Go.Vm
namespace Go.Vm
theorem flat_del {α : Type} {enc : α → List D} {m : Nat} (hm : ∀ a, (enc a).length = m) (l : List α) (k : Nat) (hk : k < l.length) :
    ((l.flatMap enc).take (0 + k * m) ++ ((l.flatMap enc).drop ((k + 1) * m)).take ((l.length - (k + 1)) * m) ++ (l.flatMap enc).drop (0 + k * m + (l.length - (k + 1)) * m)).take (0 + (l.length - 1) * m) = (l.eraseIdx k).flatMap enc := by
  rw [Nat.zero_add, Nat.zero_add, flat_takeD hm, flat_dropD hm, flat_takeD hm, ← List.flatMap_append]
  have e : l.take k ++ (l.drop (k + 1)).take (l.length - (k + 1)) = l.eraseIdx k := by
    rw [List.take_of_length_le (l := l.drop (k + 1)) (by rw [List.length_drop]; exact Nat.le_refl _), List.eraseIdx_eq_take_drop_succ]
  rw [e]
  have hl : ((l.eraseIdx k).flatMap enc).length = (l.length - 1) * m := by rw [flat_len hm, List.length_eraseIdx_of_lt hk]
  rw [List.take_append_of_le_length (by omega), List.take_of_length_le (by omega)]
end Go.Vm
open Clip (Pn Sg Nt Bd Rt Sp Co Pl NtOk SgOk chk chk_ok bnds bnds_sz bnds_len bnds_sq regS BdSz SpSz)
namespace Go.Proofs.YtdlnjnfkbneibaaGreat
set_option maxRecDepth 20000
set_option maxHeartbeats 4000000

theorem VOut.setSl {h : Hp} {loc : List Blk} {i : Vm.Id} {b0 : Blk} {l : List D} {rw : Bool} {o e n : Nat} {m : Option Nat} {L : Nat} (hL : Nat.ble loc.length L = true) (hb : h.get i = some b0) : VOut h ⟨outW h.lift i (.flat rw l), loc⟩ (.slice (.out i) o e n m) (.slice i o e n m) (h.set i (.flat rw l)) := by
  have hd : ∀ p ∈ [(i, Blk.flat rw l)], h.get p.1 ≠ none := by
    intro p hp
    simp only [List.mem_cons, List.not_mem_nil, or_false] at hp
    subst hp; simp only; rw [hb]; simp
  have := VOut.upd (loc := loc) (r1 := .slice (.out i) o e n m) (r := .slice i o e n m) [(i, .flat rw l)] [] [] L hL hd (by simp) rfl (by intro k b hk; simp at hk) (fun σ x hx => by
    have hρ : backR h.loc.length [] L i = .out i := by
      cases i with
      | out i => rfl
      | loc k =>
        have hk : k < h.loc.length := (List.getElem?_eq_some_iff.1 (show h.loc[k]? = some b0 from hb)).1
        simp [backR, hk]
    simp only [V.ren, hρ]; exact hx) (outer := outW h.lift i (.flat rw l)) rfl
  have he : (h.sets [(i, Blk.flat rw l)]).pushes [] = h.set i (.flat rw l) := by simp [Hp.sets, Hp.pushes]
  rw [he] at this
  exact this
theorem vc_DelS (l : List Sg) (k c : Nat) (i : Vm.Id) (h : Hp) (hb : h.get i = some (.flat true (l.flatMap encSg))) (hk : k < l.length) (hc : l.length ≤ c) (hl : l.length ≤ 4000000) :
    VC Tryz.prog 42 [.slice i 0 6 l.length (some c), I k, I ((k : Int) + 1)] h (.slice i 0 6 (l.eraseIdx k).length (some c)) (h.set i (.flat true ((l.eraseIdx k).flatMap encSg))) := by
  rw [List.length_eraseIdx_of_lt hk]
  refine VC.body Tryz.func42 rfl Tryz.ntmps42 Tryz.call42 (h.grows_set _ _) rfl ?_
  conv => whnf
  repeat' (first | ((first | refine zs1 ?_ | refine zs2 ?_ | refine zs3 ?_ | refine zs4 ?_ | refine zs5 ?_); conv => whnf) | ((first | apply zi1 | apply zi2 | apply zi3 | apply zi4 | apply zi5) <;> intro _ <;> conv => whnf))
  · exfalso; omega
  · refine VDraw.go [] (by kernel_rfl) (by kernel_rfl) ?_
    conv => whnf
    repeat' (first | ((first | refine zs1 ?_ | refine zs2 ?_ | refine zs3 ?_ | refine zs4 ?_ | refine zs5 ?_); conv => whnf) | ((first | apply zi1 | apply zi2 | apply zi3 | apply zi4 | apply zi5) <;> intro _ <;> conv => whnf))
    have e1 : ((k : Int) - 0).toNat = k := by omega
    have e2 : ((k : Int) + 1).toNat = k + 1 := by omega
    have e3 : ((l.length : Int) - ((k : Int) + 1)).toNat = l.length - (k + 1) := by omega
    have e4 : k + (l.length - (k + 1)) = l.length - 1 := by omega
    have e5 : 0 + (k + 1) * (5 + 1) = (k + 1) * 6 := by omega
    rw [e1, e2, e3, e5]
    have hfl := flat_len encSg_len l
    refine VMem.appRoom (esz := 6) (off := 0) (off2 := (k + 1) * 6) (len := k) (n := l.length - (k + 1)) (c0 := c) rfl (get_out hb _) (by rw [hfl]; omega) (by rw [hfl]; omega) (by omega) (by omega) ?_
    rw [e4]
    have hR := flat_del encSg_len l k hk
    have hRl : ((l.flatMap encSg).take (0 + k * 6) ++ ((l.flatMap encSg).drop ((k + 1) * 6)).take ((l.length - (k + 1)) * 6) ++ (l.flatMap encSg).drop (0 + k * 6 + (l.length - (k + 1)) * 6)).length = l.length * 6 := by
      simp only [List.length_append, List.length_take, List.length_drop, hfl]; omega
    generalize (l.flatMap encSg).take (0 + k * 6) ++ ((l.flatMap encSg).drop ((k + 1) * 6)).take ((l.length - (k + 1)) * 6) ++ (l.flatMap encSg).drop (0 + k * 6 + (l.length - (k + 1)) * 6) = R at hR hRl ⊢
    conv => whnf
    repeat' (first | ((first | refine zs1 ?_ | refine zs2 ?_ | refine zs3 ?_ | refine zs4 ?_ | refine zs5 ?_); conv => whnf) | ((first | apply zi1 | apply zi2 | apply zi3 | apply zi4 | apply zi5) <;> intro _ <;> conv => whnf))
    have e8 : 0 + ((l.length - 1 : Nat) : Int).toNat * (5 + 1) = 0 + (l.length - 1) * 6 := by omega
    refine VMem.clearTail (esz := 6) rfl (outW_get _ _ _ _) ?_ ?_
    · have e9 : ((l.length : Int) - ((l.length - 1 : Nat) : Int)).toNat = 1 := by omega
      rw [hRl, e8, e9]; omega
    rw [e8, hR]
    conv => whnf
    repeat' (first | ((first | refine zs1 ?_ | refine zs2 ?_ | refine zs3 ?_ | refine zs4 ?_ | refine zs5 ?_); conv => whnf) | ((first | apply zi1 | apply zi2 | apply zi3 | apply zi4 | apply zi5) <;> intro _ <;> conv => whnf))
    refine (show VOut h ⟨outW (outW h.lift i (.flat true R)) i (.flat true ((l.eraseIdx k).flatMap encSg)), []⟩ _ _ _ from ?_)
    rw [outW_same]
    exact VOut.setSl (L := 0) rfl hb
end Go.Proofs.YtdlnjnfkbneibaaGreat

open Go.Vm
open Clip (Pn Sg Nt Bd Rt Sp Co Pl NtOk SgOk chk chk_ok bnds bnds_sz bnds_len bnds_sq regS BdSz SpSz)
namespace Go.Proofs.YtdlnjnfkbneibaaGreat
set_option maxRecDepth 20000
set_option maxHeartbeats 4000000

def erN (N : Nt) (k : Nat) : Nt := ⟨N.ps, N.ss.eraseIdx k⟩
theorem erN_ok {N : Nt} (o : NtOk N) (k : Nat) : NtOk (erN N k) := by
  refine ⟨o.n, ?_, o.p, fun s hs => o.s s (List.mem_of_mem_eraseIdx hs)⟩
  have := o.m
  have h2 := List.length_eraseIdx_le N.ss k
  show (N.ss.eraseIdx k).length ≤ 20
  omega
theorem vc_without (N : Nt) (p : Int) (k : Nat) (h : Hp) (o : NtOk N) (hk : k < N.ss.length) : VC Tryz.prog 66 [.fp (encDk N p), I k] h (.fp (encDk (erN N k) p)) h := by
  have hm := o.m
  have cD := fun (o : Vm.Id → Option Blk) => VC.glSl (P := Tryz.prog) (f := 42) (i := .loc 0) (rest := [I k, I ((k : Int) + 1)]) (h := ⟨o, [.flat true (N.ss.flatMap encSg)]⟩) (by omega) (by simp [Hp.get]) (fun c hc => vc_DelS N.ss k c (.loc 0) ⟨o, [.flat true (N.ss.flatMap encSg)]⟩ rfl hk hc (by omega))
  refine VC.body Tryz.func66 rfl Tryz.ntmps66 Tryz.call66 (h.grows_refl) rfl ?_; conv => whnf
  repeat' (first | ((first | refine zs1 ?_ | refine zs2 ?_ | refine zs3 ?_ | refine zs4 ?_ | refine zs5 ?_); conv => whnf) | ((first | apply zi1 | apply zi2 | apply zi3 | apply zi4 | apply zi5) <;> intro _ <;> conv => whnf))
  refine VMem.make (⟨0, 0, ⟨0, 0⟩, ⟨0, 0⟩⟩ : Sg) encSg_len rfl rfl rfl rfl rfl rfl (by omega) ?_
  conv => whnf
  repeat' (first | ((first | refine zs1 ?_ | refine zs2 ?_ | refine zs3 ?_ | refine zs4 ?_ | refine zs5 ?_); conv => whnf) | ((first | apply zi1 | apply zi2 | apply zi3 | apply zi4 | apply zi5) <;> intro _ <;> conv => whnf))
  refine VMem.copyFs encSg_len rfl rfl (by simp) rfl rfl ?_
  conv => whnf
  repeat' (first | ((first | refine zs1 ?_ | refine zs2 ?_ | refine zs3 ?_ | refine zs4 ?_ | refine zs5 ?_); conv => whnf) | ((first | apply zi1 | apply zi2 | apply zi3 | apply zi4 | apply zi5) <;> intro _ <;> conv => whnf))
  refine zs6 [(4, 9), (9, 14)] ?_
  conv => whnf
  repeat' (first | ((first | refine zs1 ?_ | refine zs2 ?_ | refine zs3 ?_ | refine zs4 ?_ | refine zs5 ?_); conv => whnf) | ((first | apply zi1 | apply zi2 | apply zi3 | apply zi4 | apply zi5) <;> intro _ <;> conv => whnf))
  refine VCall.intro (cD _) ?_
  conv => whnf
  repeat' (first | ((first | refine zs1 ?_ | refine zs2 ?_ | refine zs3 ?_ | refine zs4 ?_ | refine zs5 ?_); conv => whnf) | ((first | apply zi1 | apply zi2 | apply zi3 | apply zi4 | apply zi5) <;> intro _ <;> conv => whnf))
  rw [show (N.ss.eraseIdx k) = (erN N k).ss from rfl]
  refine VOut.data 2 [(0, (erN N k).ss.flatMap encSg), (1, encDk (erN N k) p)] [] rfl zr (by exact FmAll.nil) zv
def ofS (p : Int) (s : Sg) : Bool := decide (s.f = p ∨ s.t = p)
def looS (N : Nt) (p : Int) : Nat → List Sg → List Int
  | _, [] => []
  | k, s :: r => if (ofS p s && !decide (regS (bnds (erN N k) p) = [])) = true then (k : Int) :: looS N p (k + 1) r else looS N p (k + 1) r
theorem looS_at {N : Nt} {p : Int} {l : List Sg} {k : Nat} {s : Sg} (h : l[k]? = some s) : looS N p k (l.drop k) = if (ofS p s && !decide (regS (bnds (erN N k) p) = [])) = true then (k : Int) :: looS N p (k + 1) (l.drop (k + 1)) else looS N p (k + 1) (l.drop (k + 1)) := by
  obtain ⟨hlt, rfl⟩ := List.getElem?_eq_some_iff.1 h
  rw [List.drop_eq_getElem_cons hlt, looS]
theorem looS_len (N : Nt) (p : Int) : ∀ (l : List Sg) (k : Nat), (looS N p k l).length ≤ l.length
  | [], k => Nat.le_refl _
  | s :: r, k => by
    have := looS_len N p r (k + 1)
    rw [looS]
    split <;> (try simp only [List.length_cons]) <;> omega
def loE (N : Nt) (p : Int) : Int := if brE N p ≠ 0 then brE N p else if regS (bnds N p) = [] then 0 else 10
def loL (N : Nt) (p : Int) : List Int := if loE N p = 0 then looS N p 0 N.ss else []
theorem loE_ok {N : Nt} {p : Int} : loE N p = 0 ↔ brE N p = 0 ∧ regS (bnds N p) = [] := by
  unfold loE
  split
  · rename_i h; exact ⟨fun e => absurd e h, fun e => absurd e.1 h⟩
  · rename_i h
    split
    · rename_i h2; exact ⟨fun _ => ⟨Classical.not_not.1 h, h2⟩, fun _ => rfl⟩
    · rename_i h2; exact ⟨fun e => by omega, fun e => absurd e.2 h2⟩
theorem vc_Loose (N : Nt) (p : Int) (h : Hp) (hn : N.ps.length ≤ 4000000) (hm : N.ss.length ≤ 4000000) : VC Tryz.prog 19 [vN N, I p] h (.tuple [ints (loL N p), I (loE N p)]) h := by
  have c := fun h => vc_begun N p h hn hm
  unfold loL
  by_cases h0 : loE N p = 0
  · obtain ⟨b0, hS⟩ := loE_ok.1 h0
    have o := (brE_ok.1 b0).1
    have om := o.m
    have cB := fun h => vc_bounds N p h o
    have cR := fun h => vc_region (bnds N p) h (by have := bnds_len o p; omega) (bnds_sz o p)
    rw [hS] at cR
    rw [b0] at c
    rw [if_pos h0, h0]
    obtain ⟨M, hM⟩ : ∃ M, M = looS N p 0 N.ss := ⟨_, rfl⟩
    rw [← hM]
    have hM : M = [] ++ looS N p 0 (N.ss.drop 0) := hM
    generalize bnds N p = bs at *
    refine VC.body Tryz.func19 rfl Tryz.ntmps19 Tryz.call19 (h.grows_refl) rfl ?_; conv => whnf
    repeat' (first | ((first | refine zs1 ?_ | refine zs2 ?_ | refine zs3 ?_ | refine zs4 ?_ | refine zs5 ?_ | refine zs6 [] ?_); conv => whnf) | ((first | apply zi1 | apply zi2 | apply zi3 | apply zi4 | apply zi5) <;> intro _ <;> conv => whnf) | (refine VCall.intro (c _) ?_; conv => whnf) | (refine VCall.intro (cB _) ?_; conv => whnf) | (refine VCall.intro (cR _) ?_; conv => whnf))
    refine VCode.lp (fun y : Nat × List Int => [(2, .fp (encN N)), (4, .nilslice), (5, I 0), (6, .fp (encDk N p)), (8, .gl (.loc 0) 1 y.2.length), (28, sgs N.ss), (29, I N.ss.length), (30, I y.1)]) (fun y => [.flat true (y.2.flatMap encI)]) (fun y => y.1 ≤ N.ss.length ∧ y.2.length ≤ y.1 ∧ M = y.2 ++ looS N p y.1 (N.ss.drop y.1)) (fun y => N.ss.length - y.1) (0, []) ⟨Nat.zero_le _, Nat.zero_le _, hM⟩ ?_ ?_
    · conv => whnf
      refine Retell.turn ⟨[1], 1, [(0, encN N)], []⟩ (TurnOk.mk' _ _ [(0, encN N)] [] (OutOk.lift _) rfl (by decide) zb zf trivial rfl) zv zm
    · clear hM
      rintro ⟨k, w⟩ ⟨h1, h2, h3⟩
      dsimp only at h1 h2 h3
      conv => whnf
      refine VIte.dec (fun h5 => ?_) (fun h5 => ?_)
      · dsimp only at h5
        have hk : N.ss[k]? = some N.ss[k] := List.getElem?_eq_getElem (by omega)
        rw [looS_at hk] at h3
        generalize N.ss[k] = s at hk h3
        have cO := fun h => vc_of N p s h
        have cW := fun h => vc_without N p k h o (by omega)
        have oe := erN_ok o k
        have cB2 := fun h => vc_bounds (erN N k) p h oe
        have cR2 := fun h => vc_region (bnds (erN N k) p) h (by have := bnds_len oe p; omega) (bnds_sz oe p)
        have eo : decide (s.f = p ∨ s.t = p) = ofS p s := rfl
        rw [eo] at cO
        generalize bnds (erN N k) p = bs2 at *
        generalize regS bs2 = S at *
        cases hof : ofS p s with
        | false =>
          rw [hof] at cO h3
          rw [Bool.false_and, if_neg (by decide)] at h3
          conv => whnf
          repeat' (first | ((first | refine zs1 ?_ | refine zs2 ?_ | refine zs3 ?_ | refine zs4 ?_ | refine zs5 ?_ | refine zs6 [] ?_); conv => whnf) | ((first | apply zi1 | apply zi2 | apply zi3 | apply zi4 | apply zi5) <;> intro _ <;> conv => whnf) | (refine VAny.ix encSg_len k rfl rfl hk ?_; conv => whnf) | (refine VCall.intro (cO _) ?_; conv => whnf))
          refine LEnd.intro (k + 1, w) ⟨by dsimp only; omega, by dsimp only; omega, h3⟩ (by dsimp only; omega) ?_
          conv => whnf
          refine Retell.turn ⟨[0], 2, [], []⟩ (TurnOk.mk' _ _ [] [] (OutOk.lift _) rfl (by decide) zb trivial trivial rfl) zv zm
        | true =>
          rw [hof] at cO h3
          rw [Bool.true_and] at h3
          conv => whnf
          repeat' (first | ((first | refine zs1 ?_ | refine zs2 ?_ | refine zs3 ?_ | refine zs4 ?_ | refine zs5 ?_ | refine zs6 [] ?_); conv => whnf) | ((first | apply zi1 | apply zi2 | apply zi3 | apply zi4 | apply zi5) <;> intro _ <;> conv => whnf) | (refine VAny.ix encSg_len k rfl rfl hk ?_; conv => whnf) | (refine VCall.intro (cO _) ?_; conv => whnf) | (refine VCall.intro (cW _) ?_; conv => whnf) | (refine VCall.intro (cB2 _) ?_; conv => whnf) | (refine VCall.intro (cR2 _) ?_; conv => whnf))
          · rename_i hS
            have hS2 : ¬ S = [] := fun e => by subst e; dsimp only [List.length_nil] at hS; omega
            rw [decide_eq_false hS2, Bool.not_false, if_pos rfl] at h3
            refine VMem.app1 (l := w) (k : Int) encI_len rfl rfl rfl rfl rfl (by omega) ?_
            conv => whnf
            repeat' (first | ((first | refine zs1 ?_ | refine zs2 ?_ | refine zs3 ?_ | refine zs4 ?_ | refine zs5 ?_ | refine zs6 [] ?_); conv => whnf) | ((first | apply zi1 | apply zi2 | apply zi3 | apply zi4 | apply zi5) <;> intro _ <;> conv => whnf))
            refine LEnd.intro (k + 1, w ++ [(k : Int)]) ⟨by dsimp only; omega, by dsimp only; rw [List.length_append]; simp only [List.length_singleton]; omega, by dsimp only; rw [h3, List.append_assoc]; rfl⟩ (by dsimp only; omega) ?_
            conv => whnf
            rw [List.length_append]
            refine Retell.turn ⟨[3], 4, [], []⟩ (TurnOk.mk' _ _ [] [] (OutOk.lift _) rfl (by decide) zb trivial trivial rfl) zv zm
          · rename_i hS
            have hS2 : S = [] := List.length_eq_zero_iff.1 (by omega)
            rw [decide_eq_true hS2, Bool.not_true, if_neg (by decide)] at h3
            refine LEnd.intro (k + 1, w) ⟨by dsimp only; omega, by dsimp only; omega, h3⟩ (by dsimp only; omega) ?_
            conv => whnf
            refine Retell.turn ⟨[0], 2, [], []⟩ (TurnOk.mk' _ _ [] [] (OutOk.lift _) rfl (by decide) zb trivial trivial rfl) zv zm
      · have hk3 : k = N.ss.length := by dsimp only at h5; omega
        subst hk3
        rw [List.drop_length, looS, List.append_nil] at h3
        subst h3
        conv => whnf
        repeat' (first | ((first | refine zs1 ?_ | refine zs2 ?_ | refine zs3 ?_ | refine zs4 ?_ | refine zs5 ?_ | refine zs6 [] ?_); conv => whnf) | ((first | apply zi1 | apply zi2 | apply zi3 | apply zi4 | apply zi5) <;> intro _ <;> conv => whnf))
        refine VOut.data 1 [(0, M.flatMap encI)] [] rfl zf (by exact FmAll.nil) zv
  · rw [if_neg h0]
    by_cases b0 : brE N p = 0
    · have o := (brE_ok.1 b0).1
      have hS : regS (bnds N p) ≠ [] := fun e => h0 (loE_ok.2 ⟨b0, e⟩)
      have e : loE N p = 10 := by unfold loE; rw [if_neg (by omega), if_neg hS]
      have cB := fun h => vc_bounds N p h o
      have cR := fun h => vc_region (bnds N p) h (by have := bnds_len o p; omega) (bnds_sz o p)
      have hl := List.length_pos_iff.2 hS
      rw [b0] at c
      rw [e]
      generalize bnds N p = bs at *
      generalize regS bs = S at *
      refine VC.body Tryz.func19 rfl Tryz.ntmps19 Tryz.call19 (h.grows_refl) rfl ?_; conv => whnf
      repeat' (first | ((first | refine zs1 ?_ | refine zs2 ?_ | refine zs3 ?_ | refine zs4 ?_ | refine zs5 ?_ | refine zs6 [] ?_); conv => whnf) | ((first | apply zi1 | apply zi2 | apply zi3 | apply zi4 | apply zi5) <;> intro _ <;> conv => whnf) | (refine VCall.intro (c _) ?_; conv => whnf) | (refine VCall.intro (cB _) ?_; conv => whnf) | (refine VCall.intro (cR _) ?_; conv => whnf))
      all_goals first | (refine VOut.data 1 [] [] rfl zf (by exact FmAll.nil) zv
                         done) | (exfalso; omega)
    · have e : loE N p = brE N p := by unfold loE; rw [if_pos b0]
      rw [e]
      generalize brE N p = E at *
      refine VC.body Tryz.func19 rfl Tryz.ntmps19 Tryz.call19 (h.grows_refl) rfl ?_; conv => whnf
      repeat' (first | ((first | refine zs1 ?_ | refine zs2 ?_ | refine zs3 ?_ | refine zs4 ?_ | refine zs5 ?_ | refine zs6 [] ?_); conv => whnf) | ((first | apply zi1 | apply zi2 | apply zi3 | apply zi4 | apply zi5) <;> intro _ <;> conv => whnf) | (refine VCall.intro (c _) ?_; conv => whnf))
      all_goals first | (exfalso; omega) | (refine VOut.data 1 [] [] rfl zf (by exact FmAll.nil) zv
                                            done)
end Go.Proofs.YtdlnjnfkbneibaaGreat

open Go.Vm
open Clip (Pn Sg Nt Bd Rt Sp Co Pl NtOk SgOk chk chk_ok bnds bnds_sz bnds_len bnds_sq regS BdSz SpSz)
namespace Go.Proofs.YtdlnjnfkbneibaaGreat
set_option maxRecDepth 20000
set_option maxHeartbeats 4000000

theorem drop_eq_dec {α : Type} [DecidableEq α] {a b : List α} {k : Nat} {x y : α} (hx : a[k]? = some x) (hy : b[k]? = some y) : decide (a.drop k = b.drop k) = (decide (x = y) && decide (a.drop (k + 1) = b.drop (k + 1))) := by
  obtain ⟨h1, rfl⟩ := List.getElem?_eq_some_iff.1 hx
  obtain ⟨h2, rfl⟩ := List.getElem?_eq_some_iff.1 hy
  rw [List.drop_eq_getElem_cons h1, List.drop_eq_getElem_cons h2, Bool.eq_iff_iff, Bool.and_eq_true, decide_eq_true_eq, decide_eq_true_eq, decide_eq_true_eq, List.cons.injEq]
theorem ne_I {x y : Int} (h : ¬ x = y) : ¬ x = y := h
theorem eq_I {x y : Int} (h : x = y) : x = y := h
theorem ne_X {α : Type} {x y : α} (h : ¬ x = y) : ¬ x = y := h
theorem eq_X {α : Type} [DecidableEq α] {x y : α} (h : ¬ ¬ x = y) : x = y := Decidable.not_not.1 h
theorem vneqP (x y : Pn) : vaggeq Tryz.prog .neq 27 (vPn x) (vPn y) = some (B (decide (¬ x = y))) := by
  have := vne60 x.x x.y y.x y.y
  have e : decide (¬ (x.x = y.x ∧ x.y = y.y)) = decide (¬ x = y) := decide_eq_decide.2 (by cases x; cases y; simp)
  rw [e] at this
  exact this
theorem vneqSp (x y : Sp) : vaggeq Tryz.prog .neq 67 (vSp x) (vSp y) = some (B (decide (¬ x = y))) := by
  obtain ⟨sh, h1, h2⟩ := top72
  unfold vaggeq
  rw [h1]
  dsimp only
  rw [h2]
  rw [decide_not]
theorem top85 : eqTop Tryz.prog 80 = some (Sh.cons 0 1 false Sh.int (Sh.cons 1 1 false Sh.int (Sh.cons 2 2 true (Sh.cons 0 1 false Sh.int (Sh.cons 1 1 false Sh.int Sh.nil)) (Sh.cons 4 2 true (Sh.cons 0 1 false Sh.int (Sh.cons 1 1 false Sh.int Sh.nil)) Sh.nil)))) := by kernel_rfl
theorem vneqSg (x y : Sg) : vaggeq Tryz.prog .neq 80 (vSg x) (vSg y) = some (B (decide (¬ x = y))) := by
  have : (!((x.f == y.f) && ((x.t == y.t) && (((x.r.x == y.r.x) && ((x.r.y == y.r.y) && true)) && (((x.l.x == y.l.x) && ((x.l.y == y.l.y) && true)) && true))))) = decide (¬ x = y) := by
    obtain ⟨f, t, ⟨a, b⟩, ⟨c, d⟩⟩ := x; obtain ⟨f', t', ⟨a', b'⟩, ⟨c', d'⟩⟩ := y
    rw [Bool.eq_iff_iff, decide_eq_true_eq]; simp [-not_and, and_assoc]; omega
  rw [← this]
  unfold vaggeq
  rw [top85]
  rfl
theorem vc_equalI (a b : List Int) (h : Hp) (ha : a.length ≤ 4000000) (hb : b.length ≤ 4000000) : VC Tryz.prog 21 [ints a, ints b] h (B (decide (a = b))) h := by
  obtain ⟨E, hE⟩ : ∃ E, E = decide (a = b) := ⟨_, rfl⟩
  rw [← hE]
  refine VC.body Tryz.func21 rfl Tryz.ntmps21 Tryz.call21 (h.grows_refl) rfl ?_; conv => whnf
  refine VCode.lp (fun k : Nat => [(0, ints a), (1, ints b), (4, B false), (7, I a.length), (8, I k)]) (fun _ => []) (fun k => k ≤ a.length ∧ k ≤ b.length ∧ E = decide (a.drop k = b.drop k)) (fun k => a.length - k) 0 ⟨Nat.zero_le _, Nat.zero_le _, hE⟩ ?_ ?_
  · conv => whnf
    refine Retell.turn ⟨[], 0, [], []⟩ (TurnOk.mk' _ _ [] [] (OutOk.lift _) rfl (by decide) zb trivial trivial rfl) zv zm
  · rintro k ⟨h1, h2, h3⟩
    conv => whnf
    refine VIte.dec (fun h4 => ?_) (fun h4 => ?_)
    · have hx : a[k]? = some a[k] := List.getElem?_eq_getElem (by omega)
      rcases Nat.eq_or_lt_of_le h2 with h5 | h5
      · have hF : E = false := by
          rw [h3, decide_eq_false_iff_not]
          intro hh
          have := congrArg List.length hh
          simp at this; omega
        rw [hF]
        conv => whnf
        repeat' (first | ((first | refine zs1 ?_ | refine zs2 ?_ | refine zs3 ?_ | refine zs4 ?_ | refine zs5 ?_ | refine zs6 [] ?_); conv => whnf) | ((first | apply zi1 | apply zi2 | apply zi3 | apply zi4 | apply zi5) <;> intro _ <;> conv => whnf))
        · exact VOut.same rfl
        all_goals omega
      · have hy : b[k]? = some b[k] := List.getElem?_eq_getElem h5
        rw [drop_eq_dec hx hy] at h3
        generalize a[k] = x at hx h3
        generalize b[k] = y at hy h3
        conv => whnf
        repeat' (first | ((first | refine zs1 ?_ | refine zs2 ?_ | refine zs3 ?_ | refine zs4 ?_ | refine zs5 ?_ | refine zs6 [] ?_); conv => whnf) | ((first | apply zi1 | apply zi2 | apply zi3 | apply zi4 | apply zi5) <;> intro _ <;> conv => whnf) | (refine VAny.ix encI_len k rfl rfl hx ?_; conv => whnf) | (refine VAny.ix encI_len k rfl rfl hy ?_; conv => whnf))
        all_goals (try omega)
        all_goals first
          | (rw [decide_eq_false (ne_I (by first | assumption | omega)), Bool.false_and] at h3; rw [h3]; exact VOut.same rfl)
          | (rw [decide_eq_true (eq_I (by first | assumption | omega)), Bool.true_and] at h3
             refine LEnd.intro (k + 1) ⟨by omega, by omega, h3⟩ (by omega) ?_
             conv => whnf
             refine Retell.turn ⟨[], 0, [], []⟩ (TurnOk.mk' _ _ [] [] (OutOk.lift _) rfl (by decide) zb trivial trivial rfl) zv zm)
    · have hk : k = a.length := by omega
      rw [h3, hk, List.drop_length]
      conv => whnf
      repeat' (first | ((first | refine zs1 ?_ | refine zs2 ?_ | refine zs3 ?_ | refine zs4 ?_ | refine zs5 ?_ | refine zs6 [] ?_); conv => whnf) | ((first | apply zi1 | apply zi2 | apply zi3 | apply zi4 | apply zi5) <;> intro _ <;> conv => whnf))
      refine VOut.same ?_
      have : ((a.length : Int) == b.length) = decide ([] = b.drop a.length) := by
        rw [Bool.eq_iff_iff, decide_eq_true_eq, beq_iff_eq]
        constructor
        · intro hh; rw [List.drop_of_length_le (by omega)]
        · intro hh
          have := congrArg List.length hh
          simp at this; omega
      simp only [V.ren, this]
theorem vc_equalSp (a b : List Sp) (h : Hp) (ha : a.length ≤ 4000000) (hb : b.length ≤ 4000000) : VC Tryz.prog 44 [sps a, sps b] h (B (decide (a = b))) h := by
  obtain ⟨E, hE⟩ : ∃ E, E = decide (a = b) := ⟨_, rfl⟩
  rw [← hE]
  refine VC.body Tryz.func44 rfl Tryz.ntmps44 Tryz.call44 (h.grows_refl) rfl ?_; conv => whnf
  refine VCode.lp (fun k : Nat => [(0, sps a), (1, sps b), (4, B false), (7, I a.length), (8, I k)]) (fun _ => []) (fun k => k ≤ a.length ∧ k ≤ b.length ∧ E = decide (a.drop k = b.drop k)) (fun k => a.length - k) 0 ⟨Nat.zero_le _, Nat.zero_le _, hE⟩ ?_ ?_
  · conv => whnf
    refine Retell.turn ⟨[], 0, [], []⟩ (TurnOk.mk' _ _ [] [] (OutOk.lift _) rfl (by decide) zb trivial trivial rfl) zv zm
  · rintro k ⟨h1, h2, h3⟩
    conv => whnf
    refine VIte.dec (fun h4 => ?_) (fun h4 => ?_)
    · have hx : a[k]? = some a[k] := List.getElem?_eq_getElem (by omega)
      rcases Nat.eq_or_lt_of_le h2 with h5 | h5
      · have hF : E = false := by
          rw [h3, decide_eq_false_iff_not]
          intro hh
          have := congrArg List.length hh
          simp at this; omega
        rw [hF]
        conv => whnf
        repeat' (first | ((first | refine zs1 ?_ | refine zs2 ?_ | refine zs3 ?_ | refine zs4 ?_ | refine zs5 ?_ | refine zs6 [] ?_); conv => whnf) | ((first | apply zi1 | apply zi2 | apply zi3 | apply zi4 | apply zi5) <;> intro _ <;> conv => whnf))
        · exact VOut.same rfl
        all_goals omega
      · have hy : b[k]? = some b[k] := List.getElem?_eq_getElem h5
        rw [drop_eq_dec hx hy] at h3
        generalize a[k] = x at hx h3
        generalize b[k] = y at hy h3
        conv => whnf
        repeat' (first | ((first | refine zs1 ?_ | refine zs2 ?_ | refine zs3 ?_ | refine zs4 ?_ | refine zs5 ?_ | refine zs6 [] ?_); conv => whnf) | ((first | apply zi1 | apply zi2 | apply zi3 | apply zi4 | apply zi5) <;> intro _ <;> conv => whnf) | (refine VAny.ix encSp_len k rfl rfl hx ?_; conv => whnf) | (refine VAny.ix encSp_len k rfl rfl hy ?_; conv => whnf) | (refine VAgg.intro (vneqSp _ _) ?_; conv => whnf))
        all_goals (try omega)
        all_goals first
          | (rw [decide_eq_false (ne_X (by first | assumption | omega)), Bool.false_and] at h3; rw [h3]; exact VOut.same rfl)
          | (rw [decide_eq_true (eq_X (by first | assumption | omega)), Bool.true_and] at h3
             refine LEnd.intro (k + 1) ⟨by omega, by omega, h3⟩ (by omega) ?_
             conv => whnf
             refine Retell.turn ⟨[], 0, [], []⟩ (TurnOk.mk' _ _ [] [] (OutOk.lift _) rfl (by decide) zb trivial trivial rfl) zv zm)
    · have hk : k = a.length := by omega
      rw [h3, hk, List.drop_length]
      conv => whnf
      repeat' (first | ((first | refine zs1 ?_ | refine zs2 ?_ | refine zs3 ?_ | refine zs4 ?_ | refine zs5 ?_ | refine zs6 [] ?_); conv => whnf) | ((first | apply zi1 | apply zi2 | apply zi3 | apply zi4 | apply zi5) <;> intro _ <;> conv => whnf))
      refine VOut.same ?_
      have : ((a.length : Int) == b.length) = decide ([] = b.drop a.length) := by
        rw [Bool.eq_iff_iff, decide_eq_true_eq, beq_iff_eq]
        constructor
        · intro hh; rw [List.drop_of_length_le (by omega)]
        · intro hh
          have := congrArg List.length hh
          simp at this; omega
      simp only [V.ren, this]
theorem vc_equalP (a b : List Pn) (h : Hp) (ha : a.length ≤ 4000000) (hb : b.length ≤ 4000000) : VC Tryz.prog 67 [pns a, pns b] h (B (decide (a = b))) h := by
  obtain ⟨E, hE⟩ : ∃ E, E = decide (a = b) := ⟨_, rfl⟩
  rw [← hE]
  refine VC.body Tryz.func67 rfl Tryz.ntmps67 Tryz.call67 (h.grows_refl) rfl ?_; conv => whnf
  refine VCode.lp (fun k : Nat => [(0, pns a), (1, pns b), (4, B false), (7, I a.length), (8, I k)]) (fun _ => []) (fun k => k ≤ a.length ∧ k ≤ b.length ∧ E = decide (a.drop k = b.drop k)) (fun k => a.length - k) 0 ⟨Nat.zero_le _, Nat.zero_le _, hE⟩ ?_ ?_
  · conv => whnf
    refine Retell.turn ⟨[], 0, [], []⟩ (TurnOk.mk' _ _ [] [] (OutOk.lift _) rfl (by decide) zb trivial trivial rfl) zv zm
  · rintro k ⟨h1, h2, h3⟩
    conv => whnf
    refine VIte.dec (fun h4 => ?_) (fun h4 => ?_)
    · have hx : a[k]? = some a[k] := List.getElem?_eq_getElem (by omega)
      rcases Nat.eq_or_lt_of_le h2 with h5 | h5
      · have hF : E = false := by
          rw [h3, decide_eq_false_iff_not]
          intro hh
          have := congrArg List.length hh
          simp at this; omega
        rw [hF]
        conv => whnf
        repeat' (first | ((first | refine zs1 ?_ | refine zs2 ?_ | refine zs3 ?_ | refine zs4 ?_ | refine zs5 ?_ | refine zs6 [] ?_); conv => whnf) | ((first | apply zi1 | apply zi2 | apply zi3 | apply zi4 | apply zi5) <;> intro _ <;> conv => whnf))
        · exact VOut.same rfl
        all_goals omega
      · have hy : b[k]? = some b[k] := List.getElem?_eq_getElem h5
        rw [drop_eq_dec hx hy] at h3
        generalize a[k] = x at hx h3
        generalize b[k] = y at hy h3
        conv => whnf
        repeat' (first | ((first | refine zs1 ?_ | refine zs2 ?_ | refine zs3 ?_ | refine zs4 ?_ | refine zs5 ?_ | refine zs6 [] ?_); conv => whnf) | ((first | apply zi1 | apply zi2 | apply zi3 | apply zi4 | apply zi5) <;> intro _ <;> conv => whnf) | (refine VAny.ix encPn_len k rfl rfl hx ?_; conv => whnf) | (refine VAny.ix encPn_len k rfl rfl hy ?_; conv => whnf) | (refine VAgg.intro (vneqP _ _) ?_; conv => whnf))
        all_goals (try omega)
        all_goals first
          | (rw [decide_eq_false (ne_X (by first | assumption | omega)), Bool.false_and] at h3; rw [h3]; exact VOut.same rfl)
          | (rw [decide_eq_true (eq_X (by first | assumption | omega)), Bool.true_and] at h3
             refine LEnd.intro (k + 1) ⟨by omega, by omega, h3⟩ (by omega) ?_
             conv => whnf
             refine Retell.turn ⟨[], 0, [], []⟩ (TurnOk.mk' _ _ [] [] (OutOk.lift _) rfl (by decide) zb trivial trivial rfl) zv zm)
    · have hk : k = a.length := by omega
      rw [h3, hk, List.drop_length]
      conv => whnf
      repeat' (first | ((first | refine zs1 ?_ | refine zs2 ?_ | refine zs3 ?_ | refine zs4 ?_ | refine zs5 ?_ | refine zs6 [] ?_); conv => whnf) | ((first | apply zi1 | apply zi2 | apply zi3 | apply zi4 | apply zi5) <;> intro _ <;> conv => whnf))
      refine VOut.same ?_
      have : ((a.length : Int) == b.length) = decide ([] = b.drop a.length) := by
        rw [Bool.eq_iff_iff, decide_eq_true_eq, beq_iff_eq]
        constructor
        · intro hh; rw [List.drop_of_length_le (by omega)]
        · intro hh
          have := congrArg List.length hh
          simp at this; omega
      simp only [V.ren, this]
theorem vc_equalSg (a b : List Sg) (h : Hp) (ha : a.length ≤ 4000000) (hb : b.length ≤ 4000000) : VC Tryz.prog 68 [sgs a, sgs b] h (B (decide (a = b))) h := by
  obtain ⟨E, hE⟩ : ∃ E, E = decide (a = b) := ⟨_, rfl⟩
  rw [← hE]
  refine VC.body Tryz.func68 rfl Tryz.ntmps68 Tryz.call68 (h.grows_refl) rfl ?_; conv => whnf
  refine VCode.lp (fun k : Nat => [(0, sgs a), (1, sgs b), (4, B false), (7, I a.length), (8, I k)]) (fun _ => []) (fun k => k ≤ a.length ∧ k ≤ b.length ∧ E = decide (a.drop k = b.drop k)) (fun k => a.length - k) 0 ⟨Nat.zero_le _, Nat.zero_le _, hE⟩ ?_ ?_
  · conv => whnf
    refine Retell.turn ⟨[], 0, [], []⟩ (TurnOk.mk' _ _ [] [] (OutOk.lift _) rfl (by decide) zb trivial trivial rfl) zv zm
  · rintro k ⟨h1, h2, h3⟩
    conv => whnf
    refine VIte.dec (fun h4 => ?_) (fun h4 => ?_)
    · have hx : a[k]? = some a[k] := List.getElem?_eq_getElem (by omega)
      rcases Nat.eq_or_lt_of_le h2 with h5 | h5
      · have hF : E = false := by
          rw [h3, decide_eq_false_iff_not]
          intro hh
          have := congrArg List.length hh
          simp at this; omega
        rw [hF]
        conv => whnf
        repeat' (first | ((first | refine zs1 ?_ | refine zs2 ?_ | refine zs3 ?_ | refine zs4 ?_ | refine zs5 ?_ | refine zs6 [] ?_); conv => whnf) | ((first | apply zi1 | apply zi2 | apply zi3 | apply zi4 | apply zi5) <;> intro _ <;> conv => whnf))
        · exact VOut.same rfl
        all_goals omega
      · have hy : b[k]? = some b[k] := List.getElem?_eq_getElem h5
        rw [drop_eq_dec hx hy] at h3
        generalize a[k] = x at hx h3
        generalize b[k] = y at hy h3
        conv => whnf
        repeat' (first | ((first | refine zs1 ?_ | refine zs2 ?_ | refine zs3 ?_ | refine zs4 ?_ | refine zs5 ?_ | refine zs6 [] ?_); conv => whnf) | ((first | apply zi1 | apply zi2 | apply zi3 | apply zi4 | apply zi5) <;> intro _ <;> conv => whnf) | (refine VAny.ix encSg_len k rfl rfl hx ?_; conv => whnf) | (refine VAny.ix encSg_len k rfl rfl hy ?_; conv => whnf) | (refine VAgg.intro (vneqSg _ _) ?_; conv => whnf))
        all_goals (try omega)
        all_goals first
          | (rw [decide_eq_false (ne_X (by first | assumption | omega)), Bool.false_and] at h3; rw [h3]; exact VOut.same rfl)
          | (rw [decide_eq_true (eq_X (by first | assumption | omega)), Bool.true_and] at h3
             refine LEnd.intro (k + 1) ⟨by omega, by omega, h3⟩ (by omega) ?_
             conv => whnf
             refine Retell.turn ⟨[], 0, [], []⟩ (TurnOk.mk' _ _ [] [] (OutOk.lift _) rfl (by decide) zb trivial trivial rfl) zv zm)
    · have hk : k = a.length := by omega
      rw [h3, hk, List.drop_length]
      conv => whnf
      repeat' (first | ((first | refine zs1 ?_ | refine zs2 ?_ | refine zs3 ?_ | refine zs4 ?_ | refine zs5 ?_ | refine zs6 [] ?_); conv => whnf) | ((first | apply zi1 | apply zi2 | apply zi3 | apply zi4 | apply zi5) <;> intro _ <;> conv => whnf))
      refine VOut.same ?_
      have : ((a.length : Int) == b.length) = decide ([] = b.drop a.length) := by
        rw [Bool.eq_iff_iff, decide_eq_true_eq, beq_iff_eq]
        constructor
        · intro hh; rw [List.drop_of_length_le (by omega)]
        · intro hh
          have := congrArg List.length hh
          simp at this; omega
      simp only [V.ren, this]
theorem vc_cloneP (l : List Pn) (h : Hp) (hl : l.length ≤ 4000000) : VC Tryz.prog 48 [pns l] h (pns l) h := by
  refine VC.body Tryz.func48 rfl Tryz.ntmps48 Tryz.call48 (h.grows_refl) rfl ?_; conv => whnf
  repeat (first | ((first | refine zs1 ?_ | refine zs2 ?_ | refine zs3 ?_ | refine zs4 ?_ | refine zs5 ?_ | refine zs6 [] ?_); conv => whnf))
  refine VMem.appNil encPn_len rfl rfl rfl (by omega) ?_
  conv => whnf
  repeat (first | ((first | refine zs1 ?_ | refine zs2 ?_ | refine zs3 ?_ | refine zs4 ?_ | refine zs5 ?_ | refine zs6 [] ?_); conv => whnf))
  refine VOut.data 1 [(0, l.flatMap encPn)] [] rfl (FzAll.flat rfl FzAll.nil) trivial (VTo.fsGl rfl (flat_len encPn_len _))
theorem vc_cloneSg (l : List Sg) (h : Hp) (hl : l.length ≤ 4000000) : VC Tryz.prog 49 [sgs l] h (sgs l) h := by
  refine VC.body Tryz.func49 rfl Tryz.ntmps49 Tryz.call49 (h.grows_refl) rfl ?_; conv => whnf
  repeat (first | ((first | refine zs1 ?_ | refine zs2 ?_ | refine zs3 ?_ | refine zs4 ?_ | refine zs5 ?_ | refine zs6 [] ?_); conv => whnf))
  refine VMem.appNil encSg_len rfl rfl rfl (by omega) ?_
  conv => whnf
  repeat (first | ((first | refine zs1 ?_ | refine zs2 ?_ | refine zs3 ?_ | refine zs4 ?_ | refine zs5 ?_ | refine zs6 [] ?_); conv => whnf))
  refine VOut.data 1 [(0, l.flatMap encSg)] [] rfl (FzAll.flat rfl FzAll.nil) trivial (VTo.fsGl rfl (flat_len encSg_len _))
theorem vc_CloneNet (N : Nt) (h : Hp) (hn : N.ps.length ≤ 4000000) (hm : N.ss.length ≤ 4000000) : VC Tryz.prog 9 [vN N] h (vN N) h := by
  refine VC.body Tryz.func9 rfl Tryz.ntmps9 Tryz.call9 (h.grows_refl) rfl ?_; conv => whnf
  repeat' (first | ((first | refine zs1 ?_ | refine zs2 ?_ | refine zs3 ?_ | refine zs4 ?_ | refine zs5 ?_ | refine zs6 [(2, 4)] ?_); conv => whnf) | ((first | apply zi1 | apply zi2 | apply zi3 | apply zi4 | apply zi5) <;> intro _ <;> conv => whnf) | (refine VCall.intro (vc_cloneP N.ps _ hn) ?_; conv => whnf) | (refine VCall.intro (vc_cloneSg N.ss _ hm) ?_; conv => whnf))
  exact VOut.same rfl
theorem vc_equal (a b : Nt) (h : Hp) (h1 : a.ps.length ≤ 4000000) (h2 : a.ss.length ≤ 4000000) (h3 : b.ps.length ≤ 4000000) (h4 : b.ss.length ≤ 4000000) : VC Tryz.prog 22 [vN a, vN b] h (B (decide (a.ps = b.ps) && decide (a.ss = b.ss))) h := by
  have c1 := fun h => vc_equalP a.ps b.ps h h1 h3
  have c2 := fun h => vc_equalSg a.ss b.ss h h2 h4
  generalize decide (a.ps = b.ps) = x at *
  generalize decide (a.ss = b.ss) = y at *
  cases x <;> cases y <;> (
    refine VC.body Tryz.func22 rfl Tryz.ntmps22 Tryz.call22 (h.grows_refl) rfl ?_; conv => whnf
    repeat' (first | ((first | refine zs1 ?_ | refine zs2 ?_ | refine zs3 ?_ | refine zs4 ?_ | refine zs5 ?_ | refine zs6 [] ?_); conv => whnf) | ((first | apply zi1 | apply zi2 | apply zi3 | apply zi4 | apply zi5) <;> intro _ <;> conv => whnf) | (refine VCall.intro (c1 _) ?_; conv => whnf) | (refine VCall.intro (c2 _) ?_; conv => whnf))
    exact VOut.same rfl)
end Go.Proofs.YtdlnjnfkbneibaaGreat

open Go.Vm
open Clip (Pn Sg Nt Bd Rt Sp Co Pl NtOk SgOk chk chk_ok bnds bnds_sz bnds_len bnds_sq regS BdSz SpSz)
namespace Go.Proofs.YtdlnjnfkbneibaaGreat
set_option maxRecDepth 20000
set_option maxHeartbeats 4000000

theorem vc_Net (N : Nt) (h : Hp) (hn : N.ps.length ≤ 4000000) (hm : N.ss.length ≤ 4000000) : VC Tryz.prog 11 [vN N] h (vN N) h := by
  refine VC.body Tryz.func11 rfl Tryz.ntmps11 Tryz.call11 (h.grows_refl) rfl ?_; conv => whnf
  repeat' (first | ((first | refine zs1 ?_ | refine zs2 ?_ | refine zs3 ?_ | refine zs4 ?_ | refine zs5 ?_ | refine zs6 [] ?_); conv => whnf) | ((first | apply zi1 | apply zi2 | apply zi3 | apply zi4 | apply zi5) <;> intro _ <;> conv => whnf) | (refine VCall.intro (vc_cloneP N.ps _ hn) ?_; conv => whnf))
  refine VCode.lp (fun x : Nat × List Sg => [(2, .ptr (.loc 0) 0), (3, .ptr (.loc 1) 0), (11, sgs N.ss), (12, I N.ss.length), (13, I x.1)])
    (fun x => [.flat true [.nilslice, .nilslice], .cells true [pns N.ps, .gl (.loc 2) 6 x.2.length], .flat true (x.2.flatMap encSg)]) (fun x => x.1 ≤ N.ss.length ∧ x.2 = N.ss.take x.1) (fun x => N.ss.length - x.1) (0, []) ⟨Nat.zero_le _, rfl⟩ ?_ ?_
  · conv => whnf
    refine Retell.turn ⟨[1,2,3], 3, [], []⟩ (TurnOk.mk' _ _ [] [] (OutOk.lift _) rfl (by decide) zb trivial trivial rfl) zv zm
  · rintro ⟨k, w⟩ ⟨hk, hw⟩
    dsimp only at hk hw
    have hwl : w.length ≤ N.ss.length := by rw [hw, List.length_take]; omega
    conv => whnf
    refine VIte.dec (fun h3 => ?_) (fun h3 => ?_)
    · have hp : N.ss[k]? = some N.ss[k] := List.getElem?_eq_getElem (by omega)
      have hts : N.ss.take (k + 1) = w ++ [N.ss[k]] := by rw [List.take_add_one, hp, hw]; rfl
      generalize N.ss[k] = p at hp hts
      conv => whnf
      repeat' (first | ((first | refine zs1 ?_ | refine zs2 ?_ | refine zs3 ?_ | refine zs4 ?_ | refine zs5 ?_ | refine zs6 [] ?_); conv => whnf) | ((first | apply zi1 | apply zi2 | apply zi3 | apply zi4 | apply zi5) <;> intro _ <;> conv => whnf) | (refine VAny.ix encSg_len k rfl rfl hp ?_; conv => whnf))
      refine VMem.app1 (l := w) p encSg_len rfl rfl rfl rfl rfl (by omega) ?_
      conv => whnf
      repeat (first | ((first | refine zs1 ?_ | refine zs2 ?_ | refine zs3 ?_ | refine zs4 ?_ | refine zs5 ?_ | refine zs6 [] ?_); conv => whnf))
      refine LEnd.intro (k + 1, w ++ [p]) ⟨by dsimp only; omega, hts.symm⟩ (by dsimp only; omega) ?_
      conv => whnf
      rw [List.length_append]
      refine Retell.turn ⟨[0,1,5], 6, [], []⟩ (TurnOk.mk' _ _ [] [] (OutOk.lift _) rfl (by decide) zb trivial trivial rfl) zv zm
    · have hk2 : k = N.ss.length := by dsimp only at h3; omega
      subst hk2
      rw [List.take_of_length_le (Nat.le_refl _)] at hw
      subst hw
      conv => whnf
      repeat (first | ((first | refine zs1 ?_ | refine zs2 ?_ | refine zs3 ?_ | refine zs4 ?_ | refine zs5 ?_ | refine zs6 [] ?_); conv => whnf))
      refine VOut.data 3 [(2, N.ss.flatMap encSg)] [] rfl zf (by exact FmAll.nil) zv
theorem vc_point (x y : Int) (h : Hp) : VC Tryz.prog 31 [I x, I y] h (vPn ⟨x, y⟩) h := by
  refine VC.body Tryz.func31 rfl Tryz.ntmps31 Tryz.call31 (h.grows_refl) rfl ?_; conv => whnf
  repeat' (first | ((first | refine zs1 ?_ | refine zs2 ?_ | refine zs3 ?_ | refine zs4 ?_ | refine zs5 ?_ | refine zs6 [] ?_); conv => whnf) | ((first | apply zi1 | apply zi2 | apply zi3 | apply zi4 | apply zi5) <;> intro _ <;> conv => whnf))
  exact VOut.same rfl
theorem vc_Seen (f t a b c d : Int) (h : Hp) : VC Tryz.prog 33 [I f, I t, I a, I b, I c, I d] h (vSg ⟨f, t, ⟨a, b⟩, ⟨c, d⟩⟩) h := by
  have c1 := fun h => vc_point a b h
  have c2 := fun h => vc_point c d h
  refine VC.body Tryz.func33 rfl Tryz.ntmps33 Tryz.call33 (h.grows_refl) rfl ?_; conv => whnf
  repeat' (first | ((first | refine zs1 ?_ | refine zs2 ?_ | refine zs3 ?_ | refine zs4 ?_ | refine zs5 ?_ | refine zs6 [] ?_); conv => whnf) | ((first | apply zi1 | apply zi2 | apply zi3 | apply zi4 | apply zi5) <;> intro _ <;> conv => whnf) | (refine VCall.intro (c1 _) ?_; conv => whnf) | (refine VCall.intro (c2 _) ?_; conv => whnf))
  exact VOut.same rfl
def threeP : List Pn := [⟨0, 0⟩, ⟨100, 0⟩, ⟨60, 60⟩]
def threeS : List Sg := [⟨0, 2, ⟨2, 1⟩, ⟨1, 2⟩⟩, ⟨1, 2, ⟨-1, 2⟩, ⟨-2, 1⟩⟩]
def threeN : Nt := ⟨threeP, threeS⟩
def fourP : List Pn := threeP ++ [⟨60, 0⟩]
def fourS2 : List Sg := [⟨0, 2, ⟨2, 1⟩, ⟨1, 2⟩⟩, ⟨1, 2, ⟨1, 0⟩, ⟨1, 1⟩⟩]
def fourS : List Sg := fourS2 ++ [⟨3, 2, ⟨1, 10⟩, ⟨-1, 10⟩⟩]
def fourN : Nt := ⟨fourP, fourS⟩
theorem VOut.ownN {h : Hp} {loc : List Blk} {n m : Nat} {ds es : List D} (j k L : Nat) (hL : Nat.ble loc.length L = true) (hjk : j < k) (hj : loc[j]? = some (.flat true ds)) (hk : loc[k]? = some (.flat true es)) : VOut h ⟨h.lift, loc⟩ (.agg [.gl (.loc j) 2 n, .gl (.loc k) 6 m]) (.agg [.gl (.loc h.loc.length) 2 n, .gl (.loc (h.loc.length + 1)) 6 m]) (h.pushes [.flat true ds, .flat true es]) := by
  refine VOut.upd [] [.flat true ds, .flat true es] [j, k] L hL (by intro p hp; cases hp) (by simp; omega) rfl ?_ ?_ rfl
  · intro i b hi
    cases i with
    | zero => rw [List.getElem?_cons_zero, Option.some.injEq] at hi; subst hi; exact ⟨j, rfl, hj⟩
    | succ i =>
      cases i with
      | zero => rw [List.getElem?_cons_succ, List.getElem?_cons_zero, Option.some.injEq] at hi; subst hi; exact ⟨k, rfl, hk⟩
      | succ i => simp at hi
  · intro σ x hx
    have : (V.agg [.gl (.loc h.loc.length) 2 n, .gl (.loc (h.loc.length + 1)) 6 m]).ren (backR h.loc.length [j, k] L) = .agg [.gl (.loc j) 2 n, .gl (.loc k) 6 m] := by simp [V.ren, V.rens, backR]
    rw [this]; exact hx
theorem vc_Three (h : Hp) : VC Tryz.prog 32 [] h (vN threeN) h := by
  have p1 := fun h => vc_point 0 0 h
  have p2 := fun h => vc_point 100 0 h
  have p3 := fun h => vc_point 60 60 h
  have s1 := fun h => vc_Seen 0 2 2 1 1 2 h
  have s2 := fun h => vc_Seen 1 2 (-1) 2 (-2) 1 h
  refine VC.body Tryz.func32 rfl Tryz.ntmps32 Tryz.call32 (h.grows_refl) rfl ?_; conv => whnf
  repeat' (first | ((first | refine zs1 ?_ | refine zs2 ?_ | refine zs3 ?_ | refine zs4 ?_ | refine zs5 ?_ | refine zs6 [] ?_); conv => whnf) | ((first | apply zi1 | apply zi2 | apply zi3 | apply zi4 | apply zi5) <;> intro _ <;> conv => whnf) | (refine VCall.intro (p1 _) ?_; conv => whnf) | (refine VCall.intro (p2 _) ?_; conv => whnf) | (refine VCall.intro (p3 _) ?_; conv => whnf) | (refine VCall.intro (s1 _) ?_; conv => whnf) | (refine VCall.intro (s2 _) ?_; conv => whnf))
  refine VOut.data 3 [(1, threeP.flatMap encPn), (2, threeS.flatMap encSg)] [] rfl zf (by exact FmAll.nil) zv
theorem vc_ThreeO (h : Hp) : VC Tryz.prog 32 [] h (.agg [.gl (.loc h.loc.length) 2 3, .gl (.loc (h.loc.length + 1)) 6 2]) (h.pushes [.flat true (threeP.flatMap encPn), .flat true (threeS.flatMap encSg)]) := by
  have p1 := fun h => vc_point 0 0 h
  have p2 := fun h => vc_point 100 0 h
  have p3 := fun h => vc_point 60 60 h
  have s1 := fun h => vc_Seen 0 2 2 1 1 2 h
  have s2 := fun h => vc_Seen 1 2 (-1) 2 (-2) 1 h
  refine VC.body Tryz.func32 rfl Tryz.ntmps32 Tryz.call32 (Hp.grows_sets (h := h) (upd := []) (by intro p hp; cases hp)) rfl ?_; conv => whnf
  repeat' (first | ((first | refine zs1 ?_ | refine zs2 ?_ | refine zs3 ?_ | refine zs4 ?_ | refine zs5 ?_ | refine zs6 [] ?_); conv => whnf) | ((first | apply zi1 | apply zi2 | apply zi3 | apply zi4 | apply zi5) <;> intro _ <;> conv => whnf) | (refine VCall.intro (p1 _) ?_; conv => whnf) | (refine VCall.intro (p2 _) ?_; conv => whnf) | (refine VCall.intro (p3 _) ?_; conv => whnf) | (refine VCall.intro (s1 _) ?_; conv => whnf) | (refine VCall.intro (s2 _) ?_; conv => whnf))
  exact VOut.ownN 1 2 3 rfl (by decide) rfl rfl
theorem vc_Four (h : Hp) : VC Tryz.prog 30 [] h (vN fourN) h := by
  have p1 := fun h => vc_point 60 0 h
  have s1 := fun h => vc_Seen 1 2 1 0 1 1 h
  have s2 := fun h => vc_Seen 3 2 1 10 (-1) 10 h
  refine VC.body Tryz.func30 rfl Tryz.ntmps30 Tryz.call30 (h.grows_refl) rfl ?_; conv => whnf
  repeat' (first | ((first | refine zs1 ?_ | refine zs2 ?_ | refine zs3 ?_ | refine zs4 ?_ | refine zs5 ?_); conv => whnf) | ((first | apply zi1 | apply zi2 | apply zi3 | apply zi4 | apply zi5) <;> intro _ <;> conv => whnf) | (refine VCall.intro (vc_ThreeO _) ?_; conv => whnf))
  refine zs6 [(1, 2)] ?_
  conv => whnf
  repeat' (first | ((first | refine zs1 ?_ | refine zs2 ?_ | refine zs3 ?_ | refine zs4 ?_ | refine zs5 ?_); conv => whnf) | ((first | apply zi1 | apply zi2 | apply zi3 | apply zi4 | apply zi5) <;> intro _ <;> conv => whnf) | (refine VCall.intro (s1 _) ?_; conv => whnf))
  refine zs6 [(1, 2), (2, 6), (4, 6), (6, 7)] ?_
  conv => whnf
  repeat' (first | ((first | refine zs1 ?_ | refine zs2 ?_ | refine zs3 ?_ | refine zs4 ?_ | refine zs5 ?_); conv => whnf) | ((first | apply zi1 | apply zi2 | apply zi3 | apply zi4 | apply zi5) <;> intro _ <;> conv => whnf) | (refine VCall.intro (p1 _) ?_; conv => whnf))
  refine VMem.app1 (l := threeP) (⟨60, 0⟩ : Pn) encPn_len rfl rfl rfl rfl rfl (by decide) ?_
  conv => whnf
  repeat' (first | ((first | refine zs1 ?_ | refine zs2 ?_ | refine zs3 ?_ | refine zs4 ?_ | refine zs5 ?_); conv => whnf) | ((first | apply zi1 | apply zi2 | apply zi3 | apply zi4 | apply zi5) <;> intro _ <;> conv => whnf) | (refine VCall.intro (s2 _) ?_; conv => whnf))
  refine VMem.app1 (l := fourS2) (⟨3, 2, ⟨1, 10⟩, ⟨-1, 10⟩⟩ : Sg) encSg_len rfl rfl rfl rfl rfl (by decide) ?_
  conv => whnf
  repeat' (first | ((first | refine zs1 ?_ | refine zs2 ?_ | refine zs3 ?_ | refine zs4 ?_ | refine zs5 ?_); conv => whnf) | ((first | apply zi1 | apply zi2 | apply zi3 | apply zi4 | apply zi5) <;> intro _ <;> conv => whnf))
  refine VOut.data 8 [(5, fourP.flatMap encPn), (7, fourS.flatMap encSg)] [] rfl zf (by exact FmAll.nil) zv
end Go.Proofs.YtdlnjnfkbneibaaGreat

open Go.Vm
open Clip (Pn Sg Nt Bd Rt Sp Co Pl NtOk SgOk chk chk_ok bnds bnds_sz bnds_len bnds_sq regS BdSz SpSz offL)
namespace Go.Proofs.YtdlnjnfkbneibaaGreat
set_option maxRecDepth 20000
set_option maxHeartbeats 4000000

def spL : List Int → List Sp
  | a :: b :: r => ⟨⟨a, 1⟩, ⟨b, 1⟩⟩ :: spL r
  | _ => []
theorem spL_at {l : List Int} {k : Nat} {a b : Int} (ha : l[k]? = some a) (hb : l[k + 1]? = some b) : spL (l.drop k) = ⟨⟨a, 1⟩, ⟨b, 1⟩⟩ :: spL (l.drop (k + 2)) := by
  obtain ⟨h1, rfl⟩ := List.getElem?_eq_some_iff.1 ha
  obtain ⟨h2, rfl⟩ := List.getElem?_eq_some_iff.1 hb
  rw [List.drop_eq_getElem_cons h1, List.drop_eq_getElem_cons h2, spL]
theorem spL_end {l : List Int} {k : Nat} (h : l.length ≤ k + 1) : spL (l.drop k) = [] := by
  rcases Nat.lt_or_ge k l.length with h1 | h1
  · rw [List.drop_eq_getElem_cons h1, List.drop_of_length_le h, spL]; intros; simp at *
  · rw [List.drop_of_length_le h1, spL]; intros; contradiction
theorem vc_spots (l : List Int) (h : Hp) (hn : l.length ≤ 4000000) : VC Tryz.prog 45 [ints l] h (sps (spL l)) h := by
  obtain ⟨E, hE⟩ : ∃ E, E = spL l := ⟨_, rfl⟩
  rw [← hE]
  have hE : E = [] ++ spL (l.drop (2 * 0)) := hE
  refine VC.body Tryz.func45 rfl Tryz.ntmps45 Tryz.call45 (h.grows_refl) rfl ?_; conv => whnf
  repeat' (first | ((first | refine zs1 ?_ | refine zs2 ?_ | refine zs3 ?_ | refine zs4 ?_ | refine zs5 ?_); conv => whnf) | ((first | apply zi1 | apply zi2 | apply zi3 | apply zi4 | apply zi5) <;> intro _ <;> conv => whnf))
  refine VCode.lp (fun y : Nat × List Sp => [(0, ints l), (2, .nilslice), (3, .gl (.loc 0) 4 y.2.length), (4, I ((2 * y.1 : Nat) : Int))]) (fun y => [.flat true (y.2.flatMap encSp)]) (fun y => 2 * y.1 ≤ l.length ∧ y.2.length ≤ y.1 ∧ E = y.2 ++ spL (l.drop (2 * y.1))) (fun y => l.length - y.1) (0, []) ⟨Nat.zero_le _, Nat.zero_le _, hE⟩ ?_ ?_
  · conv => whnf
    refine Retell.turn ⟨[0], 0, [], []⟩ (TurnOk.mk' _ _ [] [] (OutOk.lift _) rfl (by decide) zb trivial trivial rfl) zv zm
  · clear hE
    rintro ⟨k, w⟩ ⟨h1, h2, h3⟩
    dsimp only at h1 h2 h3
    conv => whnf
    repeat' (first | ((first | refine zs1 ?_ | refine zs2 ?_ | refine zs3 ?_ | refine zs4 ?_ | refine zs5 ?_); conv => whnf) | ((first | apply zi1 | apply zi2 | apply zi3 | apply zi4 | apply zi5) <;> intro _ <;> conv => whnf))
    · rename_i h5
      dsimp only at h5
      have ha : l[2 * k]? = some (l[2 * k]'(by omega)) := List.getElem?_eq_getElem _
      have hb : l[2 * k + 1]? = some (l[2 * k + 1]'(by omega)) := List.getElem?_eq_getElem _
      rw [spL_at ha hb] at h3
      generalize l[2 * k]'(by omega) = a at *
      generalize l[2 * k + 1]'(by omega) = b at *
      refine zs6 [] ?_
      conv => whnf
      repeat' (first | ((first | refine zs1 ?_ | refine zs2 ?_ | refine zs3 ?_ | refine zs4 ?_ | refine zs5 ?_); conv => whnf) | ((first | apply zi1 | apply zi2 | apply zi3 | apply zi4 | apply zi5) <;> intro _ <;> conv => whnf) | (refine VAny.ix encI_len (2 * k) rfl rfl ha ?_; conv => whnf) | (refine VAny.ix encI_len (2 * k + 1) (by dsimp only; omega) rfl hb ?_; conv => whnf))
      refine VMem.app1 (l := w) (⟨⟨a, 1⟩, ⟨b, 1⟩⟩ : Sp) encSp_len rfl rfl rfl rfl rfl (by omega) ?_
      conv => whnf
      repeat' (first | ((first | refine zs1 ?_ | refine zs2 ?_ | refine zs3 ?_ | refine zs4 ?_ | refine zs5 ?_); conv => whnf) | ((first | apply zi1 | apply zi2 | apply zi3 | apply zi4 | apply zi5) <;> intro _ <;> conv => whnf))
      refine LEnd.intro (k + 1, w ++ [(⟨⟨a, 1⟩, ⟨b, 1⟩⟩ : Sp)]) ⟨by dsimp only; omega, by dsimp only; rw [List.length_append]; simp only [List.length_singleton]; omega, by dsimp only; rw [h3, List.append_assoc]; rfl⟩ (by dsimp only; omega) ?_
      conv => whnf
      rw [List.length_append]
      refine Retell.turn ⟨[2], 3, [], []⟩ (TurnOk.mk' _ _ [] [] (OutOk.lift _) rfl (by decide) zb trivial trivial rfl) zv zm
    · rename_i h5
      rw [spL_end (by dsimp only at h5; omega), List.append_nil] at h3
      subst h3
      repeat' (first | ((first | refine zs1 ?_ | refine zs2 ?_ | refine zs3 ?_ | refine zs4 ?_ | refine zs5 ?_); conv => whnf) | ((first | apply zi1 | apply zi2 | apply zi3 | apply zi4 | apply zi5) <;> intro _ <;> conv => whnf))
      refine VOut.data 1 [(0, E.flatMap encSp)] [] rfl zf (by exact FmAll.nil) zv
/-! ### Closed facts -/
theorem a01 : brE threeN 2 = 0 := by kernel_rfl
theorem a02 : (bnds threeN 2)[2]? = some ⟨2, 1, 200⟩ := by kernel_rfl
theorem a03 : (bnds threeN 2).length = 8 := by kernel_rfl
theorem a04 : crE threeN 2 = 0 := by kernel_rfl
theorem a05 : crS threeN 2 = spL [20, 40, 50, 25, 80, 40, 50, 100] := by kernel_rfl
theorem a06 : bxV Sp.X (crS threeN 2) = (20, 80) := by kernel_rfl
theorem a07 : bxV Sp.Y (crS threeN 2) = (25, 100) := by kernel_rfl
theorem a08 : asE threeN 2 ⟨1, 0⟩ = 0 := by kernel_rfl
theorem a09 : rcV threeN 2 ⟨1, 0⟩ = ⟨80, 1⟩ := by kernel_rfl
theorem a10 : prE threeN 2 ⟨0, 1⟩ ⟨[1, 2], [1, 1], 2⟩ = 0 := by kernel_rfl
theorem a11 : prV threeN 2 ⟨0, 1⟩ ⟨[1, 2], [1, 1], 2⟩ = ⟨100, 1⟩ := by kernel_rfl
theorem a12 : chk fourN = 0 := by kernel_rfl
theorem a13 : offL fourN = [1] := by kernel_rfl
theorem a14 : cvE fourN = 0 := by kernel_rfl
theorem a15 : cvV fourN = 1 := by kernel_rfl
theorem a16 : loE fourN 2 = 0 := by kernel_rfl
theorem a17 : loL fourN 2 = [1, 2] := by kernel_rfl
theorem a18 : rfE fourN 2 ⟨[2, 3, 4], [9, 10, 1], 0⟩ = 0 := by kernel_rfl
theorem a19 : rfB fourN 2 ⟨[2, 3, 4], [9, 10, 1], 0⟩ = true := by kernel_rfl
theorem a20 : crE fourN 1 = 0 := by kernel_rfl
theorem a21 : crS fourN 1 = spL [0, 0, 60, 60, 0, 60] := by kernel_rfl
end Go.Proofs.YtdlnjnfkbneibaaGreat

open Go.Vm
open Clip (Pn Sg Nt Bd Rt Sp Co Pl NtOk SgOk chk chk_ok bnds bnds_sz bnds_len bnds_sq regS BdSz SpSz offL)
namespace Go.Proofs.YtdlnjnfkbneibaaGreat
set_option maxRecDepth 20000
set_option maxHeartbeats 4000000

theorem vne65 (a b c d : Int) : vaggeq Tryz.prog .neq 69 (.agg [I a, I b]) (.agg [I c, I d]) = some (B (decide (¬ (a = c ∧ b = d)))) := by
  have : (!((a == c) && ((b == d) && true))) = decide (¬ (a = c ∧ b = d)) := by
    rw [Bool.eq_iff_iff, decide_eq_true_eq]; simp [-not_and]; omega
  rw [← this]
  unfold vaggeq
  rw [show eqTop Tryz.prog 69 = some (Sh.cons 0 1 false Sh.int (Sh.cons 1 1 false Sh.int Sh.nil)) by kernel_rfl]
  rfl
theorem vne70 (a b c d : Int) : vaggeq Tryz.prog .neq 40 (.agg [I a, I b]) (.agg [I c, I d]) = some (B (decide (¬ (a = c ∧ b = d)))) := by
  have : (!((a == c) && ((b == d) && true))) = decide (¬ (a = c ∧ b = d)) := by
    rw [Bool.eq_iff_iff, decide_eq_true_eq]; simp [-not_and]; omega
  rw [← this]
  unfold vaggeq
  rw [show eqTop Tryz.prog 40 = some (Sh.cons 0 1 false Sh.int (Sh.cons 1 1 false Sh.int Sh.nil)) by kernel_rfl]
  rfl
theorem vc_awake (h : Hp) : VC Tryz.prog 8 [] h (B true) h := by
  have c1 := fun h => vc_Bounds_ok threeN 2 h a01
  have c2 := fun h => vc_Corners threeN 2 h (by decide) (by decide)
  have c3 := fun h => vc_Box threeN 2 h (by decide) (by decide)
  have c4 := fun h => vc_Reach threeN 2 ⟨1, 0⟩ h (by decide) (by decide)
  have c5 := fun h => vc_Proves threeN 2 ⟨0, 1⟩ ⟨[1, 2], [1, 1], 2⟩ h (by decide) (by decide) (by decide) (by decide)
  have c6 := fun h => vc_Off_ok fourN h (chk_ok.1 a12)
  have c7 := fun h => vc_Convict fourN h (by decide) (by decide)
  have c8 := fun h => vc_Loose fourN 2 h (by decide) (by decide)
  have c9 := fun h => vc_Refutes fourN 2 ⟨[2, 3, 4], [9, 10, 1], 0⟩ h (by decide) (by decide) (by decide) (by decide)
  have c10 := fun h => vc_Corners fourN 1 h (by decide) (by decide)
  have p1 := fun h => vc_point 1 0 h
  have p2 := fun h => vc_point 0 1 h
  have s1 := fun h => vc_spots [20, 40, 50, 25, 80, 40, 50, 100] h (by decide)
  have s2 := fun h => vc_spots [0, 0, 60, 60, 0, 60] h (by decide)
  have hb := a02
  have hl := a03
  rw [a06, a07] at c3
  rw [a04, a05] at c2
  rw [a04] at c3
  rw [a08, a09] at c4
  rw [a10, a11] at c5
  rw [a13] at c6
  rw [a14, a15] at c7
  rw [a16, a17] at c8
  rw [a18, a19] at c9
  rw [a20, a21] at c10
  have q1 := fun h => vc_equalSp (spL [20, 40, 50, 25, 80, 40, 50, 100]) (spL [20, 40, 50, 25, 80, 40, 50, 100]) h (by decide) (by decide)
  have q2 := fun h => vc_equalSp (spL [0, 0, 60, 60, 0, 60]) (spL [0, 0, 60, 60, 0, 60]) h (by decide) (by decide)
  rw [decide_eq_true rfl] at q1 q2
  have q3 := vc_equalI [1] [1] Hp.bare (by decide) (by decide)
  have q4 := vc_equalI [1, 2] [1, 2] Hp.bare (by decide) (by decide)
  rw [decide_eq_true rfl] at q3 q4
  obtain ⟨cs, hcs⟩ : ∃ cs, cs = (bnds threeN 2).flatMap encBd := ⟨_, rfl⟩
  have eb : bds (bnds threeN 2) = .fs 3 8 cs := by rw [hcs]; unfold bds; rw [a03]
  have hix : ∀ K : V → Prop, K (.fp (encBd ⟨2, 1, 200⟩)) → VAny (IdxP 3 8 cs 2) K := fun K hK => by rw [hcs]; exact VAny.ix encBd_len 2 rfl a03.symm a02 hK
  rw [eb] at c1
  generalize spL [20, 40, 50, 25, 80, 40, 50, 100] = sA at *
  generalize spL [0, 0, 60, 60, 0, 60] = sB at *
  refine VC.bodyC 5 Tryz.func8 rfl Tryz.ntmps8 Tryz.call8 (h.grows_refl) rfl ?_; conv => whnf
  repeat' (first | ((first | refine zs1 ?_ | refine zs2 ?_ | refine zs3 ?_ | refine zs4 ?_ | refine zs5 ?_); conv => whnf) | ((first | apply zi1 | apply zi2 | apply zi3 | apply zi4 | apply zi5) <;> intro _ <;> conv => whnf) | (refine VCall.intro (vc_Three _) ?_; conv => whnf) | (refine VCall.intro (c1 _) ?_; conv => whnf) | (refine VCall.intro (c2 _) ?_; conv => whnf) | (refine VCall.intro (c3 _) ?_; conv => whnf) | (refine VCall.intro (c4 _) ?_; conv => whnf) | (refine VCall.intro (p1 _) ?_; conv => whnf) | (refine VCall.intro (p2 _) ?_; conv => whnf))
  refine VCut.at' (outer := h.lift) (marks := []) 1 [(1, .fs 3 8 cs), (2, I 0), (3, sps sA), (4, I 0), (5, .fp [DI 20, DI 80]), (6, .fp [DI 25, DI 100]), (7, I 0), (8, .fp [DI 80, DI 1]), (9, I 0)] [] ?_ ?_
  · conv => whnf
    refine Retell.turn ⟨[], 3, [(0, [DI 20, DI 80]), (1, [DI 25, DI 100]), (2, [DI 80, DI 1])], []⟩ (TurnOk.mk' _ _ [(0, [DI 20, DI 80]), (1, [DI 25, DI 100]), (2, [DI 80, DI 1])] [] (OutOk.lift _) rfl (by decide) zb zf trivial rfl) zv zm
  conv => whnf
  repeat' (first | ((first | refine zs1 ?_ | refine zs2 ?_ | refine zs3 ?_ | refine zs4 ?_ | refine zs5 ?_); conv => whnf) | ((first | apply zi1 | apply zi2 | apply zi3 | apply zi4 | apply zi5) <;> intro _ <;> conv => whnf) | (refine VCall.intro (vc_Three _) ?_; conv => whnf) | (refine VCall.intro (p2 _) ?_; conv => whnf))
  refine VCall.intro (VC.give (args' := [vN threeN, I 2, vPn ⟨0, 1⟩, vPf ⟨[1, 2], [1, 1], 2⟩]) (loc' := [.dead, .dead]) [(0, [DI 1, DI 2]), (1, [DI 1, DI 1])] [] (OutOk.lift _) zb zf (by exact FmAll.nil) rfl zv (c5 _)) ?_
  conv => whnf
  repeat' (first | ((first | refine zs1 ?_ | refine zs2 ?_ | refine zs3 ?_ | refine zs4 ?_ | refine zs5 ?_); conv => whnf) | ((first | apply zi1 | apply zi2 | apply zi3 | apply zi4 | apply zi5) <;> intro _ <;> conv => whnf))
  refine VCut.at' (outer := h.lift) (marks := []) 1 [(1, .fs 3 8 cs), (2, I 0), (3, sps sA), (4, I 0), (5, .fp [DI 20, DI 80]), (6, .fp [DI 25, DI 100]), (7, I 0), (8, .fp [DI 80, DI 1]), (9, I 0), (10, .fp [DI 100, DI 1]), (11, I 0)] [] ?_ ?_
  · conv => whnf
    refine Retell.turn ⟨[], 3, [(2, [DI 100, DI 1])], []⟩ (TurnOk.mk' _ _ [(2, [DI 100, DI 1])] [] (OutOk.lift _) rfl (by decide) zb zf trivial rfl) zv zm
  conv => whnf
  repeat' (first | ((first | refine zs1 ?_ | refine zs2 ?_ | refine zs3 ?_ | refine zs4 ?_ | refine zs5 ?_); conv => whnf) | ((first | apply zi1 | apply zi2 | apply zi3 | apply zi4 | apply zi5) <;> intro _ <;> conv => whnf) | (refine hix _ ?_; conv => whnf) | (refine VAgg.intro (vne49 _ _ _ _ _ _) ?_; conv => whnf))
  refine VCall.intro (VC.give (args' := [ints [20, 40, 50, 25, 80, 40, 50, 100]]) (loc' := [.dead]) [(0, [DI 20, DI 40, DI 50, DI 25, DI 80, DI 40, DI 50, DI 100])] [] (OutOk.lift _) zb zf (by exact FmAll.nil) rfl zv (s1 _)) ?_
  conv => whnf
  repeat' (first | ((first | refine zs1 ?_ | refine zs2 ?_ | refine zs3 ?_ | refine zs4 ?_ | refine zs5 ?_); conv => whnf) | ((first | apply zi1 | apply zi2 | apply zi3 | apply zi4 | apply zi5) <;> intro _ <;> conv => whnf) | (refine VCall.intro (q1 _) ?_; conv => whnf) | (refine VAgg.intro (vne65 _ _ _ _) ?_; conv => whnf) | (refine VAgg.intro (vne70 _ _ _ _) ?_; conv => whnf))
  refine VCut.at' (outer := h.lift) (marks := []) 3 [] [] ?_ ?_
  · conv => whnf
    refine Retell.turn ⟨[], 1, [], []⟩ (TurnOk.mk' _ _ [] [] (OutOk.lift _) rfl (by decide) zb trivial trivial rfl) zv zm
  conv => whnf
  repeat' (first | ((first | refine zs1 ?_ | refine zs2 ?_ | refine zs3 ?_ | refine zs4 ?_ | refine zs5 ?_); conv => whnf) | ((first | apply zi1 | apply zi2 | apply zi3 | apply zi4 | apply zi5) <;> intro _ <;> conv => whnf) | (refine VCall.intro (vc_Four _) ?_; conv => whnf) | (refine VCall.intro (c6 _) ?_; conv => whnf) | (refine VCall.intro (c7 _) ?_; conv => whnf) | (refine VCall.intro (c8 _) ?_; conv => whnf))
  refine VCut.at' (outer := h.lift) (marks := []) 1 [(2, I 0), (4, I 0), (7, I 0), (12, ints [1]), (13, I 1), (14, ints [1, 2])] [] ?_ ?_
  · conv => whnf
    refine Retell.turn ⟨[], 0, [], []⟩ (TurnOk.mk' _ _ [] [] (OutOk.lift _) rfl (by decide) zb trivial trivial rfl) zv zm
  conv => whnf
  repeat' (first | ((first | refine zs1 ?_ | refine zs2 ?_ | refine zs3 ?_ | refine zs4 ?_ | refine zs5 ?_); conv => whnf) | ((first | apply zi1 | apply zi2 | apply zi3 | apply zi4 | apply zi5) <;> intro _ <;> conv => whnf) | (refine VCall.intro (vc_Four _) ?_; conv => whnf))
  refine VCall.intro (VC.give (args' := [vN fourN, I 2, vPf ⟨[2, 3, 4], [9, 10, 1], 0⟩]) (loc' := [.dead, .dead]) [(0, [DI 2, DI 3, DI 4]), (1, [DI 9, DI 10, DI 1])] [] (OutOk.lift _) zb zf (by exact FmAll.nil) rfl zv (c9 _)) ?_
  conv => whnf
  repeat' (first | ((first | refine zs1 ?_ | refine zs2 ?_ | refine zs3 ?_ | refine zs4 ?_ | refine zs5 ?_); conv => whnf) | ((first | apply zi1 | apply zi2 | apply zi3 | apply zi4 | apply zi5) <;> intro _ <;> conv => whnf))
  refine VCut.at' (outer := h.lift) (marks := []) 1 [(2, I 0), (4, I 0), (7, I 0), (9, I 0), (12, ints [1]), (13, I 1), (14, ints [1, 2]), (15, B true)] [] ?_ ?_
  · conv => whnf
    refine Retell.turn ⟨[], 2, [], []⟩ (TurnOk.mk' _ _ [] [] (OutOk.lift _) rfl (by decide) zb trivial trivial rfl) zv zm
  conv => whnf
  repeat' (first | ((first | refine zs1 ?_ | refine zs2 ?_ | refine zs3 ?_ | refine zs4 ?_ | refine zs5 ?_); conv => whnf) | ((first | apply zi1 | apply zi2 | apply zi3 | apply zi4 | apply zi5) <;> intro _ <;> conv => whnf) | (refine VCall.intro (vc_Four _) ?_; conv => whnf) | (refine VCall.intro (c10 _) ?_; conv => whnf))
  refine VCut.at' (outer := h.lift) (marks := []) 99 [(2, I 0), (3, sps sB), (4, I 0), (7, I 0), (9, I 0), (11, I 0), (12, ints [1]), (13, I 1), (14, ints [1, 2]), (15, B true)] [] ?_ ?_
  · conv => whnf
    refine Retell.turn ⟨[], 0, [], []⟩ (TurnOk.mk' _ _ [] [] (OutOk.lift _) rfl (by decide) zb trivial trivial rfl) zv zm
  conv => whnf
  repeat' (first | ((first | refine zs1 ?_ | refine zs2 ?_ | refine zs3 ?_ | refine zs4 ?_ | refine zs5 ?_); conv => whnf) | ((first | apply zi1 | apply zi2 | apply zi3 | apply zi4 | apply zi5) <;> intro _ <;> conv => whnf))
  refine VCall.intro (VC.lend1 [dints [1], dints [1]] [(0, [DI 1])] [] zf trivial zv q3) ?_
  conv => whnf
  repeat' (first | ((first | refine zs1 ?_ | refine zs2 ?_ | refine zs3 ?_ | refine zs4 ?_ | refine zs5 ?_); conv => whnf) | ((first | apply zi1 | apply zi2 | apply zi3 | apply zi4 | apply zi5) <;> intro _ <;> conv => whnf))
  refine VCall.intro (VC.lend1 [dints [1, 2], dints [1, 2]] [(1, [DI 1, DI 2])] [] zf trivial zv q4) ?_
  conv => whnf
  repeat' (first | ((first | refine zs1 ?_ | refine zs2 ?_ | refine zs3 ?_ | refine zs4 ?_ | refine zs5 ?_); conv => whnf) | ((first | apply zi1 | apply zi2 | apply zi3 | apply zi4 | apply zi5) <;> intro _ <;> conv => whnf))
  refine VCall.intro (VC.give (args' := [ints [0, 0, 60, 60, 0, 60]]) (loc' := [.flat true [DI 1], .flat true [DI 1, DI 2], .dead]) [(2, [DI 0, DI 0, DI 60, DI 60, DI 0, DI 60])] [] (OutOk.lift _) zb zf (by exact FmAll.nil) rfl zv (s2 _)) ?_
  conv => whnf
  repeat' (first | ((first | refine zs1 ?_ | refine zs2 ?_ | refine zs3 ?_ | refine zs4 ?_ | refine zs5 ?_); conv => whnf) | ((first | apply zi1 | apply zi2 | apply zi3 | apply zi4 | apply zi5) <;> intro _ <;> conv => whnf) | (refine VCall.intro (q2 _) ?_; conv => whnf))
  exact VOut.same rfl
end Go.Proofs.YtdlnjnfkbneibaaGreat

open Go.Vm
open Clip (Pn Sg Nt Bd Rt Sp Co Pl NtOk SgOk chk chk_ok bnds bnds_sz bnds_len bnds_sq regS BdSz SpSz offL mvL)
namespace Go.Proofs.YtdlnjnfkbneibaaGreat
set_option maxRecDepth 20000
set_option maxHeartbeats 4000000
def longB (N : Nt) : Bool := decide (13 < N.ps.length ∨ (10 < N.ss.length ∧ N.ss.length ≤ 20) ∨ 23 < N.ss.length)
theorem vc_long (N : Nt) (h : Hp) : VC Tryz.prog 7 [vN N] h (B (longB N)) h := by
  unfold longB
  refine VC.body Tryz.func7 rfl Tryz.ntmps7 Tryz.call7 (h.grows_refl) rfl ?_; conv => whnf
  repeat' (first | ((first | refine zs1 ?_ | refine zs2 ?_ | refine zs3 ?_ | refine zs4 ?_ | refine zs5 ?_ | refine zs6 [] ?_); conv => whnf) | ((first | apply zi1 | apply zi2 | apply zi3 | apply zi4 | apply zi5) <;> intro _ <;> conv => whnf))
  all_goals (refine VOut.dec ?_; first | (simp only [decide_eq_true_eq]; omega) | (simp; omega) | (simp; done))
end Go.Proofs.YtdlnjnfkbneibaaGreat

open Go.Vm
open Clip (Pn Sg Nt)
namespace Go.Proofs.YtdlnjnfkbneibaaGreat
open Go.ChangeShapes Go.WideShapes Go.ChangeAt Go.RowKit

theorem Opens.struct4 {P : Program} {α β γ δ : Type} {ea : α → List D} {eb : β → List D} {ec : γ → List D} {ed : δ → List D} {t : TypeId} {f0 f1 f2 f3 : Field} (m0 m1 m2 m3 : Nat) (ht : P.underlying t = some (.struct #[f0, f1, f2, f3])) (hc : P.cellsOf t = m0 + (m1 + (m2 + m3))) (h0 : f0.offset = 0) (h1 : f1.offset = m0) (h2 : f2.offset = m0 + m1) (h3 : f3.offset = m0 + m1 + m2)
    (c0 : P.cellsOf f0.type = m0) (c1 : P.cellsOf f1.type = m1) (c2 : P.cellsOf f2.type = m2) (c3 : P.cellsOf f3.type = m3) (ha : Opens P f0.type ea) (hb : Opens P f1.type eb) (hcc : Opens P f2.type ec) (hd4 : Opens P f3.type ed) : Opens P t (fun x : α × β × γ × δ => ea x.1 ++ (eb x.2.1 ++ (ec x.2.2.1 ++ ed x.2.2.2))) := by
  intro W H en sp hd fuel cs x h
  obtain ⟨y0, y1, y2, y3, n, _, hl, g0, g1, g2, g3⟩ := Go.Joins.trod_struct4 ht h
  rw [h0, c0] at g0
  rw [h1, c1] at g1
  rw [h2, c2] at g2
  rw [h3, c3] at g3
  obtain ⟨a, a1, a2⟩ := ha W H en sp hd n _ _ g0
  obtain ⟨b, b1, b2⟩ := hb W H en sp hd n _ _ g1
  obtain ⟨c, d1, d2⟩ := hcc W H en sp hd n _ _ g2
  obtain ⟨d, e1, e2'⟩ := hd4 W H en sp hd n _ _ g3
  have e := take_all (m0 := m0) (m1 := m1 + (m2 + m3)) (cs := cs) (by rw [hl, hc])
  have e2 : (cs.drop m0).take (m1 + (m2 + m3)) = (cs.drop m0).take m1 ++ ((cs.drop (m0 + m1)).take m2 ++ (cs.drop (m0 + m1 + m2)).take m3) := by rw [List.take_add, List.drop_drop, List.take_add, List.drop_drop]
  refine ⟨(a, b, c, d), ?_, fun v hv => ?_⟩
  · rw [e, e2]; exact DRs.append a1 (DRs.append b1 (DRs.append d1 e1))
  · rw [e, e2] at hv
    simp only [List.mem_append] at hv
    rcases hv with hv | hv | hv | hv
    · exact a2 v hv
    · exact b2 v hv
    · exact d2 v hv
    · exact e2' v hv
theorem open3 : Opens Tryz.prog 3 (fun n : Int => [DI n]) := Opens.int Tryz.underlying3
theorem open60 : Opens Tryz.prog 27 encPn := (Opens.struct2 1 1 Tryz.underlying27 (by kernel_rfl) rfl rfl (by kernel_rfl) (by kernel_rfl) open3 open3).as (fun x => ⟨x.1, x.2⟩) encPn fun _ => rfl
theorem open85 : Opens Tryz.prog 80 encSg := (Opens.struct4 1 1 2 2 Tryz.underlying80 (by kernel_rfl) rfl rfl rfl rfl (by kernel_rfl) (by kernel_rfl) (by kernel_rfl) (by kernel_rfl) open3 open3 open60 open60).as (fun x => ⟨x.1, x.2.1, x.2.2.1, x.2.2.2⟩) encSg fun _ => rfl
theorem open22 : Opens Tryz.prog 22 (fun l : List Pn => [D.sl 2 l.length (l.flatMap encPn)]) := Opens.slice Tryz.underlying22 encPn_len (by kernel_rfl) (by decide) open60
theorem open23 : Opens Tryz.prog 23 (fun l : List Sg => [D.sl 6 l.length (l.flatMap encSg)]) := Opens.slice Tryz.underlying23 encSg_len (by kernel_rfl) (by decide) open85
theorem open25 : Opens Tryz.prog 25 encN := (Opens.struct2 1 1 Tryz.underlying25 (by kernel_rfl) rfl rfl (by kernel_rfl) (by kernel_rfl) open22 open23).as (fun x => ⟨x.1, x.2⟩) encN fun _ => rfl
def dN (l : Nt) : D := .agg (encN l)
theorem openN : OpenV Tryz.prog 25 dN := OpenV.struct Tryz.underlying25 open25
theorem openI : OpenV Tryz.prog 3 (fun n : Int => DI n) := OpenV.int Tryz.underlying3
theorem ownKn : ownKnob Tryz.prog.godebug = none := by kernel_rfl
theorem laidOut : laidOutB Tryz.prog = true := by kernel_rfl
end Go.Proofs.YtdlnjnfkbneibaaGreat

open Go.Vm
namespace Go.Proofs.YtdlnjnfkbneibaaGreat
set_option maxRecDepth 20000
set_option maxHeartbeats 4000000
def dRd (bs : List Int) (N : Nat) : Int := IntKind.u32.wrap (IntKind.i64.wrap ((N : Int).tdiv (bs.length : Int)))
def dSt (bs : List Int) (N : Nat) (s c : Int) : Int := (IntKind.u32.wrap (IntKind.u32.wrap (IntKind.u32.wrap (s * 37) + IntKind.u32.wrap c) + IntKind.u32.wrap (101 * dRd bs N))).tmod 65521
def dR (bs : List Int) (N : Nat) (s k c : Int) : Int := if k ≤ 256 ∧ dRd bs N = 0 then (IntKind.i64.wrap (IntKind.u32.wrap c)).tmod k else (IntKind.i64.wrap (IntKind.u32.wrap (IntKind.u32.wrap (dSt bs N s c * 256) + IntKind.u32.wrap c))).tmod k
def dNx (bs : List Int) (d : Nat × Int) (k : Int) : Int × (Nat × Int) :=
  if k ≤ 1 ∨ bs = [] then (0, d) else (dR bs d.1 d.2 k (bs.getD (d.1 % bs.length) 0), (d.1 + 1, dSt bs d.1 d.2 (bs.getD (d.1 % bs.length) 0)))
end Go.Proofs.YtdlnjnfkbneibaaGreat

open Go.Vm
open Clip (Pn Sg Nt crs okD okD_iff)
namespace Go.Vm
end Go.Vm
namespace Go.Proofs.YtdlnjnfkbneibaaGreat
set_option maxRecDepth 20000
set_option maxHeartbeats 4000000

/-! ### Directions and sights that are dealt -/
abbrev DS := Nat × Int
def tnX (bs : List Int) (d : DS) (m : Int) : Int × DS := dNx bs d (m - (0 - m) + 1)
def tnY (bs : List Int) (d : DS) (m : Int) : Int × DS := dNx bs (tnX bs d m).2 (m - (0 - m) + 1)
def tnV (bs : List Int) (d : DS) (m : Int) : Pn × DS := (if (0 - m) + (tnX bs d m).1 = 0 ∧ (0 - m) + (tnY bs d m).1 = 0 then ⟨1, (0 - m) + (tnY bs d m).1⟩ else ⟨(0 - m) + (tnX bs d m).1, (0 - m) + (tnY bs d m).1⟩, (tnY bs d m).2)
def bkP (p : Pn) : Pn := ⟨0 - p.x, 0 - p.y⟩
end Go.Proofs.YtdlnjnfkbneibaaGreat

open Go.Vm
open Clip (Pn Sg Nt crs okD okD_iff)
namespace Go.Proofs.YtdlnjnfkbneibaaGreat
set_option maxRecDepth 20000
set_option maxHeartbeats 4000000
structure P38 (p : Pn) : Prop where
  x : -38 ≤ p.x ∧ p.x ≤ 38
  y : -38 ≤ p.y ∧ p.y ≤ 38
theorem P38.b {p : Pn} (h : P38 p) : PnB p := ⟨by have := h.x; omega, by have := h.y; omega⟩
end Go.Proofs.YtdlnjnfkbneibaaGreat

open Go.Vm
open Clip (Pn Sg Nt Bd Sp Rt Pt Af SpOk NtOk SgOk BdSz offB offL offS bS bnds bnds_sq bnds_sz bsq regS pAt pAt_ok pAt_get okP okP_iff okD okD_iff Feas crs rcS dirAf allOf mvB mvS mvL chk_ok)
namespace Go.Proofs.YtdlnjnfkbneibaaGreat
set_option maxRecDepth 20000
set_option maxHeartbeats 4000000
/-! ### Sights told from the other pillar, in another order -/
def bkG (s : Sg) : Sg := ⟨s.t, s.f, bkP s.r, bkP s.l⟩
theorem bk_bS {ps : List Pn} {p : Int} {s : Sg} (hne : s.f ≠ s.t) : bS ps p (bkG s) = bS ps p s := by
  unfold bS bkG bkP
  dsimp only
  by_cases ht : s.t = p
  · rw [if_neg (by omega), if_pos ht, if_pos ht]
    congr 1
    · congr 1 <;> grind
    · congr 1
      congr 1 <;> grind
  · by_cases hf : s.f = p
    · rw [if_pos hf, if_neg ht, if_pos hf]
      congr 1
      · congr 1 <;> grind
      · congr 1
        congr 1 <;> grind
    · rw [if_neg hf, if_neg ht, if_neg ht, if_neg hf]
structure Mix (N M : Nt) : Prop where
  ps : M.ps = N.ps
  ss : ∀ x, x ∈ M.ss ↔ ∃ s ∈ N.ss, x = bkG s
  n : M.ss.length ≤ 20
theorem Mix.bnds {N M : Nt} (h : Mix N M) (o : NtOk N) (p : Int) (b : Bd) : b ∈ Clip.bnds M p ↔ b ∈ Clip.bnds N p := by
  unfold Clip.bnds
  simp only [List.mem_append]
  have key : b ∈ M.ss.flatMap (bS M.ps p) ↔ b ∈ N.ss.flatMap (bS N.ps p) := by
    rw [List.mem_flatMap, List.mem_flatMap]
    constructor
    · rintro ⟨x, h1, h2⟩
      obtain ⟨s, h3, rfl⟩ := (h.ss x).1 h1
      rw [h.ps, bk_bS (o.s s h3).ne] at h2
      exact ⟨s, h3, h2⟩
    · rintro ⟨s, h1, h2⟩
      exact ⟨bkG s, (h.ss _).2 ⟨s, h1, rfl⟩, by rw [h.ps, bk_bS (o.s s h1).ne]; exact h2⟩
  rw [key]
end Go.Proofs.YtdlnjnfkbneibaaGreat

open Go.Vm
namespace Go.Vm
end Go.Vm
namespace Go.Proofs.YtdlnjnfkbneibaaGreat
set_option maxRecDepth 20000
set_option maxHeartbeats 4000000
structure Prm (n : Nat) (l : List Int) : Prop where
  perm : l.Perm ((List.range n).map (fun i : Nat => (i : Int)))
theorem Prm.len {n : Nat} {l : List Int} (h : Prm n l) : l.length = n := by
  rw [h.perm.length_eq]; simp
end Go.Proofs.YtdlnjnfkbneibaaGreat

open Go.Vm
open Clip (Pn Sg Nt NtOk SgOk crs okD okD_iff)
namespace Go.Proofs.YtdlnjnfkbneibaaGreat
set_option maxRecDepth 20000
set_option maxHeartbeats 4000000

/-! ### Sights that are spoilt -/
def spC (bs : List Int) (d : DS) : Int × DS := dNx bs d 3
def spA (bs : List Int) (d : DS) : Pn × DS := tnV bs (spC bs d).2 30
def spB (bs : List Int) (d : DS) : Pn × DS := tnV bs (spA bs d).2 30
def spS (bs : List Int) (d : DS) (s : Sg) : Sg := if (spC bs d).1 = 0 then (if crs (spA bs d).1 (spB bs d).1 < 0 then ⟨s.f, s.t, (spB bs d).1, (spA bs d).1⟩ else if 0 < crs (spA bs d).1 (spB bs d).1 then ⟨s.f, s.t, (spA bs d).1, (spB bs d).1⟩ else s) else s
def spD (bs : List Int) (d : DS) : DS := if (spC bs d).1 = 0 then (spB bs d).2 else (spC bs d).2
def spGo (bs : List Int) : DS → List Sg → DS × List Sg
  | d, [] => (d, [])
  | d, s :: r => ((spGo bs (spD bs d) r).1, spS bs d s :: (spGo bs (spD bs d) r).2)
theorem spGo_at {bs : List Int} {d : DS} {l : List Sg} {k : Nat} {s : Sg} (h : l[k]? = some s) : spGo bs d (l.drop k) = ((spGo bs (spD bs d) (l.drop (k + 1))).1, spS bs d s :: (spGo bs (spD bs d) (l.drop (k + 1))).2) := by
  obtain ⟨hlt, rfl⟩ := List.getElem?_eq_some_iff.1 h
  rw [List.drop_eq_getElem_cons hlt, spGo]
structure SpI (bs : List Int) (ss : List Sg) (R : DS × List Sg) (k : Nat) (e : DS) (ws : List Sg) : Prop where
  len : ws.length = ss.length
  rest : ws.drop k = ss.drop k
  d : R.1 = (spGo bs e (ss.drop k)).1
  l : R.2 = ws.take k ++ (spGo bs e (ss.drop k)).2
theorem SpI.at {bs : List Int} {ss : List Sg} {R : DS × List Sg} {k : Nat} {e : DS} {ws : List Sg} (h : SpI bs ss R k e ws) (hk : k < ss.length) : ∃ s, ws[k]? = some s ∧ ss[k]? = some s := by
  have h1 : ss[k]? = some ss[k] := List.getElem?_eq_getElem hk
  refine ⟨ss[k], ?_, h1⟩
  have := congrArg (fun l => l[0]?) h.rest
  simp only [List.getElem?_drop, Nat.add_zero] at this
  rw [this, h1]
theorem SpI.next {bs : List Int} {ss : List Sg} {R : DS × List Sg} {k : Nat} {e : DS} {ws : List Sg} (h : SpI bs ss R k e ws) {s s' : Sg} (hw : ws[k]? = some s) (hs : ss[k]? = some s) (es : s' = spS bs e s) : SpI bs ss R (k + 1) (spD bs e) (ws.set k s') := by
  have hkw := (List.getElem?_eq_some_iff.1 hw).1
  refine ⟨by rw [List.length_set]; exact h.len, ?_, ?_, ?_⟩
  · rw [List.drop_set, if_pos (by omega)]
    have := congrArg (fun l => l.drop 1) h.rest
    simp only [List.drop_drop] at this
    exact this
  · rw [h.d, spGo_at hs]
  · rw [h.l, spGo_at hs, List.take_add_one, List.getElem?_set_self hkw, es, List.append_assoc]
    congr 1
    rw [List.take_set, List.set_eq_of_length_le (by rw [List.length_take]; omega)]
theorem SpI.same {bs : List Int} {ss : List Sg} {R : DS × List Sg} {k : Nat} {e : DS} {ws : List Sg} (h : SpI bs ss R k e ws) {s : Sg} (hw : ws[k]? = some s) (hs : ss[k]? = some s) (es : s = spS bs e s) : SpI bs ss R (k + 1) (spD bs e) ws := by
  have := h.next hw hs es
  obtain ⟨h1, h2⟩ := List.getElem?_eq_some_iff.1 hw
  rwa [← h2, List.set_getElem_self] at this
end Go.Proofs.YtdlnjnfkbneibaaGreat

open Go.Vm
namespace Go.Vm
theorem iterN_seq {P : Program} {i : Id} {ys : Nat → Option (List V)} {h : Hp} {I : Nat → Hp → Prop} {E : Hp → Prop} : ∀ (m : Nat), (∀ k g, k < m → I k g → match ys k with
    | none => I (k + 1) g
    | some vs => (∃ g', VY P i vs g (.s (.bool true)) g' ∧ I (k + 1) g') ∨ ∃ g', VY P i vs g (.s (.bool false)) g' ∧ E g') → I 0 h →
    ∃ (s : Nat) (g : Nat → Hp), g 0 = h ∧ s ≤ m ∧ (∀ k, k < s → (ys k = none ∧ g (k + 1) = g k) ∨ ∃ vs, ys k = some vs ∧ VY P i vs (g k) (.s (.bool true)) (g (k + 1))) ∧
      ((s = m ∧ I m (g m)) ∨ (s < m ∧ ∃ vs g', ys s = some vs ∧ VY P i vs (g s) (.s (.bool false)) g' ∧ E g'))
  | 0, _, h0 => ⟨0, fun _ => h, rfl, Nat.le_refl _, fun k hk => absurd hk (Nat.not_lt_zero _), .inl ⟨rfl, h0⟩⟩
  | m + 1, hs, h0 => by
    obtain ⟨s, g, g0, hsm, g1, g2⟩ := iterN_seq m (fun k g hk hi => hs k g (by omega) hi) h0
    rcases g2 with ⟨rfl, hI⟩ | ⟨hlt, vs, g', a, b, c⟩
    · have := hs s (g s) (Nat.lt_succ_self _) hI
      have ext : ∀ gn : Hp, ∃ g2 : Nat → Hp, (∀ k, k ≤ s → g2 k = g k) ∧ g2 (s + 1) = gn := fun gn => ⟨fun k => if k = s + 1 then gn else g k, fun k hk => by simp only [if_neg (show ¬ k = s + 1 by omega)], by simp⟩
      cases hy : ys s with
      | none =>
        rw [hy] at this
        obtain ⟨g2, e1, e2⟩ := ext (g s)
        refine ⟨s + 1, g2, by rw [e1 0 (Nat.zero_le _)]; exact g0, Nat.le_refl _, fun k hk => ?_, .inl ⟨rfl, by rw [e2]; exact this⟩⟩
        rcases Nat.lt_or_ge k s with h1 | h1
        · rw [e1 k (by omega), e1 (k + 1) (by omega)]; exact g1 k h1
        · obtain rfl : k = s := by omega
          rw [e1 k (Nat.le_refl _), e2]; exact .inl ⟨hy, rfl⟩
      | some vs =>
        rw [hy] at this
        rcases this with ⟨g', a, b⟩ | ⟨g', a, b⟩
        · obtain ⟨g2, e1, e2⟩ := ext g'
          refine ⟨s + 1, g2, by rw [e1 0 (Nat.zero_le _)]; exact g0, Nat.le_refl _, fun k hk => ?_, .inl ⟨rfl, by rw [e2]; exact b⟩⟩
          rcases Nat.lt_or_ge k s with h1 | h1
          · rw [e1 k (by omega), e1 (k + 1) (by omega)]; exact g1 k h1
          · obtain rfl : k = s := by omega
            rw [e1 k (Nat.le_refl _), e2]; exact .inr ⟨vs, hy, a⟩
        · exact ⟨s, g, g0, Nat.le_succ _, g1, .inr ⟨Nat.lt_succ_self _, vs, g', hy, a, b⟩⟩
    · exact ⟨s, g, g0, by omega, g1, .inr ⟨by omega, vs, g', a, b, c⟩⟩
end Go.Vm
namespace Go.Proofs.YtdlnjnfkbneibaaGreat
set_option maxRecDepth 20000
set_option maxHeartbeats 4000000

/-! ### All pairs of numbers -/
def prY (n r : Nat) : Option (List V) := if r / n ≤ r % n then some [I (r / n : Nat), I (r % n : Nat)] else none
theorem prY_eq {n i k : Nat} (hk : k < n) : prY n (i * n + k) = if i ≤ k then some [I i, I k] else none := by
  unfold prY
  have h1 : (i * n + k) / n = i := by rw [Nat.mul_comm, Nat.mul_add_div (by omega), Nat.div_eq_of_lt hk, Nat.add_zero]
  have h2 : (i * n + k) % n = k := by rw [Nat.mul_comm, Nat.mul_add_mod, Nat.mod_eq_of_lt hk]
  rw [h1, h2]
theorem prY_some {n r : Nat} {vs : List V} (hr : r < n * n) (h : prY n r = some vs) : ∃ i k : Nat, i ≤ k ∧ k < n ∧ r = i * n + k ∧ vs = [I i, I k] := by
  have hn : 0 < n := by
    rcases Nat.eq_zero_or_pos n with e | e
    · rw [e] at hr; omega
    · exact e
  have e : r = (r / n) * n + r % n := by rw [Nat.mul_comm]; exact (Nat.div_add_mod r n).symm
  refine ⟨r / n, r % n, ?_, Nat.mod_lt _ hn, e, ?_⟩
  · unfold prY at h
    split at h
    · assumption
    · cases h
  · unfold prY at h
    split at h
    · exact (Option.some.inj h).symm
    · cases h
def vPrs (n : Nat) : V := .func (.func 121) [] [.fp [DI n]]
theorem vc_pairs (n : Nat) (h : Hp) : VC Tryz.prog 78 [I n] h (vPrs n) h := by
  refine VC.body Tryz.func78 rfl Tryz.ntmps78 Tryz.call78 (h.grows_refl) rfl ?_; conv => whnf
  repeat (first | ((first | refine zs1 ?_ | refine zs2 ?_ | refine zs3 ?_ | refine zs4 ?_ | refine zs5 ?_ | refine zs6 [] ?_); conv => whnf))
  refine VOut.data 1 [(0, [DI n])] [] rfl zf (by exact FmAll.nil) zv
theorem iter_pairs (n : Nat) (hn : n ≤ 4000000) : IterN Tryz.prog 121 [] [.fp [DI n]] (n * n) (prY n) := by
  intro h i J E hs h0
  obtain ⟨S, g, g0, hS, g1, g2⟩ := iterN_seq (n * n) hs h0
  have hgr : ∀ j, j ≤ S → h.grows (g j) := by
    intro j
    induction j with
    | zero => intro _; rw [g0]; exact h.grows_refl
    | succ j ih =>
      intro hj
      rcases g1 j (by omega) with ⟨_, e⟩ | ⟨vs, _, hv⟩
      · rw [e]; exact ih (by omega)
      · exact fun k hk => hv.1 k (ih (by omega) k hk)
  have hend : ∃ h', h.grows h' ∧ (J (n * n) h' ∨ E h') ∧ (S = n * n → h' = g S) ∧ (S < n * n → ∃ vs, prY n S = some vs ∧ VY Tryz.prog i vs (g S) (.s (.bool false)) h') := by
    rcases g2 with ⟨hSm, hI⟩ | ⟨hSm, vs, gE, e1, e2, e3⟩
    · exact ⟨g S, hgr _ (Nat.le_refl _), .inl (by rw [hSm]; exact hI), fun _ => rfl, fun hh => by omega⟩
    · exact ⟨gE, fun k hk => e2.1 k (hgr S (Nat.le_refl _) k hk), .inr e3, fun hh => by omega, fun _ => ⟨vs, e1, e2⟩⟩
  obtain ⟨h', hgh, hJE, hend1, hend2⟩ := hend
  have skip : ∀ a : Nat, a < n → a * n ≤ S → ∀ j, j ≤ a → a * n + j ≤ S ∧ g (a * n + j) = g (a * n) := by
    intro a ha haS j
    induction j with
    | zero => intro _; exact ⟨haS, rfl⟩
    | succ j ih =>
      intro hj
      obtain ⟨i1, i2⟩ := ih (by omega)
      have hy : prY n (a * n + j) = none := by rw [prY_eq (by omega), if_neg (by omega)]
      have hlt : a * n + j < S := by
        rcases Nat.eq_or_lt_of_le i1 with e | e
        · exfalso
          have hm : a * n + n ≤ n * n := by
            have := Nat.mul_le_mul_right n (show a + 1 ≤ n by omega)
            rw [Nat.succ_mul] at this; exact this
          obtain ⟨vs, e1, _⟩ := hend2 (by omega)
          rw [← e, hy] at e1; cases e1
        · exact e
      refine ⟨by omega, ?_⟩
      rcases g1 _ hlt with ⟨_, e⟩ | ⟨vs, e, _⟩
      · rw [← i2]; exact e
      · rw [hy] at e; cases e
  refine ⟨h', ?_, hJE⟩
  refine VC.body Tryz.func121 rfl Tryz.ntmps121 Tryz.call121 hgh rfl ?_
  conv => whnf
  repeat' (first | ((first | refine zs1 ?_ | refine zs2 ?_ | refine zs3 ?_ | refine zs4 ?_ | refine zs5 ?_ | refine zs6 [] ?_); conv => whnf) | ((first | apply zi1 | apply zi2 | apply zi3 | apply zi4 | apply zi5) <;> intro _ <;> conv => whnf))
  refine VCode.lpo (fun a : Nat => [(0, .yld (.out i)), (1, .fp [DI n]), (5, I n), (6, I a)]) (fun a => (g (a * n)).lift) (fun _ => []) (fun a => a ≤ n ∧ a * n ≤ S) (fun a => n - a) 0 ⟨Nat.zero_le _, by rw [Nat.zero_mul]; exact Nat.zero_le _⟩ (by rw [Nat.zero_mul, g0]) ?_ ?_
  · conv => whnf
    refine Retell.turn ⟨[], 0, [], []⟩ (TurnOk.mk' _ _ [] [] (OutOk.lift _) rfl (by decide) zb trivial trivial rfl) zv zm
  · rintro a ⟨ha, haS⟩
    conv => whnf
    refine VIte.dec (fun h3 => ?_) (fun h3 => ?_)
    · have ha' : a < n := by omega
      have hm : a * n + n ≤ n * n := by
        have := Nat.mul_le_mul_right n (show a + 1 ≤ n by omega)
        rw [Nat.succ_mul] at this; exact this
      obtain ⟨sk1, sk2⟩ := skip a ha' haS a (Nat.le_refl _)
      conv => whnf
      repeat' (first | ((first | refine zs1 ?_ | refine zs2 ?_ | refine zs3 ?_ | refine zs4 ?_ | refine zs5 ?_ | refine zs6 [] ?_); conv => whnf) | ((first | apply zi1 | apply zi2 | apply zi3 | apply zi4 | apply zi5) <;> intro _ <;> conv => whnf))
      refine VCode.lpo (fun k : Nat => [(0, .yld (.out i)), (1, .fp [DI n]), (3, I a), (4, I k), (5, I n), (6, I a)]) (fun k => (g (a * n + k)).lift) (fun _ => []) (fun k => a ≤ k ∧ k ≤ n ∧ a * n + k ≤ S) (fun k => n - k) a ⟨Nat.le_refl _, ha, sk1⟩ (by rw [sk2]) ?_ ?_
      · conv => whnf
        refine Retell.turn ⟨[], 0, [], []⟩ (TurnOk.mk' _ _ [] [] (OutOk.lift _) rfl (by decide) zb trivial trivial rfl) zv zm
      · rintro k ⟨hak, hkn, hkS⟩
        rcases Nat.eq_or_lt_of_le hkn with hkn' | hkn'
        · have e3 : (a + 1) * n = a * n + k := by rw [Nat.succ_mul, hkn']
          conv => whnf
          repeat' (first | ((first | refine zs1 ?_ | refine zs2 ?_ | refine zs3 ?_ | refine zs4 ?_ | refine zs5 ?_ | refine zs6 [] ?_); conv => whnf) | ((first | apply zi1 | apply zi2 | apply zi3 | apply zi4 | apply zi5) <;> intro _ <;> conv => whnf))
          · exfalso; omega
          · refine LEndO.intro (a + 1) ⟨by omega, by omega⟩ (by omega) (by rw [e3]) ?_
            rw [e3]
            conv => whnf
            refine Retell.turn ⟨[], 0, [], []⟩ (TurnOk.mk' _ _ [] [] (OutOk.lift _) rfl (by decide) zb trivial trivial rfl) zv zm
        · have hy : prY n (a * n + k) = some [I a, I k] := by rw [prY_eq hkn', if_pos hak]
          rcases Nat.eq_or_lt_of_le hkS with hS1 | hS1
          · obtain ⟨vs, e1, e2⟩ := hend2 (by omega)
            rw [← hS1, hy] at e1
            obtain rfl := Option.some.inj e1
            rw [← hS1] at e2
            conv => whnf
            repeat' (first | ((first | refine zs1 ?_ | refine zs2 ?_ | refine zs3 ?_ | refine zs4 ?_ | refine zs5 ?_ | refine zs6 [] ?_); conv => whnf) | ((first | apply zi1 | apply zi2 | apply zi3 | apply zi4 | apply zi5) <;> intro _ <;> conv => whnf) | (refine VYield.intro (VY.lift _ e2) ?_; conv => whnf))
            · exact VOut.lifted (r := .tuple []) hgh
            · exfalso; omega
          · have hv : VY Tryz.prog i [I a, I k] (g (a * n + k)) (.s (.bool true)) (g (a * n + (k + 1))) := by
              rcases g1 _ hS1 with ⟨e, _⟩ | ⟨vs, e, hv⟩
              · rw [hy] at e; cases e
              · rw [hy] at e
                obtain rfl := Option.some.inj e
                exact hv
            conv => whnf
            repeat' (first | ((first | refine zs1 ?_ | refine zs2 ?_ | refine zs3 ?_ | refine zs4 ?_ | refine zs5 ?_ | refine zs6 [] ?_); conv => whnf) | ((first | apply zi1 | apply zi2 | apply zi3 | apply zi4 | apply zi5) <;> intro _ <;> conv => whnf) | (refine VYield.intro (VY.lift _ hv) ?_; conv => whnf))
            · refine LEndO.intro (k + 1) ⟨by omega, by omega, by omega⟩ (by omega) rfl ?_
              conv => whnf
              refine Retell.turn ⟨[], 0, [], []⟩ (TurnOk.mk' _ _ [] [] (OutOk.lift _) rfl (by decide) zb trivial trivial rfl) zv zm
            · exfalso; omega
    · have hS1 : S = n * n := by
        have ea : a = n := by omega
        rw [ea] at haS
        omega
      have ea : a = n := by omega
      rw [hend1 hS1, hS1, ea]
      conv => whnf
      exact VOut.lifted (r := .tuple []) (hgr _ (by omega))
end Go.Proofs.YtdlnjnfkbneibaaGreat

open Go.Vm
open Clip (Pn Sg Nt Bd Sp Rt Pt Af NtOk BdSz crs okD okD_iff Feas dirAf red red_ok red_q regS bnds bnds_sq bnds_sz bnds_len bsq rcS)
namespace Go.Vm
theorem VMem.st3 {P : Program} {t : TypeId} {i : Id} {off : Nat} {v v1 v2 v3 : V} {ti : TI} {h : Hp} {b b1 b2 b3 : Blk} {K : V → Hp → Prop} (hTt : tiOf P t = some ti) (hp : v.parts = some [v1, v2, v3]) (hl : ti.size = 3) (hb : h.get i = some b) (hw1 : b.wr1 off v1 = some b1) (hw2 : b1.wr1 (off + 1) v2 = some b2) (hw3 : b2.wr1 (off + 1 + 1) v3 = some b3) (hK : K .undef (h.set i b3)) :
    VMem P (opStore t) [.ptr i off, v] h K := by
  refine VMem.intro (does_store (cs := [v1, v2, v3]) (tiOf_ok P) hTt hp (by simp [hl]) ?_) hK
  have hn : h.get i ≠ none := by rw [hb]; simp
  have h2 : (h.set i b1).get i = some b1 := (Hp.get_set h i _ _ hn).trans (if_pos rfl)
  have h3 : (h.set i b2).get i = some b2 := (Hp.get_set h i _ _ hn).trans (if_pos rfl)
  simp only [Hp.wrN, Hp.wr1, hb, hw1, h2, hw2, h3, hw3, Hp.set_set]
end Go.Vm
namespace Go.Proofs.YtdlnjnfkbneibaaGreat
set_option maxRecDepth 20000
set_option maxHeartbeats 4000000

theorem blt_of {a b : Nat} (h : a < b) : Nat.blt a b = true := by rw [Nat.blt_eq]; exact h
end Go.Proofs.YtdlnjnfkbneibaaGreat

open Go.Vm
open Clip (Pn Sg Nt Bd Rt Sp Co Pl NtOk chk chk_ok bnds bnds_sz bnds_len bnds_sq regS BdSz SpSz okD okD_iff red pts)
namespace Go.Proofs.YtdlnjnfkbneibaaGreat
set_option maxRecDepth 20000
set_option maxHeartbeats 4000000

theorem vc_low (n d : Int) (h : Hp) (hd : 0 < d) (hb : d ≤ 1000000000000000) (hn : -1000000000000000 ≤ n ∧ n ≤ 1000000000000000) : VC Tryz.prog 61 [I n, I d] h (vRt (red n d)) h := by
  obtain ⟨E, hE⟩ : ∃ E, E = red n d := ⟨_, rfl⟩
  rw [← hE]
  unfold red at hE
  simp only [if_neg (show ¬ d < 0 by omega)] at hE
  obtain ⟨G, hG⟩ : ∃ G, G = Nat.gcd (n).natAbs (d).toNat := ⟨_, rfl⟩
  have hGp : 0 < G := by rw [hG]; exact Nat.gcd_pos_of_pos_right _ (by omega)
  have hGd : G ≤ (d).toNat := by rw [hG]; exact Nat.le_of_dvd (by omega) (Nat.gcd_dvd_right _ _)
  rw [← hG] at hE
  have q1 : -1000000000000000 ≤ (n).tdiv G ∧ (n).tdiv G ≤ 1000000000000000 := by
    have := Int.natAbs_tdiv_le_natAbs (n) G
    omega
  have q2 : -1000000000000000 ≤ (d).tdiv G ∧ (d).tdiv G ≤ 1000000000000000 := by
    have := Int.natAbs_tdiv_le_natAbs (d) G
    omega
  refine VC.body Tryz.func61 rfl Tryz.ntmps61 Tryz.call61 (h.grows_refl) rfl ?_; conv => whnf
  repeat' (first | ((first | refine zs1 ?_ | refine zs2 ?_ | refine zs3 ?_ | refine zs4 ?_ | refine zs5 ?_ | refine zs6 [] ?_); conv => whnf) | ((first | apply zi1 | apply zi2 | apply zi3 | apply zi4 | apply zi5) <;> intro _ <;> conv => whnf))
  all_goals try (exfalso; omega)
  all_goals
    refine VCode.lp (fun y : Nat × Nat => [(0, I (n)), (1, I (d)), (4, .ptr (.loc 0) 0), (5, I (y.1 : Nat)), (6, I (y.2 : Nat))]) (fun y => [.flat true [DI 0, DI 0]]) (fun y => y.1 ≤ 1000000000000000 ∧ y.2 ≤ 1000000000000000 ∧ Nat.gcd y.1 y.2 = G) (fun y => y.1) (n.natAbs, d.toNat) ⟨by dsimp only; omega, by dsimp only; omega, by rw [hG]⟩ ?_ ?_
    · conv => whnf
      refine Retell.turn ⟨[0], 1, [], []⟩ (TurnOk.mk' _ _ [] [] (OutOk.lift _) rfl (by decide) zb trivial trivial rfl) zv zm
    · rintro ⟨a, b⟩ ⟨h1, h2, h3⟩
      dsimp only at h1 h2 h3
      have hrem : (b : Int).tmod (a : Int) = ((b % a : Nat) : Int) := (Int.ofNat_tmod b a).symm
      rcases Nat.eq_zero_or_pos a with ha0 | ha0
      · subst ha0
        rw [Nat.gcd_zero_left] at h3
        subst h3
        have w1 : IntKind.i64.wrap ((n).tdiv (b : Int)) = (n).tdiv (b : Int) := wrap_i64 (by omega)
        have w2 : IntKind.i64.wrap ((d).tdiv (b : Int)) = (d).tdiv (b : Int) := wrap_i64 (by omega)
        conv => whnf
        repeat' (first | ((first | refine zs1 ?_ | refine zs2 ?_ | refine zs3 ?_ | refine zs4 ?_ | refine zs5 ?_ | refine zs6 [] ?_); conv => whnf) | ((first | apply zi1 | apply zi2 | apply zi3 | apply zi4 | apply zi5) <;> intro _ <;> conv => whnf))
        all_goals try (rename_i hz; dsimp only at hz; exfalso; omega)
        rw [hE]
        exact VOut.same (by show V.agg [I (IntKind.i64.wrap _), I (IntKind.i64.wrap _)] = _; rw [w1, w2]; rfl)
      · conv => whnf
        repeat' (first | ((first | refine zs1 ?_ | refine zs2 ?_ | refine zs3 ?_ | refine zs4 ?_ | refine zs5 ?_ | refine zs6 [] ?_); conv => whnf) | ((first | apply zi1 | apply zi2 | apply zi3 | apply zi4 | apply zi5) <;> intro _ <;> conv => whnf))
        all_goals try (rename_i hz; dsimp only at hz; exfalso; omega)
        have hlt : b % a < a := Nat.mod_lt _ (by omega)
        refine LEnd.intro (b % a, a) ⟨by dsimp only; omega, by dsimp only; omega, by dsimp only; rw [← Nat.gcd_rec]; exact h3⟩ (by dsimp only; omega) ?_
        conv => whnf
        refine Retell.turn ⟨[0], 1, [], []⟩ (TurnOk.mk' _ _ [] [] (OutOk.lift _) rfl (by decide) zb trivial trivial rfl) zv zm
theorem vc_cloneI (l : List Int) (h : Hp) (hl : l.length ≤ 4000000) : VC Tryz.prog 10 [ints l] h (ints l) h := by
  refine VC.body Tryz.func10 rfl Tryz.ntmps10 Tryz.call10 (h.grows_refl) rfl ?_; conv => whnf
  repeat (first | ((first | refine zs1 ?_ | refine zs2 ?_ | refine zs3 ?_ | refine zs4 ?_ | refine zs5 ?_ | refine zs6 [] ?_); conv => whnf))
  refine VMem.appNil encI_len rfl rfl rfl (by omega) ?_
  conv => whnf
  repeat (first | ((first | refine zs1 ?_ | refine zs2 ?_ | refine zs3 ?_ | refine zs4 ?_ | refine zs5 ?_ | refine zs6 [] ?_); conv => whnf))
  refine VOut.data 1 [(0, l.flatMap encI)] [] rfl (FzAll.flat rfl FzAll.nil) trivial (VTo.fsGl rfl (flat_len encI_len _))
theorem vc_proof (p : Pf) (h : Hp) (h1 : p.bs.length ≤ 4000000) (h2 : p.ws.length ≤ 4000000) : VC Tryz.prog 14 [vPf p] h (vPf p) h := by
  have c1 := fun h => vc_cloneI p.bs h h1
  have c2 := fun h => vc_cloneI p.ws h h2
  refine VC.body Tryz.func14 rfl Tryz.ntmps14 Tryz.call14 (h.grows_refl) rfl ?_; conv => whnf
  repeat' (first | ((first | refine zs1 ?_ | refine zs2 ?_ | refine zs3 ?_ | refine zs4 ?_ | refine zs5 ?_ | refine zs6 [(2, 4), (2, 7), (5, 7)] ?_); conv => whnf) | ((first | apply zi1 | apply zi2 | apply zi3 | apply zi4 | apply zi5) <;> intro _ <;> conv => whnf) | (refine VCall.intro (c1 _) ?_; conv => whnf) | (refine VCall.intro (c2 _) ?_; conv => whnf))
  exact VOut.same rfl
theorem all_at {α : Type} {f : α → Bool} {l : List α} {k : Nat} {a : α} (h : l[k]? = some a) : (l.drop k).all f = (f a && (l.drop (k + 1)).all f) := by
  obtain ⟨hlt, rfl⟩ := List.getElem?_eq_some_iff.1 h
  rw [List.drop_eq_getElem_cons hlt, List.all_cons]
theorem vc_wrong (p : Pf) (n : Int) (h : Hp) (hn : 0 ≤ n ∧ n ≤ 4000000) (hb : p.bs.length ≤ 4000000) (hw : p.ws.length ≤ 4000000) : VC Tryz.prog 59 [vPf p, I n] h (I (rgE p n)) h := by
  obtain ⟨E, hE⟩ : ∃ E, E = rgE p n := ⟨_, rfl⟩
  rw [← hE]
  unfold rgE at hE
  obtain ⟨A, hA⟩ : ∃ A, A = p.bs.all (fun i => decide (0 ≤ i ∧ i ≤ n - 1)) := ⟨_, rfl⟩
  obtain ⟨W, hW⟩ : ∃ W, W = p.ws.all w01 := ⟨_, rfl⟩
  obtain ⟨O, hO⟩ : ∃ O, O = incB p.bs := ⟨_, rfl⟩
  rw [← hO, ← hA, ← hW] at hE
  have hO : O = incB (p.bs.drop 0) := hO
  have hA : A = (p.bs.drop 0).all (fun i => decide (0 ≤ i ∧ i ≤ n - 1)) := hA
  have hW : W = (p.ws.drop 0).all w01 := hW
  refine VC.bodyC 1 Tryz.func59 rfl Tryz.ntmps59 Tryz.call59 (h.grows_refl) rfl ?_; conv => whnf
  repeat' (first | ((first | refine zs1 ?_ | refine zs2 ?_ | refine zs3 ?_ | refine zs4 ?_ | refine zs5 ?_); conv => whnf) | ((first | apply zi1 | apply zi2 | apply zi3 | apply zi4 | apply zi5) <;> intro _ <;> conv => whnf))
  refine VCut.at' 99 [(1, I n), (2, .fp (encPf p)), (4, I 0)] [] ?_ ?_
  · conv => whnf
    refine Retell.turn ⟨[], 1, [(0, encPf p)], []⟩ (TurnOk.mk' _ _ [(0, encPf p)] [] (OutOk.lift _) rfl (by decide) zb zf trivial rfl) zv zm
  conv => whnf
  by_cases hc : ¬ (1 ≤ p.bs.length ∧ p.bs.length ≤ 3) ∨ p.ws.length ≠ p.bs.length
  · rw [if_pos hc] at hE
    subst hE
    repeat' (first | ((first | refine zs1 ?_ | refine zs2 ?_ | refine zs3 ?_ | refine zs4 ?_ | refine zs5 ?_); conv => whnf) | ((first | apply zi1 | apply zi2 | apply zi3 | apply zi4 | apply zi5) <;> intro _ <;> conv => whnf))
    all_goals first | (exact VOut.same rfl) | (exfalso; omega)
  rw [if_neg hc] at hE
  repeat' (first | ((first | refine zs1 ?_ | refine zs2 ?_ | refine zs3 ?_ | refine zs4 ?_ | refine zs5 ?_); conv => whnf) | ((first | apply zi1 | apply zi2 | apply zi3 | apply zi4 | apply zi5) <;> intro _ <;> conv => whnf))
  all_goals try (exfalso; omega)
  refine VCode.lp (fun j : Nat => [(1, I n), (2, .fp (encPf p)), (4, I 0), (5, I j)]) (fun _ => []) (fun j => j ≤ p.bs.length ∧ A = (p.bs.drop j).all (fun i => decide (0 ≤ i ∧ i ≤ n - 1))) (fun j => p.bs.length - j) 0 ⟨Nat.zero_le _, hA⟩ ?_ ?_
  · conv => whnf
    refine Retell.turn ⟨[], 0, [], []⟩ (TurnOk.mk' _ _ [] [] (OutOk.lift _) rfl (by decide) zb trivial trivial rfl) zv zm
  clear hA
  rintro k ⟨h1, hA⟩
  conv => whnf
  repeat' (first | ((first | refine zs1 ?_ | refine zs2 ?_ | refine zs3 ?_ | refine zs4 ?_ | refine zs5 ?_); conv => whnf) | ((first | apply zi1 | apply zi2 | apply zi3 | apply zi4 | apply zi5) <;> intro _ <;> conv => whnf))
  · rename_i h5
    have ha : p.bs[k]? = some p.bs[k] := List.getElem?_eq_getElem (by omega)
    rw [all_at ha] at hA
    generalize p.bs[k] = a at ha hA
    have cb := fun h => vc_beside a 0 (n - 1) h
    conv => whnf
    repeat' (first | ((first | refine zs1 ?_ | refine zs2 ?_ | refine zs3 ?_ | refine zs4 ?_ | refine zs5 ?_); conv => whnf) | ((first | apply zi1 | apply zi2 | apply zi3 | apply zi4 | apply zi5) <;> intro _ <;> conv => whnf) | (refine VAny.ix encI_len k rfl rfl ha ?_; conv => whnf) | (refine VCall.intro (cb _) ?_; conv => whnf))
    · rename_i h6
      rw [decide_eq_false (by omega), Bool.false_and] at hA
      subst hA
      rw [if_neg (by decide)] at hE
      subst hE
      exact VOut.same rfl
    · rename_i h6
      rw [decide_eq_true (by omega), Bool.true_and] at hA
      refine LEnd.intro (k + 1) ⟨by omega, hA⟩ (by omega) ?_
      conv => whnf
      refine Retell.turn ⟨[], 0, [], []⟩ (TurnOk.mk' _ _ [] [] (OutOk.lift _) rfl (by decide) zb trivial trivial rfl) zv zm
  · rename_i h5
    have hk : k = p.bs.length := by omega
    subst hk
    rw [List.drop_length, List.all_nil] at hA
    subst hA
    rw [if_pos rfl] at hE
    conv => whnf
    repeat' (first | ((first | refine zs1 ?_ | refine zs2 ?_ | refine zs3 ?_ | refine zs4 ?_ | refine zs5 ?_); conv => whnf) | ((first | apply zi1 | apply zi2 | apply zi3 | apply zi4 | apply zi5) <;> intro _ <;> conv => whnf))
    refine VCode.lp (fun j : Nat => [(1, I n), (2, .fp (encPf p)), (4, I 0), (6, I ((j : Int) + 1))]) (fun _ => []) (fun j => j + 1 ≤ p.bs.length ∧ O = incB (p.bs.drop j)) (fun j => p.bs.length - j) 0 ⟨by omega, hO⟩ ?_ ?_
    · conv => whnf
      refine Retell.turn ⟨[], 0, [], []⟩ (TurnOk.mk' _ _ [] [] (OutOk.lift _) rfl (by decide) zb trivial trivial rfl) zv zm
    clear hO
    rintro k ⟨h1, hO⟩
    conv => whnf
    repeat' (first | ((first | refine zs1 ?_ | refine zs2 ?_ | refine zs3 ?_ | refine zs4 ?_ | refine zs5 ?_); conv => whnf) | ((first | apply zi1 | apply zi2 | apply zi3 | apply zi4 | apply zi5) <;> intro _ <;> conv => whnf))
    · rename_i h5
      have ha : p.bs[k]? = some p.bs[k] := List.getElem?_eq_getElem (by omega)
      have hb' : p.bs[k + 1]? = some (p.bs[k + 1]'(by omega)) := List.getElem?_eq_getElem _
      rw [incB_at ha hb'] at hO
      generalize p.bs[k] = a at ha hO
      generalize p.bs[k + 1]'(by omega) = b at hb' hO
      conv => whnf
      repeat' (first | ((first | refine zs1 ?_ | refine zs2 ?_ | refine zs3 ?_ | refine zs4 ?_ | refine zs5 ?_); conv => whnf) | ((first | apply zi1 | apply zi2 | apply zi3 | apply zi4 | apply zi5) <;> intro _ <;> conv => whnf))
      refine zs6 [] ?_
      conv => whnf
      repeat' (first | ((first | refine zs1 ?_ | refine zs2 ?_ | refine zs3 ?_ | refine zs4 ?_ | refine zs5 ?_); conv => whnf) | ((first | apply zi1 | apply zi2 | apply zi3 | apply zi4 | apply zi5) <;> intro _ <;> conv => whnf) | (refine VAny.ix encI_len (k + 1) (by omega) rfl hb' ?_; conv => whnf) | (refine VAny.ix encI_len k (by omega) rfl ha ?_; conv => whnf))
      · rename_i hc
        rw [decide_eq_false (show ¬ a < b by omega), Bool.false_and] at hO
        subst hO
        rw [if_neg (by decide)] at hE
        subst hE
        exact VOut.same rfl
      · rename_i hc
        rw [decide_eq_true (show a < b by omega), Bool.true_and] at hO
        refine LEnd.intro (k + 1) ⟨by omega, hO⟩ (by omega) ?_
        conv => whnf
        refine Retell.turn ⟨[], 0, [], []⟩ (TurnOk.mk' _ _ [] [] (OutOk.lift _) rfl (by decide) zb trivial trivial rfl) zv zm
    · rename_i h5
      rw [incB_end (by omega)] at hO
      subst hO
      rw [if_pos rfl] at hE
      conv => whnf
      repeat' (first | ((first | refine zs1 ?_ | refine zs2 ?_ | refine zs3 ?_ | refine zs4 ?_ | refine zs5 ?_); conv => whnf) | ((first | apply zi1 | apply zi2 | apply zi3 | apply zi4 | apply zi5) <;> intro _ <;> conv => whnf))
      refine VCode.lp (fun j : Nat => [(1, I n), (2, .fp (encPf p)), (4, I 0), (7, I j)]) (fun _ => []) (fun j => j ≤ p.ws.length ∧ W = (p.ws.drop j).all w01) (fun j => p.ws.length - j) 0 ⟨Nat.zero_le _, hW⟩ ?_ ?_
      · conv => whnf
        refine Retell.turn ⟨[], 0, [], []⟩ (TurnOk.mk' _ _ [] [] (OutOk.lift _) rfl (by decide) zb trivial trivial rfl) zv zm
      clear hW
      rintro k ⟨h1, hW⟩
      conv => whnf
      repeat' (first | ((first | refine zs1 ?_ | refine zs2 ?_ | refine zs3 ?_ | refine zs4 ?_ | refine zs5 ?_); conv => whnf) | ((first | apply zi1 | apply zi2 | apply zi3 | apply zi4 | apply zi5) <;> intro _ <;> conv => whnf))
      · rename_i h5
        have ha : p.ws[k]? = some p.ws[k] := List.getElem?_eq_getElem (by omega)
        rw [all_at ha] at hW
        generalize p.ws[k] = a at ha hW
        have cb := fun h => vc_beside a 0 1000000 h
        conv => whnf
        repeat' (first | ((first | refine zs1 ?_ | refine zs2 ?_ | refine zs3 ?_ | refine zs4 ?_ | refine zs5 ?_); conv => whnf) | ((first | apply zi1 | apply zi2 | apply zi3 | apply zi4 | apply zi5) <;> intro _ <;> conv => whnf) | (refine VAny.ix encI_len k rfl rfl ha ?_; conv => whnf) | (refine VCall.intro (cb _) ?_; conv => whnf))
        · rename_i h6
          rw [show w01 a = false from decide_eq_false (by omega), Bool.false_and] at hW
          subst hW
          rw [if_neg (fun e => by cases e.1)] at hE
          subst hE
          exact VOut.same rfl
        · rename_i h6
          rw [show w01 a = true from decide_eq_true (by omega), Bool.true_and] at hW
          refine LEnd.intro (k + 1) ⟨by omega, hW⟩ (by omega) ?_
          conv => whnf
          refine Retell.turn ⟨[], 0, [], []⟩ (TurnOk.mk' _ _ [] [] (OutOk.lift _) rfl (by decide) zb trivial trivial rfl) zv zm
      · rename_i h5
        have hk : k = p.ws.length := by omega
        subst hk
        rw [List.drop_length, List.all_nil] at hW
        subst hW
        have cb := fun h => vc_beside p.t 0 1000000 h
        conv => whnf
        repeat' (first | ((first | refine zs1 ?_ | refine zs2 ?_ | refine zs3 ?_ | refine zs4 ?_ | refine zs5 ?_); conv => whnf) | ((first | apply zi1 | apply zi2 | apply zi3 | apply zi4 | apply zi5) <;> intro _ <;> conv => whnf) | (refine VCall.intro (cb _) ?_; conv => whnf))
        · rename_i h6
          rw [if_neg (fun e => by have := of_decide_eq_true e.2; omega)] at hE
          subst hE
          exact VOut.same rfl
        · rename_i h6
          rw [if_pos ⟨rfl, decide_eq_true (by omega)⟩] at hE
          subst hE
          exact VOut.same rfl
theorem vc_rsum (p : Pf) (l : List Bd) (h : Hp) (hp : RgOk p l.length) (hb : ∀ b ∈ l, BdSz b) : VC Tryz.prog 60 [bds l, vPf p] h (vBd (totB l p)) h := by
  obtain ⟨E, hE⟩ : ∃ E, E = totB l p := ⟨_, rfl⟩
  rw [← hE]
  have hE : E = sumG ⟨0, 0, 0⟩ (p.ws.drop 0) ((p.bs.map (bAt l)).drop 0) := hE
  have hpl := hp.l
  have hpm := hp.m
  refine VC.body Tryz.func60 rfl Tryz.ntmps60 Tryz.call60 (h.grows_refl) rfl ?_; conv => whnf
  repeat' (first | ((first | refine zs1 ?_ | refine zs2 ?_ | refine zs3 ?_ | refine zs4 ?_ | refine zs5 ?_); conv => whnf) | ((first | apply zi1 | apply zi2 | apply zi3 | apply zi4 | apply zi5) <;> intro _ <;> conv => whnf))
  refine VCode.lp (fun y : Nat × Bd => [(0, bds l), (3, .fp (encPf p)), (4, .ptr (.loc 0) 0), (5, .ptr (.loc 1) 0), (6, I y.1)]) (fun y => [.flat true [DI 0, DI 0, DI 0], .flat true (encBd y.2)]) (fun y => y.1 ≤ p.bs.length ∧ ((-100000000 * y.1 ≤ y.2.A ∧ y.2.A ≤ 100000000 * y.1) ∧ (-100000000 * y.1 ≤ y.2.B ∧ y.2.B ≤ 100000000 * y.1) ∧ (-100000000000 * y.1 ≤ y.2.C ∧ y.2.C ≤ 100000000000 * y.1)) ∧ E = sumG y.2 (p.ws.drop y.1) ((p.bs.map (bAt l)).drop y.1)) (fun y => p.bs.length - y.1) (0, ⟨0, 0, 0⟩) ⟨Nat.zero_le _, by dsimp only; omega, hE⟩ ?_ ?_
  · conv => whnf
    refine Retell.turn ⟨[1,2], 3, [(0, encPf p)], []⟩ (TurnOk.mk' _ _ [(0, encPf p)] [] (OutOk.lift _) rfl (by decide) zb zf trivial rfl) zv zm
  clear hE
  rintro ⟨k, s⟩ ⟨h1, h2, h3⟩
  dsimp only at h1 h2 h3
  conv => whnf
  repeat' (first | ((first | refine zs1 ?_ | refine zs2 ?_ | refine zs3 ?_ | refine zs4 ?_ | refine zs5 ?_); conv => whnf) | ((first | apply zi1 | apply zi2 | apply zi3 | apply zi4 | apply zi5) <;> intro _ <;> conv => whnf))
  · rename_i h5
    dsimp only at h5
    have hi : p.bs[k]? = some p.bs[k] := List.getElem?_eq_getElem (by omega)
    have hv : p.ws[k]? = some (p.ws[k]'(by omega)) := List.getElem?_eq_getElem _
    have si := hp.i p.bs[k] (List.getElem_mem (by omega))
    have sw := hp.w (p.ws[k]'(by omega)) (List.getElem_mem (by omega))
    have hm : (p.bs.map (bAt l))[k]? = some (bAt l p.bs[k]) := by rw [List.getElem?_map, hi]; rfl
    rw [sumG_at hv hm] at h3
    generalize p.bs[k] = i at *
    generalize p.ws[k]'(by omega) = w at *
    have hbk : l[i.toNat]? = some (l[i.toNat]'(by omega)) := List.getElem?_eq_getElem _
    have sb := hb (l[i.toNat]'(by omega)) (List.getElem_mem _)
    rw [bAt_get hbk] at h3
    generalize l[i.toNat]'(by omega) = b at hbk h3 sb
    have m1 := Clip.mulb (x := w) (y := b.A) (A := 1000000) (B := 50) (by omega) sb.a
    have m2 := Clip.mulb (x := w) (y := b.B) (A := 1000000) (B := 50) (by omega) sb.b'
    have m3 := Clip.mulb (x := w) (y := b.C) (A := 1000000) (B := 100000) (by omega) sb.c
    conv => whnf
    repeat' (first | ((first | refine zs1 ?_ | refine zs2 ?_ | refine zs3 ?_ | refine zs4 ?_ | refine zs5 ?_); conv => whnf) | ((first | apply zi1 | apply zi2 | apply zi3 | apply zi4 | apply zi5) <;> intro _ <;> conv => whnf) | (refine VAny.ix encI_len k rfl rfl hi ?_; conv => whnf) | (refine VAny.ix encBd_len i.toNat (by omega) rfl hbk ?_; conv => whnf))
    refine zs6 [] ?_
    conv => whnf
    repeat' (first | ((first | refine zs1 ?_ | refine zs2 ?_ | refine zs3 ?_ | refine zs4 ?_ | refine zs5 ?_); conv => whnf) | ((first | apply zi1 | apply zi2 | apply zi3 | apply zi4 | apply zi5) <;> intro _ <;> conv => whnf) | (refine VAny.ix encI_len k rfl rfl hv ?_; conv => whnf))
    refine LEnd.intro (k + 1, (⟨s.A + w * b.A, s.B + w * b.B, s.C + w * b.C⟩ : Bd)) ⟨by dsimp only; omega, by dsimp only; omega, h3⟩ (by dsimp only; omega) ?_
    conv => whnf
    refine Retell.turn ⟨[0,1], 3, [], []⟩ (TurnOk.mk' _ _ [] [] (OutOk.lift _) rfl (by decide) zb trivial trivial rfl) zv zm
  · rename_i h5
    rw [List.drop_of_length_le (by dsimp only at h5; omega), List.drop_of_length_le (by rw [List.length_map]; dsimp only at h5; omega), show sumG s [] [] = s from rfl] at h3
    subst h3
    conv => whnf
    repeat' (first | ((first | refine zs1 ?_ | refine zs2 ?_ | refine zs3 ?_ | refine zs4 ?_ | refine zs5 ?_); conv => whnf) | ((first | apply zi1 | apply zi2 | apply zi3 | apply zi4 | apply zi5) <;> intro _ <;> conv => whnf))
    exact VOut.same rfl
theorem vc_rProves (N : Nt) (p : Int) (to : Pn) (f : Pf) (h : Hp) (hn : N.ps.length ≤ 4000000) (hm : N.ss.length ≤ 4000000) (h1 : f.bs.length ≤ 4000000) (h2 : f.ws.length ≤ 4000000) : VC Tryz.prog 13 [vN N, I p, vPn to, vPf f] h (.tuple [vRt (prV N p to f), I (prE N p to f)]) h := by
  have c := fun h => vc_rPillar N p h hn hm
  have cT := fun h => vc_turnless to h
  obtain ⟨E, hE⟩ : ∃ E, E = prE N p to f := ⟨_, rfl⟩
  obtain ⟨R, hR⟩ : ∃ R, R = prV N p to f := ⟨_, rfl⟩
  rw [← hE, ← hR]
  unfold prV at hR
  rw [← hE] at hR
  unfold prE at hE
  by_cases b0 : brE N p = 0
  · have o := (brE_ok.1 b0).1
    rw [b0] at c
    rw [if_neg (by omega)] at hE
    cases ht : okD to
    · rw [ht] at cT hE
      rw [if_neg (by decide)] at hE
      subst hE
      rw [if_neg (by decide)] at hR
      subst hR
      refine VC.body Tryz.func13 rfl Tryz.ntmps13 Tryz.call13 (h.grows_refl) rfl ?_; conv => whnf
      repeat' (first | ((first | refine zs1 ?_ | refine zs2 ?_ | refine zs3 ?_ | refine zs4 ?_ | refine zs5 ?_ | refine zs6 [] ?_); conv => whnf) | ((first | apply zi1 | apply zi2 | apply zi3 | apply zi4 | apply zi5) <;> intro _ <;> conv => whnf) | (refine VCall.intro (c _) ?_; conv => whnf) | (refine VCall.intro (cT _) ?_; conv => whnf))
      all_goals first | (exact VOut.same rfl) | (exfalso; omega)
    · rw [ht] at cT hE
      rw [if_pos rfl] at hE
      have cB := fun h => vc_rbounds N p (-1) h o
      rw [bndK_none] at cB
      have hz := bnds_sz o p
      have hln := bnds_len o p
      have cG := fun h => vc_wrong f (bnds N p).length h (by omega) h1 h2
      generalize bnds N p = bs at *
      by_cases g0 : rgE f bs.length = 0
      · have go := rgE_ok.1 g0
        have cS := fun h => vc_rsum f bs h go hz
        have tz := totB_sz go hz
        have t0 := okD_iff.1 ht
        have ft := go.t
        have m1 := Clip.mulb (x := f.t) (y := to.x) (A := 1000000) (B := 50) (by omega) t0.2.1
        have m2 := Clip.mulb (x := f.t) (y := to.y) (A := 1000000) (B := 50) (by omega) t0.2.2
        rw [g0] at cG
        rw [if_neg (by omega)] at hE
        generalize totB bs f = s at *
        by_cases hbad : f.t < 1 ∨ ¬ (s.A = f.t * to.x ∧ s.B = f.t * to.y)
        · rw [if_pos hbad] at hE
          subst hE
          rw [if_neg (by decide)] at hR
          subst hR
          refine VC.body Tryz.func13 rfl Tryz.ntmps13 Tryz.call13 (h.grows_refl) rfl ?_; conv => whnf
          repeat' (first | ((first | refine zs1 ?_ | refine zs2 ?_ | refine zs3 ?_ | refine zs4 ?_ | refine zs5 ?_ | refine zs6 [] ?_); conv => whnf) | ((first | apply zi1 | apply zi2 | apply zi3 | apply zi4 | apply zi5) <;> intro _ <;> conv => whnf) | (refine VCall.intro (c _) ?_; conv => whnf) | (refine VCall.intro (cT _) ?_; conv => whnf) | (refine VCall.intro (cB _) ?_; conv => whnf) | (refine VCall.intro (cG _) ?_; conv => whnf) | (refine VCall.intro (cS _) ?_; conv => whnf))
          all_goals first | (exact VOut.same rfl) | (exfalso; omega)
        · rw [if_neg hbad] at hE
          subst hE
          rw [if_pos rfl] at hR
          subst hR
          have cQ := fun h => vc_low s.C f.t h (by omega) (by omega) (by omega)
          generalize red s.C f.t = Q at *
          refine VC.body Tryz.func13 rfl Tryz.ntmps13 Tryz.call13 (h.grows_refl) rfl ?_; conv => whnf
          repeat' (first | ((first | refine zs1 ?_ | refine zs2 ?_ | refine zs3 ?_ | refine zs4 ?_ | refine zs5 ?_ | refine zs6 [] ?_); conv => whnf) | ((first | apply zi1 | apply zi2 | apply zi3 | apply zi4 | apply zi5) <;> intro _ <;> conv => whnf) | (refine VCall.intro (c _) ?_; conv => whnf) | (refine VCall.intro (cT _) ?_; conv => whnf) | (refine VCall.intro (cB _) ?_; conv => whnf) | (refine VCall.intro (cG _) ?_; conv => whnf) | (refine VCall.intro (cS _) ?_; conv => whnf) | (refine VCall.intro (cQ _) ?_; conv => whnf))
          all_goals first | (exact VOut.same rfl) | (exfalso; omega)
      · rw [if_pos g0] at hE
        subst hE
        rw [if_neg g0] at hR
        subst hR
        generalize rgE f bs.length = G at *
        refine VC.body Tryz.func13 rfl Tryz.ntmps13 Tryz.call13 (h.grows_refl) rfl ?_; conv => whnf
        repeat' (first | ((first | refine zs1 ?_ | refine zs2 ?_ | refine zs3 ?_ | refine zs4 ?_ | refine zs5 ?_ | refine zs6 [] ?_); conv => whnf) | ((first | apply zi1 | apply zi2 | apply zi3 | apply zi4 | apply zi5) <;> intro _ <;> conv => whnf) | (refine VCall.intro (c _) ?_; conv => whnf) | (refine VCall.intro (cT _) ?_; conv => whnf) | (refine VCall.intro (cB _) ?_; conv => whnf) | (refine VCall.intro (cG _) ?_; conv => whnf))
        all_goals first | (exact VOut.same rfl) | (exfalso; omega)
  · rw [if_pos b0] at hE
    rw [hE, if_neg b0] at hR
    subst hR
    subst hE
    generalize brE N p = E at *
    refine VC.body Tryz.func13 rfl Tryz.ntmps13 Tryz.call13 (h.grows_refl) rfl ?_; conv => whnf
    repeat' (first | ((first | refine zs1 ?_ | refine zs2 ?_ | refine zs3 ?_ | refine zs4 ?_ | refine zs5 ?_ | refine zs6 [] ?_); conv => whnf) | ((first | apply zi1 | apply zi2 | apply zi3 | apply zi4 | apply zi5) <;> intro _ <;> conv => whnf) | (refine VCall.intro (c _) ?_; conv => whnf))
    all_goals first | (exact VOut.same rfl) | (exfalso; omega)
theorem vc_rRefutes (N : Nt) (p : Int) (f : Pf) (h : Hp) (hn : N.ps.length ≤ 4000000) (hm : N.ss.length ≤ 4000000) (h1 : f.bs.length ≤ 4000000) (h2 : f.ws.length ≤ 4000000) : VC Tryz.prog 16 [vN N, I p, vPf f] h (.tuple [B (rfB N p f), I (rfE N p f)]) h := by
  have c := fun h => vc_rPillar N p h hn hm
  obtain ⟨E, hE⟩ : ∃ E, E = rfE N p f := ⟨_, rfl⟩
  obtain ⟨R, hR⟩ : ∃ R, R = rfB N p f := ⟨_, rfl⟩
  rw [← hE, ← hR]
  unfold rfB at hR
  rw [← hE] at hR
  unfold rfE at hE
  by_cases b0 : brE N p = 0
  · have o := (brE_ok.1 b0).1
    rw [b0] at c
    rw [if_neg (by omega)] at hE
    have cB := fun h => vc_rbounds N p (-1) h o
    rw [bndK_none] at cB
    have hz := bnds_sz o p
    have hln := bnds_len o p
    have cG := fun h => vc_wrong f (bnds N p).length h (by omega) h1 h2
    generalize bnds N p = bs at *
    by_cases g0 : rgE f bs.length = 0
    · have go := rgE_ok.1 g0
      have cS := fun h => vc_rsum f bs h go hz
      rw [g0] at cG hE
      rw [hE, if_pos rfl] at hR
      subst hE
      generalize totB bs f = s at *
      subst hR
      refine VC.body Tryz.func16 rfl Tryz.ntmps16 Tryz.call16 (h.grows_refl) rfl ?_; conv => whnf
      repeat' (first | ((first | refine zs1 ?_ | refine zs2 ?_ | refine zs3 ?_ | refine zs4 ?_ | refine zs5 ?_ | refine zs6 [] ?_); conv => whnf) | ((first | apply zi1 | apply zi2 | apply zi3 | apply zi4 | apply zi5) <;> intro _ <;> conv => whnf) | (refine VCall.intro (c _) ?_; conv => whnf) | (refine VCall.intro (cB _) ?_; conv => whnf) | (refine VCall.intro (cG _) ?_; conv => whnf) | (refine VCall.intro (cS _) ?_; conv => whnf))
      · rw [show decide (f.t = 0 ∧ s.A = 0 ∧ s.B = 0 ∧ s.C < 0) = decide (s.C < 0) from decide_eq_decide.2 (by omega)]
        exact VOut.same rfl
      all_goals (rw [decide_eq_false (show ¬ (f.t = 0 ∧ s.A = 0 ∧ s.B = 0 ∧ s.C < 0) by omega)]
                 exact VOut.same rfl)
    · rw [hE, if_neg g0] at hR
      subst hR
      subst hE
      generalize rgE f bs.length = G at *
      refine VC.body Tryz.func16 rfl Tryz.ntmps16 Tryz.call16 (h.grows_refl) rfl ?_; conv => whnf
      repeat' (first | ((first | refine zs1 ?_ | refine zs2 ?_ | refine zs3 ?_ | refine zs4 ?_ | refine zs5 ?_ | refine zs6 [] ?_); conv => whnf) | ((first | apply zi1 | apply zi2 | apply zi3 | apply zi4 | apply zi5) <;> intro _ <;> conv => whnf) | (refine VCall.intro (c _) ?_; conv => whnf) | (refine VCall.intro (cB _) ?_; conv => whnf) | (refine VCall.intro (cG _) ?_; conv => whnf))
      all_goals first | (exact VOut.same rfl) | (exfalso; omega)
  · rw [if_pos b0] at hE
    rw [hE, if_neg b0] at hR
    subst hR
    subst hE
    generalize brE N p = E at *
    refine VC.body Tryz.func16 rfl Tryz.ntmps16 Tryz.call16 (h.grows_refl) rfl ?_; conv => whnf
    repeat' (first | ((first | refine zs1 ?_ | refine zs2 ?_ | refine zs3 ?_ | refine zs4 ?_ | refine zs5 ?_ | refine zs6 [] ?_); conv => whnf) | ((first | apply zi1 | apply zi2 | apply zi3 | apply zi4 | apply zi5) <;> intro _ <;> conv => whnf) | (refine VCall.intro (c _) ?_; conv => whnf))
    all_goals first | (exact VOut.same rfl) | (exfalso; omega)
end Go.Proofs.YtdlnjnfkbneibaaGreat

open Go.Vm
open Clip (Pn Sg Nt Bd Rt Sp Co Pl NtOk chk chk_ok bnds bnds_sz bnds_len bnds_sq regS BdSz SpSz okD okD_iff red pts cr2 w3n refB)
namespace Go.Proofs.YtdlnjnfkbneibaaGreat
set_option maxRecDepth 20000
set_option maxHeartbeats 4000000

/-! ### Three bounds that refute -/
def rfP (a b c : Bd) (i k m : Nat) : Pf := ⟨[(i : Int), (k : Int), (m : Int)], [(w3n a b c).1, (w3n a b c).2.1, (w3n a b c).2.2], 0⟩
def rfIn (l : List Bd) (i k : Nat) : Nat → Nat → Option Pf
  | _, 0 => none
  | m, n + 1 => if refB (bAt l i) (bAt l k) (bAt l m) = true then some (rfP (bAt l i) (bAt l k) (bAt l m) i k m) else rfIn l i k (m + 1) n
def rfX (l : List Bd) (i k : Nat) : Option Pf := if i < k then rfIn l i k (k + 1) (l.length - (k + 1)) else none
def rfGo (l : List Bd) : Nat → Option Pf
  | 0 => none
  | r + 1 => match rfGo l r with
    | some p => some p
    | none => if r / l.length ≤ r % l.length then rfX l (r / l.length) (r % l.length) else none
def rfS (l : List Bd) : Option Pf := rfGo l (l.length * l.length)
theorem rfGo_at {l : List Bd} {i k : Nat} (hk : k < l.length) (h : rfGo l (i * l.length + k) = none) : rfGo l (i * l.length + k + 1) = if i ≤ k then rfX l i k else none := by
  have h1 : (i * l.length + k) / l.length = i := by rw [Nat.mul_comm, Nat.mul_add_div (by omega), Nat.div_eq_of_lt hk, Nat.add_zero]
  have h2 : (i * l.length + k) % l.length = k := by rw [Nat.mul_comm, Nat.mul_add_mod, Nat.mod_eq_of_lt hk]
  rw [rfGo, h]
  dsimp only
  rw [h1, h2]
theorem rfGo_skip {l : List Bd} {r : Nat} (hy : prY l.length r = none) (h : rfGo l r = none) : rfGo l (r + 1) = none := by
  rw [rfGo, h]
  dsimp only
  unfold prY at hy
  split at hy
  · cases hy
  · rename_i h1; rw [if_neg h1]
theorem rfGo_keep {l : List Bd} {r : Nat} {x : Pf} (h : rfGo l r = some x) : ∀ n, rfGo l (r + n) = some x
  | 0 => h
  | n + 1 => by rw [← Nat.add_assoc, rfGo, rfGo_keep h n]
theorem vc_SCloneI (l : List Int) (h : Hp) (hl : l.length ≤ 4000000) (h0 : 0 < l.length) : VC Tryz.prog 105 [ints l] h (ints l) h := by
  refine VC.body Tryz.func105 rfl Tryz.ntmps105 Tryz.call105 (h.grows_refl) rfl ?_; conv => whnf
  repeat' (first | ((first | refine zs1 ?_ | refine zs2 ?_ | refine zs3 ?_ | refine zs4 ?_ | refine zs5 ?_ | refine zs6 [] ?_); conv => whnf) | ((first | apply zi1 | apply zi2 | apply zi3 | apply zi4 | apply zi5) <;> intro _ <;> conv => whnf))
  refine VMem.appN (l := []) (l2 := l) encI_len rfl rfl rfl rfl rfl (by simp only [List.length_nil]; omega) ?_
  rw [List.nil_append, Nat.zero_add]
  conv => whnf
  repeat' (first | ((first | refine zs1 ?_ | refine zs2 ?_ | refine zs3 ?_ | refine zs4 ?_ | refine zs5 ?_ | refine zs6 [] ?_); conv => whnf) | ((first | apply zi1 | apply zi2 | apply zi3 | apply zi4 | apply zi5) <;> intro _ <;> conv => whnf))
  rw [Nat.zero_add]
  refine VOut.data 2 [(1, l.flatMap encI)] [] rfl zf (by exact FmAll.nil) zv
structure RfJ (o : Vm.Id → Option Blk) (g : Hp) (x : List D) (m : Bool) : Prop where
  o : g.outer = o
  b0 : g.get (.loc 0) = some (.flat true [D.nilslice, D.nilslice, DI 0])
  b1 : g.get (.loc 1) = some (.flat true x)
  b2 : g.get (.loc 2) = some (.flat true [DB m])
  b3 : g.get (.loc 3) = some .mark
def encPo (x : Option Pf) : List D := match x with
  | none => [D.nilslice, D.nilslice, DI 0]
  | some p => encPf p
theorem ix30 {w0 w1 w2 : Int} {K : V → Prop} (hK : K (.fp [DI w0])) : VAny (IdxP 1 3 [DI w0, DI w1, DI w2] 0) K := VAny.ix (l := [w0, w1, w2]) encI_len 0 rfl rfl rfl hK
theorem ix31 {w0 w1 w2 : Int} {K : V → Prop} (hK : K (.fp [DI w1])) : VAny (IdxP 1 3 [DI w0, DI w1, DI w2] 1) K := VAny.ix (l := [w0, w1, w2]) encI_len 1 rfl rfl rfl hK
theorem ix32 {w0 w1 w2 : Int} {K : V → Prop} (hK : K (.fp [DI w2])) : VAny (IdxP 1 3 [DI w0, DI w1, DI w2] 2) K := VAny.ix (l := [w0, w1, w2]) encI_len 2 rfl rfl rfl hK
set_option profiler true in
set_option profiler.threshold 3000 in
theorem vc_refuted (l : List Bd) (h : Hp) (hl : l.length ≤ 1000) (hbz : ∀ b ∈ l, BdSz b) : VC Tryz.prog 62 [bds l] h (.tuple [.agg (D.vs (encPo (rfS l))), B (rfS l).isSome]) h := by
  have cp := fun h => vc_pairs l.length h
  refine VC.body Tryz.func62 rfl Tryz.ntmps62 Tryz.call62 (h.grows_refl) rfl ?_; conv => whnf
  repeat' (first | ((first | refine zs1 ?_ | refine zs2 ?_ | refine zs3 ?_ | refine zs4 ?_ | refine zs5 ?_); conv => whnf) | ((first | apply zi1 | apply zi2 | apply zi3 | apply zi4 | apply zi5) <;> intro _ <;> conv => whnf) | (refine VCall.intro (cp _) ?_; conv => whnf))
  refine VCode.tell [(1, .fp [dBds l]), (2, .ptr (.loc 0) 0), (4, .ptr (.loc 1) 0), (5, .ptr (.loc 2) 0), (15, vPrs l.length)] [.flat true [D.nilslice, D.nilslice, DI 0], .flat true [D.nilslice, D.nilslice, DI 0], .flat true [DB false]] (marks' := []) ?_ ?_
  · conv => whnf
    refine Retell.turn ⟨[1,2,3], 5, [(0, [dBds l])], []⟩ (TurnOk.mk' _ _ [(0, [dBds l])] [] (OutOk.lift _) rfl (by decide) zb zf trivial rfl) zv zm
  conv => whnf
  refine VCode.iterN (l.length * l.length) (prY l.length) (fun r g => RfJ h.lift g [D.nilslice, D.nilslice, DI 0] false ∧ rfGo l r = none) (fun e g => e = .exit 0 ∧ ∃ X, RfJ h.lift g (encPf X) true ∧ rfS l = some X) _ (.loc 4) rfl (iter_pairs l.length (by omega)) rfl rfl ⟨⟨rfl, rfl, rfl, rfl, rfl⟩, rfl⟩ ?_ ?_ ?_ ?_
  · rintro r g hr hy ⟨hJ, hR⟩
    exact ⟨hJ, rfGo_skip hy hR⟩
  · rintro r g vs hr hy ⟨⟨j0, jr, j1, j2, j3⟩, hR⟩ hlp
    obtain ⟨i, k, hik, hk, rfl, rfl⟩ := prY_some hr hy
    have hR1 := rfGo_at hk hR
    rw [if_pos hik] at hR1
    cases hX : rfX l i k with
    | none =>
      refine Rnd.go hlp g hlp ?_ ⟨⟨j0, jr, j1, j2, j3⟩, by rw [hR1, hX]⟩
      refine VRound.vy' hlp rfl rfl rfl g.grows_refl fun l0 => ?_
      refine VRound.tell [(1, .fp [dBds l]), (4, .ptr (.out (.loc 1)) 0), (5, .ptr (.out (.loc 2)) 0), (16, I i), (17, I k)] ?_ ?_
      · conv => whnf
        refine Retell.turn ⟨[], 0, [], []⟩ (TurnOk.mk' _ _ [] [] (OutOk.lift _) rfl (by decide) zb trivial trivial rfl) zv zm
      · conv => whnf
        repeat (first | ((first | refine zs1 ?_ | refine zs2 ?_ | refine zs3 ?_ | refine zs4 ?_ | refine zs5 ?_ | refine zs6 [] ?_); conv => whnf))
        refine VBegin.intro (get_out hlp _) rfl ?_
        conv => whnf
        repeat' (first | ((first | refine zs1 ?_ | refine zs2 ?_ | refine zs3 ?_ | refine zs4 ?_ | refine zs5 ?_); conv => whnf) | ((first | apply zi1 | apply zi2 | apply zi3 | apply zi4 | apply zi5) <;> intro _ <;> conv => whnf))
        unfold rfX at hX
        refine VCode.lpC 1 (fun m : Nat => [(1, .fp [dBds l]), (4, .ptr (.out (.loc 1)) 0), (5, .ptr (.out (.loc 2)) 0), (6, I i), (7, I k), (8, I m)]) (fun _ => []) (fun m => (k + 1 ≤ m ∧ m ≤ l.length) ∧ (i < k → rfIn l i k m (l.length - m) = none)) (fun m => l.length - m) (k + 1) ⟨⟨Nat.le_refl _, by omega⟩, fun hh => by rw [if_pos hh] at hX; exact hX⟩ ?_ ?_
        · conv => whnf
          refine Retell.turn ⟨[], 0, [], []⟩ (TurnOk.mk' _ _ [] [] (OutOk.outR (OutOk.lift _) (ren_busy hlp)) rfl (by decide) zb trivial trivial rfl) zv zm
        rintro m ⟨h1, h2⟩
        conv => whnf
        repeat' (first | ((first | refine zs1 ?_ | refine zs2 ?_ | refine zs3 ?_ | refine zs4 ?_ | refine zs5 ?_); conv => whnf) | ((first | apply zi1 | apply zi2 | apply zi3 | apply zi4 | apply zi5) <;> intro _ <;> conv => whnf))
        · rename_i h3 h4
          have ha : l[i]? = some (l[i]'(by omega)) := List.getElem?_eq_getElem _
          have hb : l[k]? = some (l[k]'(by omega)) := List.getElem?_eq_getElem _
          have hc : l[m]? = some (l[m]'(by omega)) := List.getElem?_eq_getElem _
          have ga : bAt l (i : Int) = l[i]'(by omega) := bAt_get (by rw [Int.toNat_natCast]; exact ha)
          have gb : bAt l (k : Int) = l[k]'(by omega) := bAt_get (by rw [Int.toNat_natCast]; exact hb)
          have gc : bAt l (m : Int) = l[m]'(by omega) := bAt_get (by rw [Int.toNat_natCast]; exact hc)
          have sa := hbz _ (List.getElem_mem (show i < l.length by omega))
          have sb := hbz _ (List.getElem_mem (show k < l.length by omega))
          have sc := hbz _ (List.getElem_mem (show m < l.length by omega))
          have h5 := h2 (by omega)
          rw [show l.length - m = (l.length - (m + 1)) + 1 by omega, rfIn, ga, gb, gc] at h5
          generalize l[i]'(by omega) = a at *
          generalize l[k]'(by omega) = b at *
          generalize l[m]'(by omega) = c at *
          have p1 := Clip.mulb (x := b.A) (y := c.B) (A := 50) (B := 50) sb.a sc.b'
          have p2 := Clip.mulb (x := b.B) (y := c.A) (A := 50) (B := 50) sb.b' sc.a
          have p3 := Clip.mulb (x := c.A) (y := a.B) (A := 50) (B := 50) sc.a sa.b'
          have p4 := Clip.mulb (x := c.B) (y := a.A) (A := 50) (B := 50) sc.b' sa.a
          have p5 := Clip.mulb (x := a.A) (y := b.B) (A := 50) (B := 50) sa.a sb.b'
          have p6 := Clip.mulb (x := a.B) (y := b.A) (A := 50) (B := 50) sa.b' sb.a
          obtain ⟨W, hW⟩ : ∃ W, W = w3n a b c := ⟨_, rfl⟩
          have hB : refB a b c = decide (¬ (W.1 < 0 ∨ W.2.1 < 0 ∨ W.2.2 < 0 ∨ 0 ≤ W.1 * a.C + W.2.1 * b.C + W.2.2 * c.C)) := by rw [hW]; rfl
          have hP : rfP a b c i k m = ⟨[(i : Int), (k : Int), (m : Int)], [W.1, W.2.1, W.2.2], 0⟩ := by rw [hW]; rfl
          unfold w3n cr2 at hW
          refine VCut.block 3 ?_
          conv => whnf
          refine zs6 [(4, 15), (7, 15), (8, 15), (11, 15), (8, 16), (11, 16)] ?_
          conv => whnf
          apply suffices_
          · intro hrest
            repeat' (first | ((first | refine zs1 ?_ | refine zs2 ?_ | refine zs3 ?_ | refine zs4 ?_ | refine zs5 ?_); conv => whnf) | ((first | apply zi1 | apply zi2 | apply zi3 | apply zi4 | apply zi5) <;> intro _ <;> conv => whnf) | (refine VAny.ix encBd_len i rfl rfl ha ?_; conv => whnf) | (refine VAny.ix encBd_len k rfl rfl hb ?_; conv => whnf) | (refine VAny.ix encBd_len m rfl rfl hc ?_; conv => whnf))
            all_goals refine VCut.at' (marks := []) 1 [(1, .fp [dBds l]), (4, .ptr (.out (.loc 1)) 0), (5, .ptr (.out (.loc 2)) 0), (6, I i), (7, I k), (8, I m), (9, .fp (encBd a)), (10, .fp (encBd b)), (11, .fp (encBd c)), (12, .fp [DI W.1, DI W.2.1, DI W.2.2])] [] ?_ hrest.out
            all_goals first
              | (have e : [DI W.1, DI W.2.1, DI W.2.2] = [DI (0 - (b.A * c.B - b.B * c.A)), DI (0 - (c.A * a.B - c.B * a.A)), DI (0 - (a.A * b.B - a.B * b.A))] := by rw [hW, if_pos (by omega)]; simp only [Int.zero_sub]
                 rw [e]
                 conv => whnf
                 refine Retell.turn ⟨[], 4, [(0, encBd a), (1, encBd b), (2, encBd c), (3, [DI (0 - (b.A * c.B - b.B * c.A)), DI (0 - (c.A * a.B - c.B * a.A)), DI (0 - (a.A * b.B - a.B * b.A))])], []⟩ (TurnOk.mk' _ _ [(0, encBd a), (1, encBd b), (2, encBd c), (3, [DI (0 - (b.A * c.B - b.B * c.A)), DI (0 - (c.A * a.B - c.B * a.A)), DI (0 - (a.A * b.B - a.B * b.A))])] [] (OutOk.outR (OutOk.lift _) (ren_busy hlp)) rfl (by decide) zb zf trivial rfl) zv zm
                 done)
              | (have e : [DI W.1, DI W.2.1, DI W.2.2] = [DI (b.A * c.B - b.B * c.A), DI (c.A * a.B - c.B * a.A), DI (a.A * b.B - a.B * b.A)] := by rw [hW, if_neg (by omega)]
                 rw [e]
                 conv => whnf
                 refine Retell.turn ⟨[], 4, [(0, encBd a), (1, encBd b), (2, encBd c), (3, [DI (b.A * c.B - b.B * c.A), DI (c.A * a.B - c.B * a.A), DI (a.A * b.B - a.B * b.A)])], []⟩ (TurnOk.mk' _ _ [(0, encBd a), (1, encBd b), (2, encBd c), (3, [DI (b.A * c.B - b.B * c.A), DI (c.A * a.B - c.B * a.A), DI (a.A * b.B - a.B * b.A)])] [] (OutOk.outR (OutOk.lift _) (ren_busy hlp)) rfl (by decide) zb zf trivial rfl) zv zm
                 done)
          · have wb : (-10000 ≤ W.1 ∧ W.1 ≤ 10000) ∧ (-10000 ≤ W.2.1 ∧ W.2.1 ≤ 10000) ∧ (-10000 ≤ W.2.2 ∧ W.2.2 ≤ 10000) := by
              rw [hW]; split <;> dsimp only <;> omega
            clear hW
            obtain ⟨w0, w1, w2⟩ := W
            dsimp only at hB hP wb ⊢
            rw [hB] at h5
            have cS := fun h => vc_sum [w0, w1, w2] [a, b, c] h rfl (by simp) (fun w hw => by simp only [List.mem_cons, List.not_mem_nil, or_false] at hw; omega) (fun x hx => by
              simp only [List.mem_cons, List.not_mem_nil, or_false] at hx
              rcases hx with rfl | rfl | rfl <;> assumption)
            have eS : (sumG ⟨0, 0, 0⟩ [w0, w1, w2] [a, b, c]).C = 0 + w0 * a.C + w1 * b.C + w2 * c.C := rfl
            generalize sumG ⟨0, 0, 0⟩ [w0, w1, w2] [a, b, c] = S at *
            conv => whnf
            refine zs6 [(14, 15), (14, 16), (14, 17)] ?_
            conv => whnf
            repeat' (first | ((first | refine zs1 ?_ | refine zs2 ?_ | refine zs3 ?_ | refine zs4 ?_ | refine zs5 ?_); conv => whnf) | ((first | apply zi1 | apply zi2 | apply zi3 | apply zi4 | apply zi5) <;> intro _ <;> conv => whnf) | (refine ix30 ?_; conv => whnf) | (refine ix31 ?_; conv => whnf) | (refine ix32 ?_; conv => whnf) | (refine VMem.sliceFp rfl rfl rfl rfl ?_; conv => whnf))
            all_goals try
              (refine VCall.intro (VC.give (args' := [ints [w0, w1, w2], bds [a, b, c]]) (loc' := [.dead]) [(0, [a, b, c].flatMap encBd)] [] (OutOk.outR (OutOk.lift _) (ren_busy hlp)) zb zf (by exact FmAll.nil) rfl zv (cS _)) ?_
               conv => whnf
               repeat' (first | ((first | refine zs1 ?_ | refine zs2 ?_ | refine zs3 ?_ | refine zs4 ?_ | refine zs5 ?_); conv => whnf) | ((first | apply zi1 | apply zi2 | apply zi3 | apply zi4 | apply zi5) <;> intro _ <;> conv => whnf)))
            all_goals first
              | (rw [if_neg (by rw [decide_eq_true_eq]; omega)] at h5
                 refine LEnd.intro (m + 1) ⟨by omega, fun _ => h5⟩ (by omega) ?_
                 conv => whnf
                 refine Retell.turn ⟨[], 9, [], []⟩ (TurnOk.mk' _ _ [] [] (OutOk.outR (OutOk.lift _) (ren_busy hlp)) rfl (by decide) zb trivial trivial rfl) zv zm
                 done)
              | (exfalso
                 rw [if_pos (by rw [decide_eq_true_eq]; omega)] at h5
                 cases h5)
        all_goals exact RFin.on (outW_get _ _ _ _) (VOut.back (get_out hlp []) rfl)
    | some X =>
      have n1 : g.get (.loc 1) ≠ none := by rw [j1]; simp
      have n2 : (g.set (.loc 1) (.flat true (encPf X))).get (.loc 2) ≠ none := by rw [Hp.get_set g _ _ _ n1, if_neg (by decide), j2]; simp
      have n4 : ((g.set (.loc 1) (.flat true (encPf X))).set (.loc 2) (.flat true [DB true])).get (.loc 4) ≠ none := by rw [Hp.get_set _ _ _ _ n2, if_neg (by decide), Hp.get_set g _ _ _ n1, if_neg (by decide), hlp]; simp
      refine Rnd.stop (.exit 0) rfl hlp ((g.set (.loc 1) (.flat true (encPf X))).set (.loc 2) (.flat true [DB true])) n4 ?_ ⟨rfl, X, ⟨j0, ?_, ?_, ?_, ?_⟩, ?_⟩
      rotate_left 1
      · rw [Hp.get_set _ _ _ _ n4, if_neg (by decide), Hp.get_set _ _ _ _ n2, if_neg (by decide), Hp.get_set g _ _ _ n1, if_neg (by decide), jr]
      · rw [Hp.get_set _ _ _ _ n4, if_neg (by decide), Hp.get_set _ _ _ _ n2, if_neg (by decide), Hp.get_set g _ _ _ n1, if_pos rfl]
      · rw [Hp.get_set _ _ _ _ n4, if_neg (by decide), Hp.get_set _ _ _ _ n2, if_pos rfl]
      · rw [Hp.get_set _ _ _ _ n4, if_neg (by decide), Hp.get_set _ _ _ _ n2, if_neg (by decide), Hp.get_set g _ _ _ n1, if_neg (by decide), j3]
      · have := rfGo_keep (hR1.trans hX) (l.length * l.length - (i * l.length + k + 1))
        rw [show i * l.length + k + 1 + (l.length * l.length - (i * l.length + k + 1)) = l.length * l.length by omega] at this
        exact this
      refine VRound.vy' hlp rfl rfl rfl grows_set3 fun l0 => ?_
      refine VRound.tell [(1, .fp [dBds l]), (4, .ptr (.out (.loc 1)) 0), (5, .ptr (.out (.loc 2)) 0), (16, I i), (17, I k)] ?_ ?_
      · conv => whnf
        refine Retell.turn ⟨[], 0, [], []⟩ (TurnOk.mk' _ _ [] [] (OutOk.lift _) rfl (by decide) zb trivial trivial rfl) zv zm
      · conv => whnf
        repeat (first | ((first | refine zs1 ?_ | refine zs2 ?_ | refine zs3 ?_ | refine zs4 ?_ | refine zs5 ?_ | refine zs6 [] ?_); conv => whnf))
        refine VBegin.intro (get_out hlp _) rfl ?_
        conv => whnf
        repeat' (first | ((first | refine zs1 ?_ | refine zs2 ?_ | refine zs3 ?_ | refine zs4 ?_ | refine zs5 ?_); conv => whnf) | ((first | apply zi1 | apply zi2 | apply zi3 | apply zi4 | apply zi5) <;> intro _ <;> conv => whnf))
        unfold rfX at hX
        refine VCode.lpC 1 (fun m : Nat => [(1, .fp [dBds l]), (4, .ptr (.out (.loc 1)) 0), (5, .ptr (.out (.loc 2)) 0), (6, I i), (7, I k), (8, I m)]) (fun _ => []) (fun m => (k + 1 ≤ m ∧ m ≤ l.length) ∧ (i < k → rfIn l i k m (l.length - m) = some X)) (fun m => l.length - m) (k + 1) ⟨⟨Nat.le_refl _, by omega⟩, fun hh => by rw [if_pos hh] at hX; exact hX⟩ ?_ ?_
        · conv => whnf
          refine Retell.turn ⟨[], 0, [], []⟩ (TurnOk.mk' _ _ [] [] (OutOk.outR (OutOk.lift _) (ren_busy hlp)) rfl (by decide) zb trivial trivial rfl) zv zm
        rintro m ⟨h1, h2⟩
        conv => whnf
        repeat' (first | ((first | refine zs1 ?_ | refine zs2 ?_ | refine zs3 ?_ | refine zs4 ?_ | refine zs5 ?_); conv => whnf) | ((first | apply zi1 | apply zi2 | apply zi3 | apply zi4 | apply zi5) <;> intro _ <;> conv => whnf))
        · rename_i h3 h4
          have ha : l[i]? = some (l[i]'(by omega)) := List.getElem?_eq_getElem _
          have hb : l[k]? = some (l[k]'(by omega)) := List.getElem?_eq_getElem _
          have hc : l[m]? = some (l[m]'(by omega)) := List.getElem?_eq_getElem _
          have ga : bAt l (i : Int) = l[i]'(by omega) := bAt_get (by rw [Int.toNat_natCast]; exact ha)
          have gb : bAt l (k : Int) = l[k]'(by omega) := bAt_get (by rw [Int.toNat_natCast]; exact hb)
          have gc : bAt l (m : Int) = l[m]'(by omega) := bAt_get (by rw [Int.toNat_natCast]; exact hc)
          have sa := hbz _ (List.getElem_mem (show i < l.length by omega))
          have sb := hbz _ (List.getElem_mem (show k < l.length by omega))
          have sc := hbz _ (List.getElem_mem (show m < l.length by omega))
          have h5 := h2 (by omega)
          rw [show l.length - m = (l.length - (m + 1)) + 1 by omega, rfIn, ga, gb, gc] at h5
          generalize l[i]'(by omega) = a at *
          generalize l[k]'(by omega) = b at *
          generalize l[m]'(by omega) = c at *
          have p1 := Clip.mulb (x := b.A) (y := c.B) (A := 50) (B := 50) sb.a sc.b'
          have p2 := Clip.mulb (x := b.B) (y := c.A) (A := 50) (B := 50) sb.b' sc.a
          have p3 := Clip.mulb (x := c.A) (y := a.B) (A := 50) (B := 50) sc.a sa.b'
          have p4 := Clip.mulb (x := c.B) (y := a.A) (A := 50) (B := 50) sc.b' sa.a
          have p5 := Clip.mulb (x := a.A) (y := b.B) (A := 50) (B := 50) sa.a sb.b'
          have p6 := Clip.mulb (x := a.B) (y := b.A) (A := 50) (B := 50) sa.b' sb.a
          obtain ⟨W, hW⟩ : ∃ W, W = w3n a b c := ⟨_, rfl⟩
          have hB : refB a b c = decide (¬ (W.1 < 0 ∨ W.2.1 < 0 ∨ W.2.2 < 0 ∨ 0 ≤ W.1 * a.C + W.2.1 * b.C + W.2.2 * c.C)) := by rw [hW]; rfl
          have hP : rfP a b c i k m = ⟨[(i : Int), (k : Int), (m : Int)], [W.1, W.2.1, W.2.2], 0⟩ := by rw [hW]; rfl
          unfold w3n cr2 at hW
          refine VCut.block 3 ?_
          conv => whnf
          refine zs6 [(4, 15), (7, 15), (8, 15), (11, 15), (8, 16), (11, 16)] ?_
          conv => whnf
          apply suffices_
          · intro hrest
            repeat' (first | ((first | refine zs1 ?_ | refine zs2 ?_ | refine zs3 ?_ | refine zs4 ?_ | refine zs5 ?_); conv => whnf) | ((first | apply zi1 | apply zi2 | apply zi3 | apply zi4 | apply zi5) <;> intro _ <;> conv => whnf) | (refine VAny.ix encBd_len i rfl rfl ha ?_; conv => whnf) | (refine VAny.ix encBd_len k rfl rfl hb ?_; conv => whnf) | (refine VAny.ix encBd_len m rfl rfl hc ?_; conv => whnf))
            all_goals refine VCut.at' (marks := []) 1 [(1, .fp [dBds l]), (4, .ptr (.out (.loc 1)) 0), (5, .ptr (.out (.loc 2)) 0), (6, I i), (7, I k), (8, I m), (9, .fp (encBd a)), (10, .fp (encBd b)), (11, .fp (encBd c)), (12, .fp [DI W.1, DI W.2.1, DI W.2.2])] [] ?_ hrest.out
            all_goals first
              | (have e : [DI W.1, DI W.2.1, DI W.2.2] = [DI (0 - (b.A * c.B - b.B * c.A)), DI (0 - (c.A * a.B - c.B * a.A)), DI (0 - (a.A * b.B - a.B * b.A))] := by rw [hW, if_pos (by omega)]; simp only [Int.zero_sub]
                 rw [e]
                 conv => whnf
                 refine Retell.turn ⟨[], 4, [(0, encBd a), (1, encBd b), (2, encBd c), (3, [DI (0 - (b.A * c.B - b.B * c.A)), DI (0 - (c.A * a.B - c.B * a.A)), DI (0 - (a.A * b.B - a.B * b.A))])], []⟩ (TurnOk.mk' _ _ [(0, encBd a), (1, encBd b), (2, encBd c), (3, [DI (0 - (b.A * c.B - b.B * c.A)), DI (0 - (c.A * a.B - c.B * a.A)), DI (0 - (a.A * b.B - a.B * b.A))])] [] (OutOk.outR (OutOk.lift _) (ren_busy hlp)) rfl (by decide) zb zf trivial rfl) zv zm
                 done)
              | (have e : [DI W.1, DI W.2.1, DI W.2.2] = [DI (b.A * c.B - b.B * c.A), DI (c.A * a.B - c.B * a.A), DI (a.A * b.B - a.B * b.A)] := by rw [hW, if_neg (by omega)]
                 rw [e]
                 conv => whnf
                 refine Retell.turn ⟨[], 4, [(0, encBd a), (1, encBd b), (2, encBd c), (3, [DI (b.A * c.B - b.B * c.A), DI (c.A * a.B - c.B * a.A), DI (a.A * b.B - a.B * b.A)])], []⟩ (TurnOk.mk' _ _ [(0, encBd a), (1, encBd b), (2, encBd c), (3, [DI (b.A * c.B - b.B * c.A), DI (c.A * a.B - c.B * a.A), DI (a.A * b.B - a.B * b.A)])] [] (OutOk.outR (OutOk.lift _) (ren_busy hlp)) rfl (by decide) zb zf trivial rfl) zv zm
                 done)
          · have wb : (-10000 ≤ W.1 ∧ W.1 ≤ 10000) ∧ (-10000 ≤ W.2.1 ∧ W.2.1 ≤ 10000) ∧ (-10000 ≤ W.2.2 ∧ W.2.2 ≤ 10000) := by
              rw [hW]; split <;> dsimp only <;> omega
            clear hW
            obtain ⟨w0, w1, w2⟩ := W
            dsimp only at hB hP wb ⊢
            rw [hB] at h5
            have cS := fun h => vc_sum [w0, w1, w2] [a, b, c] h rfl (by simp) (fun w hw => by simp only [List.mem_cons, List.not_mem_nil, or_false] at hw; omega) (fun x hx => by
              simp only [List.mem_cons, List.not_mem_nil, or_false] at hx
              rcases hx with rfl | rfl | rfl <;> assumption)
            have eS : (sumG ⟨0, 0, 0⟩ [w0, w1, w2] [a, b, c]).C = 0 + w0 * a.C + w1 * b.C + w2 * c.C := rfl
            generalize sumG ⟨0, 0, 0⟩ [w0, w1, w2] [a, b, c] = S at *
            conv => whnf
            refine zs6 [(14, 15), (14, 16), (14, 17)] ?_
            conv => whnf
            repeat' (first | ((first | refine zs1 ?_ | refine zs2 ?_ | refine zs3 ?_ | refine zs4 ?_ | refine zs5 ?_); conv => whnf) | ((first | apply zi1 | apply zi2 | apply zi3 | apply zi4 | apply zi5) <;> intro _ <;> conv => whnf) | (refine ix30 ?_; conv => whnf) | (refine ix31 ?_; conv => whnf) | (refine ix32 ?_; conv => whnf) | (refine VMem.sliceFp rfl rfl rfl rfl ?_; conv => whnf))
            all_goals try
              (refine VCall.intro (VC.give (args' := [ints [w0, w1, w2], bds [a, b, c]]) (loc' := [.dead]) [(0, [a, b, c].flatMap encBd)] [] (OutOk.outR (OutOk.lift _) (ren_busy hlp)) zb zf (by exact FmAll.nil) rfl zv (cS _)) ?_
               conv => whnf
               repeat' (first | ((first | refine zs1 ?_ | refine zs2 ?_ | refine zs3 ?_ | refine zs4 ?_ | refine zs5 ?_); conv => whnf) | ((first | apply zi1 | apply zi2 | apply zi3 | apply zi4 | apply zi5) <;> intro _ <;> conv => whnf)))
            all_goals first
              | (rw [if_neg (by rw [decide_eq_true_eq]; omega)] at h5
                 refine LEnd.intro (m + 1) ⟨by omega, fun _ => h5⟩ (by omega) ?_
                 conv => whnf
                 refine Retell.turn ⟨[], 9, [], []⟩ (TurnOk.mk' _ _ [] [] (OutOk.outR (OutOk.lift _) (ren_busy hlp)) rfl (by decide) zb trivial trivial rfl) zv zm
                 done)
              | skip
            rw [if_pos (by rw [decide_eq_true_eq]; omega), hP] at h5
            have eX := (Option.some.inj h5).symm
            clear h5 hP
            subst eX
            have cL := fun h => vc_SCloneI [w0, w1, w2] h (by simp) (by simp)
            refine VCut.region 6 ?_
            conv => whnf
            repeat' (first | ((first | refine zs1 ?_ | refine zs2 ?_ | refine zs3 ?_ | refine zs4 ?_ | refine zs5 ?_); conv => whnf) | ((first | apply zi1 | apply zi2 | apply zi3 | apply zi4 | apply zi5) <;> intro _ <;> conv => whnf) | (refine VMem.sliceFp rfl rfl rfl rfl ?_; conv => whnf) | (refine VCall.intro (cL _) ?_; conv => whnf))
            refine RCut.at [(4, .ptr (.out (.loc 1)) 0), (5, .ptr (.out (.loc 2)) 0), (126, ints [(i : Int), (k : Int), (m : Int)]), (128, ints [w0, w1, w2])] [] (marks' := []) ?_ ?_
            · conv => whnf
              refine Retell.turn ⟨[], 9, [(1, [DI i, DI k, DI m])], []⟩ (TurnOk.mk' _ _ [(1, [DI i, DI k, DI m])] [] (OutOk.outR (OutOk.lift _) (ren_busy hlp)) rfl (by decide) zb zf trivial rfl) zv zm
            · conv => whnf
              repeat' (first | ((first | refine zs1 ?_ | refine zs2 ?_ | refine zs3 ?_ | refine zs4 ?_ | refine zs5 ?_); conv => whnf) | ((first | apply zi1 | apply zi2 | apply zi3 | apply zi4 | apply zi5) <;> intro _ <;> conv => whnf) | (refine VMem.st3 rfl rfl rfl (get_outNe (by decide) (get_out j1 _)) rfl rfl rfl ?_; conv => whnf) | (refine VMem.st1 rfl rfl rfl (get_outNe (by decide) (get_outNe (by decide) (get_out j2 _))) rfl ?_; conv => whnf))
              refine RFin.off rfl (get_outNe (by decide) (get_outNe (by decide) (outW_get _ _ _ _))) (VOut.liftS ?_ grows_set3)
              rw [lift_set n4, lift_set n2, lift_set n1]
              exact outW_two (by decide) (by decide)
        all_goals
          exfalso
          rcases Nat.lt_or_ge i k with hh | hh
          · have := h2 hh
            have e0 : l.length - m = 0 := by omega
            rw [e0, rfIn] at this
            cases this
          · rw [if_neg (by omega)] at hX
            cases hX
  · rintro g ⟨⟨j0, jr, j1, j2, j3⟩, hR⟩ hlp
    rw [show rfS l = none from hR]
    clear hR
    obtain ⟨go, gl⟩ := g
    dsimp only at j0
    subst j0
    have jr : gl[0]? = some _ := jr
    have j1 : gl[1]? = some _ := j1
    have j2 : gl[2]? = some _ := j2
    have j3 : gl[3]? = some _ := j3
    have l0 := (List.getElem?_eq_some_iff.1 jr).1
    have l1 := (List.getElem?_eq_some_iff.1 j1).1
    have l2 := (List.getElem?_eq_some_iff.1 j2).1
    have key : ∀ (x : Nat) (A : Blk), x ≠ 4 → (gl.set 4 A)[x]? = gl[x]? := fun x A hx => List.getElem?_set_ne (Ne.symm hx)
    refine Told.mk [(2, .ptr (.loc 0) 0), (4, .ptr (.loc 1) 0), (5, .ptr (.loc 2) 0)] [.flat true [D.nilslice, D.nilslice, DI 0], .flat true [D.nilslice, D.nilslice, DI 0], .flat true [DB false]] (marks' := []) ?_ ?_
    · conv => whnf
      refine Retell.turn ⟨[0, 1, 2], gl.length, [], []⟩ (TurnOk.mk' _ _ [] [] (OutOk.lift _) (Nat.ble_eq_true_of_le (by simp)) (by decide)
        (BTos.flat (blt_of l0) ((key 0 _ (by omega)).trans jr) rfl (BTos.flat (blt_of l1) ((key 1 _ (by omega)).trans j1) rfl (BTos.flat (blt_of l2) ((key 2 _ (by omega)).trans j2) rfl BTos.nil))) trivial trivial rfl) zv
        (MkTo.drop (show 3 ∉ ([0, 1, 2] : List Nat) by decide) ((key 3 _ (by omega)).trans j3) MkTo.nil)
    · conv => whnf
      repeat' (first | ((first | refine zs1 ?_ | refine zs2 ?_ | refine zs3 ?_ | refine zs4 ?_ | refine zs5 ?_ | refine zs6 [(1, 2)] ?_); conv => whnf) | ((first | apply zi1 | apply zi2 | apply zi3 | apply zi4 | apply zi5) <;> intro _ <;> conv => whnf))
      exact VOut.same rfl
  · rintro e g _ ⟨rfl, X, ⟨j0, jr, j1, j2, j3⟩, hR⟩ hlp
    rw [hR]
    clear hR
    obtain ⟨go, gl⟩ := g
    dsimp only at j0
    subst j0
    have jr : gl[0]? = some _ := jr
    have j1 : gl[1]? = some _ := j1
    have j2 : gl[2]? = some _ := j2
    have j3 : gl[3]? = some _ := j3
    have l0 := (List.getElem?_eq_some_iff.1 jr).1
    have l1 := (List.getElem?_eq_some_iff.1 j1).1
    have l2 := (List.getElem?_eq_some_iff.1 j2).1
    have key : ∀ (x : Nat) (A : Blk), x ≠ 4 → (gl.set 4 A)[x]? = gl[x]? := fun x A hx => List.getElem?_set_ne (Ne.symm hx)
    refine Told.mk [(2, .ptr (.loc 0) 0), (4, .ptr (.loc 1) 0), (5, .ptr (.loc 2) 0)] [.flat true [D.nilslice, D.nilslice, DI 0], .flat true (encPf X), .flat true [DB true]] (marks' := []) ?_ ?_
    · conv => whnf
      refine Retell.turn ⟨[0, 1, 2], gl.length, [], []⟩ (TurnOk.mk' _ _ [] [] (OutOk.lift _) (Nat.ble_eq_true_of_le (by simp)) (by decide)
        (BTos.flat (blt_of l0) ((key 0 _ (by omega)).trans jr) rfl (BTos.flat (blt_of l1) ((key 1 _ (by omega)).trans j1) rfl (BTos.flat (blt_of l2) ((key 2 _ (by omega)).trans j2) rfl BTos.nil))) trivial trivial rfl) zv
        (MkTo.drop (show 3 ∉ ([0, 1, 2] : List Nat) by decide) ((key 3 _ (by omega)).trans j3) MkTo.nil)
    · conv => whnf
      repeat' (first | ((first | refine zs1 ?_ | refine zs2 ?_ | refine zs3 ?_ | refine zs4 ?_ | refine zs5 ?_ | refine zs6 [(1, 2)] ?_); conv => whnf) | ((first | apply zi1 | apply zi2 | apply zi3 | apply zi4 | apply zi5) <;> intro _ <;> conv => whnf))
      exact VOut.same rfl
end Go.Proofs.YtdlnjnfkbneibaaGreat

open Go.Vm
open Clip (Pn Sg Nt Bd Rt Sp Co Pl NtOk chk chk_ok bnds bnds_sz bnds_len bnds_sq regS BdSz SpSz okD okD_iff red pts reg_pts bS)
namespace Go.Proofs.YtdlnjnfkbneibaaGreat
set_option maxRecDepth 20000
set_option maxHeartbeats 4000000

theorem bndK_er {N : Nt} {p : Int} {k : Nat} : bndK N p k = bnds (erN N k) p := by
  unfold bndK bnds erN
  have := bKs_erase (ps := N.ps) (p := p) (j := k) (k := 0) (l := N.ss)
  rw [Nat.zero_add] at this
  rw [this]
def clE (N : Nt) (p : Int) : Int := if brE N p ≠ 0 then brE N p else if regS (bnds N p) = [] then 0 else 7
theorem vc_Clashes (N : Nt) (p : Int) (h : Hp) (hn : N.ps.length ≤ 4000000) (hm : N.ss.length ≤ 4000000) : VC Tryz.prog 18 [vN N, I p] h (I (clE N p)) h := by
  have c := fun h => vc_rPillar N p h hn hm
  obtain ⟨E, hE⟩ : ∃ E, E = clE N p := ⟨_, rfl⟩
  rw [← hE]
  unfold clE at hE
  by_cases b0 : brE N p = 0
  · have o := (brE_ok.1 b0).1
    rw [b0] at c
    rw [if_neg (by omega)] at hE
    have cB := fun h => vc_rbounds N p (-1) h o
    rw [bndK_none] at cB
    have cR := fun h => vc_points (bnds N p) h (by have := bnds_len o p; omega) (bnds_sz o p)
    have e := reg_pts (bnds_sq N p) (bnds_sz o p)
    generalize bnds N p = bs at *
    generalize regS bs = R at *
    generalize pts bs = S at *
    refine VC.body Tryz.func18 rfl Tryz.ntmps18 Tryz.call18 (h.grows_refl) rfl ?_; conv => whnf
    repeat' (first | ((first | refine zs1 ?_ | refine zs2 ?_ | refine zs3 ?_ | refine zs4 ?_ | refine zs5 ?_ | refine zs6 [] ?_); conv => whnf) | ((first | apply zi1 | apply zi2 | apply zi3 | apply zi4 | apply zi5) <;> intro _ <;> conv => whnf) | (refine VCall.intro (c _) ?_; conv => whnf) | (refine VCall.intro (cB _) ?_; conv => whnf) | (refine VCall.intro (cR _) ?_; conv => whnf))
    · rename_i hS
      rw [if_neg (fun x => by rw [e.1 x] at hS; simp at hS)] at hE
      subst hE
      exact VOut.same rfl
    · rename_i hS
      rw [if_pos (e.2 (List.length_eq_zero_iff.1 (by omega)))] at hE
      subst hE
      exact VOut.same rfl
  · rw [if_pos b0] at hE
    subst hE
    generalize brE N p = E at *
    refine VC.body Tryz.func18 rfl Tryz.ntmps18 Tryz.call18 (h.grows_refl) rfl ?_; conv => whnf
    repeat' (first | ((first | refine zs1 ?_ | refine zs2 ?_ | refine zs3 ?_ | refine zs4 ?_ | refine zs5 ?_ | refine zs6 [] ?_); conv => whnf) | ((first | apply zi1 | apply zi2 | apply zi3 | apply zi4 | apply zi5) <;> intro _ <;> conv => whnf) | (refine VCall.intro (c _) ?_; conv => whnf))
    all_goals first | (exact VOut.same rfl) | (exfalso; omega)
theorem vc_rLoose (N : Nt) (p : Int) (h : Hp) (hn : N.ps.length ≤ 4000000) (hm : N.ss.length ≤ 4000000) : VC Tryz.prog 20 [vN N, I p] h (.tuple [ints (loL N p), I (loE N p)]) h := by
  have c := fun h => vc_rPillar N p h hn hm
  unfold loL
  by_cases h0 : loE N p = 0
  · obtain ⟨b0, hS⟩ := loE_ok.1 h0
    have o := (brE_ok.1 b0).1
    have om := o.m
    have cB := fun h => vc_rbounds N p (-1) h o
    rw [bndK_none] at cB
    have cR := fun h => vc_points (bnds N p) h (by have := bnds_len o p; omega) (bnds_sz o p)
    rw [(reg_pts (bnds_sq N p) (bnds_sz o p)).1 hS] at cR
    rw [b0] at c
    rw [if_pos h0, h0]
    obtain ⟨M, hM⟩ : ∃ M, M = looS N p 0 N.ss := ⟨_, rfl⟩
    rw [← hM]
    have hM : M = [] ++ looS N p 0 (N.ss.drop 0) := hM
    generalize bnds N p = bs at *
    refine VC.body Tryz.func20 rfl Tryz.ntmps20 Tryz.call20 (h.grows_refl) rfl ?_; conv => whnf
    repeat' (first | ((first | refine zs1 ?_ | refine zs2 ?_ | refine zs3 ?_ | refine zs4 ?_ | refine zs5 ?_); conv => whnf) | ((first | apply zi1 | apply zi2 | apply zi3 | apply zi4 | apply zi5) <;> intro _ <;> conv => whnf) | (refine VCall.intro (c _) ?_; conv => whnf) | (refine VCall.intro (cB _) ?_; conv => whnf) | (refine VCall.intro (cR _) ?_; conv => whnf))
    all_goals try (exfalso; simp at *; done)
    refine VCode.lp (fun y : Nat × List Int => [(1, I p), (2, .fp (encN N)), (4, .nilslice), (5, I 0), (7, .gl (.loc 0) 1 y.2.length), (8, I y.1)]) (fun y => [.flat true (y.2.flatMap encI)]) (fun y => y.1 ≤ N.ss.length ∧ y.2.length ≤ y.1 ∧ M = y.2 ++ looS N p y.1 (N.ss.drop y.1)) (fun y => N.ss.length - y.1) (0, []) ⟨Nat.zero_le _, Nat.le_refl _, hM⟩ ?_ ?_
    · conv => whnf
      refine Retell.turn ⟨[1], 1, [(0, encN N)], []⟩ (TurnOk.mk' _ _ [(0, encN N)] [] (OutOk.lift _) rfl (by decide) zb zf trivial rfl) zv zm
    clear hM
    rintro ⟨k, w⟩ ⟨h1, h2, h3⟩
    dsimp only at h1 h2 h3
    conv => whnf
    repeat' (first | ((first | refine zs1 ?_ | refine zs2 ?_ | refine zs3 ?_ | refine zs4 ?_ | refine zs5 ?_); conv => whnf) | ((first | apply zi1 | apply zi2 | apply zi3 | apply zi4 | apply zi5) <;> intro _ <;> conv => whnf))
    · rename_i h5
      dsimp only at h5
      have hk : N.ss[k]? = some N.ss[k] := List.getElem?_eq_getElem (by omega)
      rw [looS_at hk] at h3
      generalize N.ss[k] = s at hk h3
      have oe := erN_ok o k
      have cB2 := fun h => vc_rbounds N p k h o
      rw [bndK_er] at cB2
      have cR2 := fun h => vc_points (bnds (erN N k) p) h (by have := bnds_len oe p; omega) (bnds_sz oe p)
      have e := reg_pts (bnds_sq (erN N k) p) (bnds_sz oe p)
      have ec : (!decide (regS (bnds (erN N k) p) = [])) = decide ((0 : Int) < ((pts (bnds (erN N k) p)).length : Int)) := by
        rw [Bool.eq_iff_iff, Bool.not_eq_true', decide_eq_false_iff_not, decide_eq_true_eq, e]
        cases pts (bnds (erN N k) p) <;> simp
      rw [ec] at h3
      generalize bnds (erN N k) p = bs2 at *
      generalize pts bs2 = S at *
      by_cases hof : s.f = p ∨ s.t = p
      · rw [show ofS p s = true from decide_eq_true hof, Bool.true_and] at h3
        have hstep : ∀ (hS : (0 : Int) < (S.length : Int)), M = (w ++ [(k : Int)]) ++ looS N p (k + 1) (N.ss.drop (k + 1)) := fun hS => by
          rw [decide_eq_true hS, if_pos rfl] at h3
          rw [h3, List.append_assoc]; rfl
        have hskip : ∀ (hS : ¬ (0 : Int) < (S.length : Int)), M = w ++ looS N p (k + 1) (N.ss.drop (k + 1)) := fun hS => by
          rw [decide_eq_false hS, if_neg (by decide)] at h3
          exact h3
        clear h3
        conv => whnf
        repeat' (first | ((first | refine zs1 ?_ | refine zs2 ?_ | refine zs3 ?_ | refine zs4 ?_ | refine zs5 ?_); conv => whnf) | ((first | apply zi1 | apply zi2 | apply zi3 | apply zi4 | apply zi5) <;> intro _ <;> conv => whnf) | (refine VAny.ix encSg_len k rfl rfl hk ?_; conv => whnf) | (refine VCall.intro (cB2 _) ?_; conv => whnf) | (refine VCall.intro (cR2 _) ?_; conv => whnf))
        all_goals try (exfalso; omega)
        all_goals rename_i hS
        all_goals first
          | (have := hstep hS
             refine VMem.app1 (l := w) (k : Int) encI_len rfl rfl rfl rfl rfl (by omega) ?_
             conv => whnf
             repeat' (first | ((first | refine zs1 ?_ | refine zs2 ?_ | refine zs3 ?_ | refine zs4 ?_ | refine zs5 ?_); conv => whnf) | ((first | apply zi1 | apply zi2 | apply zi3 | apply zi4 | apply zi5) <;> intro _ <;> conv => whnf))
             refine LEnd.intro (k + 1, w ++ [(k : Int)]) ⟨by dsimp only; omega, by dsimp only; rw [List.length_append]; simp only [List.length_singleton]; omega, this⟩ (by dsimp only; omega) ?_
             conv => whnf
             rw [List.length_append]
             refine Retell.turn ⟨[2], 3, [], []⟩ (TurnOk.mk' _ _ [] [] (OutOk.lift _) rfl (by decide) zb trivial trivial rfl) zv zm
             done)
          | (refine LEnd.intro (k + 1, w) ⟨by dsimp only; omega, by dsimp only; omega, hskip hS⟩ (by dsimp only; omega) ?_
             conv => whnf
             refine Retell.turn ⟨[0], 2, [], []⟩ (TurnOk.mk' _ _ [] [] (OutOk.lift _) rfl (by decide) zb trivial trivial rfl) zv zm
             done)
      · rw [show ofS p s = false from decide_eq_false hof, Bool.false_and, if_neg (by decide)] at h3
        conv => whnf
        repeat' (first | ((first | refine zs1 ?_ | refine zs2 ?_ | refine zs3 ?_ | refine zs4 ?_ | refine zs5 ?_); conv => whnf) | ((first | apply zi1 | apply zi2 | apply zi3 | apply zi4 | apply zi5) <;> intro _ <;> conv => whnf) | (refine VAny.ix encSg_len k rfl rfl hk ?_; conv => whnf))
        all_goals try (exfalso; omega)
        refine LEnd.intro (k + 1, w) ⟨by dsimp only; omega, by dsimp only; omega, h3⟩ (by dsimp only; omega) ?_
        conv => whnf
        refine Retell.turn ⟨[0], 2, [], []⟩ (TurnOk.mk' _ _ [] [] (OutOk.lift _) rfl (by decide) zb trivial trivial rfl) zv zm
    · rename_i h5
      have hk3 : k = N.ss.length := by dsimp only at h5; omega
      subst hk3
      rw [List.drop_length, looS, List.append_nil] at h3
      subst h3
      conv => whnf
      repeat' (first | ((first | refine zs1 ?_ | refine zs2 ?_ | refine zs3 ?_ | refine zs4 ?_ | refine zs5 ?_ | refine zs6 [] ?_); conv => whnf) | ((first | apply zi1 | apply zi2 | apply zi3 | apply zi4 | apply zi5) <;> intro _ <;> conv => whnf))
      refine VOut.data 1 [(0, M.flatMap encI)] [] rfl zf (by exact FmAll.nil) zv
  · rw [if_neg h0]
    by_cases b0 : brE N p = 0
    · have o := (brE_ok.1 b0).1
      have hS : regS (bnds N p) ≠ [] := fun e => h0 (loE_ok.2 ⟨b0, e⟩)
      have e : loE N p = 10 := by unfold loE; rw [if_neg (by omega), if_neg hS]
      have cB := fun h => vc_rbounds N p (-1) h o
      rw [bndK_none] at cB
      have cR := fun h => vc_points (bnds N p) h (by have := bnds_len o p; omega) (bnds_sz o p)
      have hl := List.length_pos_iff.2 (fun x => hS ((reg_pts (bnds_sq N p) (bnds_sz o p)).2 x))
      rw [b0] at c
      rw [e]
      generalize bnds N p = bs at *
      generalize pts bs = S at *
      refine VC.body Tryz.func20 rfl Tryz.ntmps20 Tryz.call20 (h.grows_refl) rfl ?_; conv => whnf
      repeat' (first | ((first | refine zs1 ?_ | refine zs2 ?_ | refine zs3 ?_ | refine zs4 ?_ | refine zs5 ?_ | refine zs6 [] ?_); conv => whnf) | ((first | apply zi1 | apply zi2 | apply zi3 | apply zi4 | apply zi5) <;> intro _ <;> conv => whnf) | (refine VCall.intro (c _) ?_; conv => whnf) | (refine VCall.intro (cB _) ?_; conv => whnf) | (refine VCall.intro (cR _) ?_; conv => whnf))
      all_goals first | (refine VOut.data 1 [] [] rfl zf (by exact FmAll.nil) zv
                         done) | (exfalso; omega)
    · have e : loE N p = brE N p := by unfold loE; rw [if_pos b0]
      rw [e]
      generalize brE N p = E at *
      refine VC.body Tryz.func20 rfl Tryz.ntmps20 Tryz.call20 (h.grows_refl) rfl ?_; conv => whnf
      repeat' (first | ((first | refine zs1 ?_ | refine zs2 ?_ | refine zs3 ?_ | refine zs4 ?_ | refine zs5 ?_ | refine zs6 [] ?_); conv => whnf) | ((first | apply zi1 | apply zi2 | apply zi3 | apply zi4 | apply zi5) <;> intro _ <;> conv => whnf) | (refine VCall.intro (c _) ?_; conv => whnf))
      all_goals first | (exfalso; omega) | (refine VOut.data 1 [] [] rfl zf (by exact FmAll.nil) zv
                                            done)
end Go.Proofs.YtdlnjnfkbneibaaGreat

open Go.Vm
open Clip (Pn Sg Nt Bd Rt Sp Co Pl NtOk chk chk_ok bnds bnds_sz bnds_len bnds_sq regS BdSz SpSz okD okD_iff red pts cr2 w3n refB Ref ref_iff ref_idx reg_none Feas)
namespace Go.Proofs.YtdlnjnfkbneibaaGreat
set_option maxRecDepth 20000
set_option maxHeartbeats 4000000

theorem rfIn_some {l : List Bd} {i k : Nat} {X : Pf} : ∀ {n m : Nat}, rfIn l i k m n = some X → ∃ j : Nat, m ≤ j ∧ j < m + n ∧ refB (bAt l i) (bAt l k) (bAt l j) = true ∧ X = rfP (bAt l i) (bAt l k) (bAt l j) i k j
  | 0, m, h => by cases h
  | n + 1, m, h => by
    rw [rfIn] at h
    split at h
    · rename_i hr
      exact ⟨m, Nat.le_refl _, by omega, hr, (Option.some.inj h).symm⟩
    · obtain ⟨j, a, b, c, d⟩ := rfIn_some h
      exact ⟨j, by omega, by omega, c, d⟩
theorem rfIn_none {l : List Bd} {i k : Nat} : ∀ {n m : Nat}, rfIn l i k m n = none → ∀ j : Nat, m ≤ j → j < m + n → ¬ refB (bAt l i) (bAt l k) (bAt l j) = true
  | 0, m, h, j, h1, h2 => by omega
  | n + 1, m, h, j, h1, h2 => by
    rw [rfIn] at h
    split at h
    · cases h
    · rename_i hr
      rcases Nat.eq_or_lt_of_le h1 with e | e
      · subst e; exact hr
      · exact rfIn_none h j (by omega) (by omega)
theorem rfGo_some {l : List Bd} {X : Pf} : ∀ {r : Nat}, rfGo l r = some X → ∃ q, q < r ∧ rfX l (q / l.length) (q % l.length) = some X
  | 0, h => by cases h
  | r + 1, h => by
    rw [rfGo] at h
    split at h
    · rename_i p hp
      obtain ⟨q, a, b⟩ := rfGo_some (hp.trans h)
      exact ⟨q, by omega, b⟩
    · split at h
      · exact ⟨r, Nat.lt_succ_self _, h⟩
      · cases h
theorem rfGo_none {l : List Bd} : ∀ {r : Nat}, rfGo l r = none → ∀ q, q < r → q / l.length ≤ q % l.length → rfX l (q / l.length) (q % l.length) = none
  | 0, h, q, h1, _ => by omega
  | r + 1, h, q, h1, h2 => by
    rw [rfGo] at h
    split at h
    · cases h
    · rename_i hp
      rcases Nat.lt_succ_iff_lt_or_eq.1 h1 with e | e
      · exact rfGo_none hp q e h2
      · subst e; rw [if_pos h2] at h; exact h
theorem bAt_nat {l : List Bd} {j : Nat} {b : Bd} (h : l[j]? = some b) : bAt l (j : Int) = b := bAt_get (by rw [Int.toNat_natCast]; exact h)
structure RfOk (l : List Bd) (X : Pf) : Prop where
  g : RgOk X l.length
  t : X.t = 0
  a : (totB l X).A = 0
  b : (totB l X).B = 0
  c : (totB l X).C < 0
theorem w3n_zero (a b c : Bd) : (w3n a b c).1 * a.A + (w3n a b c).2.1 * b.A + (w3n a b c).2.2 * c.A = 0 ∧ (w3n a b c).1 * a.B + (w3n a b c).2.1 * b.B + (w3n a b c).2.2 * c.B = 0 := by
  unfold w3n cr2
  split <;> dsimp only <;> constructor <;> grind
theorem rfS_some {l : List Bd} {X : Pf} (hr : ∀ b ∈ l, BdSz b) (h : rfS l = some X) : RfOk l X := by
  obtain ⟨q, hq, hx⟩ := rfGo_some h
  have hn : 0 < l.length := by
    rcases Nat.eq_zero_or_pos l.length with e | e
    · rw [e] at hq; omega
    · exact e
  have h1 : q % l.length < l.length := Nat.mod_lt _ hn
  unfold rfX at hx
  split at hx
  · rename_i hik
    obtain ⟨j, a, b, c, rfl⟩ := rfIn_some hx
    generalize q / l.length = i at *
    generalize q % l.length = k at *
    have ei : l[i]? = some (l[i]'(by omega)) := List.getElem?_eq_getElem _
    have ek : l[k]? = some (l[k]'(by omega)) := List.getElem?_eq_getElem _
    have ej : l[j]? = some (l[j]'(by omega)) := List.getElem?_eq_getElem _
    have si := hr _ (List.getElem_mem (show i < l.length by omega))
    have sk := hr _ (List.getElem_mem (show k < l.length by omega))
    have sj := hr _ (List.getElem_mem (show j < l.length by omega))
    rw [bAt_nat ei, bAt_nat ek, bAt_nat ej] at c ⊢
    have gi := bAt_nat ei
    have gk := bAt_nat ek
    have gj := bAt_nat ej
    generalize l[i]'(by omega) = x at *
    generalize l[k]'(by omega) = y at *
    generalize l[j]'(by omega) = z at *
    have p1 := Clip.mulb (x := y.A) (y := z.B) (A := 50) (B := 50) sk.a sj.b'
    have p2 := Clip.mulb (x := y.B) (y := z.A) (A := 50) (B := 50) sk.b' sj.a
    have p3 := Clip.mulb (x := z.A) (y := x.B) (A := 50) (B := 50) sj.a si.b'
    have p4 := Clip.mulb (x := z.B) (y := x.A) (A := 50) (B := 50) sj.b' si.a
    have p5 := Clip.mulb (x := x.A) (y := y.B) (A := 50) (B := 50) si.a sk.b'
    have p6 := Clip.mulb (x := x.B) (y := y.A) (A := 50) (B := 50) si.b' sk.a
    have wb : ((w3n x y z).1 ≤ 10000) ∧ ((w3n x y z).2.1 ≤ 10000) ∧ ((w3n x y z).2.2 ≤ 10000) := by
      unfold w3n cr2
      split <;> dsimp only <;> omega
    have hc := c
    unfold refB at hc
    rw [decide_eq_true_eq] at hc
    obtain ⟨z1, z2⟩ := w3n_zero x y z
    have ht : totB l (rfP x y z i k j) = ⟨0 + (w3n x y z).1 * x.A + (w3n x y z).2.1 * y.A + (w3n x y z).2.2 * z.A, 0 + (w3n x y z).1 * x.B + (w3n x y z).2.1 * y.B + (w3n x y z).2.2 * z.B, 0 + (w3n x y z).1 * x.C + (w3n x y z).2.1 * y.C + (w3n x y z).2.2 * z.C⟩ := by
      unfold totB rfP
      simp only [List.map_cons, List.map_nil, gi, gk, gj, sumG]
    have hws : (rfP x y z i k j).ws = [(w3n x y z).1, (w3n x y z).2.1, (w3n x y z).2.2] := rfl
    generalize w3n x y z = w at *
    refine ⟨⟨by simp [rfP], rfl, ?_, ?_, ?_, by show (0 : Int) ≤ 0 ∧ (0 : Int) ≤ 1000000; omega⟩, rfl, by rw [ht]; dsimp only; omega, by rw [ht]; dsimp only; omega, by rw [ht]; dsimp only; omega⟩
    · intro e he
      simp only [rfP, List.mem_cons, List.not_mem_nil, or_false] at he
      omega
    · show (decide ((i : Int) < (k : Int)) && (decide ((k : Int) < (j : Int)) && true)) = true
      rw [decide_eq_true (by omega), decide_eq_true (by omega)]; rfl
    · intro e he
      rw [hws] at he
      simp only [List.mem_cons, List.not_mem_nil, or_false] at he
      rcases he with rfl | rfl | rfl <;> omega
  · cases hx
theorem rfS_none {l : List Bd} (hsq : ∀ b ∈ Clip.bsq, b ∈ l) (hr : ∀ b ∈ l, BdSz b) : rfS l = none ↔ regS l ≠ [] := by
  rw [Ne, reg_none hsq hr, Classical.not_not]
  constructor
  · intro h
    refine Classical.byContradiction fun hno => ?_
    obtain ⟨i, k, m, a, b, c, hik, hkm, ha, hb, hc, hR⟩ := ref_idx hsq hr hno
    have hk : k < l.length := (List.getElem?_eq_some_iff.1 hb).1
    have hm : m < l.length := (List.getElem?_eq_some_iff.1 hc).1
    have e1 : (i * l.length + k) / l.length = i := by rw [Nat.mul_comm, Nat.mul_add_div (by omega), Nat.div_eq_of_lt hk, Nat.add_zero]
    have e2 : (i * l.length + k) % l.length = k := by rw [Nat.mul_comm, Nat.mul_add_mod, Nat.mod_eq_of_lt hk]
    have hlt : i * l.length + k < l.length * l.length := by
      have := Nat.mul_le_mul_right l.length (show i + 1 ≤ l.length by omega)
      rw [Nat.succ_mul] at this
      omega
    have h1 := rfGo_none h (i * l.length + k) hlt (by rw [e1, e2]; omega)
    rw [e1, e2] at h1
    unfold rfX at h1
    rw [if_pos hik] at h1
    refine rfIn_none h1 m (by omega) (by omega) ?_
    rw [bAt_nat ha, bAt_nat hb, bAt_nat hc]
    exact ref_iff.2 hR
  · rintro ⟨q, hq⟩
    cases h : rfS l with
    | none => rfl
    | some X =>
      exfalso
      obtain ⟨r, hr1, hx⟩ := rfGo_some h
      have hn : 0 < l.length := by
        rcases Nat.eq_zero_or_pos l.length with e | e
        · rw [e] at hr1; omega
        · exact e
      have h1 : r % l.length < l.length := Nat.mod_lt _ hn
      unfold rfX at hx
      split at hx
      · rename_i hik
        obtain ⟨j, a, b, c, rfl⟩ := rfIn_some hx
        have ei : l[r / l.length]? = some (l[r / l.length]'(by omega)) := List.getElem?_eq_getElem _
        have ek : l[r % l.length]? = some (l[r % l.length]'(by omega)) := List.getElem?_eq_getElem _
        have ej : l[j]? = some (l[j]'(by omega)) := List.getElem?_eq_getElem _
        rw [bAt_nat ei, bAt_nat ek, bAt_nat ej] at c
        exact (ref_iff.1 c).not (List.getElem_mem _) (List.getElem_mem _) (List.getElem_mem _) hq
      · cases hx
def clP (N : Nt) (p : Int) : Option Pf := if brE N p = 0 then rfS (bnds N p) else none
theorem clP_ok {N : Nt} {p : Int} (h : clE N p = 0) : ∃ X, clP N p = some X ∧ RfOk (bnds N p) X ∧ brE N p = 0 := by
  unfold clE at h
  split at h
  · omega
  · rename_i b0
    have b0 := Classical.not_not.1 b0
    have o := (brE_ok.1 b0).1
    split at h
    · rename_i hS
      unfold clP
      rw [if_pos b0]
      cases hx : rfS (bnds N p) with
      | none => exact absurd hS ((rfS_none (bnds_sq N p) (bnds_sz o p)).1 hx)
      | some X => exact ⟨X, rfl, rfS_some (bnds_sz o p) hx, b0⟩
    · omega
theorem clP_no {N : Nt} {p : Int} (h : clE N p ≠ 0) : clP N p = none := by
  unfold clP
  split
  · rename_i b0
    have o := (brE_ok.1 b0).1
    unfold clE at h
    rw [if_neg (by omega)] at h
    split at h
    · omega
    · rename_i hS; exact (rfS_none (bnds_sq N p) (bnds_sz o p)).2 hS
  · rfl
theorem vc_Clash (N : Nt) (p : Int) (h : Hp) (hn : N.ps.length ≤ 4000000) (hm : N.ss.length ≤ 4000000) : VC Tryz.prog 17 [vN N, I p] h (.tuple [.agg (D.vs (encPo (clP N p))), I (clE N p)]) h := by
  have c := fun h => vc_begun N p h hn hm
  by_cases b0 : brE N p = 0
  · have o := (brE_ok.1 b0).1
    rw [b0] at c
    have cB := fun h => vc_bounds N p h o
    have cR := fun h => vc_refuted (bnds N p) h (by have := bnds_len o p; omega) (bnds_sz o p)
    have e := rfS_none (bnds_sq N p) (bnds_sz o p)
    have e1 : clP N p = rfS (bnds N p) := by unfold clP; rw [if_pos b0]
    have e2 : clE N p = if rfS (bnds N p) = none then 7 else 0 := by
      unfold clE
      rw [if_neg (by omega)]
      by_cases hS : regS (bnds N p) = []
      · rw [if_pos hS, if_neg (fun x => e.1 x hS)]
      · rw [if_neg hS, if_pos (e.2 hS)]
    rw [e1, e2]
    generalize bnds N p = bs at *
    generalize rfS bs = R at *
    cases R with
    | none =>
      rw [if_pos rfl]
      refine VC.body Tryz.func17 rfl Tryz.ntmps17 Tryz.call17 (h.grows_refl) rfl ?_; conv => whnf
      repeat' (first | ((first | refine zs1 ?_ | refine zs2 ?_ | refine zs3 ?_ | refine zs4 ?_ | refine zs5 ?_ | refine zs6 [] ?_); conv => whnf) | ((first | apply zi1 | apply zi2 | apply zi3 | apply zi4 | apply zi5) <;> intro _ <;> conv => whnf) | (refine VCall.intro (c _) ?_; conv => whnf) | (refine VCall.intro (cB _) ?_; conv => whnf) | (refine VCall.intro (cR _) ?_; conv => whnf))
      all_goals first | (exact VOut.same rfl) | (exfalso; omega)
    | some X =>
      rw [if_neg (by simp)]
      refine VC.body Tryz.func17 rfl Tryz.ntmps17 Tryz.call17 (h.grows_refl) rfl ?_; conv => whnf
      repeat' (first | ((first | refine zs1 ?_ | refine zs2 ?_ | refine zs3 ?_ | refine zs4 ?_ | refine zs5 ?_ | refine zs6 [] ?_); conv => whnf) | ((first | apply zi1 | apply zi2 | apply zi3 | apply zi4 | apply zi5) <;> intro _ <;> conv => whnf) | (refine VCall.intro (c _) ?_; conv => whnf) | (refine VCall.intro (cB _) ?_; conv => whnf) | (refine VCall.intro (cR _) ?_; conv => whnf))
      all_goals first | (exact VOut.same rfl) | (exfalso; omega)
  · have e1 : clP N p = none := by unfold clP; rw [if_neg b0]
    have e2 : clE N p = brE N p := by unfold clE; rw [if_pos b0]
    rw [e1, e2]
    generalize brE N p = E at *
    refine VC.body Tryz.func17 rfl Tryz.ntmps17 Tryz.call17 (h.grows_refl) rfl ?_; conv => whnf
    repeat' (first | ((first | refine zs1 ?_ | refine zs2 ?_ | refine zs3 ?_ | refine zs4 ?_ | refine zs5 ?_ | refine zs6 [] ?_); conv => whnf) | ((first | apply zi1 | apply zi2 | apply zi3 | apply zi4 | apply zi5) <;> intro _ <;> conv => whnf) | (refine VCall.intro (c _) ?_; conv => whnf))
    all_goals first | (exact VOut.same rfl) | (exfalso; omega)
end Go.Proofs.YtdlnjnfkbneibaaGreat

open Go.Vm
open Clip (Pn Sg Nt Bd Rt Sp Co Pl NtOk chk chk_ok bnds bnds_sz bnds_len bnds_sq regS BdSz SpSz okD okD_iff red pts)
namespace Go.Proofs.YtdlnjnfkbneibaaGreat
set_option maxRecDepth 20000
set_option maxHeartbeats 4000000

theorem loL_len (N : Nt) (p : Int) : (loL N p).length ≤ N.ss.length := by
  unfold loL
  split
  · exact looS_len _ _ _ _
  · simp
theorem vneS (a b : Int) : vaggeq Tryz.prog .neq 40 (.agg [I a, I b]) (.agg [I a, I b]) = some (B false) := by rw [vne70, decide_eq_false (by simp)]
theorem vc_SightProofs (N : Nt) (p : Int) (to : Pn) (f : Pf) (h : Hp) : VC Tryz.prog 3 [vN N, I p, vPn to, vPf f] h (B true) h := by
  have cL := fun h => vc_long N h
  obtain ⟨b, hb⟩ : ∃ b, b = longB N := ⟨_, rfl⟩
  rw [← hb] at cL
  by_cases hbig : b = true ∨ 6 < f.bs.length ∨ 6 < f.ws.length
  · refine VC.body Tryz.func3 rfl Tryz.ntmps3 Tryz.call3 (h.grows_refl) rfl ?_; conv => whnf
    repeat' (first | ((first | refine zs1 ?_ | refine zs2 ?_ | refine zs3 ?_ | refine zs4 ?_ | refine zs5 ?_); conv => whnf) | ((first | apply zi1 | apply zi2 | apply zi3 | apply zi4 | apply zi5) <;> intro _ <;> conv => whnf) | (refine VCall.intro (cL _) ?_; conv => whnf) | (refine VCall.intro (vc_awake _) ?_; conv => whnf))
    all_goals first | (exact VOut.same rfl) | (exfalso; simp_all; omega)
  · obtain rfl : b = false := by cases b <;> simp_all
    unfold longB at hb
    have hl : N.ps.length ≤ 13 ∧ N.ss.length ≤ 23 := by
      have := of_decide_eq_false hb.symm; omega
    have hf1 : f.bs.length ≤ 6 := by simp at hbig; omega
    have hf2 : f.ws.length ≤ 6 := by simp at hbig; omega
    clear hbig hb
    have c1 := fun h => vc_CloneNet N h (by omega) (by omega)
    have c2 := fun h => vc_Net N h (by omega) (by omega)
    have cb := fun h => vc_cloneI f.bs h (by omega)
    have cw := fun h => vc_cloneI f.ws h (by omega)
    have cp := fun h => vc_proof f h (by omega) (by omega)
    have c3 := fun h => vc_Proves N p to f h (by omega) (by omega) (by omega) (by omega)
    have c4 := fun h => vc_rProves N p to f h (by omega) (by omega) (by omega) (by omega)
    have c5 := fun h => vc_Refutes N p f h (by omega) (by omega) (by omega) (by omega)
    have c6 := fun h => vc_rRefutes N p f h (by omega) (by omega) (by omega) (by omega)
    have c7 := fun h => vc_Clash N p h (by omega) (by omega)
    have c8 := fun h => vc_Clashes N p h (by omega) (by omega)
    have c9 := fun h => vc_Loose N p h (by omega) (by omega)
    have c10 := fun h => vc_rLoose N p h (by omega) (by omega)
    have c13 := fun h => vc_equal N N h (by omega) (by omega) (by omega) (by omega)
    rw [decide_eq_true rfl, decide_eq_true rfl] at c13
    have lo := loL_len N p
    have e1 := fun h => vc_equalI (loL N p) (loL N p) h (by omega) (by omega)
    have e2 := fun h => vc_equalI f.bs f.bs h (by omega) (by omega)
    have e3 := fun h => vc_equalI f.ws f.ws h (by omega) (by omega)
    rw [decide_eq_true rfl] at e1 e2 e3
    generalize loL N p = L at *
    generalize loE N p = E4 at *
    generalize prV N p to f = V1 at *
    generalize prE N p to f = E1 at *
    generalize rfB N p f = B2 at *
    generalize rfE N p f = E2 at *
    by_cases h3 : clE N p = 0
    · obtain ⟨X, hX, hok, b0⟩ := clP_ok h3
      have hXb := hok.g.l
      have hXw := hok.g.m
      have cpX := fun h => vc_proof X h (by omega) (by omega)
      have cRX := fun h => vc_rRefutes N p X h (by omega) (by omega) (by omega) (by omega)
      have r1 : rfE N p X = 0 := by unfold rfE; rw [if_neg (by omega)]; exact rgE_ok.2 hok.g
      have r2 : rfB N p X = true := by unfold rfB; rw [if_pos r1]; exact decide_eq_true ⟨hok.t, hok.a, hok.b, hok.c⟩
      have ht := hok.t
      rw [r1, r2] at cRX
      rw [h3] at c7 c8
      rw [hX] at c7
      clear r1 r2 hok hX h3
      refine VC.bodyC 2 Tryz.func3 rfl Tryz.ntmps3 Tryz.call3 (h.grows_refl) rfl ?_; conv => whnf
      repeat' (first | ((first | refine zs1 ?_ | refine zs2 ?_ | refine zs3 ?_ | refine zs4 ?_ | refine zs5 ?_); conv => whnf) | ((first | apply zi1 | apply zi2 | apply zi3 | apply zi4 | apply zi5) <;> intro _ <;> conv => whnf) | (refine VCall.intro (cL _) ?_; conv => whnf))
      all_goals try (exfalso; first | omega | (rename_i hz; exact hz rfl))
      refine VCut.go 1 ?_
      conv => whnf
      refine zs6 [(1, 3), (1, 6), (4, 6), (1, 9), (4, 9), (7, 9), (1, 11), (4, 11), (7, 11), (9, 12), (9, 16)] ?_
      conv => whnf
      repeat' (first | ((first | refine zs1 ?_ | refine zs2 ?_ | refine zs3 ?_ | refine zs4 ?_ | refine zs5 ?_); conv => whnf) | ((first | apply zi1 | apply zi2 | apply zi3 | apply zi4 | apply zi5) <;> intro _ <;> conv => whnf) | (refine VCall.intro (c1 _) ?_; conv => whnf) | (refine VCall.intro (cb _) ?_; conv => whnf) | (refine VCall.intro (cw _) ?_; conv => whnf) | (refine VCall.intro (c2 _) ?_; conv => whnf))
      refine VCut.at' (outer := h.lift) (marks := []) 99 [(1, I p), (4, .fp (encN N)), (6, .fp (encPn to)), (7, .fp (encPf f)), (8, B false), (9, .fp (encN N)), (10, .fp (encPf f)), (11, .fp (encN N))] [] ?_ ?_
      · conv => whnf
        refine Retell.turn ⟨[], 6, [(0, encN N), (1, encPn to), (2, encPf f), (3, encN N), (4, encPf f), (5, encN N)], []⟩ (TurnOk.mk' _ _ [(0, encN N), (1, encPn to), (2, encPf f), (3, encN N), (4, encPf f), (5, encN N)] [] (OutOk.lift _) rfl (by decide) zb zf trivial rfl) zv zm
      conv => whnf
      repeat' (first | ((first | refine zs1 ?_ | refine zs2 ?_ | refine zs3 ?_ | refine zs4 ?_ | refine zs5 ?_); conv => whnf) | ((first | apply zi1 | apply zi2 | apply zi3 | apply zi4 | apply zi5) <;> intro _ <;> conv => whnf) | (refine VCall.intro (c3 _) ?_; conv => whnf))
      refine zs6 [(0, 4), (2, 4)] ?_
      conv => whnf
      repeat' (first | ((first | refine zs1 ?_ | refine zs2 ?_ | refine zs3 ?_ | refine zs4 ?_ | refine zs5 ?_); conv => whnf) | ((first | apply zi1 | apply zi2 | apply zi3 | apply zi4 | apply zi5) <;> intro _ <;> conv => whnf) | (refine VCall.intro (c4 _) ?_; conv => whnf) | (refine VCall.intro (cp _) ?_; conv => whnf) | (refine VCall.intro (c5 _) ?_; conv => whnf) | (refine VAgg.intro (vneS _ _) ?_; conv => whnf))
      all_goals try (exfalso; first | omega | (rename_i hz; exact hz rfl))
      refine zs6 [(0, 3)] ?_
      conv => whnf
      repeat' (first | ((first | refine zs1 ?_ | refine zs2 ?_ | refine zs3 ?_ | refine zs4 ?_ | refine zs5 ?_); conv => whnf) | ((first | apply zi1 | apply zi2 | apply zi3 | apply zi4 | apply zi5) <;> intro _ <;> conv => whnf) | (refine VCall.intro (c6 _) ?_; conv => whnf) | (refine VCall.intro (cp _) ?_; conv => whnf) | (refine VCall.intro (c7 _) ?_; conv => whnf) | (refine VCall.intro (c8 _) ?_; conv => whnf))
      all_goals try (exfalso; first | omega | (rename_i hz; exact hz rfl))
      refine zs6 [(0, 3)] ?_
      conv => whnf
      repeat' (first | ((first | refine zs1 ?_ | refine zs2 ?_ | refine zs3 ?_ | refine zs4 ?_ | refine zs5 ?_); conv => whnf) | ((first | apply zi1 | apply zi2 | apply zi3 | apply zi4 | apply zi5) <;> intro _ <;> conv => whnf) | (refine VCall.intro (cpX _) ?_; conv => whnf) | (refine VCall.intro (cRX _) ?_; conv => whnf) | (refine VCall.intro (c9 _) ?_; conv => whnf) | (refine VCall.intro (c10 _) ?_; conv => whnf) | (refine VCall.intro (c13 _) ?_; conv => whnf) | (refine VCall.intro (e1 _) ?_; conv => whnf) | (refine VCall.intro (e2 _) ?_; conv => whnf) | (refine VCall.intro (e3 _) ?_; conv => whnf) | (refine VCall.intro (vc_awake _) ?_; conv => whnf))
      all_goals first | (exact VOut.same rfl) | (exfalso; first | omega | (rename_i hz; exact hz rfl))
    · rw [clP_no h3] at c7
      generalize clE N p = E3 at *
      refine VC.bodyC 2 Tryz.func3 rfl Tryz.ntmps3 Tryz.call3 (h.grows_refl) rfl ?_; conv => whnf
      repeat' (first | ((first | refine zs1 ?_ | refine zs2 ?_ | refine zs3 ?_ | refine zs4 ?_ | refine zs5 ?_); conv => whnf) | ((first | apply zi1 | apply zi2 | apply zi3 | apply zi4 | apply zi5) <;> intro _ <;> conv => whnf) | (refine VCall.intro (cL _) ?_; conv => whnf))
      all_goals try (exfalso; first | omega | (rename_i hz; exact hz rfl))
      refine VCut.go 1 ?_
      conv => whnf
      refine zs6 [(1, 3), (1, 6), (4, 6), (1, 9), (4, 9), (7, 9), (1, 11), (4, 11), (7, 11), (9, 12), (9, 16)] ?_
      conv => whnf
      repeat' (first | ((first | refine zs1 ?_ | refine zs2 ?_ | refine zs3 ?_ | refine zs4 ?_ | refine zs5 ?_); conv => whnf) | ((first | apply zi1 | apply zi2 | apply zi3 | apply zi4 | apply zi5) <;> intro _ <;> conv => whnf) | (refine VCall.intro (c1 _) ?_; conv => whnf) | (refine VCall.intro (cb _) ?_; conv => whnf) | (refine VCall.intro (cw _) ?_; conv => whnf) | (refine VCall.intro (c2 _) ?_; conv => whnf))
      refine VCut.at' (outer := h.lift) (marks := []) 99 [(1, I p), (4, .fp (encN N)), (6, .fp (encPn to)), (7, .fp (encPf f)), (8, B false), (9, .fp (encN N)), (10, .fp (encPf f)), (11, .fp (encN N))] [] ?_ ?_
      · conv => whnf
        refine Retell.turn ⟨[], 6, [(0, encN N), (1, encPn to), (2, encPf f), (3, encN N), (4, encPf f), (5, encN N)], []⟩ (TurnOk.mk' _ _ [(0, encN N), (1, encPn to), (2, encPf f), (3, encN N), (4, encPf f), (5, encN N)] [] (OutOk.lift _) rfl (by decide) zb zf trivial rfl) zv zm
      conv => whnf
      repeat' (first | ((first | refine zs1 ?_ | refine zs2 ?_ | refine zs3 ?_ | refine zs4 ?_ | refine zs5 ?_); conv => whnf) | ((first | apply zi1 | apply zi2 | apply zi3 | apply zi4 | apply zi5) <;> intro _ <;> conv => whnf) | (refine VCall.intro (c3 _) ?_; conv => whnf))
      refine zs6 [(0, 4), (2, 4)] ?_
      conv => whnf
      repeat' (first | ((first | refine zs1 ?_ | refine zs2 ?_ | refine zs3 ?_ | refine zs4 ?_ | refine zs5 ?_); conv => whnf) | ((first | apply zi1 | apply zi2 | apply zi3 | apply zi4 | apply zi5) <;> intro _ <;> conv => whnf) | (refine VCall.intro (c4 _) ?_; conv => whnf) | (refine VCall.intro (cp _) ?_; conv => whnf) | (refine VCall.intro (c5 _) ?_; conv => whnf) | (refine VAgg.intro (vneS _ _) ?_; conv => whnf))
      all_goals try (exfalso; first | omega | (rename_i hz; exact hz rfl))
      refine zs6 [(0, 3)] ?_
      conv => whnf
      repeat' (first | ((first | refine zs1 ?_ | refine zs2 ?_ | refine zs3 ?_ | refine zs4 ?_ | refine zs5 ?_); conv => whnf) | ((first | apply zi1 | apply zi2 | apply zi3 | apply zi4 | apply zi5) <;> intro _ <;> conv => whnf) | (refine VCall.intro (c6 _) ?_; conv => whnf) | (refine VCall.intro (cp _) ?_; conv => whnf) | (refine VCall.intro (c7 _) ?_; conv => whnf) | (refine VCall.intro (c8 _) ?_; conv => whnf))
      all_goals try (exfalso; first | omega | (rename_i hz; exact hz rfl))
      repeat' (first | ((first | refine zs1 ?_ | refine zs2 ?_ | refine zs3 ?_ | refine zs4 ?_ | refine zs5 ?_); conv => whnf) | ((first | apply zi1 | apply zi2 | apply zi3 | apply zi4 | apply zi5) <;> intro _ <;> conv => whnf) | (refine VCall.intro (c9 _) ?_; conv => whnf) | (refine VCall.intro (c10 _) ?_; conv => whnf) | (refine VCall.intro (c13 _) ?_; conv => whnf) | (refine VCall.intro (e1 _) ?_; conv => whnf) | (refine VCall.intro (e2 _) ?_; conv => whnf) | (refine VCall.intro (e3 _) ?_; conv => whnf) | (refine VCall.intro (vc_awake _) ?_; conv => whnf))
      all_goals first | (exact VOut.same rfl) | (exfalso; omega)
end Go.Proofs.YtdlnjnfkbneibaaGreat

open Go.Vm
open Clip (Pn Sg Nt)
namespace Go.Proofs.YtdlnjnfkbneibaaGreat
open Go.ChangeShapes Go.WideShapes Go.ChangeAt Go.RowKit

def dP (p : Pn) : D := .agg (encPn p)
theorem openP : OpenV Tryz.prog 27 dP := OpenV.struct Tryz.underlying27 open60
theorem open28 : Opens Tryz.prog 28 (fun l : List Int => [dints l]) := Opens.slice Tryz.underlying28 encI_len (by kernel_rfl) (by decide) open3
theorem open30 : Opens Tryz.prog 30 encPf := (Opens.struct3 1 1 1 Tryz.underlying30 (by kernel_rfl) rfl rfl rfl (by kernel_rfl) (by kernel_rfl) (by kernel_rfl) open28 open28 open3).as (fun x => ⟨x.1, x.2.1, x.2.2⟩) encPf fun _ => rfl
def dF (p : Pf) : D := .agg (encPf p)
theorem openF : OpenV Tryz.prog 30 dF := OpenV.struct Tryz.underlying30 open30
end Go.Proofs.YtdlnjnfkbneibaaGreat


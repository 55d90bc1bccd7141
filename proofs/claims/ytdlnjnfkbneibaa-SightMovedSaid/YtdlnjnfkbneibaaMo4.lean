/- Part 4 of the proof that SightMoved returns true for every input. No condition. -/
import Derived.Test.YtdlnjnfkbneibaaMo3
set_option linter.unusedVariables false
set_option linter.unusedSimpArgs false
open Go.Vm
open Clip (Pn Sg Nt Bd Rt Sp Co Pl NtOk chk chk_ok bnds bnds_sz bnds_len bnds_sq regS BdSz SpSz okD okD_iff red)
namespace Go.Proofs.Ytdlnjnfkbneibaa
set_option maxRecDepth 20000
set_option maxHeartbeats 4000000

/-! ### Proofs -/
structure Pf where
  bs : List Int
  ws : List Int
  t : Int
def encPf (p : Pf) : List D := [dints p.bs, dints p.ws, DI p.t]
def vPf (p : Pf) : V := .agg [ints p.bs, ints p.ws, I p.t]
def dBds (l : List Bd) : D := .sl 3 l.length (l.flatMap encBd)
def sumG : Bd → List Int → List Bd → Bd
  | s, w :: ws, b :: bs => sumG ⟨s.A + w * b.A, s.B + w * b.B, s.C + w * b.C⟩ ws bs
  | s, _, _ => s
theorem sumG_at {s : Bd} {ws : List Int} {bs : List Bd} {k : Nat} {w : Int} {b : Bd} (hw : ws[k]? = some w) (hb : bs[k]? = some b) : sumG s (ws.drop k) (bs.drop k) = sumG ⟨s.A + w * b.A, s.B + w * b.B, s.C + w * b.C⟩ (ws.drop (k + 1)) (bs.drop (k + 1)) := by
  obtain ⟨h1, rfl⟩ := List.getElem?_eq_some_iff.1 hw
  obtain ⟨h2, rfl⟩ := List.getElem?_eq_some_iff.1 hb
  rw [List.drop_eq_getElem_cons h1, List.drop_eq_getElem_cons h2, sumG]
theorem vc_sum (ws : List Int) (bs : List Bd) (h : Hp) (hl : ws.length = bs.length) (hn : bs.length ≤ 1000) (hw : ∀ w ∈ ws, -1000000 ≤ w ∧ w ≤ 1000000) (hb : ∀ b ∈ bs, BdSz b) : VC Try.prog 115 [ints ws, bds bs] h (vBd (sumG ⟨0, 0, 0⟩ ws bs)) h := by
  obtain ⟨E, hE⟩ : ∃ E, E = sumG ⟨0, 0, 0⟩ ws bs := ⟨_, rfl⟩
  rw [← hE]
  have hE : E = sumG ⟨0, 0, 0⟩ (ws.drop 0) (bs.drop 0) := hE
  refine VC.body Try.func115 rfl Try.ntmps115 Try.call115 (h.grows_refl) rfl ?_; conv => whnf
  repeat' (first | ((first | refine zs1 ?_ | refine zs2 ?_ | refine zs3 ?_ | refine zs4 ?_ | refine zs5 ?_ | refine zs6 [] ?_); conv => whnf) | ((first | apply zi1 | apply zi2 | apply zi3 | apply zi4 | apply zi5) <;> intro _ <;> conv => whnf))
  refine VCode.lp (fun y : Nat × Bd => [(0, ints ws), (4, .ptr (.loc 0) 0), (5, .ptr (.loc 1) 0), (9, bds bs), (10, I bs.length), (11, I y.1)]) (fun y => [.flat true [DI 0, DI 0, DI 0], .flat true (encBd y.2)]) (fun y => y.1 ≤ bs.length ∧ ((-100000000 * (y.1 : Int) ≤ y.2.A ∧ y.2.A ≤ 100000000 * (y.1 : Int)) ∧ (-100000000 * (y.1 : Int) ≤ y.2.B ∧ y.2.B ≤ 100000000 * (y.1 : Int)) ∧ (-100000000000 * (y.1 : Int) ≤ y.2.C ∧ y.2.C ≤ 100000000000 * (y.1 : Int))) ∧ E = sumG y.2 (ws.drop y.1) (bs.drop y.1)) (fun y => bs.length - y.1) (0, ⟨0, 0, 0⟩) ⟨Nat.zero_le _, by dsimp only; omega, hE⟩ ?_ ?_
  · conv => whnf
    refine Retell.turn ⟨[0,1], 2, [], []⟩ (TurnOk.mk' _ _ [] [] (OutOk.lift _) rfl (by decide) zb trivial trivial rfl) zv zm
  · clear hE
    rintro ⟨k, s⟩ ⟨h1, h2, h3⟩
    dsimp only at h1 h2 h3
    conv => whnf
    refine VIte.dec (fun h5 => ?_) (fun h5 => ?_)
    · dsimp only at h5
      have hk : bs[k]? = some bs[k] := List.getElem?_eq_getElem (by omega)
      have hv : ws[k]? = some (ws[k]'(by omega)) := List.getElem?_eq_getElem _
      have sb := hb bs[k] (List.getElem_mem (by omega))
      have sw := hw (ws[k]'(by omega)) (List.getElem_mem (by omega))
      rw [sumG_at hv hk] at h3
      generalize bs[k] = b at *
      generalize ws[k]'(by omega) = w at *
      have m1 := Clip.mulb (x := w) (y := b.A) (A := 1000000) (B := 50) sw sb.a
      have m2 := Clip.mulb (x := w) (y := b.B) (A := 1000000) (B := 50) sw sb.b'
      have m3 := Clip.mulb (x := w) (y := b.C) (A := 1000000) (B := 100000) sw sb.c
      conv => whnf
      repeat' (first | ((first | refine zs1 ?_ | refine zs2 ?_ | refine zs3 ?_ | refine zs4 ?_ | refine zs5 ?_ | refine zs6 [] ?_); conv => whnf) | ((first | apply zi1 | apply zi2 | apply zi3 | apply zi4 | apply zi5) <;> intro _ <;> conv => whnf) | (refine VAny.ix encBd_len k rfl rfl hk ?_; conv => whnf) | (refine VAny.ix encI_len k rfl rfl hv ?_; conv => whnf))
      refine LEnd.intro (k + 1, (⟨s.A + w * b.A, s.B + w * b.B, s.C + w * b.C⟩ : Bd)) ⟨by dsimp only; omega, by dsimp only; omega, h3⟩ (by dsimp only; omega) ?_
      conv => whnf
      refine Retell.turn ⟨[0,1], 3, [], []⟩ (TurnOk.mk' _ _ [] [] (OutOk.lift _) rfl (by decide) zb trivial trivial rfl) zv zm
    · rw [List.drop_of_length_le (by dsimp only at h5; omega), List.drop_of_length_le (by dsimp only at h5; omega), show sumG s [] [] = s from rfl] at h3
      subst h3
      conv => whnf
      repeat' (first | ((first | refine zs1 ?_ | refine zs2 ?_ | refine zs3 ?_ | refine zs4 ?_ | refine zs5 ?_ | refine zs6 [] ?_); conv => whnf) | ((first | apply zi1 | apply zi2 | apply zi3 | apply zi4 | apply zi5) <;> intro _ <;> conv => whnf))
      exact VOut.same rfl
def bAt (l : List Bd) (i : Int) : Bd := l.getD i.toNat ⟨0, 0, 0⟩
def totB (l : List Bd) (p : Pf) : Bd := sumG ⟨0, 0, 0⟩ p.ws (p.bs.map (bAt l))
def w01 (n : Int) : Bool := decide (0 ≤ n ∧ n ≤ 1000000)
def incB : List Int → Bool
  | a :: b :: r => decide (a < b) && incB (b :: r)
  | _ => true
theorem incB_at {l : List Int} {k : Nat} {a b : Int} (ha : l[k]? = some a) (hb : l[k + 1]? = some b) : incB (l.drop k) = (decide (a < b) && incB (l.drop (k + 1))) := by
  obtain ⟨h1, rfl⟩ := List.getElem?_eq_some_iff.1 ha
  obtain ⟨h2, rfl⟩ := List.getElem?_eq_some_iff.1 hb
  rw [List.drop_eq_getElem_cons h1, List.drop_eq_getElem_cons h2, incB]
theorem incB_end {l : List Int} {k : Nat} (h : l.length ≤ k + 1) : incB (l.drop k) = true := by
  rcases Nat.lt_or_ge k l.length with h1 | h1
  · rw [List.drop_eq_getElem_cons h1, List.drop_of_length_le h, incB]; simp
  · rw [List.drop_of_length_le h1, incB]; simp
def rgE (p : Pf) (n : Int) : Int := if ¬ (1 ≤ p.bs.length ∧ p.bs.length ≤ 3) ∨ p.ws.length ≠ p.bs.length then 3 else if p.bs.all (fun i => decide (0 ≤ i ∧ i ≤ n - 1)) = true then (if incB p.bs = true then (if p.ws.all w01 = true ∧ w01 p.t = true then 0 else 4) else 5) else 2
structure RgOk (p : Pf) (n : Int) : Prop where
  l : 1 ≤ p.bs.length ∧ p.bs.length ≤ 3
  m : p.ws.length = p.bs.length
  i : ∀ i ∈ p.bs, 0 ≤ i ∧ i ≤ n - 1
  o : incB p.bs = true
  w : ∀ w ∈ p.ws, 0 ≤ w ∧ w ≤ 1000000
  t : 0 ≤ p.t ∧ p.t ≤ 1000000
theorem rgE_ok {p : Pf} {n : Int} : rgE p n = 0 ↔ RgOk p n := by
  unfold rgE
  constructor
  · intro h
    split at h
    · omega
    · rename_i h1
      split at h
      · rename_i h2
        split at h
        · rename_i h3
          split at h
          · rename_i h4
            refine ⟨by omega, by omega, fun i hi => ?_, h3, fun w hw => ?_, ?_⟩
            · have := List.all_eq_true.1 h2 i hi; rwa [decide_eq_true_eq] at this
            · have := List.all_eq_true.1 h4.1 w hw; unfold w01 at this; rwa [decide_eq_true_eq] at this
            · have := h4.2; unfold w01 at this; rwa [decide_eq_true_eq] at this
          · omega
        · omega
      · omega
  · rintro ⟨a, b, c, d, e, f⟩
    rw [if_neg (by omega), if_pos (List.all_eq_true.2 fun i hi => by rw [decide_eq_true_eq]; exact c i hi), if_pos d, if_pos ⟨List.all_eq_true.2 fun w hw => by unfold w01; rw [decide_eq_true_eq]; exact e w hw, by unfold w01; rw [decide_eq_true_eq]; exact f⟩]
theorem map_at {l : List Int} {bs : List Bd} {k : Nat} {i : Int} (h : l[k]? = some i) : (l.take (k + 1)).map (bAt bs) = (l.take k).map (bAt bs) ++ [bAt bs i] := by
  rw [List.take_add_one, h, List.map_append]; rfl
theorem bAt_get {bs : List Bd} {i : Int} {b : Bd} (h : bs[i.toNat]? = some b) : bAt bs i = b := by unfold bAt; rw [List.getD_eq_getElem?_getD, h]; rfl
theorem vc_total (p : Pf) (l : List Bd) (h : Hp) (hp : RgOk p l.length) (hb : ∀ b ∈ l, BdSz b) : VC Try.prog 92 [vPf p, bds l] h (vBd (totB l p)) h := by
  have hs := fun h => vc_sum p.ws (p.bs.map (bAt l)) h (by rw [List.length_map]; exact hp.m) (by rw [List.length_map]; have := hp.l; omega) (fun w hw => by have := hp.w w hw; omega) (fun b hb' => by
    obtain ⟨i, hi, rfl⟩ := List.mem_map.1 hb'
    have := hp.i i hi
    have hk : l[i.toNat]? = some (l[i.toNat]'(by omega)) := List.getElem?_eq_getElem _
    rw [bAt_get hk]; exact hb _ (List.getElem_mem _))
  obtain ⟨E, hE⟩ : ∃ E, E = totB l p := ⟨_, rfl⟩
  have e : sumG ⟨0, 0, 0⟩ p.ws (p.bs.map (bAt l)) = E := hE.symm
  rw [← hE]
  rw [e] at hs
  have hpl := hp.l
  refine VC.body Try.func92 rfl Try.ntmps92 Try.call92 (h.grows_refl) rfl ?_; conv => whnf
  repeat' (first | ((first | refine zs1 ?_ | refine zs2 ?_ | refine zs3 ?_ | refine zs4 ?_ | refine zs5 ?_ | refine zs6 [] ?_); conv => whnf) | ((first | apply zi1 | apply zi2 | apply zi3 | apply zi4 | apply zi5) <;> intro _ <;> conv => whnf))
  refine VCode.lp (fun y : Nat => [(1, bds l), (2, .fp (encPf p)), (4, .ptr (.loc 0) 0), (5, .gl (.loc 1) 3 ((p.bs.take y).map (bAt l)).length), (9, ints p.bs), (10, I p.bs.length), (11, I y)]) (fun y => [.flat true [DI 0, DI 0, DI 0], .flat true (((p.bs.take y).map (bAt l)).flatMap encBd)]) (fun y => y ≤ p.bs.length) (fun y => p.bs.length - y) 0 (Nat.zero_le _) ?_ ?_
  · conv => whnf
    refine Retell.turn ⟨[1,2], 2, [(0, encPf p)], []⟩ (TurnOk.mk' _ _ [(0, encPf p)] [] (OutOk.lift _) rfl (by decide) zb zf trivial rfl) zv zm
  · intro k h1
    conv => whnf
    refine VIte.dec (fun h5 => ?_) (fun h5 => ?_)
    · have hk : p.bs[k]? = some p.bs[k] := List.getElem?_eq_getElem (by omega)
      have hi := hp.i p.bs[k] (List.getElem_mem (by omega))
      have hm := map_at (bs := l) hk
      generalize p.bs[k] = i at hk hi hm
      have hbk : l[i.toNat]? = some (l[i.toNat]'(by omega)) := List.getElem?_eq_getElem _
      rw [bAt_get hbk] at hm
      generalize l[i.toNat]'(by omega) = b at hbk hm
      have hlen : ((p.bs.take k).map (bAt l)).length = k := by rw [List.length_map, List.length_take]; omega
      generalize (p.bs.take k).map (bAt l) = W at hm hlen
      conv => whnf
      repeat' (first | ((first | refine zs1 ?_ | refine zs2 ?_ | refine zs3 ?_ | refine zs4 ?_ | refine zs5 ?_ | refine zs6 [] ?_); conv => whnf) | ((first | apply zi1 | apply zi2 | apply zi3 | apply zi4 | apply zi5) <;> intro _ <;> conv => whnf) | (refine VAny.ix encI_len k rfl rfl hk ?_; conv => whnf) | (refine VAny.ix encBd_len i.toNat (by omega) rfl hbk ?_; conv => whnf))
      refine VMem.app1 (l := W) b encBd_len rfl rfl rfl rfl rfl (by omega) ?_
      conv => whnf
      repeat' (first | ((first | refine zs1 ?_ | refine zs2 ?_ | refine zs3 ?_ | refine zs4 ?_ | refine zs5 ?_ | refine zs6 [] ?_); conv => whnf) | ((first | apply zi1 | apply zi2 | apply zi3 | apply zi4 | apply zi5) <;> intro _ <;> conv => whnf))
      refine LEnd.intro (k + 1) (by omega) (by omega) ?_
      rw [hm]
      conv => whnf
      rw [List.length_append]
      refine Retell.turn ⟨[0,3], 4, [], []⟩ (TurnOk.mk' _ _ [] [] (OutOk.lift _) rfl (by decide) zb trivial trivial rfl) zv zm
    · have hk2 : k = p.bs.length := by omega
      subst hk2
      rw [List.take_length]
      conv => whnf
      repeat' (first | ((first | refine zs1 ?_ | refine zs2 ?_ | refine zs3 ?_ | refine zs4 ?_ | refine zs5 ?_ | refine zs6 [] ?_); conv => whnf) | ((first | apply zi1 | apply zi2 | apply zi3 | apply zi4 | apply zi5) <;> intro _ <;> conv => whnf))
      generalize p.bs.map (bAt l) = W at hs
      refine VCall.intro (VC.give (args' := [ints p.ws, bds W]) (loc' := [.flat true [DI 0, DI 0, DI 0], .dead]) [(1, W.flatMap encBd)] [] (OutOk.lift _) zb zf (by exact FmAll.nil) rfl zv (hs _)) ?_
      conv => whnf
      repeat' (first | ((first | refine zs1 ?_ | refine zs2 ?_ | refine zs3 ?_ | refine zs4 ?_ | refine zs5 ?_ | refine zs6 [] ?_); conv => whnf) | ((first | apply zi1 | apply zi2 | apply zi3 | apply zi4 | apply zi5) <;> intro _ <;> conv => whnf))
      exact VOut.same rfl
theorem vc_rg1 (n : Int) (h : Hp) : VC Try.prog 116 ([I n] ++ D.vs []) h (B (w01 n)) h := by
  have c := fun h => vc_from n 0 1000000 h
  refine VC.body Try.func116 rfl Try.ntmps116 Try.call116 (h.grows_refl) rfl ?_; conv => whnf
  repeat' (first | ((first | refine zs1 ?_ | refine zs2 ?_ | refine zs3 ?_ | refine zs4 ?_ | refine zs5 ?_ | refine zs6 [] ?_); conv => whnf) | ((first | apply zi1 | apply zi2 | apply zi3 | apply zi4 | apply zi5) <;> intro _ <;> conv => whnf) | (refine VCall.intro (c _) ?_; conv => whnf))
  exact VOut.same rfl
theorem vc_rg2 (n : Int) (l : List Bd) (h : Hp) (hn : l.length ≤ 4000000) : VC Try.prog 117 ([I n] ++ D.vs [.pt [dBds l]]) h (B (decide (0 ≤ n ∧ n ≤ (l.length : Int) - 1))) h := by
  have c := fun h => vc_from n 0 ((l.length : Int) - 1) h
  refine VC.body Try.func117 rfl Try.ntmps117 Try.call117 (h.grows_refl) rfl ?_; conv => whnf
  repeat' (first | ((first | refine zs1 ?_ | refine zs2 ?_ | refine zs3 ?_ | refine zs4 ?_ | refine zs5 ?_ | refine zs6 [] ?_); conv => whnf) | ((first | apply zi1 | apply zi2 | apply zi3 | apply zi4 | apply zi5) <;> intro _ <;> conv => whnf) | (refine VCall.intro (c _) ?_; conv => whnf))
  exact VOut.same rfl
theorem vc_right (p : Pf) (l : List Bd) (h : Hp) (hn : l.length ≤ 4000000) (hb : p.bs.length ≤ 4000000) (hw : p.ws.length ≤ 4000000) : VC Try.prog 93 [vPf p, bds l] h (I (rgE p l.length)) h := by
  have cI := fun h => vc_allI1c p.bs (fun i => decide (0 ≤ i ∧ i ≤ (l.length : Int) - 1)) 117 [dBds l] hb (fun e he h => vc_rg2 e l h hn) h
  have cW := fun h => vc_allI0 p.ws w01 116 hw (fun e he h => vc_rg1 e h) h
  have cT := fun h => vc_rg1 p.t h
  obtain ⟨E, hE⟩ : ∃ E, E = rgE p l.length := ⟨_, rfl⟩
  rw [← hE]
  unfold rgE at hE
  generalize p.bs.all (fun i => decide (0 ≤ i ∧ i ≤ (l.length : Int) - 1)) = A at *
  generalize p.ws.all w01 = W at *
  generalize w01 p.t = T at *
  obtain ⟨O, hO⟩ : ∃ O, O = incB p.bs := ⟨_, rfl⟩
  rw [← hO] at hE
  have hO : O = incB (p.bs.drop 0) := hO
  have cF := fun h => vc_from (p.bs.length : Int) 1 3 h
  refine VC.bodyC 2 Try.func93 rfl Try.ntmps93 Try.call93 (h.grows_refl) rfl ?_; conv => whnf
  repeat' (first | ((first | refine zs1 ?_ | refine zs2 ?_ | refine zs3 ?_ | refine zs4 ?_ | refine zs5 ?_); conv => whnf) | ((first | apply zi1 | apply zi2 | apply zi3 | apply zi4 | apply zi5) <;> intro _ <;> conv => whnf))
  refine VCut.at' 99 [(2, .fp (encPf p)), (3, .fp [dBds l]), (4, I 0), (5, .func (.func 116) [] [])] [] ?_ ?_
  · conv => whnf
    refine Retell.turn ⟨[], 2, [(0, encPf p), (1, [dBds l])], []⟩ (TurnOk.mk' _ _ [(0, encPf p), (1, [dBds l])] [] (OutOk.lift _) rfl (by decide) zb zf trivial rfl) zv zm
  conv => whnf
  repeat' (first | ((first | refine zs1 ?_ | refine zs2 ?_ | refine zs3 ?_ | refine zs4 ?_ | refine zs5 ?_); conv => whnf) | ((first | apply zi1 | apply zi2 | apply zi3 | apply zi4 | apply zi5) <;> intro _ <;> conv => whnf) | (refine VCall.intro (cF _) ?_; conv => whnf) | (refine VCall.intro (cI _) ?_; conv => whnf))
  · rw [if_pos (by omega)] at hE
    rw [hE]
    exact VOut.same rfl
  · rw [if_pos (by omega)] at hE
    rw [hE]
    exact VOut.same rfl
  · rename_i hA
    rw [if_neg (by omega), if_neg (by cases A <;> simp at *)] at hE
    rw [hE]
    exact VOut.same rfl
  · rename_i hA
    rw [if_neg (by omega), if_pos (by cases A <;> simp at *)] at hE
    refine VCode.lp (fun j : Nat => [(2, .fp (encPf p)), (3, .fp [dBds l]), (4, I 0), (5, .func (.func 116) [] []), (6, I ((j : Int) + 1))]) (fun _ => []) (fun j => j + 1 ≤ p.bs.length ∧ O = incB (p.bs.drop j)) (fun j => p.bs.length - j) 0 ⟨by omega, hO⟩ ?_ ?_
    · conv => whnf
      refine Retell.turn ⟨[], 0, [], []⟩ (TurnOk.mk' _ _ [] [] (OutOk.lift _) rfl (by decide) zb trivial trivial rfl) zv zm
    · clear hO
      rintro k ⟨h1, hO⟩
      conv => whnf
      repeat' (first | ((first | refine zs1 ?_ | refine zs2 ?_ | refine zs3 ?_ | refine zs4 ?_ | refine zs5 ?_); conv => whnf) | ((first | apply zi1 | apply zi2 | apply zi3 | apply zi4 | apply zi5) <;> intro _ <;> conv => whnf))
      · rename_i h5
        have ha : p.bs[k]? = some p.bs[k] := List.getElem?_eq_getElem (by omega)
        have hb' : p.bs[k + 1]? = some (p.bs[k + 1]'(by omega)) := List.getElem?_eq_getElem _
        rw [incB_at ha hb'] at hO
        generalize p.bs[k] = a at ha hO
        generalize p.bs[k + 1]'(by omega) = b at hb' hO
        conv => whnf
        repeat' (first | ((first | refine zs1 ?_ | refine zs2 ?_ | refine zs3 ?_ | refine zs4 ?_ | refine zs5 ?_); conv => whnf) | ((first | apply zi1 | apply zi2 | apply zi3 | apply zi4 | apply zi5) <;> intro _ <;> conv => whnf))
        refine zs6 [] ?_
        conv => whnf
        repeat' (first | ((first | refine zs1 ?_ | refine zs2 ?_ | refine zs3 ?_ | refine zs4 ?_ | refine zs5 ?_); conv => whnf) | ((first | apply zi1 | apply zi2 | apply zi3 | apply zi4 | apply zi5) <;> intro _ <;> conv => whnf) | (refine VAny.ix encI_len (k + 1) (by omega) rfl hb' ?_; conv => whnf) | (refine VAny.ix encI_len k (by omega) rfl ha ?_; conv => whnf))
        · rename_i hc
          rw [decide_eq_false (show ¬ a < b by omega), Bool.false_and] at hO
          subst hO
          simp only [Bool.false_eq_true, if_false] at hE
          rw [hE]
          exact VOut.same rfl
        · rename_i hc
          rw [decide_eq_true (show a < b by omega), Bool.true_and] at hO
          refine LEnd.intro (k + 1) ⟨by omega, hO⟩ (by omega) ?_
          conv => whnf
          refine Retell.turn ⟨[], 0, [], []⟩ (TurnOk.mk' _ _ [] [] (OutOk.lift _) rfl (by decide) zb trivial trivial rfl) zv zm
      · rename_i h5
        rw [incB_end (by omega)] at hO
        subst hO
        rw [if_pos rfl] at hE
        conv => whnf
        repeat' (first | ((first | refine zs1 ?_ | refine zs2 ?_ | refine zs3 ?_ | refine zs4 ?_ | refine zs5 ?_); conv => whnf) | ((first | apply zi1 | apply zi2 | apply zi3 | apply zi4 | apply zi5) <;> intro _ <;> conv => whnf) | (refine VCall.intro (cW _) ?_; conv => whnf) | (refine VCall.intro (cT _) ?_; conv => whnf))
        all_goals (subst hE; cases W <;> cases T <;> first | (exact VOut.same rfl) | (exfalso; simp at *; done))
end Go.Proofs.Ytdlnjnfkbneibaa

open Go.Vm
open Clip (Pn Sg Nt Bd Rt Sp Co Pl NtOk chk chk_ok bnds bnds_sz bnds_len bnds_sq regS BdSz SpSz okD okD_iff red)
namespace Go.Proofs.Ytdlnjnfkbneibaa
set_option maxRecDepth 20000
set_option maxHeartbeats 4000000

theorem vne49 (a b c d e f : Int) : vaggeq Try.prog .neq 49 (.agg [I a, I b, I c]) (.agg [I d, I e, I f]) = some (B (decide (¬ (a = d ∧ b = e ∧ c = f)))) := by
  have : (!((a == d) && ((b == e) && ((c == f) && true)))) = decide (¬ (a = d ∧ b = e ∧ c = f)) := by
    rw [Bool.eq_iff_iff, decide_eq_true_eq]; simp [-not_and]; omega
  rw [← this]
  unfold vaggeq
  rw [show eqTop Try.prog 49 = some (Sh.cons 0 1 false Sh.int (Sh.cons 1 1 false Sh.int (Sh.cons 2 1 false Sh.int Sh.nil))) by kernel_rfl]
  rfl
theorem totB_sz {l : List Bd} {p : Pf} (hp : RgOk p l.length) (hb : ∀ b ∈ l, BdSz b) : (-1000000000 ≤ (totB l p).A ∧ (totB l p).A ≤ 1000000000) ∧ (-1000000000 ≤ (totB l p).B ∧ (totB l p).B ≤ 1000000000) ∧ (-1000000000000 ≤ (totB l p).C ∧ (totB l p).C ≤ 1000000000000) := by
  have key : ∀ (ws : List Int) (bs : List Bd) (s : Bd) (k : Int), (∀ w ∈ ws, -1000000 ≤ w ∧ w ≤ 1000000) → (∀ b ∈ bs, BdSz b) → ((-100000000 * k ≤ s.A ∧ s.A ≤ 100000000 * k) ∧ (-100000000 * k ≤ s.B ∧ s.B ≤ 100000000 * k) ∧ (-100000000000 * k ≤ s.C ∧ s.C ≤ 100000000000 * k)) → 0 ≤ k →
      (-100000000 * (k + bs.length) ≤ (sumG s ws bs).A ∧ (sumG s ws bs).A ≤ 100000000 * (k + bs.length)) ∧ (-100000000 * (k + bs.length) ≤ (sumG s ws bs).B ∧ (sumG s ws bs).B ≤ 100000000 * (k + bs.length)) ∧ (-100000000000 * (k + bs.length) ≤ (sumG s ws bs).C ∧ (sumG s ws bs).C ≤ 100000000000 * (k + bs.length)) := by
    intro ws
    induction ws with
    | nil => intro bs s k _ _ h hk; have e : sumG s [] bs = s := by cases bs <;> rfl
             rw [e]; omega
    | cons w ws ih =>
      intro bs s k hw hbs h hk
      cases bs with
      | nil => have e : sumG s (w :: ws) [] = s := rfl
               rw [e]; simp only [List.length_nil]; omega
      | cons b bs =>
        have sw := hw w (by simp)
        have sb := hbs b (by simp)
        have m1 := Clip.mulb (x := w) (y := b.A) (A := 1000000) (B := 50) sw sb.a
        have m2 := Clip.mulb (x := w) (y := b.B) (A := 1000000) (B := 50) sw sb.b'
        have m3 := Clip.mulb (x := w) (y := b.C) (A := 1000000) (B := 100000) sw sb.c
        have := ih bs ⟨s.A + w * b.A, s.B + w * b.B, s.C + w * b.C⟩ (k + 1) (fun w hw' => hw w (List.mem_cons_of_mem _ hw')) (fun b hb' => hbs b (List.mem_cons_of_mem _ hb')) (by dsimp only; omega) (by omega)
        rw [sumG, List.length_cons]
        have e : (k : Int) + 1 + (bs.length : Int) = k + ((bs.length + 1 : Nat) : Int) := by omega
        rw [e] at this
        exact this
  have := key p.ws (p.bs.map (bAt l)) ⟨0, 0, 0⟩ 0 (fun w hw => by have := hp.w w hw; omega) (fun b hb' => by
    obtain ⟨i, hi, rfl⟩ := List.mem_map.1 hb'
    have := hp.i i hi
    have hk : l[i.toNat]? = some (l[i.toNat]'(by omega)) := List.getElem?_eq_getElem _
    rw [bAt_get hk]; exact hb _ (List.getElem_mem _)) (by dsimp only; omega) (by omega)
  rw [List.length_map] at this
  have hl := hp.l
  unfold totB
  omega
def prE (N : Nt) (p : Int) (to : Pn) (f : Pf) : Int := if brE N p ≠ 0 then brE N p else if okD to = true then (if rgE f (bnds N p).length ≠ 0 then rgE f (bnds N p).length else if f.t < 1 ∨ ¬ ((totB (bnds N p) f).A = f.t * to.x ∧ (totB (bnds N p) f).B = f.t * to.y) then 9 else 0) else 4
def prV (N : Nt) (p : Int) (to : Pn) (f : Pf) : Rt := if prE N p to f = 0 then red (totB (bnds N p) f).C f.t else ⟨0, 0⟩
theorem vc_Proves (N : Nt) (p : Int) (to : Pn) (f : Pf) (h : Hp) (hn : N.ps.length ≤ 4000000) (hm : N.ss.length ≤ 4000000) (h1 : f.bs.length ≤ 4000000) (h2 : f.ws.length ≤ 4000000) : VC Try.prog 49 [vN N, I p, vPn to, vPf f] h (.tuple [vRt (prV N p to f), I (prE N p to f)]) h := by
  have c := fun h => vc_begun N p h hn hm
  have cT := fun h => vc_turned to h
  obtain ⟨E, hE⟩ : ∃ E, E = prE N p to f := ⟨_, rfl⟩
  obtain ⟨R, hR⟩ : ∃ R, R = prV N p to f := ⟨_, rfl⟩
  rw [← hE, ← hR]
  unfold prV at hR
  rw [← hE] at hR
  unfold prE at hE
  by_cases b0 : brE N p = 0
  · have o := (brE_ok.1 b0).1
    rw [b0] at c
    rw [if_neg (by omega)] at hE
    cases ht : okD to
    · rw [ht] at cT hE
      rw [if_neg (by decide)] at hE
      subst hE
      rw [if_neg (by decide)] at hR
      subst hR
      refine VC.body Try.func49 rfl Try.ntmps49 Try.call49 (h.grows_refl) rfl ?_; conv => whnf
      repeat' (first | ((first | refine zs1 ?_ | refine zs2 ?_ | refine zs3 ?_ | refine zs4 ?_ | refine zs5 ?_ | refine zs6 [] ?_); conv => whnf) | ((first | apply zi1 | apply zi2 | apply zi3 | apply zi4 | apply zi5) <;> intro _ <;> conv => whnf) | (refine VCall.intro (c _) ?_; conv => whnf) | (refine VCall.intro (cT _) ?_; conv => whnf))
      all_goals first | (exact VOut.same rfl) | (exfalso; omega)
    · rw [ht] at cT hE
      rw [if_pos rfl] at hE
      have cB := fun h => vc_bounds N p h o
      have hz := bnds_sz o p
      have hln := bnds_len o p
      have cG := fun h => vc_right f (bnds N p) h (by omega) h1 h2
      generalize bnds N p = bs at *
      by_cases g0 : rgE f bs.length = 0
      · have go := rgE_ok.1 g0
        have cS := fun h => vc_total f bs h go hz
        have tz := totB_sz go hz
        have t0 := okD_iff.1 ht
        have ft := go.t
        have m1 := Clip.mulb (x := f.t) (y := to.x) (A := 1000000) (B := 50) (by omega) t0.2.1
        have m2 := Clip.mulb (x := f.t) (y := to.y) (A := 1000000) (B := 50) (by omega) t0.2.2
        rw [g0] at cG
        rw [if_neg (by omega)] at hE
        generalize totB bs f = s at *
        by_cases hbad : f.t < 1 ∨ ¬ (s.A = f.t * to.x ∧ s.B = f.t * to.y)
        · rw [if_pos hbad] at hE
          subst hE
          rw [if_neg (by decide)] at hR
          subst hR
          refine VC.body Try.func49 rfl Try.ntmps49 Try.call49 (h.grows_refl) rfl ?_; conv => whnf
          repeat' (first | ((first | refine zs1 ?_ | refine zs2 ?_ | refine zs3 ?_ | refine zs4 ?_ | refine zs5 ?_ | refine zs6 [] ?_); conv => whnf) | ((first | apply zi1 | apply zi2 | apply zi3 | apply zi4 | apply zi5) <;> intro _ <;> conv => whnf) | (refine VCall.intro (c _) ?_; conv => whnf) | (refine VCall.intro (cT _) ?_; conv => whnf) | (refine VCall.intro (cB _) ?_; conv => whnf) | (refine VCall.intro (cG _) ?_; conv => whnf) | (refine VCall.intro (cS _) ?_; conv => whnf) | (refine VAgg.intro (vne49 _ _ _ _ _ _) ?_; conv => whnf))
          all_goals first | (exact VOut.same rfl) | (exfalso; omega)
        · rw [if_neg hbad] at hE
          subst hE
          rw [if_pos rfl] at hR
          subst hR
          have cQ := fun h => vc_ratio s.C f.t h (by omega) (by omega) (by omega)
          generalize red s.C f.t = Q at *
          refine VC.body Try.func49 rfl Try.ntmps49 Try.call49 (h.grows_refl) rfl ?_; conv => whnf
          repeat' (first | ((first | refine zs1 ?_ | refine zs2 ?_ | refine zs3 ?_ | refine zs4 ?_ | refine zs5 ?_ | refine zs6 [] ?_); conv => whnf) | ((first | apply zi1 | apply zi2 | apply zi3 | apply zi4 | apply zi5) <;> intro _ <;> conv => whnf) | (refine VCall.intro (c _) ?_; conv => whnf) | (refine VCall.intro (cT _) ?_; conv => whnf) | (refine VCall.intro (cB _) ?_; conv => whnf) | (refine VCall.intro (cG _) ?_; conv => whnf) | (refine VCall.intro (cS _) ?_; conv => whnf) | (refine VCall.intro (cQ _) ?_; conv => whnf) | (refine VAgg.intro (vne49 _ _ _ _ _ _) ?_; conv => whnf))
          all_goals first | (exact VOut.same rfl) | (exfalso; omega)
      · rw [if_pos g0] at hE
        subst hE
        rw [if_neg g0] at hR
        subst hR
        generalize rgE f bs.length = G at *
        refine VC.body Try.func49 rfl Try.ntmps49 Try.call49 (h.grows_refl) rfl ?_; conv => whnf
        repeat' (first | ((first | refine zs1 ?_ | refine zs2 ?_ | refine zs3 ?_ | refine zs4 ?_ | refine zs5 ?_ | refine zs6 [] ?_); conv => whnf) | ((first | apply zi1 | apply zi2 | apply zi3 | apply zi4 | apply zi5) <;> intro _ <;> conv => whnf) | (refine VCall.intro (c _) ?_; conv => whnf) | (refine VCall.intro (cT _) ?_; conv => whnf) | (refine VCall.intro (cB _) ?_; conv => whnf) | (refine VCall.intro (cG _) ?_; conv => whnf))
        all_goals first | (exact VOut.same rfl) | (exfalso; omega)
  · rw [if_pos b0] at hE
    rw [hE, if_neg b0] at hR
    subst hR
    subst hE
    generalize brE N p = E at *
    refine VC.body Try.func49 rfl Try.ntmps49 Try.call49 (h.grows_refl) rfl ?_; conv => whnf
    repeat' (first | ((first | refine zs1 ?_ | refine zs2 ?_ | refine zs3 ?_ | refine zs4 ?_ | refine zs5 ?_ | refine zs6 [] ?_); conv => whnf) | ((first | apply zi1 | apply zi2 | apply zi3 | apply zi4 | apply zi5) <;> intro _ <;> conv => whnf) | (refine VCall.intro (c _) ?_; conv => whnf))
    all_goals first | (exact VOut.same rfl) | (exfalso; omega)
def rfE (N : Nt) (p : Int) (f : Pf) : Int := if brE N p ≠ 0 then brE N p else rgE f (bnds N p).length
def rfB (N : Nt) (p : Int) (f : Pf) : Bool := if rfE N p f = 0 then decide (f.t = 0 ∧ (totB (bnds N p) f).A = 0 ∧ (totB (bnds N p) f).B = 0 ∧ (totB (bnds N p) f).C < 0) else false
theorem vc_Refutes (N : Nt) (p : Int) (f : Pf) (h : Hp) (hn : N.ps.length ≤ 4000000) (hm : N.ss.length ≤ 4000000) (h1 : f.bs.length ≤ 4000000) (h2 : f.ws.length ≤ 4000000) : VC Try.prog 55 [vN N, I p, vPf f] h (.tuple [B (rfB N p f), I (rfE N p f)]) h := by
  have c := fun h => vc_begun N p h hn hm
  obtain ⟨E, hE⟩ : ∃ E, E = rfE N p f := ⟨_, rfl⟩
  obtain ⟨R, hR⟩ : ∃ R, R = rfB N p f := ⟨_, rfl⟩
  rw [← hE, ← hR]
  unfold rfB at hR
  rw [← hE] at hR
  unfold rfE at hE
  by_cases b0 : brE N p = 0
  · have o := (brE_ok.1 b0).1
    rw [b0] at c
    rw [if_neg (by omega)] at hE
    have cB := fun h => vc_bounds N p h o
    have hz := bnds_sz o p
    have hln := bnds_len o p
    have cG := fun h => vc_right f (bnds N p) h (by omega) h1 h2
    generalize bnds N p = bs at *
    by_cases g0 : rgE f bs.length = 0
    · have go := rgE_ok.1 g0
      have cS := fun h => vc_total f bs h go hz
      rw [g0] at cG hE
      rw [hE, if_pos rfl] at hR
      subst hE
      generalize totB bs f = s at *
      subst hR
      refine VC.body Try.func55 rfl Try.ntmps55 Try.call55 (h.grows_refl) rfl ?_; conv => whnf
      repeat' (first | ((first | refine zs1 ?_ | refine zs2 ?_ | refine zs3 ?_ | refine zs4 ?_ | refine zs5 ?_ | refine zs6 [] ?_); conv => whnf) | ((first | apply zi1 | apply zi2 | apply zi3 | apply zi4 | apply zi5) <;> intro _ <;> conv => whnf) | (refine VCall.intro (c _) ?_; conv => whnf) | (refine VCall.intro (cB _) ?_; conv => whnf) | (refine VCall.intro (cG _) ?_; conv => whnf) | (refine VCall.intro (cS _) ?_; conv => whnf))
      · rw [show decide (f.t = 0 ∧ s.A = 0 ∧ s.B = 0 ∧ s.C < 0) = decide (s.C < 0) from decide_eq_decide.2 (by omega)]
        exact VOut.same rfl
      all_goals (rw [decide_eq_false (show ¬ (f.t = 0 ∧ s.A = 0 ∧ s.B = 0 ∧ s.C < 0) by omega)]
                 exact VOut.same rfl)
    · rw [hE, if_neg g0] at hR
      subst hR
      subst hE
      generalize rgE f bs.length = G at *
      refine VC.body Try.func55 rfl Try.ntmps55 Try.call55 (h.grows_refl) rfl ?_; conv => whnf
      repeat' (first | ((first | refine zs1 ?_ | refine zs2 ?_ | refine zs3 ?_ | refine zs4 ?_ | refine zs5 ?_ | refine zs6 [] ?_); conv => whnf) | ((first | apply zi1 | apply zi2 | apply zi3 | apply zi4 | apply zi5) <;> intro _ <;> conv => whnf) | (refine VCall.intro (c _) ?_; conv => whnf) | (refine VCall.intro (cB _) ?_; conv => whnf) | (refine VCall.intro (cG _) ?_; conv => whnf))
      all_goals first | (exact VOut.same rfl) | (exfalso; omega)
  · rw [if_pos b0] at hE
    rw [hE, if_neg b0] at hR
    subst hR
    subst hE
    generalize brE N p = E at *
    refine VC.body Try.func55 rfl Try.ntmps55 Try.call55 (h.grows_refl) rfl ?_; conv => whnf
    repeat' (first | ((first | refine zs1 ?_ | refine zs2 ?_ | refine zs3 ?_ | refine zs4 ?_ | refine zs5 ?_ | refine zs6 [] ?_); conv => whnf) | ((first | apply zi1 | apply zi2 | apply zi3 | apply zi4 | apply zi5) <;> intro _ <;> conv => whnf) | (refine VCall.intro (c _) ?_; conv => whnf))
    all_goals first | (exact VOut.same rfl) | (exfalso; omega)
end Go.Proofs.Ytdlnjnfkbneibaa

open Go.Vm
namespace Go.Vm
theorem flat_del {α : Type} {enc : α → List D} {m : Nat} (hm : ∀ a, (enc a).length = m) (l : List α) (k : Nat) (hk : k < l.length) :
    ((l.flatMap enc).take (0 + k * m) ++ ((l.flatMap enc).drop ((k + 1) * m)).take ((l.length - (k + 1)) * m) ++ (l.flatMap enc).drop (0 + k * m + (l.length - (k + 1)) * m)).take (0 + (l.length - 1) * m) = (l.eraseIdx k).flatMap enc := by
  rw [Nat.zero_add, Nat.zero_add, flat_takeD hm, flat_dropD hm, flat_takeD hm, ← List.flatMap_append]
  have e : l.take k ++ (l.drop (k + 1)).take (l.length - (k + 1)) = l.eraseIdx k := by
    rw [List.take_of_length_le (l := l.drop (k + 1)) (by rw [List.length_drop]; exact Nat.le_refl _), List.eraseIdx_eq_take_drop_succ]
  rw [e]
  have hl : ((l.eraseIdx k).flatMap enc).length = (l.length - 1) * m := by rw [flat_len hm, List.length_eraseIdx_of_lt hk]
  rw [List.take_append_of_le_length (by omega), List.take_of_length_le (by omega)]
end Go.Vm
open Clip (Pn Sg Nt Bd Rt Sp Co Pl NtOk SgOk chk chk_ok bnds bnds_sz bnds_len bnds_sq regS BdSz SpSz)
namespace Go.Proofs.Ytdlnjnfkbneibaa
set_option maxRecDepth 20000
set_option maxHeartbeats 4000000

theorem VOut.setSl {h : Hp} {loc : List Blk} {i : Vm.Id} {b0 : Blk} {l : List D} {rw : Bool} {o e n : Nat} {m : Option Nat} {L : Nat} (hL : Nat.ble loc.length L = true) (hb : h.get i = some b0) : VOut h ⟨outW h.lift i (.flat rw l), loc⟩ (.slice (.out i) o e n m) (.slice i o e n m) (h.set i (.flat rw l)) := by
  have hd : ∀ p ∈ [(i, Blk.flat rw l)], h.get p.1 ≠ none := by
    intro p hp
    simp only [List.mem_cons, List.not_mem_nil, or_false] at hp
    subst hp; simp only; rw [hb]; simp
  have := VOut.upd (loc := loc) (r1 := .slice (.out i) o e n m) (r := .slice i o e n m) [(i, .flat rw l)] [] [] L hL hd (by simp) rfl (by intro k b hk; simp at hk) (fun σ x hx => by
    have hρ : backR h.loc.length [] L i = .out i := by
      cases i with
      | out i => rfl
      | loc k =>
        have hk : k < h.loc.length := (List.getElem?_eq_some_iff.1 (show h.loc[k]? = some b0 from hb)).1
        simp [backR, hk]
    simp only [V.ren, hρ]; exact hx) (outer := outW h.lift i (.flat rw l)) rfl
  have he : (h.sets [(i, Blk.flat rw l)]).pushes [] = h.set i (.flat rw l) := by simp [Hp.sets, Hp.pushes]
  rw [he] at this
  exact this
theorem vc_DelS (l : List Sg) (k c : Nat) (i : Vm.Id) (h : Hp) (hb : h.get i = some (.flat true (l.flatMap encSg))) (hk : k < l.length) (hc : l.length ≤ c) (hl : l.length ≤ 4000000) :
    VC Try.prog 41 [.slice i 0 6 l.length (some c), I k, I ((k : Int) + 1)] h (.slice i 0 6 (l.eraseIdx k).length (some c)) (h.set i (.flat true ((l.eraseIdx k).flatMap encSg))) := by
  rw [List.length_eraseIdx_of_lt hk]
  refine VC.body Try.func41 rfl Try.ntmps41 Try.call41 (h.grows_set _ _) rfl ?_
  conv => whnf
  repeat' (first | ((first | refine zs1 ?_ | refine zs2 ?_ | refine zs3 ?_ | refine zs4 ?_ | refine zs5 ?_); conv => whnf) | ((first | apply zi1 | apply zi2 | apply zi3 | apply zi4 | apply zi5) <;> intro _ <;> conv => whnf))
  · exfalso; omega
  · refine VDraw.go [] (by kernel_rfl) (by kernel_rfl) ?_
    conv => whnf
    repeat' (first | ((first | refine zs1 ?_ | refine zs2 ?_ | refine zs3 ?_ | refine zs4 ?_ | refine zs5 ?_); conv => whnf) | ((first | apply zi1 | apply zi2 | apply zi3 | apply zi4 | apply zi5) <;> intro _ <;> conv => whnf))
    have e1 : ((k : Int) - 0).toNat = k := by omega
    have e2 : ((k : Int) + 1).toNat = k + 1 := by omega
    have e3 : ((l.length : Int) - ((k : Int) + 1)).toNat = l.length - (k + 1) := by omega
    have e4 : k + (l.length - (k + 1)) = l.length - 1 := by omega
    have e5 : 0 + (k + 1) * (5 + 1) = (k + 1) * 6 := by omega
    rw [e1, e2, e3, e5]
    have hfl := flat_len encSg_len l
    refine VMem.appRoom (esz := 6) (off := 0) (off2 := (k + 1) * 6) (len := k) (n := l.length - (k + 1)) (c0 := c) rfl (get_out hb _) (by rw [hfl]; omega) (by rw [hfl]; omega) (by omega) (by omega) ?_
    rw [e4]
    have hR := flat_del encSg_len l k hk
    have hRl : ((l.flatMap encSg).take (0 + k * 6) ++ ((l.flatMap encSg).drop ((k + 1) * 6)).take ((l.length - (k + 1)) * 6) ++ (l.flatMap encSg).drop (0 + k * 6 + (l.length - (k + 1)) * 6)).length = l.length * 6 := by
      simp only [List.length_append, List.length_take, List.length_drop, hfl]; omega
    generalize (l.flatMap encSg).take (0 + k * 6) ++ ((l.flatMap encSg).drop ((k + 1) * 6)).take ((l.length - (k + 1)) * 6) ++ (l.flatMap encSg).drop (0 + k * 6 + (l.length - (k + 1)) * 6) = R at hR hRl ⊢
    conv => whnf
    repeat' (first | ((first | refine zs1 ?_ | refine zs2 ?_ | refine zs3 ?_ | refine zs4 ?_ | refine zs5 ?_); conv => whnf) | ((first | apply zi1 | apply zi2 | apply zi3 | apply zi4 | apply zi5) <;> intro _ <;> conv => whnf))
    have e8 : 0 + ((l.length - 1 : Nat) : Int).toNat * (5 + 1) = 0 + (l.length - 1) * 6 := by omega
    refine VMem.clearTail (esz := 6) rfl (outW_get _ _ _ _) ?_ ?_
    · have e9 : ((l.length : Int) - ((l.length - 1 : Nat) : Int)).toNat = 1 := by omega
      rw [hRl, e8, e9]; omega
    rw [e8, hR]
    conv => whnf
    repeat' (first | ((first | refine zs1 ?_ | refine zs2 ?_ | refine zs3 ?_ | refine zs4 ?_ | refine zs5 ?_); conv => whnf) | ((first | apply zi1 | apply zi2 | apply zi3 | apply zi4 | apply zi5) <;> intro _ <;> conv => whnf))
    refine (show VOut h ⟨outW (outW h.lift i (.flat true R)) i (.flat true ((l.eraseIdx k).flatMap encSg)), []⟩ _ _ _ from ?_)
    rw [outW_same]
    exact VOut.setSl (L := 0) rfl hb
end Go.Proofs.Ytdlnjnfkbneibaa

open Go.Vm
open Clip (Pn Sg Nt Bd Rt Sp Co Pl NtOk SgOk chk chk_ok bnds bnds_sz bnds_len bnds_sq regS BdSz SpSz)
namespace Go.Proofs.Ytdlnjnfkbneibaa
set_option maxRecDepth 20000
set_option maxHeartbeats 4000000

def erN (N : Nt) (k : Nat) : Nt := ⟨N.ps, N.ss.eraseIdx k⟩
theorem erN_ok {N : Nt} (o : NtOk N) (k : Nat) : NtOk (erN N k) := by
  refine ⟨o.n, ?_, o.p, fun s hs => o.s s (List.mem_of_mem_eraseIdx hs)⟩
  have := o.m
  have h2 := List.length_eraseIdx_le N.ss k
  show (N.ss.eraseIdx k).length ≤ 20
  omega
theorem vc_without (N : Nt) (p : Int) (k : Nat) (h : Hp) (o : NtOk N) (hk : k < N.ss.length) : VC Try.prog 95 [.fp (encDk N p), I k] h (.fp (encDk (erN N k) p)) h := by
  have hm := o.m
  have cD := fun (o : Vm.Id → Option Blk) => VC.glSl (P := Try.prog) (f := 41) (i := .loc 0) (rest := [I k, I ((k : Int) + 1)]) (h := ⟨o, [.flat true (N.ss.flatMap encSg)]⟩) (by omega) (by simp [Hp.get]) (fun c hc => vc_DelS N.ss k c (.loc 0) ⟨o, [.flat true (N.ss.flatMap encSg)]⟩ rfl hk hc (by omega))
  refine VC.body Try.func95 rfl Try.ntmps95 Try.call95 (h.grows_refl) rfl ?_; conv => whnf
  repeat' (first | ((first | refine zs1 ?_ | refine zs2 ?_ | refine zs3 ?_ | refine zs4 ?_ | refine zs5 ?_); conv => whnf) | ((first | apply zi1 | apply zi2 | apply zi3 | apply zi4 | apply zi5) <;> intro _ <;> conv => whnf))
  refine VMem.make (⟨0, 0, ⟨0, 0⟩, ⟨0, 0⟩⟩ : Sg) encSg_len rfl rfl rfl rfl rfl rfl (by omega) ?_
  conv => whnf
  repeat' (first | ((first | refine zs1 ?_ | refine zs2 ?_ | refine zs3 ?_ | refine zs4 ?_ | refine zs5 ?_); conv => whnf) | ((first | apply zi1 | apply zi2 | apply zi3 | apply zi4 | apply zi5) <;> intro _ <;> conv => whnf))
  refine VMem.copyFs encSg_len rfl rfl (by simp) rfl rfl ?_
  conv => whnf
  repeat' (first | ((first | refine zs1 ?_ | refine zs2 ?_ | refine zs3 ?_ | refine zs4 ?_ | refine zs5 ?_); conv => whnf) | ((first | apply zi1 | apply zi2 | apply zi3 | apply zi4 | apply zi5) <;> intro _ <;> conv => whnf))
  refine zs6 [(4, 9), (9, 14)] ?_
  conv => whnf
  repeat' (first | ((first | refine zs1 ?_ | refine zs2 ?_ | refine zs3 ?_ | refine zs4 ?_ | refine zs5 ?_); conv => whnf) | ((first | apply zi1 | apply zi2 | apply zi3 | apply zi4 | apply zi5) <;> intro _ <;> conv => whnf))
  refine VCall.intro (cD _) ?_
  conv => whnf
  repeat' (first | ((first | refine zs1 ?_ | refine zs2 ?_ | refine zs3 ?_ | refine zs4 ?_ | refine zs5 ?_); conv => whnf) | ((first | apply zi1 | apply zi2 | apply zi3 | apply zi4 | apply zi5) <;> intro _ <;> conv => whnf))
  rw [show (N.ss.eraseIdx k) = (erN N k).ss from rfl]
  refine VOut.data 2 [(0, (erN N k).ss.flatMap encSg), (1, encDk (erN N k) p)] [] rfl zr (by exact FmAll.nil) zv
def ofS (p : Int) (s : Sg) : Bool := decide (s.f = p ∨ s.t = p)
def looS (N : Nt) (p : Int) : Nat → List Sg → List Int
  | _, [] => []
  | k, s :: r => if (ofS p s && !decide (regS (bnds (erN N k) p) = [])) = true then (k : Int) :: looS N p (k + 1) r else looS N p (k + 1) r
theorem looS_at {N : Nt} {p : Int} {l : List Sg} {k : Nat} {s : Sg} (h : l[k]? = some s) : looS N p k (l.drop k) = if (ofS p s && !decide (regS (bnds (erN N k) p) = [])) = true then (k : Int) :: looS N p (k + 1) (l.drop (k + 1)) else looS N p (k + 1) (l.drop (k + 1)) := by
  obtain ⟨hlt, rfl⟩ := List.getElem?_eq_some_iff.1 h
  rw [List.drop_eq_getElem_cons hlt, looS]
def loE (N : Nt) (p : Int) : Int := if brE N p ≠ 0 then brE N p else if regS (bnds N p) = [] then 0 else 10
def loL (N : Nt) (p : Int) : List Int := if loE N p = 0 then looS N p 0 N.ss else []
theorem loE_ok {N : Nt} {p : Int} : loE N p = 0 ↔ brE N p = 0 ∧ regS (bnds N p) = [] := by
  unfold loE
  split
  · rename_i h; exact ⟨fun e => absurd e h, fun e => absurd e.1 h⟩
  · rename_i h
    split
    · rename_i h2; exact ⟨fun _ => ⟨Classical.not_not.1 h, h2⟩, fun _ => rfl⟩
    · rename_i h2; exact ⟨fun e => by omega, fun e => absurd e.2 h2⟩
theorem vc_Loose (N : Nt) (p : Int) (h : Hp) (hn : N.ps.length ≤ 4000000) (hm : N.ss.length ≤ 4000000) : VC Try.prog 54 [vN N, I p] h (.tuple [ints (loL N p), I (loE N p)]) h := by
  have c := fun h => vc_begun N p h hn hm
  unfold loL
  by_cases h0 : loE N p = 0
  · obtain ⟨b0, hS⟩ := loE_ok.1 h0
    have o := (brE_ok.1 b0).1
    have om := o.m
    have cB := fun h => vc_bounds N p h o
    have cR := fun h => vc_region (bnds N p) h (by have := bnds_len o p; omega) (bnds_sz o p)
    rw [hS] at cR
    rw [b0] at c
    rw [if_pos h0, h0]
    obtain ⟨M, hM⟩ : ∃ M, M = looS N p 0 N.ss := ⟨_, rfl⟩
    rw [← hM]
    have hM : M = [] ++ looS N p 0 (N.ss.drop 0) := hM
    generalize bnds N p = bs at *
    refine VC.body Try.func54 rfl Try.ntmps54 Try.call54 (h.grows_refl) rfl ?_; conv => whnf
    repeat' (first | ((first | refine zs1 ?_ | refine zs2 ?_ | refine zs3 ?_ | refine zs4 ?_ | refine zs5 ?_ | refine zs6 [] ?_); conv => whnf) | ((first | apply zi1 | apply zi2 | apply zi3 | apply zi4 | apply zi5) <;> intro _ <;> conv => whnf) | (refine VCall.intro (c _) ?_; conv => whnf) | (refine VCall.intro (cB _) ?_; conv => whnf) | (refine VCall.intro (cR _) ?_; conv => whnf))
    refine VCode.lp (fun y : Nat × List Int => [(2, .fp (encN N)), (4, .nilslice), (5, I 0), (6, .fp (encDk N p)), (8, .gl (.loc 0) 1 y.2.length), (28, sgs N.ss), (29, I N.ss.length), (30, I y.1)]) (fun y => [.flat true (y.2.flatMap encI)]) (fun y => y.1 ≤ N.ss.length ∧ y.2.length ≤ y.1 ∧ M = y.2 ++ looS N p y.1 (N.ss.drop y.1)) (fun y => N.ss.length - y.1) (0, []) ⟨Nat.zero_le _, Nat.zero_le _, hM⟩ ?_ ?_
    · conv => whnf
      refine Retell.turn ⟨[1], 1, [(0, encN N)], []⟩ (TurnOk.mk' _ _ [(0, encN N)] [] (OutOk.lift _) rfl (by decide) zb zf trivial rfl) zv zm
    · clear hM
      rintro ⟨k, w⟩ ⟨h1, h2, h3⟩
      dsimp only at h1 h2 h3
      conv => whnf
      refine VIte.dec (fun h5 => ?_) (fun h5 => ?_)
      · dsimp only at h5
        have hk : N.ss[k]? = some N.ss[k] := List.getElem?_eq_getElem (by omega)
        rw [looS_at hk] at h3
        generalize N.ss[k] = s at hk h3
        have cO := fun h => vc_of N p s h
        have cW := fun h => vc_without N p k h o (by omega)
        have oe := erN_ok o k
        have cB2 := fun h => vc_bounds (erN N k) p h oe
        have cR2 := fun h => vc_region (bnds (erN N k) p) h (by have := bnds_len oe p; omega) (bnds_sz oe p)
        have eo : decide (s.f = p ∨ s.t = p) = ofS p s := rfl
        rw [eo] at cO
        generalize bnds (erN N k) p = bs2 at *
        generalize regS bs2 = S at *
        cases hof : ofS p s with
        | false =>
          rw [hof] at cO h3
          rw [Bool.false_and, if_neg (by decide)] at h3
          conv => whnf
          repeat' (first | ((first | refine zs1 ?_ | refine zs2 ?_ | refine zs3 ?_ | refine zs4 ?_ | refine zs5 ?_ | refine zs6 [] ?_); conv => whnf) | ((first | apply zi1 | apply zi2 | apply zi3 | apply zi4 | apply zi5) <;> intro _ <;> conv => whnf) | (refine VAny.ix encSg_len k rfl rfl hk ?_; conv => whnf) | (refine VCall.intro (cO _) ?_; conv => whnf))
          refine LEnd.intro (k + 1, w) ⟨by dsimp only; omega, by dsimp only; omega, h3⟩ (by dsimp only; omega) ?_
          conv => whnf
          refine Retell.turn ⟨[0], 2, [], []⟩ (TurnOk.mk' _ _ [] [] (OutOk.lift _) rfl (by decide) zb trivial trivial rfl) zv zm
        | true =>
          rw [hof] at cO h3
          rw [Bool.true_and] at h3
          conv => whnf
          repeat' (first | ((first | refine zs1 ?_ | refine zs2 ?_ | refine zs3 ?_ | refine zs4 ?_ | refine zs5 ?_ | refine zs6 [] ?_); conv => whnf) | ((first | apply zi1 | apply zi2 | apply zi3 | apply zi4 | apply zi5) <;> intro _ <;> conv => whnf) | (refine VAny.ix encSg_len k rfl rfl hk ?_; conv => whnf) | (refine VCall.intro (cO _) ?_; conv => whnf) | (refine VCall.intro (cW _) ?_; conv => whnf) | (refine VCall.intro (cB2 _) ?_; conv => whnf) | (refine VCall.intro (cR2 _) ?_; conv => whnf))
          · rename_i hS
            have hS2 : ¬ S = [] := fun e => by subst e; dsimp only [List.length_nil] at hS; omega
            rw [decide_eq_false hS2, Bool.not_false, if_pos rfl] at h3
            refine VMem.app1 (l := w) (k : Int) encI_len rfl rfl rfl rfl rfl (by omega) ?_
            conv => whnf
            repeat' (first | ((first | refine zs1 ?_ | refine zs2 ?_ | refine zs3 ?_ | refine zs4 ?_ | refine zs5 ?_ | refine zs6 [] ?_); conv => whnf) | ((first | apply zi1 | apply zi2 | apply zi3 | apply zi4 | apply zi5) <;> intro _ <;> conv => whnf))
            refine LEnd.intro (k + 1, w ++ [(k : Int)]) ⟨by dsimp only; omega, by dsimp only; rw [List.length_append]; simp only [List.length_singleton]; omega, by dsimp only; rw [h3, List.append_assoc]; rfl⟩ (by dsimp only; omega) ?_
            conv => whnf
            rw [List.length_append]
            refine Retell.turn ⟨[3], 4, [], []⟩ (TurnOk.mk' _ _ [] [] (OutOk.lift _) rfl (by decide) zb trivial trivial rfl) zv zm
          · rename_i hS
            have hS2 : S = [] := List.length_eq_zero_iff.1 (by omega)
            rw [decide_eq_true hS2, Bool.not_true, if_neg (by decide)] at h3
            refine LEnd.intro (k + 1, w) ⟨by dsimp only; omega, by dsimp only; omega, h3⟩ (by dsimp only; omega) ?_
            conv => whnf
            refine Retell.turn ⟨[0], 2, [], []⟩ (TurnOk.mk' _ _ [] [] (OutOk.lift _) rfl (by decide) zb trivial trivial rfl) zv zm
      · have hk3 : k = N.ss.length := by dsimp only at h5; omega
        subst hk3
        rw [List.drop_length, looS, List.append_nil] at h3
        subst h3
        conv => whnf
        repeat' (first | ((first | refine zs1 ?_ | refine zs2 ?_ | refine zs3 ?_ | refine zs4 ?_ | refine zs5 ?_ | refine zs6 [] ?_); conv => whnf) | ((first | apply zi1 | apply zi2 | apply zi3 | apply zi4 | apply zi5) <;> intro _ <;> conv => whnf))
        refine VOut.data 1 [(0, M.flatMap encI)] [] rfl zf (by exact FmAll.nil) zv
  · rw [if_neg h0]
    by_cases b0 : brE N p = 0
    · have o := (brE_ok.1 b0).1
      have hS : regS (bnds N p) ≠ [] := fun e => h0 (loE_ok.2 ⟨b0, e⟩)
      have e : loE N p = 10 := by unfold loE; rw [if_neg (by omega), if_neg hS]
      have cB := fun h => vc_bounds N p h o
      have cR := fun h => vc_region (bnds N p) h (by have := bnds_len o p; omega) (bnds_sz o p)
      have hl := List.length_pos_iff.2 hS
      rw [b0] at c
      rw [e]
      generalize bnds N p = bs at *
      generalize regS bs = S at *
      refine VC.body Try.func54 rfl Try.ntmps54 Try.call54 (h.grows_refl) rfl ?_; conv => whnf
      repeat' (first | ((first | refine zs1 ?_ | refine zs2 ?_ | refine zs3 ?_ | refine zs4 ?_ | refine zs5 ?_ | refine zs6 [] ?_); conv => whnf) | ((first | apply zi1 | apply zi2 | apply zi3 | apply zi4 | apply zi5) <;> intro _ <;> conv => whnf) | (refine VCall.intro (c _) ?_; conv => whnf) | (refine VCall.intro (cB _) ?_; conv => whnf) | (refine VCall.intro (cR _) ?_; conv => whnf))
      all_goals first | (refine VOut.data 1 [] [] rfl zf (by exact FmAll.nil) zv
                         done) | (exfalso; omega)
    · have e : loE N p = brE N p := by unfold loE; rw [if_pos b0]
      rw [e]
      generalize brE N p = E at *
      refine VC.body Try.func54 rfl Try.ntmps54 Try.call54 (h.grows_refl) rfl ?_; conv => whnf
      repeat' (first | ((first | refine zs1 ?_ | refine zs2 ?_ | refine zs3 ?_ | refine zs4 ?_ | refine zs5 ?_ | refine zs6 [] ?_); conv => whnf) | ((first | apply zi1 | apply zi2 | apply zi3 | apply zi4 | apply zi5) <;> intro _ <;> conv => whnf) | (refine VCall.intro (c _) ?_; conv => whnf))
      all_goals first | (exfalso; omega) | (refine VOut.data 1 [] [] rfl zf (by exact FmAll.nil) zv
                                            done)
end Go.Proofs.Ytdlnjnfkbneibaa

open Go.Vm
open Clip (Pn Sg Nt Bd Rt Sp Co Pl NtOk SgOk chk chk_ok bnds bnds_sz bnds_len bnds_sq regS BdSz SpSz)
namespace Go.Proofs.Ytdlnjnfkbneibaa
set_option maxRecDepth 20000
set_option maxHeartbeats 4000000

theorem drop_eq_dec {α : Type} [DecidableEq α] {a b : List α} {k : Nat} {x y : α} (hx : a[k]? = some x) (hy : b[k]? = some y) : decide (a.drop k = b.drop k) = (decide (x = y) && decide (a.drop (k + 1) = b.drop (k + 1))) := by
  obtain ⟨h1, rfl⟩ := List.getElem?_eq_some_iff.1 hx
  obtain ⟨h2, rfl⟩ := List.getElem?_eq_some_iff.1 hy
  rw [List.drop_eq_getElem_cons h1, List.drop_eq_getElem_cons h2, Bool.eq_iff_iff, Bool.and_eq_true, decide_eq_true_eq, decide_eq_true_eq, decide_eq_true_eq, List.cons.injEq]
theorem ne_I {x y : Int} (h : ¬ x = y) : ¬ x = y := h
theorem eq_I {x y : Int} (h : x = y) : x = y := h
theorem ne_X {α : Type} {x y : α} (h : ¬ x = y) : ¬ x = y := h
theorem eq_X {α : Type} [DecidableEq α] {x y : α} (h : ¬ ¬ x = y) : x = y := Decidable.not_not.1 h
theorem vneqSp (x y : Sp) : vaggeq Try.prog .neq 72 (vSp x) (vSp y) = some (B (decide (¬ x = y))) := by
  obtain ⟨sh, h1, h2⟩ := top72
  unfold vaggeq
  rw [h1]
  dsimp only
  rw [h2]
  rw [decide_not]
theorem vc_equalI (a b : List Int) (h : Hp) (ha : a.length ≤ 4000000) (hb : b.length ≤ 4000000) : VC Try.prog 17 [ints a, ints b] h (B (decide (a = b))) h := by
  obtain ⟨E, hE⟩ : ∃ E, E = decide (a = b) := ⟨_, rfl⟩
  rw [← hE]
  refine VC.body Try.func17 rfl Try.ntmps17 Try.call17 (h.grows_refl) rfl ?_; conv => whnf
  refine VCode.lp (fun k : Nat => [(0, ints a), (1, ints b), (4, B false), (7, I a.length), (8, I k)]) (fun _ => []) (fun k => k ≤ a.length ∧ k ≤ b.length ∧ E = decide (a.drop k = b.drop k)) (fun k => a.length - k) 0 ⟨Nat.zero_le _, Nat.zero_le _, hE⟩ ?_ ?_
  · conv => whnf
    refine Retell.turn ⟨[], 0, [], []⟩ (TurnOk.mk' _ _ [] [] (OutOk.lift _) rfl (by decide) zb trivial trivial rfl) zv zm
  · rintro k ⟨h1, h2, h3⟩
    conv => whnf
    refine VIte.dec (fun h4 => ?_) (fun h4 => ?_)
    · have hx : a[k]? = some a[k] := List.getElem?_eq_getElem (by omega)
      rcases Nat.eq_or_lt_of_le h2 with h5 | h5
      · have hF : E = false := by
          rw [h3, decide_eq_false_iff_not]
          intro hh
          have := congrArg List.length hh
          simp at this; omega
        rw [hF]
        conv => whnf
        repeat' (first | ((first | refine zs1 ?_ | refine zs2 ?_ | refine zs3 ?_ | refine zs4 ?_ | refine zs5 ?_ | refine zs6 [] ?_); conv => whnf) | ((first | apply zi1 | apply zi2 | apply zi3 | apply zi4 | apply zi5) <;> intro _ <;> conv => whnf))
        · exact VOut.same rfl
        all_goals omega
      · have hy : b[k]? = some b[k] := List.getElem?_eq_getElem h5
        rw [drop_eq_dec hx hy] at h3
        generalize a[k] = x at hx h3
        generalize b[k] = y at hy h3
        conv => whnf
        repeat' (first | ((first | refine zs1 ?_ | refine zs2 ?_ | refine zs3 ?_ | refine zs4 ?_ | refine zs5 ?_ | refine zs6 [] ?_); conv => whnf) | ((first | apply zi1 | apply zi2 | apply zi3 | apply zi4 | apply zi5) <;> intro _ <;> conv => whnf) | (refine VAny.ix encI_len k rfl rfl hx ?_; conv => whnf) | (refine VAny.ix encI_len k rfl rfl hy ?_; conv => whnf))
        all_goals (try omega)
        all_goals first
          | (rw [decide_eq_false (ne_I (by first | assumption | omega)), Bool.false_and] at h3; rw [h3]; exact VOut.same rfl)
          | (rw [decide_eq_true (eq_I (by first | assumption | omega)), Bool.true_and] at h3
             refine LEnd.intro (k + 1) ⟨by omega, by omega, h3⟩ (by omega) ?_
             conv => whnf
             refine Retell.turn ⟨[], 0, [], []⟩ (TurnOk.mk' _ _ [] [] (OutOk.lift _) rfl (by decide) zb trivial trivial rfl) zv zm)
    · have hk : k = a.length := by omega
      rw [h3, hk, List.drop_length]
      conv => whnf
      repeat' (first | ((first | refine zs1 ?_ | refine zs2 ?_ | refine zs3 ?_ | refine zs4 ?_ | refine zs5 ?_ | refine zs6 [] ?_); conv => whnf) | ((first | apply zi1 | apply zi2 | apply zi3 | apply zi4 | apply zi5) <;> intro _ <;> conv => whnf))
      refine VOut.same ?_
      have : ((a.length : Int) == b.length) = decide ([] = b.drop a.length) := by
        rw [Bool.eq_iff_iff, decide_eq_true_eq, beq_iff_eq]
        constructor
        · intro hh; rw [List.drop_of_length_le (by omega)]
        · intro hh
          have := congrArg List.length hh
          simp at this; omega
      simp only [V.ren, this]
theorem vc_equalSp (a b : List Sp) (h : Hp) (ha : a.length ≤ 4000000) (hb : b.length ≤ 4000000) : VC Try.prog 46 [sps a, sps b] h (B (decide (a = b))) h := by
  obtain ⟨E, hE⟩ : ∃ E, E = decide (a = b) := ⟨_, rfl⟩
  rw [← hE]
  refine VC.body Try.func46 rfl Try.ntmps46 Try.call46 (h.grows_refl) rfl ?_; conv => whnf
  refine VCode.lp (fun k : Nat => [(0, sps a), (1, sps b), (4, B false), (7, I a.length), (8, I k)]) (fun _ => []) (fun k => k ≤ a.length ∧ k ≤ b.length ∧ E = decide (a.drop k = b.drop k)) (fun k => a.length - k) 0 ⟨Nat.zero_le _, Nat.zero_le _, hE⟩ ?_ ?_
  · conv => whnf
    refine Retell.turn ⟨[], 0, [], []⟩ (TurnOk.mk' _ _ [] [] (OutOk.lift _) rfl (by decide) zb trivial trivial rfl) zv zm
  · rintro k ⟨h1, h2, h3⟩
    conv => whnf
    refine VIte.dec (fun h4 => ?_) (fun h4 => ?_)
    · have hx : a[k]? = some a[k] := List.getElem?_eq_getElem (by omega)
      rcases Nat.eq_or_lt_of_le h2 with h5 | h5
      · have hF : E = false := by
          rw [h3, decide_eq_false_iff_not]
          intro hh
          have := congrArg List.length hh
          simp at this; omega
        rw [hF]
        conv => whnf
        repeat' (first | ((first | refine zs1 ?_ | refine zs2 ?_ | refine zs3 ?_ | refine zs4 ?_ | refine zs5 ?_ | refine zs6 [] ?_); conv => whnf) | ((first | apply zi1 | apply zi2 | apply zi3 | apply zi4 | apply zi5) <;> intro _ <;> conv => whnf))
        · exact VOut.same rfl
        all_goals omega
      · have hy : b[k]? = some b[k] := List.getElem?_eq_getElem h5
        rw [drop_eq_dec hx hy] at h3
        generalize a[k] = x at hx h3
        generalize b[k] = y at hy h3
        conv => whnf
        repeat' (first | ((first | refine zs1 ?_ | refine zs2 ?_ | refine zs3 ?_ | refine zs4 ?_ | refine zs5 ?_ | refine zs6 [] ?_); conv => whnf) | ((first | apply zi1 | apply zi2 | apply zi3 | apply zi4 | apply zi5) <;> intro _ <;> conv => whnf) | (refine VAny.ix encSp_len k rfl rfl hx ?_; conv => whnf) | (refine VAny.ix encSp_len k rfl rfl hy ?_; conv => whnf) | (refine VAgg.intro (vneqSp _ _) ?_; conv => whnf))
        all_goals (try omega)
        all_goals first
          | (rw [decide_eq_false (ne_X (by first | assumption | omega)), Bool.false_and] at h3; rw [h3]; exact VOut.same rfl)
          | (rw [decide_eq_true (eq_X (by first | assumption | omega)), Bool.true_and] at h3
             refine LEnd.intro (k + 1) ⟨by omega, by omega, h3⟩ (by omega) ?_
             conv => whnf
             refine Retell.turn ⟨[], 0, [], []⟩ (TurnOk.mk' _ _ [] [] (OutOk.lift _) rfl (by decide) zb trivial trivial rfl) zv zm)
    · have hk : k = a.length := by omega
      rw [h3, hk, List.drop_length]
      conv => whnf
      repeat' (first | ((first | refine zs1 ?_ | refine zs2 ?_ | refine zs3 ?_ | refine zs4 ?_ | refine zs5 ?_ | refine zs6 [] ?_); conv => whnf) | ((first | apply zi1 | apply zi2 | apply zi3 | apply zi4 | apply zi5) <;> intro _ <;> conv => whnf))
      refine VOut.same ?_
      have : ((a.length : Int) == b.length) = decide ([] = b.drop a.length) := by
        rw [Bool.eq_iff_iff, decide_eq_true_eq, beq_iff_eq]
        constructor
        · intro hh; rw [List.drop_of_length_le (by omega)]
        · intro hh
          have := congrArg List.length hh
          simp at this; omega
      simp only [V.ren, this]
end Go.Proofs.Ytdlnjnfkbneibaa

open Go.Vm
open Clip (Pn Sg Nt Bd Rt Sp Co Pl NtOk SgOk chk chk_ok bnds bnds_sz bnds_len bnds_sq regS BdSz SpSz)
namespace Go.Proofs.Ytdlnjnfkbneibaa
set_option maxRecDepth 20000
set_option maxHeartbeats 4000000
theorem vc_point (x y : Int) (h : Hp) : VC Try.prog 35 [I x, I y] h (vPn ⟨x, y⟩) h := by
  refine VC.body Try.func35 rfl Try.ntmps35 Try.call35 (h.grows_refl) rfl ?_; conv => whnf
  repeat' (first | ((first | refine zs1 ?_ | refine zs2 ?_ | refine zs3 ?_ | refine zs4 ?_ | refine zs5 ?_ | refine zs6 [] ?_); conv => whnf) | ((first | apply zi1 | apply zi2 | apply zi3 | apply zi4 | apply zi5) <;> intro _ <;> conv => whnf))
  exact VOut.same rfl
theorem vc_Seen (f t a b c d : Int) (h : Hp) : VC Try.prog 94 [I f, I t, I a, I b, I c, I d] h (vSg ⟨f, t, ⟨a, b⟩, ⟨c, d⟩⟩) h := by
  have c1 := fun h => vc_point a b h
  have c2 := fun h => vc_point c d h
  refine VC.body Try.func94 rfl Try.ntmps94 Try.call94 (h.grows_refl) rfl ?_; conv => whnf
  repeat' (first | ((first | refine zs1 ?_ | refine zs2 ?_ | refine zs3 ?_ | refine zs4 ?_ | refine zs5 ?_ | refine zs6 [] ?_); conv => whnf) | ((first | apply zi1 | apply zi2 | apply zi3 | apply zi4 | apply zi5) <;> intro _ <;> conv => whnf) | (refine VCall.intro (c1 _) ?_; conv => whnf) | (refine VCall.intro (c2 _) ?_; conv => whnf))
  exact VOut.same rfl
def threeP : List Pn := [⟨0, 0⟩, ⟨100, 0⟩, ⟨60, 60⟩]
def threeS : List Sg := [⟨0, 2, ⟨2, 1⟩, ⟨1, 2⟩⟩, ⟨1, 2, ⟨-1, 2⟩, ⟨-2, 1⟩⟩]
def threeN : Nt := ⟨threeP, threeS⟩
def fourP : List Pn := threeP ++ [⟨60, 0⟩]
def fourS2 : List Sg := [⟨0, 2, ⟨2, 1⟩, ⟨1, 2⟩⟩, ⟨1, 2, ⟨1, 0⟩, ⟨1, 1⟩⟩]
def fourS : List Sg := fourS2 ++ [⟨3, 2, ⟨1, 10⟩, ⟨-1, 10⟩⟩]
def fourN : Nt := ⟨fourP, fourS⟩
theorem VOut.ownN {h : Hp} {loc : List Blk} {n m : Nat} {ds es : List D} (j k L : Nat) (hL : Nat.ble loc.length L = true) (hjk : j < k) (hj : loc[j]? = some (.flat true ds)) (hk : loc[k]? = some (.flat true es)) : VOut h ⟨h.lift, loc⟩ (.agg [.gl (.loc j) 2 n, .gl (.loc k) 6 m]) (.agg [.gl (.loc h.loc.length) 2 n, .gl (.loc (h.loc.length + 1)) 6 m]) (h.pushes [.flat true ds, .flat true es]) := by
  refine VOut.upd [] [.flat true ds, .flat true es] [j, k] L hL (by intro p hp; cases hp) (by simp; omega) rfl ?_ ?_ rfl
  · intro i b hi
    cases i with
    | zero => rw [List.getElem?_cons_zero, Option.some.injEq] at hi; subst hi; exact ⟨j, rfl, hj⟩
    | succ i =>
      cases i with
      | zero => rw [List.getElem?_cons_succ, List.getElem?_cons_zero, Option.some.injEq] at hi; subst hi; exact ⟨k, rfl, hk⟩
      | succ i => simp at hi
  · intro σ x hx
    have : (V.agg [.gl (.loc h.loc.length) 2 n, .gl (.loc (h.loc.length + 1)) 6 m]).ren (backR h.loc.length [j, k] L) = .agg [.gl (.loc j) 2 n, .gl (.loc k) 6 m] := by simp [V.ren, V.rens, backR]
    rw [this]; exact hx
theorem vc_Three (h : Hp) : VC Try.prog 51 [] h (vN threeN) h := by
  have p1 := fun h => vc_point 0 0 h
  have p2 := fun h => vc_point 100 0 h
  have p3 := fun h => vc_point 60 60 h
  have s1 := fun h => vc_Seen 0 2 2 1 1 2 h
  have s2 := fun h => vc_Seen 1 2 (-1) 2 (-2) 1 h
  refine VC.body Try.func51 rfl Try.ntmps51 Try.call51 (h.grows_refl) rfl ?_; conv => whnf
  repeat' (first | ((first | refine zs1 ?_ | refine zs2 ?_ | refine zs3 ?_ | refine zs4 ?_ | refine zs5 ?_ | refine zs6 [] ?_); conv => whnf) | ((first | apply zi1 | apply zi2 | apply zi3 | apply zi4 | apply zi5) <;> intro _ <;> conv => whnf) | (refine VCall.intro (p1 _) ?_; conv => whnf) | (refine VCall.intro (p2 _) ?_; conv => whnf) | (refine VCall.intro (p3 _) ?_; conv => whnf) | (refine VCall.intro (s1 _) ?_; conv => whnf) | (refine VCall.intro (s2 _) ?_; conv => whnf))
  refine VOut.data 3 [(1, threeP.flatMap encPn), (2, threeS.flatMap encSg)] [] rfl zf (by exact FmAll.nil) zv
theorem vc_ThreeO (h : Hp) : VC Try.prog 51 [] h (.agg [.gl (.loc h.loc.length) 2 3, .gl (.loc (h.loc.length + 1)) 6 2]) (h.pushes [.flat true (threeP.flatMap encPn), .flat true (threeS.flatMap encSg)]) := by
  have p1 := fun h => vc_point 0 0 h
  have p2 := fun h => vc_point 100 0 h
  have p3 := fun h => vc_point 60 60 h
  have s1 := fun h => vc_Seen 0 2 2 1 1 2 h
  have s2 := fun h => vc_Seen 1 2 (-1) 2 (-2) 1 h
  refine VC.body Try.func51 rfl Try.ntmps51 Try.call51 (Hp.grows_sets (h := h) (upd := []) (by intro p hp; cases hp)) rfl ?_; conv => whnf
  repeat' (first | ((first | refine zs1 ?_ | refine zs2 ?_ | refine zs3 ?_ | refine zs4 ?_ | refine zs5 ?_ | refine zs6 [] ?_); conv => whnf) | ((first | apply zi1 | apply zi2 | apply zi3 | apply zi4 | apply zi5) <;> intro _ <;> conv => whnf) | (refine VCall.intro (p1 _) ?_; conv => whnf) | (refine VCall.intro (p2 _) ?_; conv => whnf) | (refine VCall.intro (p3 _) ?_; conv => whnf) | (refine VCall.intro (s1 _) ?_; conv => whnf) | (refine VCall.intro (s2 _) ?_; conv => whnf))
  exact VOut.ownN 1 2 3 rfl (by decide) rfl rfl
theorem vc_Four (h : Hp) : VC Try.prog 53 [] h (vN fourN) h := by
  have p1 := fun h => vc_point 60 0 h
  have s1 := fun h => vc_Seen 1 2 1 0 1 1 h
  have s2 := fun h => vc_Seen 3 2 1 10 (-1) 10 h
  refine VC.body Try.func53 rfl Try.ntmps53 Try.call53 (h.grows_refl) rfl ?_; conv => whnf
  repeat' (first | ((first | refine zs1 ?_ | refine zs2 ?_ | refine zs3 ?_ | refine zs4 ?_ | refine zs5 ?_); conv => whnf) | ((first | apply zi1 | apply zi2 | apply zi3 | apply zi4 | apply zi5) <;> intro _ <;> conv => whnf) | (refine VCall.intro (vc_ThreeO _) ?_; conv => whnf))
  refine zs6 [(1, 2)] ?_
  conv => whnf
  repeat' (first | ((first | refine zs1 ?_ | refine zs2 ?_ | refine zs3 ?_ | refine zs4 ?_ | refine zs5 ?_); conv => whnf) | ((first | apply zi1 | apply zi2 | apply zi3 | apply zi4 | apply zi5) <;> intro _ <;> conv => whnf) | (refine VCall.intro (s1 _) ?_; conv => whnf))
  refine zs6 [(1, 2), (2, 6), (4, 6), (6, 7)] ?_
  conv => whnf
  repeat' (first | ((first | refine zs1 ?_ | refine zs2 ?_ | refine zs3 ?_ | refine zs4 ?_ | refine zs5 ?_); conv => whnf) | ((first | apply zi1 | apply zi2 | apply zi3 | apply zi4 | apply zi5) <;> intro _ <;> conv => whnf) | (refine VCall.intro (p1 _) ?_; conv => whnf))
  refine VMem.app1 (l := threeP) (⟨60, 0⟩ : Pn) encPn_len rfl rfl rfl rfl rfl (by decide) ?_
  conv => whnf
  repeat' (first | ((first | refine zs1 ?_ | refine zs2 ?_ | refine zs3 ?_ | refine zs4 ?_ | refine zs5 ?_); conv => whnf) | ((first | apply zi1 | apply zi2 | apply zi3 | apply zi4 | apply zi5) <;> intro _ <;> conv => whnf) | (refine VCall.intro (s2 _) ?_; conv => whnf))
  refine VMem.app1 (l := fourS2) (⟨3, 2, ⟨1, 10⟩, ⟨-1, 10⟩⟩ : Sg) encSg_len rfl rfl rfl rfl rfl (by decide) ?_
  conv => whnf
  repeat' (first | ((first | refine zs1 ?_ | refine zs2 ?_ | refine zs3 ?_ | refine zs4 ?_ | refine zs5 ?_); conv => whnf) | ((first | apply zi1 | apply zi2 | apply zi3 | apply zi4 | apply zi5) <;> intro _ <;> conv => whnf))
  refine VOut.data 8 [(5, fourP.flatMap encPn), (7, fourS.flatMap encSg)] [] rfl zf (by exact FmAll.nil) zv
end Go.Proofs.Ytdlnjnfkbneibaa

open Go.Vm
open Clip (Pn Sg Nt Bd Rt Sp Co Pl NtOk SgOk chk chk_ok bnds bnds_sz bnds_len bnds_sq regS BdSz SpSz offL)
namespace Go.Proofs.Ytdlnjnfkbneibaa
set_option maxRecDepth 20000
set_option maxHeartbeats 4000000

def spL : List Int → List Sp
  | a :: b :: r => ⟨⟨a, 1⟩, ⟨b, 1⟩⟩ :: spL r
  | _ => []
theorem spL_at {l : List Int} {k : Nat} {a b : Int} (ha : l[k]? = some a) (hb : l[k + 1]? = some b) : spL (l.drop k) = ⟨⟨a, 1⟩, ⟨b, 1⟩⟩ :: spL (l.drop (k + 2)) := by
  obtain ⟨h1, rfl⟩ := List.getElem?_eq_some_iff.1 ha
  obtain ⟨h2, rfl⟩ := List.getElem?_eq_some_iff.1 hb
  rw [List.drop_eq_getElem_cons h1, List.drop_eq_getElem_cons h2, spL]
theorem spL_end {l : List Int} {k : Nat} (h : l.length ≤ k + 1) : spL (l.drop k) = [] := by
  rcases Nat.lt_or_ge k l.length with h1 | h1
  · rw [List.drop_eq_getElem_cons h1, List.drop_of_length_le h, spL]; intros; simp at *
  · rw [List.drop_of_length_le h1, spL]; intros; contradiction
theorem vc_spots (l : List Int) (h : Hp) (hn : l.length ≤ 4000000) : VC Try.prog 52 [ints l] h (sps (spL l)) h := by
  obtain ⟨E, hE⟩ : ∃ E, E = spL l := ⟨_, rfl⟩
  rw [← hE]
  have hE : E = [] ++ spL (l.drop (2 * 0)) := hE
  refine VC.body Try.func52 rfl Try.ntmps52 Try.call52 (h.grows_refl) rfl ?_; conv => whnf
  repeat' (first | ((first | refine zs1 ?_ | refine zs2 ?_ | refine zs3 ?_ | refine zs4 ?_ | refine zs5 ?_); conv => whnf) | ((first | apply zi1 | apply zi2 | apply zi3 | apply zi4 | apply zi5) <;> intro _ <;> conv => whnf))
  refine VCode.lp (fun y : Nat × List Sp => [(0, ints l), (2, .nilslice), (3, .gl (.loc 0) 4 y.2.length), (4, I ((2 * y.1 : Nat) : Int))]) (fun y => [.flat true (y.2.flatMap encSp)]) (fun y => 2 * y.1 ≤ l.length ∧ y.2.length ≤ y.1 ∧ E = y.2 ++ spL (l.drop (2 * y.1))) (fun y => l.length - y.1) (0, []) ⟨Nat.zero_le _, Nat.zero_le _, hE⟩ ?_ ?_
  · conv => whnf
    refine Retell.turn ⟨[0], 0, [], []⟩ (TurnOk.mk' _ _ [] [] (OutOk.lift _) rfl (by decide) zb trivial trivial rfl) zv zm
  · clear hE
    rintro ⟨k, w⟩ ⟨h1, h2, h3⟩
    dsimp only at h1 h2 h3
    conv => whnf
    repeat' (first | ((first | refine zs1 ?_ | refine zs2 ?_ | refine zs3 ?_ | refine zs4 ?_ | refine zs5 ?_); conv => whnf) | ((first | apply zi1 | apply zi2 | apply zi3 | apply zi4 | apply zi5) <;> intro _ <;> conv => whnf))
    · rename_i h5
      dsimp only at h5
      have ha : l[2 * k]? = some (l[2 * k]'(by omega)) := List.getElem?_eq_getElem _
      have hb : l[2 * k + 1]? = some (l[2 * k + 1]'(by omega)) := List.getElem?_eq_getElem _
      rw [spL_at ha hb] at h3
      generalize l[2 * k]'(by omega) = a at *
      generalize l[2 * k + 1]'(by omega) = b at *
      refine zs6 [] ?_
      conv => whnf
      repeat' (first | ((first | refine zs1 ?_ | refine zs2 ?_ | refine zs3 ?_ | refine zs4 ?_ | refine zs5 ?_); conv => whnf) | ((first | apply zi1 | apply zi2 | apply zi3 | apply zi4 | apply zi5) <;> intro _ <;> conv => whnf) | (refine VAny.ix encI_len (2 * k) rfl rfl ha ?_; conv => whnf) | (refine VAny.ix encI_len (2 * k + 1) (by dsimp only; omega) rfl hb ?_; conv => whnf))
      refine VMem.app1 (l := w) (⟨⟨a, 1⟩, ⟨b, 1⟩⟩ : Sp) encSp_len rfl rfl rfl rfl rfl (by omega) ?_
      conv => whnf
      repeat' (first | ((first | refine zs1 ?_ | refine zs2 ?_ | refine zs3 ?_ | refine zs4 ?_ | refine zs5 ?_); conv => whnf) | ((first | apply zi1 | apply zi2 | apply zi3 | apply zi4 | apply zi5) <;> intro _ <;> conv => whnf))
      refine LEnd.intro (k + 1, w ++ [(⟨⟨a, 1⟩, ⟨b, 1⟩⟩ : Sp)]) ⟨by dsimp only; omega, by dsimp only; rw [List.length_append]; simp only [List.length_singleton]; omega, by dsimp only; rw [h3, List.append_assoc]; rfl⟩ (by dsimp only; omega) ?_
      conv => whnf
      rw [List.length_append]
      refine Retell.turn ⟨[2], 3, [], []⟩ (TurnOk.mk' _ _ [] [] (OutOk.lift _) rfl (by decide) zb trivial trivial rfl) zv zm
    · rename_i h5
      rw [spL_end (by dsimp only at h5; omega), List.append_nil] at h3
      subst h3
      repeat' (first | ((first | refine zs1 ?_ | refine zs2 ?_ | refine zs3 ?_ | refine zs4 ?_ | refine zs5 ?_); conv => whnf) | ((first | apply zi1 | apply zi2 | apply zi3 | apply zi4 | apply zi5) <;> intro _ <;> conv => whnf))
      refine VOut.data 1 [(0, E.flatMap encSp)] [] rfl zf (by exact FmAll.nil) zv
/-! ### Closed facts -/
theorem a01 : brE threeN 2 = 0 := by kernel_rfl
theorem a02 : (bnds threeN 2)[2]? = some ⟨2, 1, 200⟩ := by kernel_rfl
theorem a03 : (bnds threeN 2).length = 8 := by kernel_rfl
theorem a04 : crE threeN 2 = 0 := by kernel_rfl
theorem a05 : crS threeN 2 = spL [20, 40, 50, 25, 80, 40, 50, 100] := by kernel_rfl
theorem a06 : bxV Sp.X (crS threeN 2) = (20, 80) := by kernel_rfl
theorem a07 : bxV Sp.Y (crS threeN 2) = (25, 100) := by kernel_rfl
theorem a08 : asE threeN 2 ⟨1, 0⟩ = 0 := by kernel_rfl
theorem a09 : rcV threeN 2 ⟨1, 0⟩ = ⟨80, 1⟩ := by kernel_rfl
theorem a10 : prE threeN 2 ⟨0, 1⟩ ⟨[1, 2], [1, 1], 2⟩ = 0 := by kernel_rfl
theorem a11 : prV threeN 2 ⟨0, 1⟩ ⟨[1, 2], [1, 1], 2⟩ = ⟨100, 1⟩ := by kernel_rfl
theorem a12 : chk fourN = 0 := by kernel_rfl
theorem a13 : offL fourN = [1] := by kernel_rfl
theorem a14 : cvE fourN = 0 := by kernel_rfl
theorem a15 : cvV fourN = 1 := by kernel_rfl
theorem a16 : loE fourN 2 = 0 := by kernel_rfl
theorem a17 : loL fourN 2 = [1, 2] := by kernel_rfl
theorem a18 : rfE fourN 2 ⟨[2, 3, 4], [9, 10, 1], 0⟩ = 0 := by kernel_rfl
theorem a19 : rfB fourN 2 ⟨[2, 3, 4], [9, 10, 1], 0⟩ = true := by kernel_rfl
theorem a20 : crE fourN 1 = 0 := by kernel_rfl
theorem a21 : crS fourN 1 = spL [0, 0, 60, 60, 0, 60] := by kernel_rfl
end Go.Proofs.Ytdlnjnfkbneibaa

open Go.Vm
open Clip (Pn Sg Nt Bd Rt Sp Co Pl NtOk SgOk chk chk_ok bnds bnds_sz bnds_len bnds_sq regS BdSz SpSz offL)
namespace Go.Proofs.Ytdlnjnfkbneibaa
set_option maxRecDepth 20000
set_option maxHeartbeats 4000000

theorem vne65 (a b c d : Int) : vaggeq Try.prog .neq 65 (.agg [I a, I b]) (.agg [I c, I d]) = some (B (decide (¬ (a = c ∧ b = d)))) := by
  have : (!((a == c) && ((b == d) && true))) = decide (¬ (a = c ∧ b = d)) := by
    rw [Bool.eq_iff_iff, decide_eq_true_eq]; simp [-not_and]; omega
  rw [← this]
  unfold vaggeq
  rw [show eqTop Try.prog 65 = some (Sh.cons 0 1 false Sh.int (Sh.cons 1 1 false Sh.int Sh.nil)) by kernel_rfl]
  rfl
theorem vne70 (a b c d : Int) : vaggeq Try.prog .neq 70 (.agg [I a, I b]) (.agg [I c, I d]) = some (B (decide (¬ (a = c ∧ b = d)))) := by
  have : (!((a == c) && ((b == d) && true))) = decide (¬ (a = c ∧ b = d)) := by
    rw [Bool.eq_iff_iff, decide_eq_true_eq]; simp [-not_and]; omega
  rw [← this]
  unfold vaggeq
  rw [show eqTop Try.prog 70 = some (Sh.cons 0 1 false Sh.int (Sh.cons 1 1 false Sh.int Sh.nil)) by kernel_rfl]
  rfl
theorem vc_awake (h : Hp) : VC Try.prog 10 [] h (B true) h := by
  have c1 := fun h => vc_Bounds_ok threeN 2 h a01
  have c2 := fun h => vc_Corners threeN 2 h (by decide) (by decide)
  have c3 := fun h => vc_Box threeN 2 h (by decide) (by decide)
  have c4 := fun h => vc_Reach threeN 2 ⟨1, 0⟩ h (by decide) (by decide)
  have c5 := fun h => vc_Proves threeN 2 ⟨0, 1⟩ ⟨[1, 2], [1, 1], 2⟩ h (by decide) (by decide) (by decide) (by decide)
  have c6 := fun h => vc_Off_ok fourN h (chk_ok.1 a12)
  have c7 := fun h => vc_Convict fourN h (by decide) (by decide)
  have c8 := fun h => vc_Loose fourN 2 h (by decide) (by decide)
  have c9 := fun h => vc_Refutes fourN 2 ⟨[2, 3, 4], [9, 10, 1], 0⟩ h (by decide) (by decide) (by decide) (by decide)
  have c10 := fun h => vc_Corners fourN 1 h (by decide) (by decide)
  have p1 := fun h => vc_point 1 0 h
  have p2 := fun h => vc_point 0 1 h
  have s1 := fun h => vc_spots [20, 40, 50, 25, 80, 40, 50, 100] h (by decide)
  have s2 := fun h => vc_spots [0, 0, 60, 60, 0, 60] h (by decide)
  have hb := a02
  have hl := a03
  rw [a06, a07] at c3
  rw [a04, a05] at c2
  rw [a04] at c3
  rw [a08, a09] at c4
  rw [a10, a11] at c5
  rw [a13] at c6
  rw [a14, a15] at c7
  rw [a16, a17] at c8
  rw [a18, a19] at c9
  rw [a20, a21] at c10
  have q1 := fun h => vc_equalSp (spL [20, 40, 50, 25, 80, 40, 50, 100]) (spL [20, 40, 50, 25, 80, 40, 50, 100]) h (by decide) (by decide)
  have q2 := fun h => vc_equalSp (spL [0, 0, 60, 60, 0, 60]) (spL [0, 0, 60, 60, 0, 60]) h (by decide) (by decide)
  rw [decide_eq_true rfl] at q1 q2
  have q3 := vc_equalI [1] [1] Hp.bare (by decide) (by decide)
  have q4 := vc_equalI [1, 2] [1, 2] Hp.bare (by decide) (by decide)
  rw [decide_eq_true rfl] at q3 q4
  obtain ⟨cs, hcs⟩ : ∃ cs, cs = (bnds threeN 2).flatMap encBd := ⟨_, rfl⟩
  have eb : bds (bnds threeN 2) = .fs 3 8 cs := by rw [hcs]; unfold bds; rw [a03]
  have hix : ∀ K : V → Prop, K (.fp (encBd ⟨2, 1, 200⟩)) → VAny (IdxP 3 8 cs 2) K := fun K hK => by rw [hcs]; exact VAny.ix encBd_len 2 rfl a03.symm a02 hK
  rw [eb] at c1
  generalize spL [20, 40, 50, 25, 80, 40, 50, 100] = sA at *
  generalize spL [0, 0, 60, 60, 0, 60] = sB at *
  refine VC.bodyC 5 Try.func10 rfl Try.ntmps10 Try.call10 (h.grows_refl) rfl ?_; conv => whnf
  repeat' (first | ((first | refine zs1 ?_ | refine zs2 ?_ | refine zs3 ?_ | refine zs4 ?_ | refine zs5 ?_); conv => whnf) | ((first | apply zi1 | apply zi2 | apply zi3 | apply zi4 | apply zi5) <;> intro _ <;> conv => whnf) | (refine VCall.intro (vc_Three _) ?_; conv => whnf) | (refine VCall.intro (c1 _) ?_; conv => whnf) | (refine VCall.intro (c2 _) ?_; conv => whnf) | (refine VCall.intro (c3 _) ?_; conv => whnf) | (refine VCall.intro (c4 _) ?_; conv => whnf) | (refine VCall.intro (p1 _) ?_; conv => whnf) | (refine VCall.intro (p2 _) ?_; conv => whnf))
  refine VCut.at' (outer := h.lift) (marks := []) 1 [(1, .fs 3 8 cs), (2, I 0), (3, sps sA), (4, I 0), (5, .fp [DI 20, DI 80]), (6, .fp [DI 25, DI 100]), (7, I 0), (8, .fp [DI 80, DI 1]), (9, I 0)] [] ?_ ?_
  · conv => whnf
    refine Retell.turn ⟨[], 3, [(0, [DI 20, DI 80]), (1, [DI 25, DI 100]), (2, [DI 80, DI 1])], []⟩ (TurnOk.mk' _ _ [(0, [DI 20, DI 80]), (1, [DI 25, DI 100]), (2, [DI 80, DI 1])] [] (OutOk.lift _) rfl (by decide) zb zf trivial rfl) zv zm
  conv => whnf
  repeat' (first | ((first | refine zs1 ?_ | refine zs2 ?_ | refine zs3 ?_ | refine zs4 ?_ | refine zs5 ?_); conv => whnf) | ((first | apply zi1 | apply zi2 | apply zi3 | apply zi4 | apply zi5) <;> intro _ <;> conv => whnf) | (refine VCall.intro (vc_Three _) ?_; conv => whnf) | (refine VCall.intro (p2 _) ?_; conv => whnf))
  refine VCall.intro (VC.give (args' := [vN threeN, I 2, vPn ⟨0, 1⟩, vPf ⟨[1, 2], [1, 1], 2⟩]) (loc' := [.dead, .dead]) [(0, [DI 1, DI 2]), (1, [DI 1, DI 1])] [] (OutOk.lift _) zb zf (by exact FmAll.nil) rfl zv (c5 _)) ?_
  conv => whnf
  repeat' (first | ((first | refine zs1 ?_ | refine zs2 ?_ | refine zs3 ?_ | refine zs4 ?_ | refine zs5 ?_); conv => whnf) | ((first | apply zi1 | apply zi2 | apply zi3 | apply zi4 | apply zi5) <;> intro _ <;> conv => whnf))
  refine VCut.at' (outer := h.lift) (marks := []) 1 [(1, .fs 3 8 cs), (2, I 0), (3, sps sA), (4, I 0), (5, .fp [DI 20, DI 80]), (6, .fp [DI 25, DI 100]), (7, I 0), (8, .fp [DI 80, DI 1]), (9, I 0), (10, .fp [DI 100, DI 1]), (11, I 0)] [] ?_ ?_
  · conv => whnf
    refine Retell.turn ⟨[], 3, [(2, [DI 100, DI 1])], []⟩ (TurnOk.mk' _ _ [(2, [DI 100, DI 1])] [] (OutOk.lift _) rfl (by decide) zb zf trivial rfl) zv zm
  conv => whnf
  repeat' (first | ((first | refine zs1 ?_ | refine zs2 ?_ | refine zs3 ?_ | refine zs4 ?_ | refine zs5 ?_); conv => whnf) | ((first | apply zi1 | apply zi2 | apply zi3 | apply zi4 | apply zi5) <;> intro _ <;> conv => whnf) | (refine hix _ ?_; conv => whnf) | (refine VAgg.intro (vne49 _ _ _ _ _ _) ?_; conv => whnf))
  refine VCall.intro (VC.give (args' := [ints [20, 40, 50, 25, 80, 40, 50, 100]]) (loc' := [.dead]) [(0, [DI 20, DI 40, DI 50, DI 25, DI 80, DI 40, DI 50, DI 100])] [] (OutOk.lift _) zb zf (by exact FmAll.nil) rfl zv (s1 _)) ?_
  conv => whnf
  repeat' (first | ((first | refine zs1 ?_ | refine zs2 ?_ | refine zs3 ?_ | refine zs4 ?_ | refine zs5 ?_); conv => whnf) | ((first | apply zi1 | apply zi2 | apply zi3 | apply zi4 | apply zi5) <;> intro _ <;> conv => whnf) | (refine VCall.intro (q1 _) ?_; conv => whnf) | (refine VAgg.intro (vne65 _ _ _ _) ?_; conv => whnf) | (refine VAgg.intro (vne70 _ _ _ _) ?_; conv => whnf))
  refine VCut.at' (outer := h.lift) (marks := []) 3 [] [] ?_ ?_
  · conv => whnf
    refine Retell.turn ⟨[], 1, [], []⟩ (TurnOk.mk' _ _ [] [] (OutOk.lift _) rfl (by decide) zb trivial trivial rfl) zv zm
  conv => whnf
  repeat' (first | ((first | refine zs1 ?_ | refine zs2 ?_ | refine zs3 ?_ | refine zs4 ?_ | refine zs5 ?_); conv => whnf) | ((first | apply zi1 | apply zi2 | apply zi3 | apply zi4 | apply zi5) <;> intro _ <;> conv => whnf) | (refine VCall.intro (vc_Four _) ?_; conv => whnf) | (refine VCall.intro (c6 _) ?_; conv => whnf) | (refine VCall.intro (c7 _) ?_; conv => whnf) | (refine VCall.intro (c8 _) ?_; conv => whnf))
  refine VCut.at' (outer := h.lift) (marks := []) 1 [(2, I 0), (4, I 0), (7, I 0), (12, ints [1]), (13, I 1), (14, ints [1, 2])] [] ?_ ?_
  · conv => whnf
    refine Retell.turn ⟨[], 0, [], []⟩ (TurnOk.mk' _ _ [] [] (OutOk.lift _) rfl (by decide) zb trivial trivial rfl) zv zm
  conv => whnf
  repeat' (first | ((first | refine zs1 ?_ | refine zs2 ?_ | refine zs3 ?_ | refine zs4 ?_ | refine zs5 ?_); conv => whnf) | ((first | apply zi1 | apply zi2 | apply zi3 | apply zi4 | apply zi5) <;> intro _ <;> conv => whnf) | (refine VCall.intro (vc_Four _) ?_; conv => whnf))
  refine VCall.intro (VC.give (args' := [vN fourN, I 2, vPf ⟨[2, 3, 4], [9, 10, 1], 0⟩]) (loc' := [.dead, .dead]) [(0, [DI 2, DI 3, DI 4]), (1, [DI 9, DI 10, DI 1])] [] (OutOk.lift _) zb zf (by exact FmAll.nil) rfl zv (c9 _)) ?_
  conv => whnf
  repeat' (first | ((first | refine zs1 ?_ | refine zs2 ?_ | refine zs3 ?_ | refine zs4 ?_ | refine zs5 ?_); conv => whnf) | ((first | apply zi1 | apply zi2 | apply zi3 | apply zi4 | apply zi5) <;> intro _ <;> conv => whnf))
  refine VCut.at' (outer := h.lift) (marks := []) 1 [(2, I 0), (4, I 0), (7, I 0), (9, I 0), (12, ints [1]), (13, I 1), (14, ints [1, 2]), (15, B true)] [] ?_ ?_
  · conv => whnf
    refine Retell.turn ⟨[], 2, [], []⟩ (TurnOk.mk' _ _ [] [] (OutOk.lift _) rfl (by decide) zb trivial trivial rfl) zv zm
  conv => whnf
  repeat' (first | ((first | refine zs1 ?_ | refine zs2 ?_ | refine zs3 ?_ | refine zs4 ?_ | refine zs5 ?_); conv => whnf) | ((first | apply zi1 | apply zi2 | apply zi3 | apply zi4 | apply zi5) <;> intro _ <;> conv => whnf) | (refine VCall.intro (vc_Four _) ?_; conv => whnf) | (refine VCall.intro (c10 _) ?_; conv => whnf))
  refine VCut.at' (outer := h.lift) (marks := []) 99 [(2, I 0), (3, sps sB), (4, I 0), (7, I 0), (9, I 0), (11, I 0), (12, ints [1]), (13, I 1), (14, ints [1, 2]), (15, B true)] [] ?_ ?_
  · conv => whnf
    refine Retell.turn ⟨[], 0, [], []⟩ (TurnOk.mk' _ _ [] [] (OutOk.lift _) rfl (by decide) zb trivial trivial rfl) zv zm
  conv => whnf
  repeat' (first | ((first | refine zs1 ?_ | refine zs2 ?_ | refine zs3 ?_ | refine zs4 ?_ | refine zs5 ?_); conv => whnf) | ((first | apply zi1 | apply zi2 | apply zi3 | apply zi4 | apply zi5) <;> intro _ <;> conv => whnf))
  refine VCall.intro (VC.lend1 [dints [1], dints [1]] [(0, [DI 1])] [] zf trivial zv q3) ?_
  conv => whnf
  repeat' (first | ((first | refine zs1 ?_ | refine zs2 ?_ | refine zs3 ?_ | refine zs4 ?_ | refine zs5 ?_); conv => whnf) | ((first | apply zi1 | apply zi2 | apply zi3 | apply zi4 | apply zi5) <;> intro _ <;> conv => whnf))
  refine VCall.intro (VC.lend1 [dints [1, 2], dints [1, 2]] [(1, [DI 1, DI 2])] [] zf trivial zv q4) ?_
  conv => whnf
  repeat' (first | ((first | refine zs1 ?_ | refine zs2 ?_ | refine zs3 ?_ | refine zs4 ?_ | refine zs5 ?_); conv => whnf) | ((first | apply zi1 | apply zi2 | apply zi3 | apply zi4 | apply zi5) <;> intro _ <;> conv => whnf))
  refine VCall.intro (VC.give (args' := [ints [0, 0, 60, 60, 0, 60]]) (loc' := [.flat true [DI 1], .flat true [DI 1, DI 2], .dead]) [(2, [DI 0, DI 0, DI 60, DI 60, DI 0, DI 60])] [] (OutOk.lift _) zb zf (by exact FmAll.nil) rfl zv (s2 _)) ?_
  conv => whnf
  repeat' (first | ((first | refine zs1 ?_ | refine zs2 ?_ | refine zs3 ?_ | refine zs4 ?_ | refine zs5 ?_); conv => whnf) | ((first | apply zi1 | apply zi2 | apply zi3 | apply zi4 | apply zi5) <;> intro _ <;> conv => whnf) | (refine VCall.intro (q2 _) ?_; conv => whnf))
  exact VOut.same rfl
end Go.Proofs.Ytdlnjnfkbneibaa

open Go.Vm
open Clip (Pn Sg Nt Bd Rt Sp Co Pl NtOk SgOk chk chk_ok bnds bnds_sz bnds_len bnds_sq regS BdSz SpSz offL mvL)
namespace Go.Proofs.Ytdlnjnfkbneibaa
set_option maxRecDepth 20000
set_option maxHeartbeats 4000000

/-! ### What is answered, errors and all -/
def ofL (N : Nt) : List Int := if chk N = 0 then offL N else []
def mvA (N : Nt) : List Int := if mvE N = 0 then mvL N else []
theorem vc_OffU (N : Nt) (h : Hp) (hn : N.ps.length ≤ 4000000) (hm : N.ss.length ≤ 4000000) : VC Try.prog 15 [vN N] h (.tuple [ints (ofL N), I (chk N)]) h := by
  unfold ofL
  by_cases h0 : chk N = 0
  · rw [if_pos h0, h0]; exact vc_Off_ok N h (chk_ok.1 h0)
  · rw [if_neg h0]
    have c := fun h => vc_check N h hn hm
    generalize chk N = E at c h0
    refine VC.body Try.func15 rfl Try.ntmps15 Try.call15 (h.grows_refl) rfl ?_; conv => whnf
    repeat' (first | ((first | refine zs1 ?_ | refine zs2 ?_ | refine zs3 ?_ | refine zs4 ?_ | refine zs5 ?_ | refine zs6 [] ?_); conv => whnf) | ((first | apply zi1 | apply zi2 | apply zi3 | apply zi4 | apply zi5) <;> intro _ <;> conv => whnf) | (refine VCall.intro (c _) ?_; conv => whnf))
    · refine VOut.data 1 [] [] rfl zf (by exact FmAll.nil) zv
    · exfalso; omega
theorem vc_MoversU (N : Nt) (h : Hp) (hn : N.ps.length ≤ 4000000) (hm : N.ss.length ≤ 4000000) : VC Try.prog 20 [vN N] h (.tuple [ints (mvA N), I (mvE N)]) h := by
  unfold mvA
  by_cases h0 : mvE N = 0
  · rw [if_pos h0, h0]; exact vc_Movers_ok N h (mvE_ok.1 h0).1 (mvE_ok.1 h0).2
  · rw [if_neg h0]
    by_cases hc : chk N = 0
    · have o := chk_ok.1 hc
      have c := fun h => vc_Off_ok N h o
      have he : offL N = [] := Classical.byContradiction fun e => h0 (mvE_ok.2 ⟨o, e⟩)
      have e : mvE N = 10 := by unfold mvE; rw [if_neg (by omega), if_pos he]
      rw [he] at c
      rw [e]
      refine VC.body Try.func20 rfl Try.ntmps20 Try.call20 (h.grows_refl) rfl ?_; conv => whnf
      repeat' (first | ((first | refine zs1 ?_ | refine zs2 ?_ | refine zs3 ?_ | refine zs4 ?_ | refine zs5 ?_ | refine zs6 [] ?_); conv => whnf) | ((first | apply zi1 | apply zi2 | apply zi3 | apply zi4 | apply zi5) <;> intro _ <;> conv => whnf) | (refine VCall.intro (c _) ?_; conv => whnf))
      · refine VOut.data 1 [] [] rfl zf (by exact FmAll.nil) zv
    · have c := fun h => vc_Off_no N h hn hm hc
      have e : mvE N = chk N := by unfold mvE; rw [if_pos hc]
      rw [e]
      generalize chk N = E at c hc
      refine VC.body Try.func20 rfl Try.ntmps20 Try.call20 (h.grows_refl) rfl ?_; conv => whnf
      repeat' (first | ((first | refine zs1 ?_ | refine zs2 ?_ | refine zs3 ?_ | refine zs4 ?_ | refine zs5 ?_ | refine zs6 [] ?_); conv => whnf) | ((first | apply zi1 | apply zi2 | apply zi3 | apply zi4 | apply zi5) <;> intro _ <;> conv => whnf) | (refine VCall.intro (c _) ?_; conv => whnf))
      · refine VOut.data 1 [] [] rfl zf (by exact FmAll.nil) zv
      · exfalso; omega
end Go.Proofs.Ytdlnjnfkbneibaa

open Go.Vm
open Clip (Pn Sg Nt)
namespace Go.Proofs.Ytdlnjnfkbneibaa
open Go.ChangeShapes Go.WideShapes Go.ChangeAt Go.RowKit
theorem ownKn : ownKnob Try.prog.godebug = none := by kernel_rfl
theorem laidOut : laidOutB Try.prog = true := by kernel_rfl
end Go.Proofs.Ytdlnjnfkbneibaa

open Go.Vm
namespace Go.Proofs.Ytdlnjnfkbneibaa
set_option maxRecDepth 20000
set_option maxHeartbeats 4000000

abbrev DU (n : Int) : D := .s (.int .u32 n)
def encU (n : Int) : List D := [.s (.int .u8 n)]
theorem encU_len (n : Int) : (encU n).length = 1 := rfl
def bytes (l : List Int) : V := .fs 1 l.length (l.flatMap encU)
def deckD (bs : List Int) (n s : Int) : List D := [.sl 1 bs.length (bs.flatMap encU), DI n, DU s]
theorem VOut.setS {h : Hp} {loc : List Blk} {i : Vm.Id} {b0 : Blk} {l : List D} {rw : Bool} {x : S} {L : Nat} (hL : Nat.ble loc.length L = true) (hb : h.get i = some b0) : VOut h ⟨outW h.lift i (.flat rw l), loc⟩ (.s x) (.s x) (h.set i (.flat rw l)) := by
  have hd : ∀ p ∈ [(i, Blk.flat rw l)], h.get p.1 ≠ none := by
    intro p hp
    simp only [List.mem_cons, List.not_mem_nil, or_false] at hp
    subst hp; simp only; rw [hb]; simp
  have := VOut.upd (loc := loc) (r1 := .s x) (r := .s x) [(i, .flat rw l)] [] [] L hL hd (by simp) rfl (by intro k b hk; simp at hk) (fun σ x hx => hx) (outer := outW h.lift i (.flat rw l)) rfl
  have he : (h.sets [(i, Blk.flat rw l)]).pushes [] = h.set i (.flat rw l) := by simp [Hp.sets, Hp.pushes]
  rw [he] at this
  exact this
theorem set_same {h : Hp} {i : Vm.Id} {b : Blk} (hb : h.get i = some b) : h.set i b = h := by
  cases i with
  | out i =>
    have hb : h.outer i = some b := hb
    obtain ⟨o, l⟩ := h
    simp only [Hp.set]
    congr 1
    funext j
    split
    · rename_i e; rw [e]; exact hb.symm
    · rfl
  | loc k =>
    have hb : h.loc[k]? = some b := hb
    obtain ⟨o, l⟩ := h
    simp only [Hp.set]
    congr 1
    obtain ⟨h1, h2⟩ := List.getElem?_eq_some_iff.1 hb
    rw [← h2]; exact List.set_getElem_self h1
theorem VOut.set2 {h : Hp} {loc : List Blk} {i : Vm.Id} {b0 b1 : Blk} {l : List D} {rw : Bool} {x : S} (hb : h.get i = some b0) : VOut h ⟨outW (outW h.lift i b1) i (.flat rw l), loc⟩ (.s x) (.s x) (h.set i (.flat rw l)) := by
  rw [outW_same]
  exact VOut.setS (L := loc.length) (by simp) hb
theorem vc_Draw0 (bs : List Int) (n s k : Int) (i : Vm.Id) (h : Hp) (hb : h.get i = some (.flat true (deckD bs n s))) (hk : k ≤ 1 ∨ bs = []) : VC Try.prog 37 [.ptr i 0, I k] h (I 0) (h.set i (.flat true (deckD bs n s))) := by
  rw [set_same hb]
  have hl : k ≤ 1 ∨ bs.length = 0 := by rcases hk with h1 | h1; exact .inl h1; exact .inr (by rw [h1]; rfl)
  refine VC.body Try.func37 rfl Try.ntmps37 Try.call37 (h.grows_refl) rfl ?_; conv => whnf
  repeat' (first | ((first | refine zs1 ?_ | refine zs2 ?_ | refine zs3 ?_ | refine zs4 ?_ | refine zs5 ?_); conv => whnf) | ((first | apply zi1 | apply zi2 | apply zi3 | apply zi4 | apply zi5) <;> intro _ <;> conv => whnf) | (refine VLd.flat rfl rfl (get_out hb _) rfl ?_; conv => whnf))
  · exact VOut.same rfl
  · exact VOut.same rfl
  · exfalso; omega
def dRd (bs : List Int) (N : Nat) : Int := IntKind.u32.wrap (IntKind.i64.wrap ((N : Int).tdiv (bs.length : Int)))
def dSt (bs : List Int) (N : Nat) (s c : Int) : Int := (IntKind.u32.wrap (IntKind.u32.wrap (IntKind.u32.wrap (s * 37) + IntKind.u32.wrap c) + IntKind.u32.wrap (101 * dRd bs N))).tmod 65521
def dR (bs : List Int) (N : Nat) (s k c : Int) : Int := if k ≤ 256 ∧ dRd bs N = 0 then (IntKind.i64.wrap (IntKind.u32.wrap c)).tmod k else (IntKind.i64.wrap (IntKind.u32.wrap (IntKind.u32.wrap (dSt bs N s c * 256) + IntKind.u32.wrap c))).tmod k
theorem u32_bd (n : Int) : 0 ≤ IntKind.u32.wrap n ∧ IntKind.u32.wrap n < 4294967296 := by
  unfold IntKind.wrap; simp [IntKind.bits, IntKind.signed]; omega
theorem tmod_bd {a k : Int} (ha : 0 ≤ a) (hk : 0 < k) : 0 ≤ a.tmod k ∧ a.tmod k < k := by
  rw [Int.tmod_eq_emod_of_nonneg ha]
  exact ⟨Int.emod_nonneg _ (by omega), Int.emod_lt_of_pos _ hk⟩
theorem dR_bd (bs : List Int) (N : Nat) (s c : Int) {k : Int} (hk : 0 < k) : 0 ≤ dR bs N s k c ∧ dR bs N s k c < k := by
  unfold dR
  split
  · have := u32_bd c
    rw [wrap_i64 (by omega)]
    exact tmod_bd this.1 hk
  · have := u32_bd (IntKind.u32.wrap (dSt bs N s c * 256) + IntKind.u32.wrap c)
    rw [wrap_i64 (by omega)]
    exact tmod_bd this.1 hk
theorem vc_Draw1 (bs : List Int) (N : Nat) (s k c : Int) (i : Vm.Id) (h : Hp) (hb : h.get i = some (.flat true (deckD bs N s))) (hk : 1 < k) (hc : bs[N % bs.length]? = some c) (hN : N ≤ 4000000000) :
    VC Try.prog 37 [.ptr i 0, I k] h (I (dR bs N s k c)) (h.set i (.flat true (deckD bs ((N : Int) + 1) (dSt bs N s c)))) := by
  have hlen : 0 < bs.length := by
    have := (List.getElem?_eq_some_iff.1 hc).1
    omega
  have hneB : ((bs.length : Int) != 0) = true := by rw [bne_iff_ne]; omega
  obtain ⟨R, hR⟩ : ∃ R, R = dR bs N s k c := ⟨_, rfl⟩
  rw [← hR]
  unfold dR at hR
  refine VC.body Try.func37 rfl Try.ntmps37 Try.call37 (h.grows_set _ _) rfl ?_
  conv => whnf
  repeat' (first | ((first | refine zs1 ?_ | refine zs2 ?_ | refine zs3 ?_ | refine zs4 ?_ | refine zs5 ?_ | refine zs6 [] ?_); conv => whnf) | ((first | apply zi1 | apply zi2 | apply zi3 | apply zi4 | apply zi5) <;> intro _ <;> conv => whnf) | (refine VLd.flat rfl rfl (get_out hb _) rfl ?_; conv => whnf) | (refine VAny.ix encU_len (N % bs.length) (by rfl) rfl hc ?_; conv => whnf) | (refine VLd.flat rfl rfl (outW_get _ _ _ _) rfl ?_; conv => whnf) | (refine VMem.st1 rfl rfl rfl (get_out hb _) rfl ?_; conv => whnf) | (refine VMem.st1 rfl rfl rfl (outW_get _ _ _ _) rfl ?_; conv => whnf) | (refine VArith.wr ?_; conv => whnf) | (refine VNeed.intro hneB ?_; conv => whnf))
  · exfalso; omega
  · exfalso; omega
  · rename_i h1 h2
    have h2 : dRd bs N = 0 := h2
    rw [if_pos ⟨h1, h2⟩] at hR
    subst hR
    refine VOut.set2 hb
  · rename_i h1 h2
    have h2 : ¬ dRd bs N = 0 := h2
    rw [if_neg (fun h => h2 h.2)] at hR
    subst hR
    refine VOut.set2 hb
  · rename_i h1
    rw [if_neg (fun h => h1 h.1)] at hR
    subst hR
    refine VOut.set2 hb
def dNx (bs : List Int) (d : Nat × Int) (k : Int) : Int × (Nat × Int) :=
  if k ≤ 1 ∨ bs = [] then (0, d) else (dR bs d.1 d.2 k (bs.getD (d.1 % bs.length) 0), (d.1 + 1, dSt bs d.1 d.2 (bs.getD (d.1 % bs.length) 0)))
def deckB (bs : List Int) (d : Nat × Int) : Blk := .flat true (deckD bs d.1 d.2)
theorem dNx_bd (bs : List Int) (d : Nat × Int) (k : Int) : 0 ≤ (dNx bs d k).1 ∧ ((dNx bs d k).1 = 0 ∨ (dNx bs d k).1 < k) ∧ (dNx bs d k).2.1 ≤ d.1 + 1 := by
  unfold dNx
  split
  · exact ⟨Int.le_refl _, .inl rfl, by simp only; omega⟩
  · rename_i h
    obtain ⟨q1, q2⟩ := dR_bd bs d.1 d.2 (bs.getD (d.1 % bs.length) 0) (k := k) (by omega)
    exact ⟨q1, .inr q2, Nat.le_refl _⟩
theorem vc_draw (bs : List Int) (d : Nat × Int) (k : Int) (i : Vm.Id) (h : Hp) (hN : d.1 ≤ 4000000000) (hb : h.get i = some (deckB bs d)) : VC Try.prog 37 [.ptr i 0, I k] h (I (dNx bs d k).1) (h.set i (deckB bs (dNx bs d k).2)) := by
  unfold dNx deckB at *
  split
  · rename_i hk; exact vc_Draw0 bs d.1 d.2 k i h hb hk
  · rename_i hk
    have hlen := List.length_pos_iff.2 (fun h => hk (.inr h))
    have hc : bs[d.1 % bs.length]? = some (bs.getD (d.1 % bs.length) 0) := by simp [List.getElem?_eq_getElem (Nat.mod_lt d.1 hlen)]
    exact vc_Draw1 bs d.1 d.2 k _ i h hb (by omega) hc hN
theorem vc_between (bs : List Int) (d : Nat × Int) (a b : Int) (i : Vm.Id) (h : Hp) (hN : d.1 ≤ 4000000000) (ha : -1000000 ≤ a ∧ a ≤ 1000000) (hb : -1000000 ≤ b ∧ b ≤ 1000000) (hd : h.get i = some (deckB bs d)) : VC Try.prog 39 [.ptr i 0, I a, I b] h (I (a + (dNx bs d (b - a + 1)).1)) (h.set i (deckB bs (dNx bs d (b - a + 1)).2)) := by
  have hbd := dNx_bd bs d (b - a + 1)
  have hD := fun i h hh => vc_draw bs d (b - a + 1) i h hN hh
  generalize dNx bs d (b - a + 1) = x at hbd hD
  refine VC.body Try.func39 rfl Try.ntmps39 Try.call39 (h.grows_set _ _) rfl ?_
  conv => whnf
  repeat' (first | ((first | refine zs1 ?_ | refine zs2 ?_ | refine zs3 ?_ | refine zs4 ?_ | refine zs5 ?_ | refine zs6 [] ?_); conv => whnf) | ((first | apply zi1 | apply zi2 | apply zi3 | apply zi4 | apply zi5) <;> intro _ <;> conv => whnf) | (refine VCall.intro (hD (.out i) _ (get_out hd _)) ?_; conv => whnf))
  exact VOut.setS (L := 0) rfl hd
theorem vc_coin (bs : List Int) (d : Nat × Int) (k : Int) (i : Vm.Id) (h : Hp) (hN : d.1 ≤ 4000000000) (hd : h.get i = some (deckB bs d)) : VC Try.prog 88 [.ptr i 0, I k] h (B ((dNx bs d k).1 == 0)) (h.set i (deckB bs (dNx bs d k).2)) := by
  have hD := fun i h hh => vc_draw bs d k i h hN hh
  generalize dNx bs d k = x at hD
  refine VC.body Try.func88 rfl Try.ntmps88 Try.call88 (h.grows_set _ _) rfl ?_
  conv => whnf
  repeat' (first | ((first | refine zs1 ?_ | refine zs2 ?_ | refine zs3 ?_ | refine zs4 ?_ | refine zs5 ?_ | refine zs6 [] ?_); conv => whnf) | ((first | apply zi1 | apply zi2 | apply zi3 | apply zi4 | apply zi5) <;> intro _ <;> conv => whnf) | (refine VCall.intro (hD (.out i) _ (get_out hd _)) ?_; conv => whnf))
  exact VOut.setS (L := 0) rfl hd
theorem VOut.ownP {h : Hp} {loc : List Blk} {ds : List D} (j L : Nat) (hL : Nat.ble loc.length L = true) (hj : loc[j]? = some (.flat true ds)) : VOut h ⟨h.lift, loc⟩ (.ptr (.loc j) 0) (.ptr h.fresh 0) (h.push (.flat true ds)) := by
  refine VOut.upd [] [.flat true ds] [j] L hL (by intro p hp; cases hp) (by simp) rfl ?_ ?_ rfl
  · intro k b hk
    cases k with
    | zero => rw [List.getElem?_cons_zero, Option.some.injEq] at hk; subst hk; exact ⟨j, rfl, hj⟩
    | succ k => simp at hk
  · intro σ x hx
    have : (V.ptr h.fresh 0).ren (backR h.loc.length [j] L) = .ptr (.loc j) 0 := by simp [V.ren, backR, Hp.fresh]
    rw [this]; exact hx
theorem vc_Of (bs : List Int) (h : Hp) : VC Try.prog 26 [bytes bs] h (.ptr h.fresh 0) (h.push (deckB bs (0, 9))) := by
  refine VC.body Try.func26 rfl Try.ntmps26 Try.call26 (h.grows_push _) rfl ?_
  conv => whnf
  repeat (first | ((first | refine zs1 ?_ | refine zs2 ?_ | refine zs3 ?_ | refine zs4 ?_ | refine zs5 ?_ | refine zs6 [] ?_); conv => whnf))
  exact VOut.ownP 0 1 rfl rfl
theorem VOut.setF {h : Hp} {loc : List Blk} {i : Vm.Id} {b0 : Blk} {l : List D} {rw : Bool} {r : V} {L : Nat} (hL : Nat.ble loc.length L = true) (hb : h.get i = some b0) (hr : ∀ ρ, r.ren ρ = r) : VOut h ⟨outW h.lift i (.flat rw l), loc⟩ r r (h.set i (.flat rw l)) := by
  have hd : ∀ p ∈ [(i, Blk.flat rw l)], h.get p.1 ≠ none := by
    intro p hp
    simp only [List.mem_cons, List.not_mem_nil, or_false] at hp
    subst hp; simp only; rw [hb]; simp
  have := VOut.upd (loc := loc) (r1 := r) (r := r) [(i, .flat rw l)] [] [] L hL hd (by simp) rfl (by intro k b hk; simp at hk) (fun σ x hx => by rw [hr]; exact hx) (outer := outW h.lift i (.flat rw l)) rfl
  have he : (h.sets [(i, Blk.flat rw l)]).pushes [] = h.set i (.flat rw l) := by simp [Hp.sets, Hp.pushes]
  rw [he] at this
  exact this
end Go.Proofs.Ytdlnjnfkbneibaa

open Go.Vm
open Clip (Pn Sg Nt crs okD okD_iff)
namespace Go.Vm
theorem VCut.atO {P : Program} {ro : Option Nat} {c : Code} {n : Nat} {fr : Fr} {outer0 : Id → Option Blk} {loc0 : List Blk} {marks : List Id} {Q : X → St → Prop} (m : Nat) (slots : List (Nat × V)) (outer : Id → Option Blk) (loc : List Blk) (ho : outer0 = outer)
    (hst : frSK slots .leaf fun fr' => Retell isOut ⟨n, fr, ⟨outer, loc0⟩, marks⟩ ⟨n, fr', ⟨outer, loc⟩, marks⟩)
    (hb : frSK slots .leaf fun fr' => vcut P ro isOut m c ⟨n, fr', ⟨outer, loc⟩, marks⟩ Q) : VCut P ro isOut c ⟨n, fr, ⟨outer0, loc0⟩, marks⟩ Q := by
  subst ho
  exact VCut.at' m slots loc hst hb
end Go.Vm
namespace Go.Proofs.Ytdlnjnfkbneibaa
set_option maxRecDepth 20000
set_option maxHeartbeats 4000000

/-! ### Directions and sights that are dealt -/
abbrev DS := Nat × Int
theorem veq60 (a b c d : Int) : vaggeq Try.prog .eql 60 (.agg [I a, I b]) (.agg [I c, I d]) = some (B (decide (a = c ∧ b = d))) := by
  have : ((a == c) && ((b == d) && true)) = decide (a = c ∧ b = d) := by
    rw [Bool.eq_iff_iff, decide_eq_true_eq]; simp
  rw [← this]
  unfold vaggeq
  rw [show eqTop Try.prog 60 = some (Sh.cons 0 1 false Sh.int (Sh.cons 1 1 false Sh.int Sh.nil)) by kernel_rfl]
  rfl
def tnX (bs : List Int) (d : DS) (m : Int) : Int × DS := dNx bs d (m - (0 - m) + 1)
def tnY (bs : List Int) (d : DS) (m : Int) : Int × DS := dNx bs (tnX bs d m).2 (m - (0 - m) + 1)
def tnV (bs : List Int) (d : DS) (m : Int) : Pn × DS := (if (0 - m) + (tnX bs d m).1 = 0 ∧ (0 - m) + (tnY bs d m).1 = 0 then ⟨1, (0 - m) + (tnY bs d m).1⟩ else ⟨(0 - m) + (tnX bs d m).1, (0 - m) + (tnY bs d m).1⟩, (tnY bs d m).2)
structure TnOk (m : Int) (d : DS) (u : Pn × DS) : Prop where
  x : -m ≤ u.1.x ∧ u.1.x ≤ m
  y : -m ≤ u.1.y ∧ u.1.y ≤ m
  nz : ¬ (u.1.x = 0 ∧ u.1.y = 0)
  n : u.2.1 ≤ d.1 + 2
theorem tn_ok (bs : List Int) (d : DS) {m : Int} (hm : 1 ≤ m ∧ m ≤ 50) : TnOk m d (tnV bs d m) := by
  obtain ⟨a1, a2, a3⟩ := dNx_bd bs d (m - (0 - m) + 1)
  obtain ⟨b1, b2, b3⟩ := dNx_bd bs (tnX bs d m).2 (m - (0 - m) + 1)
  have e1 : dNx bs d (m - (0 - m) + 1) = tnX bs d m := rfl
  have e2 : dNx bs (tnX bs d m).2 (m - (0 - m) + 1) = tnY bs d m := rfl
  rw [e1] at a1 a2 a3
  rw [e2] at b1 b2 b3
  unfold tnV
  generalize tnY bs d m = y at *
  generalize tnX bs d m = x at *
  refine ⟨?_, ?_, ?_, by dsimp only; omega⟩
  · dsimp only; split <;> dsimp only <;> omega
  · dsimp only; split <;> dsimp only <;> omega
  · dsimp only; split <;> dsimp only <;> omega
theorem vc_Turn (bs : List Int) (d : DS) (m : Int) (i : Vm.Id) (h : Hp) (hN : d.1 ≤ 3000000000) (hm : 1 ≤ m ∧ m ≤ 50) (hd : h.get i = some (deckB bs d)) : VC Try.prog 32 [.ptr i 0, I m] h (vPn (tnV bs d m).1) (h.set i (deckB bs (tnV bs d m).2)) := by
  have c1 := fun (h2 : Hp) hh => vc_between bs d (0 - m) m (.out i) h2 (by omega) (by omega) (by omega) hh
  have a := dNx_bd bs d (m - (0 - m) + 1)
  have e1 : dNx bs d (m - (0 - m) + 1) = tnX bs d m := rfl
  rw [e1] at c1 a
  have c2 := fun (h2 : Hp) hh => vc_between bs (tnX bs d m).2 (0 - m) m (.out i) h2 (by omega) (by omega) (by omega) hh
  have b := dNx_bd bs (tnX bs d m).2 (m - (0 - m) + 1)
  have e2 : dNx bs (tnX bs d m).2 (m - (0 - m) + 1) = tnY bs d m := rfl
  rw [e2] at c2 b
  obtain ⟨T, hT⟩ : ∃ T, T = (tnV bs d m).1 := ⟨_, rfl⟩
  have eD : (tnV bs d m).2 = (tnY bs d m).2 := rfl
  rw [← hT, eD]
  unfold tnV at hT
  dsimp only at hT
  generalize tnY bs d m = y at *
  generalize tnX bs d m = x at *
  have p1 := fun h => vc_point (0 - m + x.1) (0 - m + y.1) h
  refine VC.body Try.func32 rfl Try.ntmps32 Try.call32 (h.grows_set _ _) rfl ?_; conv => whnf
  repeat' (first | ((first | refine zs1 ?_ | refine zs2 ?_ | refine zs3 ?_ | refine zs4 ?_ | refine zs5 ?_ | refine zs6 [] ?_); conv => whnf) | ((first | apply zi1 | apply zi2 | apply zi3 | apply zi4 | apply zi5) <;> intro _ <;> conv => whnf) | (refine VCall.intro (c1 _ (get_out hd _)) ?_; conv => whnf) | (refine VCall.intro (c2 _ (outW_get _ _ _ _)) ?_; conv => whnf) | (refine VCall.intro (p1 _) ?_; conv => whnf) | (refine VAgg.intro (veq60 _ _ _ _) ?_; conv => whnf))
  · rename_i hz
    rw [if_pos hz] at hT
    subst hT
    refine (show VOut h ⟨outW (outW h.lift i (deckB bs x.2)) i (deckB bs y.2), _⟩ _ _ _ from ?_)
    rw [outW_same]
    exact VOut.setF (L := 3) rfl hd fun _ => rfl
  · rename_i hz
    rw [if_neg hz] at hT
    subst hT
    refine (show VOut h ⟨outW (outW h.lift i (deckB bs x.2)) i (deckB bs y.2), _⟩ _ _ _ from ?_)
    rw [outW_same]
    exact VOut.setF (L := 3) rfl hd fun _ => rfl
def bkP (p : Pn) : Pn := ⟨0 - p.x, 0 - p.y⟩
theorem vc_back (p : Pn) (h : Hp) (hp : PnB p) : VC Try.prog 45 [vPn p] h (vPn (bkP p)) h := by
  have h1 := hp.1
  have h2 := hp.2
  have p1 := fun h => vc_point (0 - p.x) (0 - p.y) h
  refine VC.body Try.func45 rfl Try.ntmps45 Try.call45 (h.grows_refl) rfl ?_; conv => whnf
  repeat' (first | ((first | refine zs1 ?_ | refine zs2 ?_ | refine zs3 ?_ | refine zs4 ?_ | refine zs5 ?_ | refine zs6 [] ?_); conv => whnf) | ((first | apply zi1 | apply zi2 | apply zi3 | apply zi4 | apply zi5) <;> intro _ <;> conv => whnf) | (refine VCall.intro (p1 _) ?_; conv => whnf))
  exact VOut.same rfl
theorem vc_crossL (a b : Pn) (h : Hp) (ha : PnB a) (hb : PnB b) : VC Try.prog 40 [vPn a, vPn b] h (I (crs a b)) h := by
  have hc := crs_b ha hb
  refine VC.body Try.func40 rfl Try.ntmps40 Try.call40 (h.grows_refl) rfl ?_; conv => whnf
  repeat' (first | ((first | refine zs1 ?_ | refine zs2 ?_ | refine zs3 ?_ | refine zs4 ?_ | refine zs5 ?_ | refine zs6 [] ?_); conv => whnf) | ((first | apply zi1 | apply zi2 | apply zi3 | apply zi4 | apply zi5) <;> intro _ <;> conv => whnf))
  exact VOut.same rfl
end Go.Proofs.Ytdlnjnfkbneibaa

open Go.Vm
open Clip (Pn Sg Nt crs okD okD_iff)
namespace Go.Proofs.Ytdlnjnfkbneibaa
set_option maxRecDepth 20000
set_option maxHeartbeats 4000000

def vvP (a b : Pn) : Pn := ⟨b.x - a.x, b.y - a.y⟩
def scP (v : Pn) : Int := max (max (max (max 1 v.x) (0 - v.x)) v.y) (0 - v.y)
def nrP (v : Pn) : Pn := ⟨(30 * v.x).tdiv (scP v), (30 * v.y).tdiv (scP v)⟩
theorem nrP_bd (v : Pn) : (-30 ≤ (nrP v).x ∧ (nrP v).x ≤ 30) ∧ (-30 ≤ (nrP v).y ∧ (nrP v).y ≤ 30) ∧ 1 ≤ scP v := by
  have hs : 1 ≤ scP v ∧ v.x ≤ scP v ∧ -scP v ≤ v.x ∧ v.y ≤ scP v ∧ -scP v ≤ v.y := by unfold scP; omega
  unfold nrP
  generalize scP v = s at hs
  have key : ∀ x : Int, -s ≤ x → x ≤ s → -30 ≤ (30 * x).tdiv s ∧ (30 * x).tdiv s ≤ 30 := by
    intro x h1 h2
    have hle : (30 * x).natAbs / s.natAbs ≤ 30 := by
      refine Nat.div_le_of_le_mul ?_
      have : x.natAbs ≤ s.natAbs := by omega
      rw [Int.natAbs_mul]
      have : (30 : Int).natAbs = 30 := rfl
      rw [this, Nat.mul_comm]; exact Nat.mul_le_mul_right _ (by omega)
    have h3 : ((30 * x).tdiv s).natAbs ≤ 30 := by rw [Int.natAbs_tdiv]; exact hle
    omega
  exact ⟨key v.x hs.2.2.1 hs.2.1, key v.y hs.2.2.2.2 hs.2.2.2.1, hs.1⟩
/-! What is dealt: two directions, and the deck behind them. -/
def sg1 (bs : List Int) (d : DS) : Pn × DS := tnV bs d 30
def sg2 (bs : List Int) (d : DS) : Pn × DS := tnV bs (sg1 bs d).2 30
def sgC (bs : List Int) (d : DS) : Int × DS := dNx bs (sg2 bs d).2 2
def sg3 (bs : List Int) (d : DS) : Pn × DS := tnV bs (sgC bs d).2 8
def sgO (bs : List Int) (d : DS) (v : Pn) : Pn := if crs (sg3 bs d).1 v < 0 then bkP (sg3 bs d).1 else (sg3 bs d).1
def sgR (bs : List Int) (d : DS) (v : Pn) : Pn := if (sgC bs d).1 = 0 then ⟨(nrP v).x + (sgO bs d v).x, (nrP v).y + (sgO bs d v).y⟩ else (sg1 bs d).1
def sgL (bs : List Int) (d : DS) (v : Pn) : Pn := if (sgC bs d).1 = 0 then ⟨(nrP v).x - (sgO bs d v).x, (nrP v).y - (sgO bs d v).y⟩ else (sg2 bs d).1
def sgD (bs : List Int) (d : DS) : DS := if (sgC bs d).1 = 0 then (sg3 bs d).2 else (sgC bs d).2
def sgR1 (bs : List Int) (d : DS) (v : Pn) : Pn := if crs (sgR bs d v) v < 0 then bkP (sgR bs d v) else sgR bs d v
def sgL1 (bs : List Int) (d : DS) (v : Pn) : Pn := if crs v (sgL bs d v) < 0 then bkP (sgL bs d v) else sgL bs d v
def sgR2 (bs : List Int) (d : DS) (v : Pn) : Pn := if crs (sgR1 bs d v) (sgL1 bs d v) < 0 then bkP (sgL1 bs d v) else sgR1 bs d v
def sgL2 (bs : List Int) (d : DS) (v : Pn) : Pn := if crs (sgR1 bs d v) (sgL1 bs d v) < 0 then bkP (sgR1 bs d v) else sgL1 bs d v
def sgB (bs : List Int) (d : DS) (v : Pn) : Bool := decide ((0 < crs (sgR2 bs d v) (sgL2 bs d v) ∧ 0 ≤ crs (sgR2 bs d v) v) ∧ 0 ≤ crs v (sgL2 bs d v))
structure P38 (p : Pn) : Prop where
  x : -38 ≤ p.x ∧ p.x ≤ 38
  y : -38 ≤ p.y ∧ p.y ≤ 38
theorem P38.b {p : Pn} (h : P38 p) : PnB p := ⟨by have := h.x; omega, by have := h.y; omega⟩
theorem P38.bk {p : Pn} (h : P38 p) : P38 (bkP p) := ⟨by have := h.x; unfold bkP; dsimp only; omega, by have := h.y; unfold bkP; dsimp only; omega⟩
structure SgD (d : DS) (v R L : Pn) (D : DS) : Prop where
  r : P38 R
  l : P38 L
  n : D.1 ≤ d.1 + 7
theorem sg_ok (bs : List Int) (d : DS) (v : Pn) : SgD d v (sgR bs d v) (sgL bs d v) (sgD bs d) := by
  have h1 := tn_ok bs d (m := 30) (by omega)
  have h2 := tn_ok bs (sg1 bs d).2 (m := 30) (by omega)
  have h3 := dNx_bd bs (sg2 bs d).2 2
  have h4 := tn_ok bs (sgC bs d).2 (m := 8) (by omega)
  have hn := nrP_bd v
  have e1 : tnV bs d 30 = sg1 bs d := rfl
  have e2 : tnV bs (sg1 bs d).2 30 = sg2 bs d := rfl
  have e3 : dNx bs (sg2 bs d).2 2 = sgC bs d := rfl
  have e4 : tnV bs (sgC bs d).2 8 = sg3 bs d := rfl
  rw [e1] at h1
  rw [e2] at h2
  rw [e3] at h3
  rw [e4] at h4
  have hO : (-8 ≤ (sgO bs d v).x ∧ (sgO bs d v).x ≤ 8) ∧ (-8 ≤ (sgO bs d v).y ∧ (sgO bs d v).y ≤ 8) := by
    have := h4.x
    have := h4.y
    unfold sgO bkP
    split <;> (try dsimp only) <;> omega
  have g1x := h1.x
  have g1y := h1.y
  have g2x := h2.x
  have g2y := h2.y
  have g1 := h1.n
  have g2 := h2.n
  have g4 := h4.n
  unfold sgR sgL sgD
  refine ⟨?_, ?_, ?_⟩
  · split
    · exact ⟨by dsimp only; omega, by dsimp only; omega⟩
    · exact ⟨by omega, by omega⟩
  · split
    · exact ⟨by dsimp only; omega, by dsimp only; omega⟩
    · exact ⟨by omega, by omega⟩
  · split <;> omega
theorem sg_sz (bs : List Int) (d : DS) (v : Pn) : P38 (sgR1 bs d v) ∧ P38 (sgL1 bs d v) ∧ P38 (sgR2 bs d v) ∧ P38 (sgL2 bs d v) := by
  obtain ⟨hr, hl, _⟩ := sg_ok bs d v
  have h1 : P38 (sgR1 bs d v) := by unfold sgR1; split; exact hr.bk; exact hr
  have h2 : P38 (sgL1 bs d v) := by unfold sgL1; split; exact hl.bk; exact hl
  refine ⟨h1, h2, ?_, ?_⟩
  · unfold sgR2; split; exact h2.bk; exact h1
  · unfold sgL2; split; exact h1.bk; exact h2
end Go.Proofs.Ytdlnjnfkbneibaa

open Go.Vm
open Clip (Pn Sg Nt crs okD okD_iff)
namespace Go.Proofs.Ytdlnjnfkbneibaa
set_option maxRecDepth 20000
set_option maxHeartbeats 4000000

theorem vc_SightedO (bs : List Int) (d : DS) (N : Nt) (f t : Int) (a b : Pn) (i : Vm.Id) (h : Hp) (ja jb : Vm.Id) (kb : Nat) (hja : h.get ja = some (.flat true (N.ps.flatMap encPn))) (hN : d.1 ≤ 1000000) (hn : N.ps.length ≤ 4000000) (hfb : 0 ≤ f ∧ f < N.ps.length) (htb : 0 ≤ t ∧ t < N.ps.length) (hf : N.ps[f.toNat]? = some a) (ht : N.ps[t.toNat]? = some b) (sa : Clip.okP a = true) (sb : Clip.okP b = true) (hd : h.get i = some (deckB bs d)) :
    VC Try.prog 38 [.ptr i 0, .agg [.gl ja 2 N.ps.length, .gl jb 6 kb], I f, I t] h (.tuple [vSg ⟨f, t, sgR2 bs d (vvP a b), sgL2 bs d (vvP a b)⟩, B (sgB bs d (vvP a b))]) (h.set i (deckB bs (sgD bs d))) := by
  have sa := Clip.okP_iff.1 sa
  have sb := Clip.okP_iff.1 sb
  obtain ⟨v, hv0⟩ : ∃ v, v = vvP a b := ⟨_, rfl⟩
  rw [← hv0]
  have exv : v.x = b.x - a.x := by rw [hv0]; rfl
  have eyv : v.y = b.y - a.y := by rw [hv0]; rfl
  have hv : PnB v := ⟨by omega, by omega⟩
  have hvx := hv.1
  have hvy := hv.2
  have p1 := fun h => vc_point (b.x - a.x) (b.y - a.y) h
  have ev : (⟨b.x - a.x, b.y - a.y⟩ : Pn) = v := hv0.symm
  rw [ev] at p1
  obtain ⟨z1, z2, z3, z4⟩ := sg_sz bs d v
  obtain ⟨y1, y2, y3⟩ := sg_ok bs d v
  have hnr := nrP_bd v
  have h1 := tn_ok bs d (m := 30) (by omega)
  have c1 := fun (h2 : Hp) hh => vc_Turn bs d 30 (.out i) h2 (by omega) (by omega) hh
  have e1 : tnV bs d 30 = sg1 bs d := rfl
  rw [e1] at h1 c1
  have g1 := h1.n
  have h2 := tn_ok bs (sg1 bs d).2 (m := 30) (by omega)
  have c2 := fun (h2 : Hp) hh => vc_Turn bs (sg1 bs d).2 30 (.out i) h2 (by omega) (by omega) hh
  have e2 : tnV bs (sg1 bs d).2 30 = sg2 bs d := rfl
  rw [e2] at h2 c2
  have g2 := h2.n
  have c3 := fun (h2 : Hp) hh => vc_coin bs (sg2 bs d).2 2 (.out i) h2 (by omega) hh
  have h3 := dNx_bd bs (sg2 bs d).2 2
  have e3 : dNx bs (sg2 bs d).2 2 = sgC bs d := rfl
  rw [e3] at c3 h3
  have c4 := fun (h2 : Hp) hh => vc_Turn bs (sgC bs d).2 8 (.out i) h2 (by omega) (by omega) hh
  have h4 := tn_ok bs (sgC bs d).2 (m := 8) (by omega)
  have e4 : tnV bs (sgC bs d).2 8 = sg3 bs d := rfl
  rw [e4] at c4 h4
  have g4 := h4.n
  have hO : PnB (sg3 bs d).1 := ⟨by have := h4.x; omega, by have := h4.y; omega⟩
  have k1 := fun h => vc_crossL (sg3 bs d).1 v h hO hv
  have k1b := fun h => vc_back (sg3 bs d).1 h hO
  have eO : sgO bs d v = if crs (sg3 bs d).1 v < 0 then bkP (sg3 bs d).1 else (sg3 bs d).1 := rfl
  have k2 := fun h => vc_crossL (sgR bs d v) v h y1.b hv
  have k2b := fun h => vc_back (sgR bs d v) h y1.b
  have k3 := fun h => vc_crossL v (sgL bs d v) h hv y2.b
  have k3b := fun h => vc_back (sgL bs d v) h y2.b
  have k4 := fun h => vc_crossL (sgR1 bs d v) (sgL1 bs d v) h z1.b z2.b
  have k4a := fun h => vc_back (sgR1 bs d v) h z1.b
  have k4b := fun h => vc_back (sgL1 bs d v) h z2.b
  have k5 := fun h => vc_crossL (sgR2 bs d v) (sgL2 bs d v) h z3.b z4.b
  have k6 := fun h => vc_crossL (sgR2 bs d v) v h z3.b hv
  have k7 := fun h => vc_crossL v (sgL2 bs d v) h hv z4.b
  have eR : sgR bs d v = if (sgC bs d).1 = 0 then ⟨(nrP v).x + (sgO bs d v).x, (nrP v).y + (sgO bs d v).y⟩ else (sg1 bs d).1 := rfl
  have eL : sgL bs d v = if (sgC bs d).1 = 0 then ⟨(nrP v).x - (sgO bs d v).x, (nrP v).y - (sgO bs d v).y⟩ else (sg2 bs d).1 := rfl
  have eD : sgD bs d = if (sgC bs d).1 = 0 then (sg3 bs d).2 else (sgC bs d).2 := rfl
  have eR1 : sgR1 bs d v = if crs (sgR bs d v) v < 0 then bkP (sgR bs d v) else sgR bs d v := rfl
  have eL1 : sgL1 bs d v = if crs v (sgL bs d v) < 0 then bkP (sgL bs d v) else sgL bs d v := rfl
  have eR2 : sgR2 bs d v = if crs (sgR1 bs d v) (sgL1 bs d v) < 0 then bkP (sgL1 bs d v) else sgR1 bs d v := rfl
  have eL2 : sgL2 bs d v = if crs (sgR1 bs d v) (sgL1 bs d v) < 0 then bkP (sgR1 bs d v) else sgL1 bs d v := rfl
  have eB : sgB bs d v = decide ((0 < crs (sgR2 bs d v) (sgL2 bs d v) ∧ 0 ≤ crs (sgR2 bs d v) v) ∧ 0 ≤ crs v (sgL2 bs d v)) := rfl
  have eN : nrP v = ⟨(30 * v.x).tdiv (scP v), (30 * v.y).tdiv (scP v)⟩ := rfl
  have eS : scP v = max (max (max (max 1 v.x) (0 - v.x)) v.y) (0 - v.y) := rfl
  generalize sgB bs d v = BB at *
  generalize sgR2 bs d v = R2 at *
  generalize sgL2 bs d v = L2 at *
  generalize sgR1 bs d v = R1 at *
  generalize sgL1 bs d v = L1 at *
  generalize sgR bs d v = R at *
  generalize sgL bs d v = L at *
  generalize sgD bs d = D at *
  generalize sgO bs d v = O at *
  generalize sg3 bs d = u3 at *
  generalize sgC bs d = uc at *
  generalize sg2 bs d = u2 at *
  generalize sg1 bs d = u1 at *
  generalize nrP v = nr at *
  generalize scP v = sc at *
  have o1 := h4.x
  have o2 := h4.y
  have o3 : (-8 ≤ (bkP u3.1).x ∧ (bkP u3.1).x ≤ 8) ∧ (-8 ≤ (bkP u3.1).y ∧ (bkP u3.1).y ≤ 8) := by unfold bkP; dsimp only; omega
  clear e1 e2 e3 e4 h1 h2 h3 ev
  refine VC.bodyC 6 Try.func38 rfl Try.ntmps38 Try.call38 (h.grows_set _ _) rfl ?_; conv => whnf
  repeat' (first | ((first | refine zs1 ?_ | refine zs2 ?_ | refine zs3 ?_ | refine zs4 ?_ | refine zs5 ?_); conv => whnf) | ((first | apply zi1 | apply zi2 | apply zi3 | apply zi4 | apply zi5) <;> intro _ <;> conv => whnf))
  refine zs6 [(6, 12), (9, 12)] ?_
  conv => whnf
  repeat' (first | ((first | refine zs1 ?_ | refine zs2 ?_ | refine zs3 ?_ | refine zs4 ?_ | refine zs5 ?_); conv => whnf) | ((first | apply zi1 | apply zi2 | apply zi3 | apply zi4 | apply zi5) <;> intro _ <;> conv => whnf) | (refine VLd.recd encPn_len f.toNat rfl rfl rfl (get_out hja _) hf rfl ?_; conv => whnf) | (refine VLd.recd encPn_len t.toNat rfl rfl rfl (get_out hja _) ht rfl ?_; conv => whnf) | (refine VCall.intro (p1 _) ?_; conv => whnf))
  refine zs6 [] ?_
  conv => whnf
  repeat' (first | ((first | refine zs1 ?_ | refine zs2 ?_ | refine zs3 ?_ | refine zs4 ?_ | refine zs5 ?_); conv => whnf) | ((first | apply zi1 | apply zi2 | apply zi3 | apply zi4 | apply zi5) <;> intro _ <;> conv => whnf) | (refine VCall.intro (vc_point _ _ _) ?_; conv => whnf) | (refine VCall.intro (c1 _ (get_out hd _)) ?_; conv => whnf) | (refine VCall.intro (c2 _ (outW_get _ _ _ _)) ?_; conv => whnf))
  have w1 : IntKind.i64.wrap ((30 * v.x).tdiv (max (max (max (max 1 v.x) (0 - v.x)) v.y) (0 - v.y))) = nr.x := by
    rw [← eS]
    have : (30 * v.x).tdiv sc = nr.x := by rw [eN]
    rw [this]; exact wrap_i64 (by omega)
  have w2 : IntKind.i64.wrap ((30 * v.y).tdiv (max (max (max (max 1 v.x) (0 - v.x)) v.y) (0 - v.y))) = nr.y := by
    rw [← eS]
    have : (30 * v.y).tdiv sc = nr.y := by rw [eN]
    rw [this]; exact wrap_i64 (by omega)
  rw [w1, w2]
  clear w1 w2 eN eS
  refine VCut.atO 1 [(0, .ptr (.out i) 0), (8, .ptr (.loc 0) 0), (12, .fp (encPn v)), (14, .fp (encPn nr)), (15, .ptr (.loc 1) 0)] (outW h.lift i (deckB bs u2.2)) [.flat true [DI 0, DI 0, DI 0, DI 0, DI 0, DI 0], .flat true (encSg ⟨f, t, u1.1, u2.1⟩)] (by funext j; by_cases e : j = i <;> simp [outW, e, Hp.set]) ?_ ?_
  · conv => whnf
    refine Retell.turn ⟨[1,6], 7, [(4, encPn v), (5, encPn nr)], []⟩ (TurnOk.mk' _ _ [(4, encPn v), (5, encPn nr)] [] (OutOk.outW (OutOk.lift _) rfl) rfl (by decide) zb zf trivial rfl) zv zm
  conv => whnf
  apply suffices_
  · intro hrest
    repeat' (first | ((first | refine zs1 ?_ | refine zs2 ?_ | refine zs3 ?_ | refine zs4 ?_ | refine zs5 ?_); conv => whnf) | ((first | apply zi1 | apply zi2 | apply zi3 | apply zi4 | apply zi5) <;> intro _ <;> conv => whnf) | (refine VCall.intro (c3 _ (outW_get _ _ _ _)) ?_; conv => whnf) | (refine VCall.intro (c4 _ (outW_get _ _ _ _)) ?_; conv => whnf) | (refine VCall.intro (k1 _) ?_; conv => whnf) | (refine VCall.intro (k1b _) ?_; conv => whnf) | (refine VCall.intro (vc_point _ _ _) ?_; conv => whnf))
    · rename_i hc hx
      have r1 : R = ⟨nr.x + (bkP u3.1).x, nr.y + (bkP u3.1).y⟩ := by rw [eR, if_pos hc, eO, if_pos hx]
      have l1 : L = ⟨nr.x - (bkP u3.1).x, nr.y - (bkP u3.1).y⟩ := by rw [eL, if_pos hc, eO, if_pos hx]
      have d1 : u3.2 = D := by rw [eD, if_pos hc]
      rw [d1]
      refine VCut.atO 1 [(8, .ptr (.loc 0) 0), (12, .fp (encPn v)), (15, .ptr (.loc 1) 0)] (outW h.lift i (deckB bs D)) [.flat true [DI 0, DI 0, DI 0, DI 0, DI 0, DI 0], .flat true (encSg ⟨f, t, R, L⟩)] (by funext j; by_cases e : j = i <;> simp [outW, e, Hp.set]) ?_ hrest.out
      rw [r1, l1]
      conv => whnf
      refine Retell.turn ⟨[0,1], 3, [], []⟩ (TurnOk.mk' _ _ [] [] (OutOk.outW (OutOk.lift _) rfl) rfl (by decide) zb trivial trivial rfl) zv zm
    · rename_i hc hx
      have r1 : R = ⟨nr.x + u3.1.x, nr.y + u3.1.y⟩ := by rw [eR, if_pos hc, eO, if_neg hx]
      have l1 : L = ⟨nr.x - u3.1.x, nr.y - u3.1.y⟩ := by rw [eL, if_pos hc, eO, if_neg hx]
      have d1 : u3.2 = D := by rw [eD, if_pos hc]
      rw [d1]
      refine VCut.atO 1 [(8, .ptr (.loc 0) 0), (12, .fp (encPn v)), (15, .ptr (.loc 1) 0)] (outW h.lift i (deckB bs D)) [.flat true [DI 0, DI 0, DI 0, DI 0, DI 0, DI 0], .flat true (encSg ⟨f, t, R, L⟩)] (by funext j; by_cases e : j = i <;> simp [outW, e, Hp.set]) ?_ hrest.out
      rw [r1, l1]
      conv => whnf
      refine Retell.turn ⟨[0,1], 3, [], []⟩ (TurnOk.mk' _ _ [] [] (OutOk.outW (OutOk.lift _) rfl) rfl (by decide) zb trivial trivial rfl) zv zm
    · rename_i hc
      have r1 : R = u1.1 := by rw [eR, if_neg hc]
      have l1 : L = u2.1 := by rw [eL, if_neg hc]
      have d1 : uc.2 = D := by rw [eD, if_neg hc]
      rw [d1]
      refine VCut.atO 1 [(8, .ptr (.loc 0) 0), (12, .fp (encPn v)), (15, .ptr (.loc 1) 0)] (outW h.lift i (deckB bs D)) [.flat true [DI 0, DI 0, DI 0, DI 0, DI 0, DI 0], .flat true (encSg ⟨f, t, R, L⟩)] (by funext j; by_cases e : j = i <;> simp [outW, e, Hp.set]) ?_ hrest.out
      rw [r1, l1]
      conv => whnf
      refine Retell.turn ⟨[0,1], 3, [], []⟩ (TurnOk.mk' _ _ [] [] (OutOk.outW (OutOk.lift _) rfl) rfl (by decide) zb trivial trivial rfl) zv zm
  · conv => whnf
    clear eR eL eD eO k1 k1b c1 c2 c3 c4 hnr o1 o2 o3 hO
    apply suffices_
    · intro hrest
      repeat' (first | ((first | refine zs1 ?_ | refine zs2 ?_ | refine zs3 ?_ | refine zs4 ?_ | refine zs5 ?_); conv => whnf) | ((first | apply zi1 | apply zi2 | apply zi3 | apply zi4 | apply zi5) <;> intro _ <;> conv => whnf) | (refine VCall.intro (k2 _) ?_; conv => whnf) | (refine VCall.intro (k2b _) ?_; conv => whnf))
      · rename_i hx
        have r1 : R1 = bkP R := by rw [eR1, if_pos hx]
        refine VCut.atO 1 [(8, .ptr (.loc 0) 0), (12, .fp (encPn v)), (15, .ptr (.loc 1) 0)] (outW h.lift i (deckB bs D)) [.flat true [DI 0, DI 0, DI 0, DI 0, DI 0, DI 0], .flat true (encSg ⟨f, t, R1, L⟩)] (by funext j; by_cases e : j = i <;> simp [outW, e, Hp.set]) ?_ hrest.out
        rw [r1]
        conv => whnf
        refine Retell.turn ⟨[0,1], 2, [], []⟩ (TurnOk.mk' _ _ [] [] (OutOk.outW (OutOk.lift _) rfl) rfl (by decide) zb trivial trivial rfl) zv zm
      · rename_i hx
        have r1 : R1 = R := by rw [eR1, if_neg hx]
        refine VCut.atO 1 [(8, .ptr (.loc 0) 0), (12, .fp (encPn v)), (15, .ptr (.loc 1) 0)] (outW h.lift i (deckB bs D)) [.flat true [DI 0, DI 0, DI 0, DI 0, DI 0, DI 0], .flat true (encSg ⟨f, t, R1, L⟩)] (by funext j; by_cases e : j = i <;> simp [outW, e, Hp.set]) ?_ hrest.out
        rw [r1]
        conv => whnf
        refine Retell.turn ⟨[0,1], 2, [], []⟩ (TurnOk.mk' _ _ [] [] (OutOk.outW (OutOk.lift _) rfl) rfl (by decide) zb trivial trivial rfl) zv zm
    · conv => whnf
      clear eR1 k2 k2b
      apply suffices_
      · intro hrest
        repeat' (first | ((first | refine zs1 ?_ | refine zs2 ?_ | refine zs3 ?_ | refine zs4 ?_ | refine zs5 ?_); conv => whnf) | ((first | apply zi1 | apply zi2 | apply zi3 | apply zi4 | apply zi5) <;> intro _ <;> conv => whnf) | (refine VCall.intro (k3 _) ?_; conv => whnf) | (refine VCall.intro (k3b _) ?_; conv => whnf))
        · rename_i hx
          have r1 : L1 = bkP L := by rw [eL1, if_pos hx]
          refine VCut.atO 1 [(8, .ptr (.loc 0) 0), (12, .fp (encPn v)), (15, .ptr (.loc 1) 0)] (outW h.lift i (deckB bs D)) [.flat true [DI 0, DI 0, DI 0, DI 0, DI 0, DI 0], .flat true (encSg ⟨f, t, R1, L1⟩)] (by funext j; by_cases e : j = i <;> simp [outW, e, Hp.set]) ?_ hrest.out
          rw [r1]
          conv => whnf
          refine Retell.turn ⟨[0,1], 2, [], []⟩ (TurnOk.mk' _ _ [] [] (OutOk.outW (OutOk.lift _) rfl) rfl (by decide) zb trivial trivial rfl) zv zm
        · rename_i hx
          have r1 : L1 = L := by rw [eL1, if_neg hx]
          refine VCut.atO 1 [(8, .ptr (.loc 0) 0), (12, .fp (encPn v)), (15, .ptr (.loc 1) 0)] (outW h.lift i (deckB bs D)) [.flat true [DI 0, DI 0, DI 0, DI 0, DI 0, DI 0], .flat true (encSg ⟨f, t, R1, L1⟩)] (by funext j; by_cases e : j = i <;> simp [outW, e, Hp.set]) ?_ hrest.out
          rw [r1]
          conv => whnf
          refine Retell.turn ⟨[0,1], 2, [], []⟩ (TurnOk.mk' _ _ [] [] (OutOk.outW (OutOk.lift _) rfl) rfl (by decide) zb trivial trivial rfl) zv zm
      · conv => whnf
        clear eL1 k3 k3b
        apply suffices_
        · intro hrest
          repeat' (first | ((first | refine zs1 ?_ | refine zs2 ?_ | refine zs3 ?_ | refine zs4 ?_ | refine zs5 ?_); conv => whnf) | ((first | apply zi1 | apply zi2 | apply zi3 | apply zi4 | apply zi5) <;> intro _ <;> conv => whnf) | (refine VCall.intro (k4 _) ?_; conv => whnf))
          · rename_i hx
            have r1 : R2 = bkP L1 := by rw [eR2, if_pos hx]
            have l1 : L2 = bkP R1 := by rw [eL2, if_pos hx]
            refine zs6 [(2, 4)] ?_
            conv => whnf
            repeat' (first | ((first | refine zs1 ?_ | refine zs2 ?_ | refine zs3 ?_ | refine zs4 ?_ | refine zs5 ?_); conv => whnf) | ((first | apply zi1 | apply zi2 | apply zi3 | apply zi4 | apply zi5) <;> intro _ <;> conv => whnf) | (refine VCall.intro (k4a _) ?_; conv => whnf) | (refine VCall.intro (k4b _) ?_; conv => whnf))
            refine VCut.atO 99 [(8, .ptr (.loc 0) 0), (12, .fp (encPn v)), (15, .ptr (.loc 1) 0)] (outW h.lift i (deckB bs D)) [.flat true [DI 0, DI 0, DI 0, DI 0, DI 0, DI 0], .flat true (encSg ⟨f, t, R2, L2⟩)] (by funext j; by_cases e : j = i <;> simp [outW, e, Hp.set]) ?_ hrest.out
            rw [r1, l1]
            conv => whnf
            refine Retell.turn ⟨[0,1], 2, [], []⟩ (TurnOk.mk' _ _ [] [] (OutOk.outW (OutOk.lift _) rfl) rfl (by decide) zb trivial trivial rfl) zv zm
          · rename_i hx
            have r1 : R2 = R1 := by rw [eR2, if_neg hx]
            have l1 : L2 = L1 := by rw [eL2, if_neg hx]
            refine VCut.atO 99 [(8, .ptr (.loc 0) 0), (12, .fp (encPn v)), (15, .ptr (.loc 1) 0)] (outW h.lift i (deckB bs D)) [.flat true [DI 0, DI 0, DI 0, DI 0, DI 0, DI 0], .flat true (encSg ⟨f, t, R2, L2⟩)] (by funext j; by_cases e : j = i <;> simp [outW, e, Hp.set]) ?_ hrest.out
            rw [r1, l1]
            conv => whnf
            refine Retell.turn ⟨[0,1], 2, [], []⟩ (TurnOk.mk' _ _ [] [] (OutOk.outW (OutOk.lift _) rfl) rfl (by decide) zb trivial trivial rfl) zv zm
        · conv => whnf
          refine zs6 [(0, 5), (0, 11), (0, 18)] ?_
          conv => whnf
          repeat' (first | ((first | refine zs1 ?_ | refine zs2 ?_ | refine zs3 ?_ | refine zs4 ?_ | refine zs5 ?_); conv => whnf) | ((first | apply zi1 | apply zi2 | apply zi3 | apply zi4 | apply zi5) <;> intro _ <;> conv => whnf) | (refine VCall.intro (k5 _) ?_; conv => whnf) | (refine VCall.intro (k6 _) ?_; conv => whnf) | (refine VCall.intro (k7 _) ?_; conv => whnf))
          · have e : BB = decide (0 ≤ crs v L2) := by rw [eB]; exact decide_eq_decide.2 (by omega)
            rw [e]
            refine (show VOut h ⟨outW h.lift i (deckB bs D), _⟩ _ _ _ from ?_)
            exact VOut.setF (L := 2) rfl hd fun _ => rfl
          · have e : BB = false := by rw [eB]; exact decide_eq_false (by omega)
            rw [e]
            refine (show VOut h ⟨outW h.lift i (deckB bs D), _⟩ _ _ _ from ?_)
            exact VOut.setF (L := 2) rfl hd fun _ => rfl
          · have e : BB = false := by rw [eB]; exact decide_eq_false (by omega)
            rw [e]
            refine (show VOut h ⟨outW h.lift i (deckB bs D), _⟩ _ _ _ from ?_)
            exact VOut.setF (L := 2) rfl hd fun _ => rfl
end Go.Proofs.Ytdlnjnfkbneibaa

open Go.Vm
open Clip (Pn Sg Nt NtOk SgOk crs okD okP okD_iff okP_iff pAt pAt_get pAt_ok offB)
namespace Go.Proofs.Ytdlnjnfkbneibaa
set_option maxRecDepth 20000
set_option maxHeartbeats 4000000

/-! ### A net that is dealt: all its sights hold -/
def pX (bs : List Int) (d : DS) : Int × DS := dNx bs d (250 - 0 + 1)
def pY (bs : List Int) (d : DS) : Int × DS := dNx bs (pX bs d).2 (250 - 0 + 1)
def pIt (bs : List Int) (u : DS × List Pn) : Nat → DS × List Pn
  | 0 => u
  | k + 1 => ((pY bs (pIt bs u k).1).2, (pIt bs u k).2 ++ [⟨(0 + (pX bs (pIt bs u k).1).1) * 4, (0 + (pY bs (pIt bs u k).1).1) * 4⟩])
structure PIok (N k : Nat) (u : DS × List Pn) : Prop where
  n : u.1.1 ≤ N + 2 * k
  len : u.2.length = k
  ok : ∀ p ∈ u.2, okP p = true
theorem pIt_ok {bs : List Int} {u : DS × List Pn} {N : Nat} (h : PIok N 0 u) : ∀ k, PIok N k (pIt bs u k)
  | 0 => h
  | k + 1 => by
    obtain ⟨h1, h2, h3⟩ := pIt_ok (bs := bs) h k
    obtain ⟨a1, a2, a3⟩ := dNx_bd bs (pIt bs u k).1 (250 - 0 + 1)
    obtain ⟨b1, b2, b3⟩ := dNx_bd bs (pX bs (pIt bs u k).1).2 (250 - 0 + 1)
    have e1 : dNx bs (pIt bs u k).1 (250 - 0 + 1) = pX bs (pIt bs u k).1 := rfl
    have e2 : dNx bs (pX bs (pIt bs u k).1).2 (250 - 0 + 1) = pY bs (pIt bs u k).1 := rfl
    rw [e1] at a1 a2 a3
    rw [e2] at b1 b2 b3
    rw [pIt]
    generalize pY bs (pIt bs u k).1 = y at *
    generalize pX bs (pIt bs u k).1 = x at *
    refine ⟨by dsimp only; omega, by simp [h2], fun p hp => ?_⟩
    rcases List.mem_append.1 hp with hp | hp
    · exact h3 p hp
    · rw [List.mem_singleton.1 hp]
      exact okP_iff.2 ⟨by dsimp only; omega, by dsimp only; omega⟩
def sF (bs : List Int) (n : Int) (d : DS) : Int × DS := dNx bs d n
def sT (bs : List Int) (n : Int) (d : DS) : Int × DS := dNx bs (sF bs n d).2 (n - 1 - 1 + 1)
def sTo (bs : List Int) (n : Int) (d : DS) : Int := ((sF bs n d).1 + (1 + (sT bs n d).1)).tmod n
def sV (bs : List Int) (ps : List Pn) (d : DS) : Pn := vvP (pAt ps (sF bs ps.length d).1) (pAt ps (sTo bs ps.length d))
def sSg (bs : List Int) (ps : List Pn) (d : DS) : Sg := ⟨(sF bs ps.length d).1, sTo bs ps.length d, sgR2 bs (sT bs ps.length d).2 (sV bs ps d), sgL2 bs (sT bs ps.length d).2 (sV bs ps d)⟩
def sOk (bs : List Int) (ps : List Pn) (d : DS) : Bool := sgB bs (sT bs ps.length d).2 (sV bs ps d)
def sDk (bs : List Int) (ps : List Pn) (d : DS) : DS := sgD bs (sT bs ps.length d).2
def sIt (bs : List Int) (ps : List Pn) (u : DS × List Sg) : Nat → DS × List Sg
  | 0 => u
  | k + 1 => (sDk bs ps (sIt bs ps u k).1, if sOk bs ps (sIt bs ps u k).1 = true then (sIt bs ps u k).2 ++ [sSg bs ps (sIt bs ps u k).1] else (sIt bs ps u k).2)
theorem sFT (bs : List Int) (n : Nat) (d : DS) (hn : 2 ≤ n) : (0 ≤ (sF bs n d).1 ∧ (sF bs n d).1 < n) ∧ (0 ≤ sTo bs n d ∧ sTo bs n d < n) ∧ (sF bs n d).1 ≠ sTo bs n d ∧ (sT bs n d).2.1 ≤ d.1 + 2 ∧ (sF bs n d).2.1 ≤ d.1 + 1 ∧ (0 ≤ (sT bs n d).1 ∧ (sT bs n d).1 < n) := by
  obtain ⟨a1, a2, a3⟩ := dNx_bd bs d n
  obtain ⟨b1, b2, b3⟩ := dNx_bd bs (sF bs n d).2 ((n : Int) - 1 - 1 + 1)
  have e1 : dNx bs d n = sF bs n d := rfl
  have e2 : dNx bs (sF bs n d).2 ((n : Int) - 1 - 1 + 1) = sT bs n d := rfl
  rw [e1] at a1 a2 a3
  rw [e2] at b1 b2 b3
  have et : sTo bs n d = ((sF bs n d).1 + (1 + (sT bs n d).1)).tmod n := rfl
  rw [et]
  generalize sF bs n d = x at *
  generalize sT bs n d = y at *
  have hm : (x.1 + (1 + y.1)).tmod n = if x.1 + (1 + y.1) < n then x.1 + (1 + y.1) else x.1 + (1 + y.1) - n := by
    rw [Int.tmod_eq_emod_of_nonneg (by omega)]
    split
    · exact Int.emod_eq_of_lt (by omega) (by omega)
    · rw [← Int.sub_emod_right]; exact Int.emod_eq_of_lt (by omega) (by omega)
  rw [hm]
  refine ⟨by omega, ?_, ?_, by omega, by omega, by omega⟩
  · split <;> omega
  · split <;> omega
structure SIok (ps : List Pn) (N k : Nat) (u : DS × List Sg) : Prop where
  n : u.1.1 ≤ N + 9 * k
  len : u.2.length ≤ k
  ok : ∀ s ∈ u.2, SgOk ps.length s ∧ offB ps s = false
theorem p38_ok {a b : Pn} (ha : P38 a) (hb : P38 b) (h : 0 < crs a b) : okD a = true ∧ okD b = true := by
  have x1 := ha.x
  have x2 := ha.y
  have x3 := hb.x
  have x4 := hb.y
  refine ⟨okD_iff.2 ⟨fun e => ?_, by omega, by omega⟩, okD_iff.2 ⟨fun e => ?_, by omega, by omega⟩⟩
  · unfold crs at h; rw [e.1, e.2, Int.zero_mul, Int.zero_mul] at h; omega
  · unfold crs at h; rw [e.1, e.2, Int.mul_zero, Int.mul_zero] at h; omega
theorem sSg_ok {bs : List Int} {ps : List Pn} {d : DS} (hn : 2 ≤ ps.length) (h : sOk bs ps d = true) : SgOk ps.length (sSg bs ps d) ∧ offB ps (sSg bs ps d) = false := by
  obtain ⟨f1, f2, f3, _⟩ := sFT bs ps.length d hn
  obtain ⟨_, _, z3, z4⟩ := sg_sz bs (sT bs ps.length d).2 (sV bs ps d)
  unfold sOk sgB at h
  rw [decide_eq_true_eq] at h
  obtain ⟨⟨h1, h2⟩, h3⟩ := h
  obtain ⟨k1, k2⟩ := p38_ok z3 z4 h1
  refine ⟨⟨f1, f2, f3, k1, k2, h1⟩, ?_⟩
  unfold offB
  refine decide_eq_false ?_
  have e : (⟨(pAt ps (sSg bs ps d).t).x - (pAt ps (sSg bs ps d).f).x, (pAt ps (sSg bs ps d).t).y - (pAt ps (sSg bs ps d).f).y⟩ : Pn) = sV bs ps d := rfl
  rw [e]
  show ¬ (crs (sgR2 bs (sT bs ps.length d).2 (sV bs ps d)) (sV bs ps d) < 0 ∨ crs (sV bs ps d) (sgL2 bs (sT bs ps.length d).2 (sV bs ps d)) < 0)
  omega
theorem sIt_ok {bs : List Int} {ps : List Pn} {u : DS × List Sg} {N : Nat} (hn : 2 ≤ ps.length) (h : SIok ps N 0 u) : ∀ k, SIok ps N k (sIt bs ps u k)
  | 0 => h
  | k + 1 => by
    obtain ⟨h1, h2, h3⟩ := sIt_ok (bs := bs) hn h k
    have hf := sFT bs ps.length (sIt bs ps u k).1 hn
    have hd := (sg_ok bs (sT bs ps.length (sIt bs ps u k).1).2 (sV bs ps (sIt bs ps u k).1)).n
    have e : sDk bs ps (sIt bs ps u k).1 = sgD bs (sT bs ps.length (sIt bs ps u k).1).2 := rfl
    rw [← e] at hd
    have hs := fun hh => sSg_ok (bs := bs) (ps := ps) (d := (sIt bs ps u k).1) hn hh
    rw [sIt]
    generalize sDk bs ps (sIt bs ps u k).1 = D at *
    generalize sSg bs ps (sIt bs ps u k).1 = s at *
    generalize sOk bs ps (sIt bs ps u k).1 = b at *
    refine ⟨by dsimp only; omega, ?_, ?_⟩
    · dsimp only; split
      · rw [List.length_append]; simp only [List.length_singleton]; omega
      · omega
    · dsimp only; split
      · rename_i hb
        intro q hq
        rcases List.mem_append.1 hq with hq | hq
        · exact h3 q hq
        · rw [List.mem_singleton.1 hq]; exact hs hb
      · exact h3
def mdX (bs : List Int) (d : DS) (p : Int) : Int × DS := dNx bs d (p - 2 + 1)
def mdP (bs : List Int) (d : DS) (p : Int) : DS × List Pn := pIt bs ((mdX bs d p).2, []) (2 + (mdX bs d p).1).toNat
def mdC (bs : List Int) (d : DS) (p s : Int) : Int × DS := dNx bs (mdP bs d p).1 (s + 1)
def mdS (bs : List Int) (d : DS) (p s : Int) : DS × List Sg := sIt bs (mdP bs d p).2 ((mdC bs d p s).2, []) (mdC bs d p s).1.toNat
def mdN (bs : List Int) (d : DS) (p s : Int) : Nt := ⟨(mdP bs d p).2, (mdS bs d p s).2⟩
structure MdOk (p s : Int) (N : Nt) : Prop where
  ok : NtOk N
  n : 2 ≤ N.ps.length ∧ (N.ps.length : Int) ≤ p
  m : (N.ss.length : Int) ≤ s
  on : ∀ x ∈ N.ss, offB N.ps x = false
theorem mdP_ok (bs : List Int) (d : DS) {p : Int} (hp : 2 ≤ p ∧ p ≤ 10) : (mdP bs d p).1.1 ≤ d.1 + 21 ∧ (mdP bs d p).2.length = (2 + (mdX bs d p).1).toNat ∧ 2 ≤ (mdP bs d p).2.length ∧ ((mdP bs d p).2.length : Int) ≤ p ∧ ∀ q ∈ (mdP bs d p).2, okP q = true := by
  obtain ⟨a1, a2, a3⟩ := dNx_bd bs d (p - 2 + 1)
  have e : dNx bs d (p - 2 + 1) = mdX bs d p := rfl
  rw [e] at a1 a2 a3
  obtain ⟨h1, h2, h3⟩ := pIt_ok (bs := bs) (u := ((mdX bs d p).2, [])) (N := (mdX bs d p).2.1) ⟨by dsimp only; omega, rfl, by simp⟩ (2 + (mdX bs d p).1).toNat
  have e2 : pIt bs ((mdX bs d p).2, []) (2 + (mdX bs d p).1).toNat = mdP bs d p := rfl
  rw [e2] at h1 h2 h3
  exact ⟨by omega, h2, by omega, by omega, h3⟩
theorem mdN_ok (bs : List Int) (d : DS) {p s : Int} (hp : 2 ≤ p ∧ p ≤ 10) (hs : 0 ≤ s ∧ s ≤ 20) : MdOk p s (mdN bs d p s) ∧ (mdS bs d p s).1.1 ≤ d.1 + 300 := by
  obtain ⟨q1, q2, q3, q4, q5⟩ := mdP_ok bs d hp
  obtain ⟨a1, a2, a3⟩ := dNx_bd bs (mdP bs d p).1 (s + 1)
  have e : dNx bs (mdP bs d p).1 (s + 1) = mdC bs d p s := rfl
  rw [e] at a1 a2 a3
  obtain ⟨h1, h2, h3⟩ := sIt_ok (bs := bs) (ps := (mdP bs d p).2) (u := ((mdC bs d p s).2, [])) (N := (mdC bs d p s).2.1) q3 ⟨by dsimp only; omega, Nat.le_refl _, by simp⟩ (mdC bs d p s).1.toNat
  have e2 : sIt bs (mdP bs d p).2 ((mdC bs d p s).2, []) (mdC bs d p s).1.toNat = mdS bs d p s := rfl
  rw [e2] at h1 h2 h3
  refine ⟨⟨⟨?_, ?_, q5, fun x hx => (h3 x hx).1⟩, ⟨q3, q4⟩, ?_, fun x hx => (h3 x hx).2⟩, by omega⟩
  · show 1 ≤ (mdP bs d p).2.length ∧ (mdP bs d p).2.length ≤ 10
    omega
  · show (mdS bs d p s).2.length ≤ 20
    omega
  · show ((mdS bs d p s).2.length : Int) ≤ s
    omega
end Go.Proofs.Ytdlnjnfkbneibaa

open Go.Vm
open Clip (Pn Sg Nt NtOk SgOk crs okD okP okD_iff okP_iff pAt pAt_get pAt_ok offB)
namespace Go.Proofs.Ytdlnjnfkbneibaa
set_option maxRecDepth 20000
set_option maxHeartbeats 4000000

theorem vc_Made (bs : List Int) (d : DS) (p s : Int) (i : Vm.Id) (h : Hp) (hN : d.1 ≤ 900000) (hp : 2 ≤ p ∧ p ≤ 10) (hs : 0 ≤ s ∧ s ≤ 20) (hd : h.get i = some (deckB bs d)) :
    VC Try.prog 25 [.ptr i 0, I p, I s] h (vN (mdN bs d p s)) (h.set i (deckB bs (mdS bs d p s).1)) := by
  have a1 := dNx_bd bs d (p - 2 + 1)
  have c1 := fun (h2 : Hp) hh => vc_between bs d 2 p (.out i) h2 (by omega) (by omega) (by omega) hh
  obtain ⟨q1, q2, q3, q4, q5⟩ := mdP_ok bs d hp
  have eN : mdN bs d p s = ⟨(mdP bs d p).2, (mdS bs d p s).2⟩ := rfl
  rw [eN]
  unfold mdS mdC
  have hP0 : mdP bs d p = pIt bs ((mdX bs d p).2, []) (2 + (mdX bs d p).1).toNat := rfl
  have e1 : dNx bs d (p - 2 + 1) = mdX bs d p := rfl
  rw [e1] at a1 c1
  generalize mdX bs d p = x1 at *
  have hPk := fun k => pIt_ok (bs := bs) (u := (x1.2, [])) (N := x1.2.1) ⟨by dsimp only; omega, rfl, by simp⟩ k
  obtain ⟨n, hn⟩ : ∃ n : Nat, 2 + x1.1 = n := ⟨(2 + x1.1).toNat, by omega⟩
  rw [hn] at c1 hP0 q2
  rw [Int.toNat_natCast] at hP0 q2
  generalize mdP bs d p = W at *
  have a2 := dNx_bd bs W.1 (s + 1)
  have c2 := fun (h2 : Hp) hh => vc_draw bs W.1 (s + 1) (.out i) h2 (by omega) hh
  generalize dNx bs W.1 (s + 1) = x2 at *
  have hSk := fun k => sIt_ok (bs := bs) (ps := W.2) (u := (x2.2, [])) (N := x2.2.1) q3 ⟨by dsimp only; omega, Nat.le_refl _, by simp⟩ k
  obtain ⟨m, hm⟩ : ∃ m : Nat, x2.1 = m := ⟨x2.1.toNat, by omega⟩
  rw [hm] at c2 ⊢
  rw [Int.toNat_natCast]
  obtain ⟨R, hR⟩ : ∃ R, R = sIt bs W.2 (x2.2, []) m := ⟨_, rfl⟩
  rw [← hR]
  clear eN e1
  refine VC.body Try.func25 rfl Try.ntmps25 Try.call25 (h.grows_set _ _) rfl ?_
  conv => whnf
  repeat' (first | ((first | refine zs1 ?_ | refine zs2 ?_ | refine zs3 ?_ | refine zs4 ?_ | refine zs5 ?_ | refine zs6 [] ?_); conv => whnf) | ((first | apply zi1 | apply zi2 | apply zi3 | apply zi4 | apply zi5) <;> intro _ <;> conv => whnf) | (refine VCall.intro (c1 _ (get_out hd _)) ?_; conv => whnf))
  refine VCode.lpo (fun y : Nat × (DS × List Pn) => [(0, .ptr (.out i) 0), (2, I s), (6, .ptr (.loc 0) 0), (7, .ptr (.loc 1) 0), (14, I n), (15, I y.1)]) (fun y => outW h.lift i (deckB bs y.2.1))
    (fun y => [.flat true [.nilslice, .nilslice], .cells true [.gl (.loc 2) 2 y.2.2.length, .nilslice], .flat true (y.2.2.flatMap encPn)]) (fun y => y.1 ≤ n ∧ y.2 = pIt bs (x1.2, []) y.1) (fun y => n - y.1) (0, (x1.2, [])) ⟨Nat.zero_le _, rfl⟩ ?_ ?_ ?_
  · funext j; by_cases e : j = i <;> simp [outW, e, Hp.set]
  · conv => whnf
    refine Retell.turn ⟨[0,1,2], 2, [], []⟩ (TurnOk.mk' _ _ [] [] (OutOk.outW (OutOk.lift _) rfl) rfl (by decide) zb trivial trivial rfl) zv zm
  · rintro ⟨k, w⟩ ⟨hk, hw⟩
    dsimp only at hk hw
    have hwk := hPk k
    have hnx : pIt bs (x1.2, []) (k + 1) = ((pY bs w.1).2, w.2 ++ [⟨(0 + (pX bs w.1).1) * 4, (0 + (pY bs w.1).1) * 4⟩]) := by rw [pIt, hw]
    rw [← hw] at hwk
    obtain ⟨n1, n2, n3⟩ := hwk
    have y1 := dNx_bd bs w.1 (250 - 0 + 1)
    have g1 := fun (h2 : Hp) hh => vc_between bs w.1 0 250 (.out i) h2 (by omega) (by omega) (by omega) hh
    have ex : dNx bs w.1 (250 - 0 + 1) = pX bs w.1 := rfl
    rw [ex] at y1 g1
    have y2 := dNx_bd bs (pX bs w.1).2 (250 - 0 + 1)
    have g2 := fun (h2 : Hp) hh => vc_between bs (pX bs w.1).2 0 250 (.out i) h2 (by omega) (by omega) (by omega) hh
    have ey : dNx bs (pX bs w.1).2 (250 - 0 + 1) = pY bs w.1 := rfl
    rw [ey] at y2 g2
    clear ex ey
    generalize pY bs w.1 = z2 at *
    generalize pX bs w.1 = z1 at *
    conv => whnf
    refine VIte.dec (fun h3 => ?_) (fun h3 => ?_)
    · conv => whnf
      refine zs6 [(1, 3), (1, 6), (1, 8)] ?_
      conv => whnf
      repeat' (first | ((first | refine zs1 ?_ | refine zs2 ?_ | refine zs3 ?_ | refine zs4 ?_ | refine zs5 ?_); conv => whnf) | ((first | apply zi1 | apply zi2 | apply zi3 | apply zi4 | apply zi5) <;> intro _ <;> conv => whnf) | (refine VCall.intro (g1 _ (outW_get _ _ _ _)) ?_; conv => whnf) | (refine VCall.intro (g2 _ (outW_get _ _ _ _)) ?_; conv => whnf) | (refine VCall.intro (vc_point _ _ _) ?_; conv => whnf))
      refine VMem.app1 (l := w.2) (⟨(0 + z1.1) * 4, (0 + z2.1) * 4⟩ : Pn) encPn_len rfl rfl rfl rfl rfl (by omega) ?_
      conv => whnf
      repeat' (first | ((first | refine zs1 ?_ | refine zs2 ?_ | refine zs3 ?_ | refine zs4 ?_ | refine zs5 ?_); conv => whnf) | ((first | apply zi1 | apply zi2 | apply zi3 | apply zi4 | apply zi5) <;> intro _ <;> conv => whnf))
      refine LEndO.intro (k + 1, _) ⟨by dsimp only; omega, hnx.symm⟩ (by dsimp only; omega) ?_ ?_
      · funext j; by_cases e : j = i <;> simp [outW, e, Hp.set]
      · conv => whnf
        rw [List.length_append]
        refine Retell.turn ⟨[0,1,4], 5, [], []⟩ (TurnOk.mk' _ _ [] [] (OutOk.outW (OutOk.lift _) rfl) rfl (by decide) zb trivial trivial rfl) zv zm
    · have hkn : k = n := by dsimp only at h3; omega
      subst hkn
      rw [← hP0] at hw
      subst hw
      conv => whnf
      repeat' (first | ((first | refine zs1 ?_ | refine zs2 ?_ | refine zs3 ?_ | refine zs4 ?_ | refine zs5 ?_); conv => whnf) | ((first | apply zi1 | apply zi2 | apply zi3 | apply zi4 | apply zi5) <;> intro _ <;> conv => whnf) | (refine VCall.intro (c2 _ (outW_get _ _ _ _)) ?_; conv => whnf))
      refine VCode.lpo (fun y : Nat × (DS × List Sg) => [(0, .ptr (.out i) 0), (6, .ptr (.loc 0) 0), (7, .ptr (.loc 1) 0), (33, I m), (34, I y.1)]) (fun y => outW h.lift i (deckB bs y.2.1))
        (fun y => [.flat true [.nilslice, .nilslice], .cells true [.gl (.loc 2) 2 w.2.length, .gl (.loc 3) 6 y.2.2.length], .flat true (w.2.flatMap encPn), .flat true (y.2.2.flatMap encSg)]) (fun y => y.1 ≤ m ∧ y.2 = sIt bs w.2 (x2.2, []) y.1) (fun y => m - y.1) (0, (x2.2, [])) ⟨Nat.zero_le _, rfl⟩ ?_ ?_ ?_
      · funext j; by_cases e : j = i <;> simp [outW, e, Hp.set]
      · conv => whnf
        refine Retell.turn ⟨[0,1,2,3], 3, [], []⟩ (TurnOk.mk' _ _ [] [] (OutOk.outW (OutOk.lift _) rfl) rfl (by decide) zb trivial trivial rfl) zv zm
      · rintro ⟨k, u⟩ ⟨hk, hu⟩
        dsimp only at hk hu
        have huk := hSk k
        have hnx : sIt bs w.2 (x2.2, []) (k + 1) = (sDk bs w.2 u.1, if sOk bs w.2 u.1 = true then u.2 ++ [sSg bs w.2 u.1] else u.2) := by rw [sIt, hu]
        rw [← hu] at huk
        obtain ⟨n1, n2, n3⟩ := huk
        have hft := sFT bs w.2.length u.1 q3
        have km : k ≤ 20 := by omega
        have hpk := fun (q : Int) (hq : 0 ≤ q ∧ q < w.2.length) => (List.getElem?_eq_getElem (l := w.2) (i := q.toNat) (by omega))
        have g1 := fun (h2 : Hp) hh => vc_draw bs u.1 (w.2.length : Int) (.out i) h2 (by omega) hh
        have ef : dNx bs u.1 (w.2.length : Int) = sF bs w.2.length u.1 := rfl
        rw [ef] at g1
        have g2 := fun (h2 : Hp) hh => vc_between bs (sF bs w.2.length u.1).2 1 ((w.2.length : Int) - 1) (.out i) h2 (by omega) (by omega) (by omega) hh
        have et : dNx bs (sF bs w.2.length u.1).2 ((w.2.length : Int) - 1 - 1 + 1) = sT bs w.2.length u.1 := rfl
        rw [et] at g2
        have hneB : ((w.2.length : Int) != 0) = true := by rw [bne_iff_ne]; omega
        have eTo : ((sF bs w.2.length u.1).1 + (1 + (sT bs w.2.length u.1).1)).tmod (w.2.length : Int) = sTo bs w.2.length u.1 := rfl
        have hf := hpk _ hft.1
        have ht := hpk _ hft.2.1
        have oF := q5 _ (List.getElem_mem (l := w.2) (n := (sF bs w.2.length u.1).1.toNat) (by omega))
        have oT := q5 _ (List.getElem_mem (l := w.2) (n := (sTo bs w.2.length u.1).toNat) (by omega))
        have g3 := fun (h2 : Hp) (hh : h2.get (.loc 2) = some (.flat true (w.2.flatMap encPn))) hd2 => vc_SightedO bs (sT bs w.2.length u.1).2 ⟨w.2, []⟩ (sF bs w.2.length u.1).1 (sTo bs w.2.length u.1) _ _ (.out i) h2 (.loc 2) (.loc 3) u.2.length hh (by omega) (by dsimp only; omega) hft.1 hft.2.1 hf ht oF oT hd2
        rw [← pAt_get hf, ← pAt_get ht] at g3
        have ev : vvP (pAt w.2 (sF bs w.2.length u.1).1) (pAt w.2 (sTo bs w.2.length u.1)) = sV bs w.2 u.1 := rfl
        rw [ev] at g3
        have es : (⟨(sF bs w.2.length u.1).1, sTo bs w.2.length u.1, sgR2 bs (sT bs w.2.length u.1).2 (sV bs w.2 u.1), sgL2 bs (sT bs w.2.length u.1).2 (sV bs w.2 u.1)⟩ : Sg) = sSg bs w.2 u.1 := rfl
        rw [es] at g3
        have eo : sgB bs (sT bs w.2.length u.1).2 (sV bs w.2 u.1) = sOk bs w.2 u.1 := rfl
        have ed : sgD bs (sT bs w.2.length u.1).2 = sDk bs w.2 u.1 := rfl
        rw [eo, ed] at g3
        clear hf ht oF oT ev es eo ed ef et hpk
        generalize sSg bs w.2 u.1 = sx at *
        generalize sOk bs w.2 u.1 = ok at *
        generalize sDk bs w.2 u.1 = D at *
        generalize sTo bs w.2.length u.1 = to at *
        generalize sT bs w.2.length u.1 = zt at *
        generalize sF bs w.2.length u.1 = zf at *
        conv => whnf
        refine VIte.dec (fun h3 => ?_) (fun h3 => ?_)
        · conv => whnf
          repeat' (first | ((first | refine zs1 ?_ | refine zs2 ?_ | refine zs3 ?_ | refine zs4 ?_ | refine zs5 ?_); conv => whnf) | ((first | apply zi1 | apply zi2 | apply zi3 | apply zi4 | apply zi5) <;> intro _ <;> conv => whnf) | (refine VCall.intro (g1 _ (outW_get _ _ _ _)) ?_; conv => whnf))
          refine zs6 [(6, 9)] ?_
          conv => whnf
          repeat' (first | ((first | refine zs1 ?_ | refine zs2 ?_ | refine zs3 ?_ | refine zs4 ?_ | refine zs5 ?_); conv => whnf) | ((first | apply zi1 | apply zi2 | apply zi3 | apply zi4 | apply zi5) <;> intro _ <;> conv => whnf) | (refine VCall.intro (g2 _ (outW_get _ _ _ _)) ?_; conv => whnf) | (refine VNeed.intro hneB ?_; conv => whnf))
          rw [eTo]
          refine VCall.intro (g3 _ rfl (outW_get _ _ _ _)) ?_
          cases ok with
          | false =>
            rw [if_neg (by decide)] at hnx
            conv => whnf
            repeat' (first | ((first | refine zs1 ?_ | refine zs2 ?_ | refine zs3 ?_ | refine zs4 ?_ | refine zs5 ?_); conv => whnf) | ((first | apply zi1 | apply zi2 | apply zi3 | apply zi4 | apply zi5) <;> intro _ <;> conv => whnf))
            refine LEndO.intro (k + 1, _) ⟨by dsimp only; omega, hnx.symm⟩ (by dsimp only; omega) ?_ ?_
            · funext j; by_cases e : j = i <;> simp [outW, e, Hp.set]
            · conv => whnf
              refine Retell.turn ⟨[0,1,2,3], 5, [], []⟩ (TurnOk.mk' _ _ [] [] (OutOk.outW (OutOk.lift _) rfl) rfl (by decide) zb trivial trivial rfl) zv zm
          | true =>
            rw [if_pos rfl] at hnx
            conv => whnf
            repeat' (first | ((first | refine zs1 ?_ | refine zs2 ?_ | refine zs3 ?_ | refine zs4 ?_ | refine zs5 ?_); conv => whnf) | ((first | apply zi1 | apply zi2 | apply zi3 | apply zi4 | apply zi5) <;> intro _ <;> conv => whnf))
            refine VMem.app1 (l := u.2) sx encSg_len rfl rfl rfl rfl rfl (by omega) ?_
            conv => whnf
            repeat' (first | ((first | refine zs1 ?_ | refine zs2 ?_ | refine zs3 ?_ | refine zs4 ?_ | refine zs5 ?_); conv => whnf) | ((first | apply zi1 | apply zi2 | apply zi3 | apply zi4 | apply zi5) <;> intro _ <;> conv => whnf))
            refine LEndO.intro (k + 1, _) ⟨by dsimp only; omega, hnx.symm⟩ (by dsimp only; omega) ?_ ?_
            · funext j; by_cases e : j = i <;> simp [outW, e, Hp.set]
            · conv => whnf
              rw [List.length_append]
              refine Retell.turn ⟨[0,1,2,6], 7, [], []⟩ (TurnOk.mk' _ _ [] [] (OutOk.outW (OutOk.lift _) rfl) rfl (by decide) zb trivial trivial rfl) zv zm
        · have hkm : k = m := by dsimp only at h3; omega
          subst hkm
          rw [← hR] at hu
          subst hu
          conv => whnf
          repeat' (first | ((first | refine zs1 ?_ | refine zs2 ?_ | refine zs3 ?_ | refine zs4 ?_ | refine zs5 ?_); conv => whnf) | ((first | apply zi1 | apply zi2 | apply zi3 | apply zi4 | apply zi5) <;> intro _ <;> conv => whnf))
          refine VOut.turn ⟨[], 4, [(2, w.2.flatMap encPn), (3, u.2.flatMap encSg)], []⟩ (loc' := []) (r1' := vN ⟨w.2, u.2⟩) (TurnOk.mk' [] 4 [(2, w.2.flatMap encPn), (3, u.2.flatMap encSg)] [] (OutOk.outW (OutOk.lift _) rfl) rfl List.nodup_nil BTos.nil (FzAll.flat rfl (FzAll.flat rfl FzAll.nil)) trivial rfl) zv ?_
          exact VOut.setF (L := 0) rfl hd fun _ => rfl
end Go.Proofs.Ytdlnjnfkbneibaa

open Go.Vm
open Clip (Pn Sg Nt Bd Sp Rt NtOk SgOk beyond BdSz SpSz SpOk Sound regS bnds bnds_sq bnds_sz bS bsq offB offS offL pAt pAt_ok cmpR cmpR_q atP at_feas Feas rcS dirAf chk_ok okD)
namespace Go.Proofs.Ytdlnjnfkbneibaa
set_option maxRecDepth 20000
set_option maxHeartbeats 4000000

/-! ### Sights that hold: the place keeps all bounds -/
theorem offS_nil {ps : List Pn} : ∀ {l : List Sg} {k : Int}, (∀ s ∈ l, offB ps s = false) → offS ps k l = []
  | [], _, _ => rfl
  | s :: r, k, h => by
    rw [offS, if_neg (by rw [h s (by simp)]; decide)]
    exact offS_nil fun x hx => h x (List.mem_cons_of_mem _ hx)
theorem offL_nil {N : Nt} (h : ∀ s ∈ N.ss, offB N.ps s = false) : offL N = [] := offS_nil h
theorem own_feas {N : Nt} (o : NtOk N) {p : Int} (hp : 0 ≤ p ∧ p < N.ps.length) (h : ∀ s ∈ N.ss, (s.t = p ∨ s.f = p) → offB N.ps s = false) : Feas (bnds N p) (atP (pAt N.ps p)) := by
  refine at_feas.2 fun b hb => ?_
  unfold bnds at hb
  rcases List.mem_append.1 hb with hb | hb
  · obtain ⟨s, hs, hb⟩ := List.mem_flatMap.1 hb
    exact (Clip.bS_feas o hp hs).2 (h s hs) b hb
  · have := pAt_ok o hp
    simp only [bsq, List.mem_cons, List.not_mem_nil, or_false] at hb
    rcases hb with rfl | rfl | rfl | rfl <;> dsimp only <;> omega
theorem brE_zero {N : Nt} (o : NtOk N) {p : Int} (hp : 0 ≤ p ∧ p < N.ps.length) : brE N p = 0 := by
  unfold brE
  rw [if_neg (by rw [chk_ok.2 o]; decide), if_neg (by omega)]
end Go.Proofs.Ytdlnjnfkbneibaa

open Go.Vm
open Clip (Pn Sg Nt Bd Sp Rt NtOk SgOk beyond BdSz SpSz SpOk Sound regS bnds bnds_sq bnds_sz bnds_len offB offL pAt pAt_ok pAt_get atP at_feas Feas rcS chk_ok okD okD_iff okP_iff mvL)
namespace Go.Proofs.Ytdlnjnfkbneibaa
set_option maxRecDepth 20000
set_option maxHeartbeats 4000000

theorem tmod_pos {w : Int} {n : Nat} (hw : 0 ≤ w) (hn : 0 < n) : 0 ≤ w.tmod n ∧ w.tmod n < n := by
  rw [Int.tmod_eq_emod_of_nonneg hw]
  exact ⟨Int.emod_nonneg _ (by omega), Int.emod_lt_of_pos _ (by omega)⟩
end Go.Proofs.Ytdlnjnfkbneibaa

open Go.Vm
open Clip (Pn Sg Nt Bd Sp Rt NtOk SgOk offB offL offS)
namespace Go.Vm
theorem Hp.set_twice (h : Hp) (i : Id) (a b : Blk) : (h.set i a).set i b = h.set i b := by
  cases i with
  | out i =>
    obtain ⟨o, l⟩ := h
    simp only [Hp.set]
    congr 1
    funext j
    by_cases e : j = i <;> simp [e]
  | loc k =>
    obtain ⟨o, l⟩ := h
    simp only [Hp.set, List.set_set]
theorem VMem.set2 {P : Program} {α : Type} {enc : α → List D} {m : Nat} (hm : ∀ a, (enc a).length = m) {t : TypeId} {i : Id} {off : Nat} {x0 x1 : S} {ti : TI} {h : Hp} {l : List α} {a : α} {K : V → Hp → Prop} (j c : Nat) (a1 a2 : α) (hTt : tiOf P t = some ti) (hl : Nat.beq 2 ti.size = true) (hb : h.get i = some (.flat true (l.flatMap enc)))
    (hj : l[j]? = some a) (hc : c + 1 < m) (h1 : (enc a).set c (.s x0) = enc a1) (h2 : (enc a1).set (c + 1) (.s x1) = enc a2) (ho : off = j * m + c) (hK : K .undef (h.set i (.flat true ((l.set j a2).flatMap enc)))) : VMem P (opStore t) [.ptr i off, .agg [.s x0, .s x1]] h K := by
  obtain ⟨hjl, _⟩ := List.getElem?_eq_some_iff.1 hj
  have hle : (j + 1) * m ≤ l.length * m := Nat.mul_le_mul_right _ hjl
  rw [Nat.add_mul] at hle
  have w1 : h.wr1 i off (.s x0) = some (h.set i (.flat true ((l.set j a1).flatMap enc))) := by
    unfold Hp.wr1
    rw [hb]
    have hlt : off < (l.flatMap enc).length := by rw [flat_len hm, ho]; omega
    simp only [Blk.wr1, hlt, if_true]
    rw [ho, flat_set hm hj (by omega) h1]
  have hb2 : (h.set i (.flat true ((l.set j a1).flatMap enc))).get i = some (.flat true ((l.set j a1).flatMap enc)) := by
    rw [Hp.get_set _ _ _ _ (by rw [hb]; simp)]; simp
  have hj2 : (l.set j a1)[j]? = some a1 := by rw [List.getElem?_set_self hjl]
  have w2 : (h.set i (.flat true ((l.set j a1).flatMap enc))).wr1 i (off + 1) (.s x1) = some (h.set i (.flat true ((l.set j a2).flatMap enc))) := by
    unfold Hp.wr1
    rw [hb2]
    have hlt : off + 1 < ((l.set j a1).flatMap enc).length := by rw [flat_len hm, List.length_set, ho]; omega
    simp only [Blk.wr1, hlt, if_true]
    rw [ho, Nat.add_assoc, flat_set hm hj2 hc h2, Hp.set_twice, List.set_set]
  refine VMem.store (cs := [.s x0, .s x1]) hTt rfl hl ?_ hK
  simp only [Hp.wrN, w1, w2]
end Go.Vm
namespace Go.Proofs.Ytdlnjnfkbneibaa
set_option maxRecDepth 20000
set_option maxHeartbeats 4000000

/-! ### A net of one's own -/
theorem vc_clonePO (l : List Pn) (h : Hp) (hl : l.length ≤ 4000000) : VC Try.prog 56 [pns l] h (.gl h.fresh 2 l.length) (h.push (.flat true (l.flatMap encPn))) := by
  refine VC.body Try.func56 rfl Try.ntmps56 Try.call56 (h.grows_push _) rfl ?_; conv => whnf
  repeat (first | ((first | refine zs1 ?_ | refine zs2 ?_ | refine zs3 ?_ | refine zs4 ?_ | refine zs5 ?_ | refine zs6 [] ?_); conv => whnf))
  refine VMem.appNil encPn_len rfl rfl rfl (by omega) ?_
  conv => whnf
  repeat (first | ((first | refine zs1 ?_ | refine zs2 ?_ | refine zs3 ?_ | refine zs4 ?_ | refine zs5 ?_ | refine zs6 [] ?_); conv => whnf))
  exact VOut.own1 0 1 rfl rfl
theorem vc_cloneSgO (l : List Sg) (h : Hp) (hl : l.length ≤ 4000000) : VC Try.prog 57 [sgs l] h (.gl h.fresh 6 l.length) (h.push (.flat true (l.flatMap encSg))) := by
  refine VC.body Try.func57 rfl Try.ntmps57 Try.call57 (h.grows_push _) rfl ?_; conv => whnf
  repeat (first | ((first | refine zs1 ?_ | refine zs2 ?_ | refine zs3 ?_ | refine zs4 ?_ | refine zs5 ?_ | refine zs6 [] ?_); conv => whnf))
  refine VMem.appNil encSg_len rfl rfl rfl (by omega) ?_
  conv => whnf
  repeat (first | ((first | refine zs1 ?_ | refine zs2 ?_ | refine zs3 ?_ | refine zs4 ?_ | refine zs5 ?_ | refine zs6 [] ?_); conv => whnf))
  exact VOut.own1 0 1 rfl rfl
theorem vc_CloneNetO (N : Nt) (h : Hp) (hn : N.ps.length ≤ 4000000) (hm : N.ss.length ≤ 4000000) : VC Try.prog 11 [vN N] h (.agg [.gl (.loc h.loc.length) 2 N.ps.length, .gl (.loc (h.loc.length + 1)) 6 N.ss.length]) (h.pushes [.flat true (N.ps.flatMap encPn), .flat true (N.ss.flatMap encSg)]) := by
  refine VC.body Try.func11 rfl Try.ntmps11 Try.call11 (Hp.grows_sets (h := h) (upd := []) (by intro p hp; cases hp)) rfl ?_; conv => whnf
  repeat' (first | ((first | refine zs1 ?_ | refine zs2 ?_ | refine zs3 ?_ | refine zs4 ?_ | refine zs5 ?_); conv => whnf) | ((first | apply zi1 | apply zi2 | apply zi3 | apply zi4 | apply zi5) <;> intro _ <;> conv => whnf))
  refine zs6 [(2, 4)] ?_
  conv => whnf
  repeat' (first | ((first | refine zs1 ?_ | refine zs2 ?_ | refine zs3 ?_ | refine zs4 ?_ | refine zs5 ?_); conv => whnf) | ((first | apply zi1 | apply zi2 | apply zi3 | apply zi4 | apply zi5) <;> intro _ <;> conv => whnf) | (refine VCall.intro (vc_clonePO N.ps _ hn) ?_; conv => whnf) | (refine VCall.intro (vc_cloneSgO N.ss _ hm) ?_; conv => whnf))
  exact VOut.ownN 2 3 4 rfl (by decide) rfl rfl
end Go.Proofs.Ytdlnjnfkbneibaa

open Go.Vm
open Clip (Bd BdSz Co Nt NtOk Pl Pn Rt Sg SgOk Sp allOf bS bS_len bnds bnds_len bnds_sq bnds_sz bsq chk chkG chk_ok crs dir_sz mvB mvB_pts mvL mvS mvS_len offB offL offS offS_bd offS_len okD okD_iff okP okP_iff pAt pAt_get pAt_ok pts regS sgE)
namespace Go.Proofs.Ytdlnjnfkbneibaa
set_option maxRecDepth 20000
set_option maxHeartbeats 4000000

theorem VOut.own2 {h : Hp} {loc : List Blk} {esz n : Nat} {ds : List D} {s : S} (j L : Nat) (hL : Nat.ble loc.length L = true) (hj : loc[j]? = some (.flat true ds)) : VOut h ⟨h.lift, loc⟩ (.tuple [.gl (.loc j) esz n, .s s]) (.tuple [.gl h.fresh esz n, .s s]) (h.push (.flat true ds)) := by
  refine VOut.upd [] [.flat true ds] [j] L hL (by intro p hp; cases hp) (by simp) rfl ?_ ?_ rfl
  · intro k b hk
    cases k with
    | zero => rw [List.getElem?_cons_zero, Option.some.injEq] at hk; subst hk; exact ⟨j, rfl, hj⟩
    | succ k => simp at hk
  · intro σ x hx
    have : (V.tuple [.gl h.fresh esz n, .s s]).ren (backR h.loc.length [j] L) = .tuple [.gl (.loc j) esz n, .s s] := by simp [V.ren, V.rens, backR, Hp.fresh]
    rw [this]; exact hx
theorem vc_offO (N : Nt) (p : Int) (h : Hp) (o : NtOk N) : VC Try.prog 66 [.fp (encDk N p)] h (.gl h.fresh 1 (offL N).length) (h.push (.flat true ((offL N).flatMap encI))) := by
  have hn := o.n
  have hm := o.m
  obtain ⟨O, hO⟩ : ∃ O, O = offL N := ⟨_, rfl⟩
  rw [← hO]
  refine VC.body Try.func66 rfl Try.ntmps66 Try.call66 (h.grows_push _) rfl ?_; conv => whnf
  repeat' (first | ((first | refine zs1 ?_ | refine zs2 ?_ | refine zs3 ?_ | refine zs4 ?_ | refine zs5 ?_ | refine zs6 [] ?_); conv => whnf) | ((first | apply zi1 | apply zi2 | apply zi3 | apply zi4 | apply zi5) <;> intro _ <;> conv => whnf))
  refine VCode.lp (fun y : Nat × List Int => [(0, .fp (encDk N p)), (3, .gl (.loc 0) 1 y.2.length), (10, sgs N.ss), (11, I N.ss.length), (12, I y.1)]) (fun y => [.flat true (y.2.flatMap encI)]) (fun y => y.1 ≤ N.ss.length ∧ y.2.length ≤ y.1 ∧ O = y.2 ++ offS N.ps y.1 (N.ss.drop y.1)) (fun y => N.ss.length - y.1) (0, []) ⟨Nat.zero_le _, Nat.le_refl _, hO⟩ ?_ ?_
  · conv => whnf
    refine Retell.turn ⟨[0], 0, [], []⟩ (TurnOk.mk' _ _ [] [] (OutOk.lift _) rfl (by decide) zb trivial trivial rfl) zv zm
  · rintro ⟨k, w⟩ ⟨h1, h2, h3⟩
    dsimp only at h1 h2 h3
    conv => whnf
    refine VIte.dec (fun h4 => ?_) (fun h4 => ?_)
    · have hk : N.ss[k]? = some N.ss[k] := List.getElem?_eq_getElem (by omega)
      have so := o.s N.ss[k] (List.getElem_mem (by omega))
      generalize N.ss[k] = s at hk so
      have sf := so.f
      have st := so.t
      have hf : N.ps[s.f.toNat]? = some (N.ps[s.f.toNat]'(by omega)) := List.getElem?_eq_getElem _
      have ht : N.ps[s.t.toNat]? = some (N.ps[s.t.toNat]'(by omega)) := List.getElem?_eq_getElem _
      have pf := pAt_ok o sf
      have pt := pAt_ok o st
      rw [pAt_get hf] at pf
      rw [pAt_get ht] at pt
      have hb := offB_eq (s := s) (pAt_get hf) (pAt_get ht)
      generalize N.ps[s.f.toNat]'(by omega) = a at hf pf hb
      generalize N.ps[s.t.toNat]'(by omega) = b at ht pt hb
      have cH := fun h => vc_holds s a b h so.r so.l pf pt
      rw [← hb] at cH
      rw [offS_at hk] at h3
      cases hB : offB N.ps s
      all_goals (
        rw [hB] at cH h3
        conv => whnf
        refine VAny.ix encSg_len k rfl rfl hk ?_
        conv => whnf
        repeat' (first | ((first | refine zs1 ?_ | refine zs2 ?_ | refine zs3 ?_ | refine zs4 ?_ | refine zs5 ?_ | refine zs6 [] ?_); conv => whnf) | ((first | apply zi1 | apply zi2 | apply zi3 | apply zi4 | apply zi5) <;> intro _ <;> conv => whnf) | (refine VAny.ix encPn_len s.f.toNat (by omega) rfl hf ?_; conv => whnf) | (refine VAny.ix encPn_len s.t.toNat (by omega) rfl ht ?_; conv => whnf) | (refine VCall.intro (cH _) ?_; conv => whnf)))
      all_goals try (rename_i hz; exact absurd rfl hz)
      · rw [if_neg (by decide)] at h3
        refine LEnd.intro (k + 1, w) ⟨by dsimp only; omega, by dsimp only; omega, h3⟩ (by dsimp only; omega) ?_
        conv => whnf
        refine Retell.turn ⟨[0], 2, [], []⟩ (TurnOk.mk' _ _ [] [] (OutOk.lift _) rfl (by decide) zb trivial trivial rfl) zv zm
      · rw [if_pos rfl] at h3
        refine VMem.app1 (l := w) (k : Int) encI_len rfl rfl rfl rfl rfl (by omega) ?_
        conv => whnf
        repeat' (first | ((first | refine zs1 ?_ | refine zs2 ?_ | refine zs3 ?_ | refine zs4 ?_ | refine zs5 ?_ | refine zs6 [] ?_); conv => whnf) | ((first | apply zi1 | apply zi2 | apply zi3 | apply zi4 | apply zi5) <;> intro _ <;> conv => whnf))
        refine LEnd.intro (k + 1, w ++ [(k : Int)]) ⟨by dsimp only; omega, by dsimp only; rw [List.length_append]; simp only [List.length_singleton]; omega, by dsimp only; rw [h3, List.append_assoc]; rfl⟩ (by dsimp only; omega) ?_
        conv => whnf
        rw [List.length_append]
        refine Retell.turn ⟨[3], 4, [], []⟩ (TurnOk.mk' _ _ [] [] (OutOk.lift _) rfl (by decide) zb trivial trivial rfl) zv zm
    · rw [List.drop_of_length_le (by dsimp only at h4; omega), offS, List.append_nil] at h3
      subst h3
      conv => whnf
      repeat' (first | ((first | refine zs1 ?_ | refine zs2 ?_ | refine zs3 ?_ | refine zs4 ?_ | refine zs5 ?_ | refine zs6 [] ?_); conv => whnf) | ((first | apply zi1 | apply zi2 | apply zi3 | apply zi4 | apply zi5) <;> intro _ <;> conv => whnf))
      exact VOut.own1 0 1 rfl rfl
theorem vc_boundsO (N : Nt) (p : Int) (h : Hp) (o : NtOk N) : VC Try.prog 69 [.fp (encDk N p)] h (.gl h.fresh 3 (bnds N p).length) (h.push (.flat true ((bnds N p).flatMap encBd))) := by
  have hn := o.n
  have hm := o.m
  obtain ⟨E, hE⟩ : ∃ E, E = N.ss.flatMap (bS N.ps p) ++ bsq := ⟨_, rfl⟩
  have hE' : bnds N p = E := hE.symm
  rw [hE']
  refine VC.body Try.func69 rfl Try.ntmps69 Try.call69 (h.grows_push _) rfl ?_; conv => whnf
  repeat' (first | ((first | refine zs1 ?_ | refine zs2 ?_ | refine zs3 ?_ | refine zs4 ?_ | refine zs5 ?_ | refine zs6 [] ?_); conv => whnf) | ((first | apply zi1 | apply zi2 | apply zi3 | apply zi4 | apply zi5) <;> intro _ <;> conv => whnf))
  refine VCode.lp (fun y : Nat × List Bd => [(0, .fp (encDk N p)), (3, .gl (.loc 0) 3 y.2.length), (4, .func (.func 74) [.fp (encDk N p)] []), (16, sgs N.ss), (17, I N.ss.length), (18, I y.1)]) (fun y => [.flat true (y.2.flatMap encBd)]) (fun y => y.1 ≤ N.ss.length ∧ y.2.length ≤ 2 * y.1 ∧ E = y.2 ++ ((N.ss.drop y.1).flatMap (bS N.ps p) ++ bsq)) (fun y => N.ss.length - y.1) (0, []) ⟨Nat.zero_le _, Nat.zero_le _, hE⟩ ?_ ?_
  · conv => whnf
    refine Retell.turn ⟨[0], 0, [], []⟩ (TurnOk.mk' _ _ [] [] (OutOk.lift _) rfl (by decide) zb trivial trivial rfl) zv zm
  · rintro ⟨k, w⟩ ⟨h1, h2, h3⟩
    dsimp only at h1 h2 h3
    conv => whnf
    refine VIte.dec (fun h4 => ?_) (fun h4 => ?_)
    · have hk : N.ss[k]? = some N.ss[k] := List.getElem?_eq_getElem (by omega)
      have so := o.s N.ss[k] (List.getElem_mem (by omega))
      generalize N.ss[k] = s at hk so
      have sf := so.f
      have st := so.t
      have sr := okD_iff.1 so.r
      have sl := okD_iff.1 so.l
      have hf : N.ps[s.f.toNat]? = some (N.ps[s.f.toNat]'(by omega)) := List.getElem?_eq_getElem _
      have ht : N.ps[s.t.toNat]? = some (N.ps[s.t.toNat]'(by omega)) := List.getElem?_eq_getElem _
      have pf := pAt_ok o sf
      have pt := pAt_ok o st
      rw [pAt_get hf] at pf
      rw [pAt_get ht] at pt
      have bt := fun hp => bS_t (ps := N.ps) (p := p) (s := s) (pAt_get hf) hp
      have bf := fun hn hp => bS_f (ps := N.ps) (p := p) (s := s) (pAt_get ht) hn hp
      have bn : s.t ≠ p → s.f ≠ p → bS N.ps p s = [] := fun h1 h2 => by unfold bS; rw [if_neg h1, if_neg h2]
      generalize N.ps[s.f.toNat]'(by omega) = a at hf pf bt
      generalize N.ps[s.t.toNat]'(by omega) = b at ht pt bf
      have z1 := dir_sz so.r pf
      have z2 := dir_sz so.l pf
      have z3 := dir_sz so.r pt
      have z4 := dir_sz so.l pt
      have zz1 := z1.2.2
      have zz2 := z2.2.2
      have zz3 := z3.2.2
      have zz4 := z4.2.2
      clear z1 z2 z3 z4
      rw [bS_at hk] at h3
      generalize bS N.ps p s = X at bt bf bn h3
      have cO := fun h => vc_of N p s h
      have c1 := fun h => vc_tback s.r.y (0 - s.r.x) h (by omega) (by omega)
      have c2 := fun h => vc_tback (0 - s.l.y) s.l.x h (by omega) (by omega)
      have nn : ∀ x : Int, 0 - (0 - x) = x := fun x => by omega
      rw [nn] at c1 c2
      clear nn
      simp only [← Int.zero_sub] at zz1 zz2 zz3 zz4
      have hne := so.ne
      conv => whnf
      refine VAny.ix encSg_len k rfl rfl hk ?_
      conv => whnf
      repeat (first | ((first | refine zs1 ?_ | refine zs2 ?_ | refine zs3 ?_ | refine zs4 ?_ | refine zs5 ?_ | refine zs6 [] ?_); conv => whnf))
      refine VCall.intro (cO _) ?_
      conv => whnf
      repeat' (first | ((first | refine zs1 ?_ | refine zs2 ?_ | refine zs3 ?_ | refine zs4 ?_ | refine zs5 ?_); conv => whnf) | ((first | apply zi1 | apply zi2 | apply zi3 | apply zi4 | apply zi5) <;> intro _ <;> conv => whnf))
      · rename_i hz
        have hX := bn (by omega) (by omega)
        subst hX
        refine LEnd.intro (k + 1, w) ⟨by dsimp only at h4 ⊢; omega, by dsimp only; omega, h3⟩ (by dsimp only at h4 ⊢; omega) ?_
        conv => whnf
        refine Retell.turn ⟨[0], 2, [], []⟩ (TurnOk.mk' _ _ [] [] (OutOk.lift _) rfl (by decide) zb trivial trivial rfl) zv zm
      · rename_i hz
        refine zs6 [(10, 18), (14, 18)] ?_
        conv => whnf
        repeat' (first | ((first | refine zs1 ?_ | refine zs2 ?_ | refine zs3 ?_ | refine zs4 ?_ | refine zs5 ?_); conv => whnf) | ((first | apply zi1 | apply zi2 | apply zi3 | apply zi4 | apply zi5) <;> intro _ <;> conv => whnf))
        refine zs6 [] ?_
        conv => whnf
        repeat' (first | ((first | refine zs1 ?_ | refine zs2 ?_ | refine zs3 ?_ | refine zs4 ?_ | refine zs5 ?_); conv => whnf) | ((first | apply zi1 | apply zi2 | apply zi3 | apply zi4 | apply zi5) <;> intro _ <;> conv => whnf) | (refine VAny.ix encPn_len s.f.toNat (by omega) rfl hf ?_; conv => whnf))
        refine zs6 [] ?_
        conv => whnf
        repeat' (first | ((first | refine zs1 ?_ | refine zs2 ?_ | refine zs3 ?_ | refine zs4 ?_ | refine zs5 ?_); conv => whnf) | ((first | apply zi1 | apply zi2 | apply zi3 | apply zi4 | apply zi5) <;> intro _ <;> conv => whnf))
        · rename_i hq
          have hX := bf (by omega) hq
          subst hX
          refine zs6 [(1, 2), (1, 8), (3, 8), (1, 10), (3, 10), (1, 12), (3, 12), (8, 13), (10, 13), (12, 13), (8, 14), (10, 14), (12, 14)] ?_
          conv => whnf
          repeat' (first | ((first | refine zs1 ?_ | refine zs2 ?_ | refine zs3 ?_ | refine zs4 ?_ | refine zs5 ?_); conv => whnf) | ((first | apply zi1 | apply zi2 | apply zi3 | apply zi4 | apply zi5) <;> intro _ <;> conv => whnf) | (refine VCall.intro (c1 _) ?_; conv => whnf) | (refine VCall.intro (c2 _) ?_; conv => whnf) | (refine VAny.ix encPn_len s.t.toNat (by omega) rfl ht ?_; conv => whnf))
          refine zs6 [(12, 23), (14, 23), (17, 23), (19, 23)] ?_
          conv => whnf
          repeat' (first | ((first | refine zs1 ?_ | refine zs2 ?_ | refine zs3 ?_ | refine zs4 ?_ | refine zs5 ?_); conv => whnf) | ((first | apply zi1 | apply zi2 | apply zi3 | apply zi4 | apply zi5) <;> intro _ <;> conv => whnf))
          refine VMem.appG (l := w) [⟨0 - s.r.y, s.r.x, (0 - s.r.y) * b.x + s.r.x * b.y⟩, ⟨s.l.y, 0 - s.l.x, s.l.y * b.x + (0 - s.l.x) * b.y⟩] encBd_len rfl rfl rfl rfl rfl rfl (by simp only [List.length_cons, List.length_nil]; omega) ?_
          conv => whnf
          repeat' (first | ((first | refine zs1 ?_ | refine zs2 ?_ | refine zs3 ?_ | refine zs4 ?_ | refine zs5 ?_); conv => whnf) | ((first | apply zi1 | apply zi2 | apply zi3 | apply zi4 | apply zi5) <;> intro _ <;> conv => whnf))
          rw [← List.append_assoc, ← List.append_assoc] at h3
          refine LEnd.intro (k + 1, w ++ [⟨0 - s.r.y, s.r.x, (0 - s.r.y) * b.x + s.r.x * b.y⟩, ⟨s.l.y, 0 - s.l.x, s.l.y * b.x + (0 - s.l.x) * b.y⟩]) ⟨by dsimp only at h4 ⊢; omega, by dsimp only; rw [List.length_append]; simp only [List.length_cons, List.length_nil]; omega, by dsimp only; rw [h3, List.append_assoc]⟩ (by dsimp only at h4 ⊢; omega) ?_
          conv => whnf
          rw [List.length_append]
          refine Retell.turn ⟨[6], 7, [], []⟩ (TurnOk.mk' _ _ [] [] (OutOk.lift _) rfl (by decide) zb trivial trivial rfl) zv zm
        · rename_i hq
          have hX := bt (by omega)
          subst hX
          refine zs6 [(12, 23), (14, 23), (17, 23), (19, 23)] ?_
          conv => whnf
          repeat' (first | ((first | refine zs1 ?_ | refine zs2 ?_ | refine zs3 ?_ | refine zs4 ?_ | refine zs5 ?_); conv => whnf) | ((first | apply zi1 | apply zi2 | apply zi3 | apply zi4 | apply zi5) <;> intro _ <;> conv => whnf))
          refine VMem.appG (l := w) [⟨s.r.y, 0 - s.r.x, s.r.y * a.x + (0 - s.r.x) * a.y⟩, ⟨0 - s.l.y, s.l.x, (0 - s.l.y) * a.x + s.l.x * a.y⟩] encBd_len rfl rfl rfl rfl rfl rfl (by simp only [List.length_cons, List.length_nil]; omega) ?_
          conv => whnf
          repeat' (first | ((first | refine zs1 ?_ | refine zs2 ?_ | refine zs3 ?_ | refine zs4 ?_ | refine zs5 ?_); conv => whnf) | ((first | apply zi1 | apply zi2 | apply zi3 | apply zi4 | apply zi5) <;> intro _ <;> conv => whnf))
          rw [← List.append_assoc, ← List.append_assoc] at h3
          refine LEnd.intro (k + 1, w ++ [⟨s.r.y, 0 - s.r.x, s.r.y * a.x + (0 - s.r.x) * a.y⟩, ⟨0 - s.l.y, s.l.x, (0 - s.l.y) * a.x + s.l.x * a.y⟩]) ⟨by dsimp only at h4 ⊢; omega, by dsimp only; rw [List.length_append]; simp only [List.length_cons, List.length_nil]; omega, by dsimp only; rw [h3, List.append_assoc]⟩ (by dsimp only at h4 ⊢; omega) ?_
          conv => whnf
          rw [List.length_append]
          refine Retell.turn ⟨[6], 7, [], []⟩ (TurnOk.mk' _ _ [] [] (OutOk.lift _) rfl (by decide) zb trivial trivial rfl) zv zm
    · rw [List.drop_of_length_le (by dsimp only at h4; omega), List.flatMap_nil, List.nil_append] at h3
      conv => whnf
      repeat' (first | ((first | refine zs1 ?_ | refine zs2 ?_ | refine zs3 ?_ | refine zs4 ?_ | refine zs5 ?_ | refine zs6 [] ?_); conv => whnf) | ((first | apply zi1 | apply zi2 | apply zi3 | apply zi4 | apply zi5) <;> intro _ <;> conv => whnf))
      refine VMem.appG (l := w) bsq encBd_len rfl rfl rfl rfl rfl rfl (by simp only [bsq, List.length_cons, List.length_nil]; omega) ?_
      rw [show (k, w).snd.length + 4 = (w ++ bsq).length by rw [List.length_append]; rfl, ← h3]
      conv => whnf
      repeat' (first | ((first | refine zs1 ?_ | refine zs2 ?_ | refine zs3 ?_ | refine zs4 ?_ | refine zs5 ?_ | refine zs6 [] ?_); conv => whnf) | ((first | apply zi1 | apply zi2 | apply zi3 | apply zi4 | apply zi5) <;> intro _ <;> conv => whnf))
      exact VOut.own1 2 3 rfl rfl
theorem vc_MoversO (N : Nt) (h : Hp) (o : NtOk N) (h0 : offL N ≠ []) : VC Try.prog 20 [vN N] h (.tuple [.gl h.fresh 1 (mvL N).length, I 0]) (h.push (.flat true ((mvL N).flatMap encI))) := by
  have hn := o.n
  have hm := o.m
  have c := fun h => vc_Off_ok N h o
  have hA := fun p h => vc_allI2 (offL N) (ofB N p) 73 [.pt (encDk N p)] (encN N) (by have := offL_len N; omega) (fun i hi h => vc_Mv1 N p i h (offL_bd hi)) h
  have hA2 : ∀ p, (offL N).all (ofB N p) = allOf N p := fun p => rfl
  simp only [hA2] at hA
  obtain ⟨M, hM⟩ : ∃ M, M = mvL N := ⟨_, rfl⟩
  rw [← hM]
  have hM : M = [] ++ mvS N (0 : Nat) (N.ps.length - 0) := hM
  have hO : 0 < (offL N).length := List.length_pos_iff.2 h0
  generalize offL N = O at *
  refine VC.body Try.func20 rfl Try.ntmps20 Try.call20 (h.grows_push _) rfl ?_; conv => whnf
  repeat' (first | ((first | refine zs1 ?_ | refine zs2 ?_ | refine zs3 ?_ | refine zs4 ?_ | refine zs5 ?_ | refine zs6 [] ?_); conv => whnf) | ((first | apply zi1 | apply zi2 | apply zi3 | apply zi4 | apply zi5) <;> intro _ <;> conv => whnf) | (refine VCall.intro (c _) ?_; conv => whnf))
  · exfalso; omega
  refine VCode.lp (fun y : Nat × List Int => [(1, .fp (encN N)), (2, .nilslice), (3, I 0), (4, ints O), (6, .gl (.loc 0) 1 y.2.length), (24, I N.ps.length), (25, I y.1)]) (fun y => [.flat true (y.2.flatMap encI)]) (fun y => y.1 ≤ N.ps.length ∧ y.2.length ≤ y.1 ∧ M = y.2 ++ mvS N y.1 (N.ps.length - y.1)) (fun y => N.ps.length - y.1) (0, []) ⟨Nat.zero_le _, Nat.zero_le _, hM⟩ ?_ ?_
  · conv => whnf
    refine Retell.turn ⟨[1], 1, [(0, encN N)], []⟩ (TurnOk.mk' _ _ [(0, encN N)] [] (OutOk.lift _) rfl (by decide) zb zf trivial rfl) zv zm
  · clear hM
    rintro ⟨k, w⟩ ⟨h1, h2, h3⟩
    dsimp only at h1 h2 h3
    conv => whnf
    refine VIte.dec (fun h5 => ?_) (fun h5 => ?_)
    · dsimp only at h5
      rw [mvS_at (by omega)] at h3
      have cB := fun h => vc_bounds N k h o
      have cR := fun h => vc_region (bnds N k) h (by have := bnds_len o k; omega) (bnds_sz o k)
      have cA := hA k
      have eB : mvB N k = (allOf N k && !decide (regS (bnds N k) = [])) := rfl
      rw [eB] at h3
      generalize bnds N k = bs at *
      generalize regS bs = S at *
      generalize allOf N k = A at *
      conv => whnf
      repeat' (first | ((first | refine zs1 ?_ | refine zs2 ?_ | refine zs3 ?_ | refine zs4 ?_ | refine zs5 ?_); conv => whnf) | ((first | apply zi1 | apply zi2 | apply zi3 | apply zi4 | apply zi5) <;> intro _ <;> conv => whnf))
      refine VCall.intro (VC.lend1 [dints O, .func (.func 73) [] [.pt [.pt (encDk N k)], .pt (encN N)]] [(1, encDk N k), (2, [.pt (encDk N k)])] [] zr trivial zv (cA Hp.bare)) ?_
      cases A with
      | false =>
        rw [Bool.false_and, if_neg (by decide)] at h3
        conv => whnf
        repeat' (first | ((first | refine zs1 ?_ | refine zs2 ?_ | refine zs3 ?_ | refine zs4 ?_ | refine zs5 ?_); conv => whnf) | ((first | apply zi1 | apply zi2 | apply zi3 | apply zi4 | apply zi5) <;> intro _ <;> conv => whnf))
        refine LEnd.intro (k + 1, w) ⟨by dsimp only; omega, by dsimp only; omega, h3⟩ (by dsimp only; omega) ?_
        conv => whnf
        refine Retell.turn ⟨[0], 3, [], []⟩ (TurnOk.mk' _ _ [] [] (OutOk.lift _) rfl (by decide) zb trivial trivial rfl) zv zm
      | true =>
        rw [Bool.true_and] at h3
        conv => whnf
        repeat' (first | ((first | refine zs1 ?_ | refine zs2 ?_ | refine zs3 ?_ | refine zs4 ?_ | refine zs5 ?_); conv => whnf) | ((first | apply zi1 | apply zi2 | apply zi3 | apply zi4 | apply zi5) <;> intro _ <;> conv => whnf))
        refine VCall.intro (VC.give (args' := [.fp (encDk N k)]) (loc' := [.flat true (w.flatMap encI), .dead, .dead]) [(1, encDk N k)] [] (OutOk.lift _) zb zf (by exact FmAll.nil) rfl zv (cB _)) ?_
        conv => whnf
        repeat' (first | ((first | refine zs1 ?_ | refine zs2 ?_ | refine zs3 ?_ | refine zs4 ?_ | refine zs5 ?_); conv => whnf) | ((first | apply zi1 | apply zi2 | apply zi3 | apply zi4 | apply zi5) <;> intro _ <;> conv => whnf) | (refine VCall.intro (cR _) ?_; conv => whnf))
        · rename_i hS
          have hS2 : ¬ S = [] := fun e => by subst e; dsimp only [List.length_nil] at hS; omega
          rw [decide_eq_false hS2, Bool.not_false, if_pos rfl] at h3
          refine VMem.app1 (l := w) (k : Int) encI_len rfl rfl rfl rfl rfl (by omega) ?_
          conv => whnf
          repeat' (first | ((first | refine zs1 ?_ | refine zs2 ?_ | refine zs3 ?_ | refine zs4 ?_ | refine zs5 ?_); conv => whnf) | ((first | apply zi1 | apply zi2 | apply zi3 | apply zi4 | apply zi5) <;> intro _ <;> conv => whnf))
          refine LEnd.intro (k + 1, w ++ [(k : Int)]) ⟨by dsimp only; omega, by dsimp only; rw [List.length_append]; simp only [List.length_singleton]; omega, by dsimp only; rw [h3, List.append_assoc]; rfl⟩ (by dsimp only; omega) ?_
          conv => whnf
          rw [List.length_append]
          refine Retell.turn ⟨[4], 5, [], []⟩ (TurnOk.mk' _ _ [] [] (OutOk.lift _) rfl (by decide) zb trivial trivial rfl) zv zm
        · rename_i hS
          have hS2 : S = [] := List.length_eq_zero_iff.1 (by omega)
          rw [decide_eq_true hS2, Bool.not_true, if_neg (by decide)] at h3
          refine LEnd.intro (k + 1, w) ⟨by dsimp only; omega, by dsimp only; omega, h3⟩ (by dsimp only; omega) ?_
          conv => whnf
          refine Retell.turn ⟨[0], 3, [], []⟩ (TurnOk.mk' _ _ [] [] (OutOk.lift _) rfl (by decide) zb trivial trivial rfl) zv zm
    · have : k = N.ps.length := by dsimp only at h5; omega
      subst this
      rw [Nat.sub_self, mvS, List.append_nil] at h3
      subst h3
      conv => whnf
      repeat' (first | ((first | refine zs1 ?_ | refine zs2 ?_ | refine zs3 ?_ | refine zs4 ?_ | refine zs5 ?_); conv => whnf) | ((first | apply zi1 | apply zi2 | apply zi3 | apply zi4 | apply zi5) <;> intro _ <;> conv => whnf))
      exact VOut.own2 0 1 rfl rfl
theorem vc_OffO (N : Nt) (h : Hp) (o : NtOk N) : VC Try.prog 15 [vN N] h (.tuple [.gl h.fresh 1 (offL N).length, I 0]) (h.push (.flat true ((offL N).flatMap encI))) := by
  have hn := o.n
  have hm := o.m
  have c := fun h => vc_check N h (by omega) (by omega)
  rw [chk_ok.2 o] at c
  have c2 := fun h => vc_offO N 0 h o
  generalize offL N = O at c2
  refine VC.body Try.func15 rfl Try.ntmps15 Try.call15 (h.grows_push _) rfl ?_; conv => whnf
  repeat' (first | ((first | refine zs1 ?_ | refine zs2 ?_ | refine zs3 ?_ | refine zs4 ?_ | refine zs5 ?_ | refine zs6 [] ?_); conv => whnf) | ((first | apply zi1 | apply zi2 | apply zi3 | apply zi4 | apply zi5) <;> intro _ <;> conv => whnf) | (refine VCall.intro (c _) ?_; conv => whnf))
  · refine VCall.intro (VC.give (args' := [.fp (encDk N 0)]) (loc' := [.flat true (encN N), .dead]) [(1, encDk N 0)] [] (OutOk.lift _) zb zf (by exact FmAll.nil) rfl zv (c2 _)) ?_
    conv => whnf
    repeat (first | ((first | refine zs1 ?_ | refine zs2 ?_ | refine zs3 ?_ | refine zs4 ?_ | refine zs5 ?_ | refine zs6 [] ?_); conv => whnf))
    exact VOut.own2 2 3 rfl rfl
theorem vc_BoundsO (N : Nt) (p : Int) (h : Hp) (h0 : brE N p = 0) : VC Try.prog 18 [vN N, I p] h (.tuple [.gl h.fresh 3 (bnds N p).length, I 0]) (h.push (.flat true ((bnds N p).flatMap encBd))) := by
  have o := (brE_ok.1 h0).1
  have hn := o.n
  have hm := o.m
  have c := fun h => vc_begun N p h (by omega) (by omega)
  rw [h0] at c
  have c2 := fun h => vc_boundsO N p h o
  generalize bnds N p = O at c2
  refine VC.body Try.func18 rfl Try.ntmps18 Try.call18 (h.grows_push _) rfl ?_; conv => whnf
  repeat' (first | ((first | refine zs1 ?_ | refine zs2 ?_ | refine zs3 ?_ | refine zs4 ?_ | refine zs5 ?_ | refine zs6 [] ?_); conv => whnf) | ((first | apply zi1 | apply zi2 | apply zi3 | apply zi4 | apply zi5) <;> intro _ <;> conv => whnf) | (refine VCall.intro (c _) ?_; conv => whnf) | (refine VCall.intro (c2 _) ?_; conv => whnf))
  · exact VOut.own2 1 2 rfl rfl
end Go.Proofs.Ytdlnjnfkbneibaa

open Go.Vm
open Clip (Pn Sg Nt Bd Sp Rt NtOk SgOk offB offL offS bS bnds bnds_sq bnds_sz regS allOf mvB mvL mvS pAt pAt_ok pAt_get okP okP_iff atP Feas chk_ok crs)
namespace Go.Proofs.Ytdlnjnfkbneibaa
set_option maxRecDepth 20000
set_option maxHeartbeats 4000000

/-! ### Where a number lies in a list -/
theorem vc_ContI (l : List Int) (n : Int) (h : Hp) (hl : l.length ≤ 4000000) : VC Try.prog 36 [ints l, I n] h (B (decide (n ∈ l))) h := by
  have hI : ∀ h : Hp, VC Try.prog 87 [ints l, I n] h (I (fidx (fun x => decide (n = x)) l 0)) h := fun h => by
    obtain ⟨E, hE⟩ : ∃ E, E = fidx (fun x => decide (n = x)) l 0 := ⟨_, rfl⟩
    rw [← hE]
    refine VC.body Try.func87 rfl Try.ntmps87 Try.call87 (h.grows_refl) rfl ?_; conv => whnf
    refine VCode.lp (fun k : Nat => [(0, ints l), (1, I n), (7, I l.length), (8, I k)]) (fun _ => []) (fun k => k ≤ l.length ∧ E = fidx (fun x => decide (n = x)) (l.drop k) k) (fun k => l.length - k) 0 ⟨Nat.zero_le _, hE⟩ ?_ ?_
    · conv => whnf
      refine Retell.turn ⟨[], 0, [], []⟩ (TurnOk.mk' _ _ [] [] (OutOk.lift _) rfl (by decide) zb trivial trivial rfl) zv zm
    · rintro k ⟨h1, h2⟩
      conv => whnf
      refine VIte.dec (fun h3 => ?_) (fun h3 => ?_)
      · have ha : l[k]? = some l[k] := List.getElem?_eq_getElem (by omega)
        generalize l[k] = a at ha
        rw [fidx_at ha] at h2
        conv => whnf
        repeat' (first | ((first | refine zs1 ?_ | refine zs2 ?_ | refine zs3 ?_ | refine zs4 ?_ | refine zs5 ?_ | refine zs6 [] ?_); conv => whnf) | ((first | apply zi1 | apply zi2 | apply zi3 | apply zi4 | apply zi5) <;> intro _ <;> conv => whnf) | (refine VAny.ix encI_len k (by omega) rfl ha ?_; conv => whnf))
        · rename_i hq
          rw [decide_eq_true hq, cond_true] at h2
          rw [h2]
          exact VOut.same rfl
        · rename_i hq
          rw [decide_eq_false hq, cond_false] at h2
          refine LEnd.intro (k + 1) ⟨by omega, h2⟩ (by omega) ?_
          conv => whnf
          refine Retell.turn ⟨[], 0, [], []⟩ (TurnOk.mk' _ _ [] [] (OutOk.lift _) rfl (by decide) zb trivial trivial rfl) zv zm
      · rw [List.drop_of_length_le (by omega), fidx] at h2
        rw [h2]
        conv => whnf
        repeat (first | ((first | refine zs1 ?_ | refine zs2 ?_ | refine zs3 ?_ | refine zs4 ?_ | refine zs5 ?_ | refine zs6 [] ?_); conv => whnf))
        exact VOut.same rfl
  have e := fidx_nn (q := fun x => decide (n = x)) l 0 (Int.le_refl _)
  have e2 : (l.any fun x => decide (n = x)) = decide (n ∈ l) := by
    rw [Bool.eq_iff_iff, decide_eq_true_eq, List.any_eq_true]
    simp
  rw [e2, decide_eq_true_eq] at e
  generalize fidx (fun x => decide (n = x)) l 0 = E at e hI
  refine VC.body Try.func36 rfl Try.ntmps36 Try.call36 (h.grows_refl) rfl ?_; conv => whnf
  repeat' (first | ((first | refine zs1 ?_ | refine zs2 ?_ | refine zs3 ?_ | refine zs4 ?_ | refine zs5 ?_ | refine zs6 [] ?_); conv => whnf) | ((first | apply zi1 | apply zi2 | apply zi3 | apply zi4 | apply zi5) <;> intro _ <;> conv => whnf) | (refine VCall.intro (hI _) ?_; conv => whnf))
  refine VOut.dec ?_
  rw [decide_eq_true_eq]
  exact e
/-! ### A pillar that moved -/
def tdN (N : Nt) (p : Int) (x : Pn) : Nt := ⟨N.ps.set p.toNat x, N.ss⟩
theorem pAt_set {ps : List Pn} {p i : Int} {x : Pn} (hp : 0 ≤ p) (hi : 0 ≤ i) (h : i ≠ p) : pAt (ps.set p.toNat x) i = pAt ps i := by
  unfold pAt
  rw [List.getD_eq_getElem?_getD, List.getD_eq_getElem?_getD, List.getElem?_set_ne (by omega)]
theorem tdN_ok {N : Nt} (o : NtOk N) {p : Int} {x : Pn} (hx : okP x = true) : NtOk (tdN N p x) := by
  refine ⟨?_, o.m, fun q hq => ?_, fun s hs => ?_⟩
  · show 1 ≤ (N.ps.set p.toNat x).length ∧ (N.ps.set p.toNat x).length ≤ 10
    rw [List.length_set]; exact o.n
  · rcases List.mem_or_eq_of_mem_set hq with h | h
    · exact o.p q h
    · rw [h]; exact hx
  · show SgOk (N.ps.set p.toNat x).length s
    rw [List.length_set]; exact o.s s hs
theorem td_off {N : Nt} (o : NtOk N) {p : Int} (hp : 0 ≤ p) {x : Pn} {s : Sg} (hs : s ∈ N.ss) (h1 : s.f ≠ p) (h2 : s.t ≠ p) : offB (tdN N p x).ps s = offB N.ps s := by
  have so := o.s s hs
  have sf := so.f
  have st := so.t
  unfold offB tdN
  rw [pAt_set hp (by omega) h1, pAt_set hp (by omega) h2]
theorem td_bnds {N : Nt} (o : NtOk N) {p : Int} (hp : 0 ≤ p) {x : Pn} : bnds (tdN N p x) p = bnds N p := by
  unfold bnds
  congr 1
  show N.ss.flatMap (bS (N.ps.set p.toNat x) p) = N.ss.flatMap (bS N.ps p)
  have key : ∀ l : List Sg, (∀ s ∈ l, s ∈ N.ss) → l.flatMap (bS (N.ps.set p.toNat x) p) = l.flatMap (bS N.ps p) := by
    intro l
    induction l with
    | nil => intro _; rfl
    | cons s r ih =>
      intro hl
      rw [List.flatMap_cons, List.flatMap_cons, ih fun q hq => hl q (List.mem_cons_of_mem _ hq)]
      congr 1
      have so := o.s s (hl s (by simp))
      have sf := so.f
      have st := so.t
      have ne := so.ne
      unfold bS
      by_cases h1 : s.t = p
      · rw [if_pos h1, if_pos h1, pAt_set hp (by omega) (by omega)]
      · rw [if_neg h1, if_neg h1]
        by_cases h2 : s.f = p
        · rw [if_pos h2, if_pos h2, pAt_set hp (by omega) (by omega)]
        · rw [if_neg h2, if_neg h2]
  exact key _ fun _ h => h
theorem offS_mem {ps : List Pn} : ∀ {l : List Sg} {k i : Int}, i ∈ offS ps k l → ∃ s, l[(i - k).toNat]? = some s ∧ offB ps s = true ∧ k ≤ i
  | [], k, i, h => by cases h
  | s :: r, k, i, h => by
    rw [offS] at h
    have rest : i ∈ offS ps (k + 1) r → ∃ q, (s :: r)[(i - k).toNat]? = some q ∧ offB ps q = true ∧ k ≤ i := fun h => by
      obtain ⟨q, h1, h2, h3⟩ := offS_mem h
      refine ⟨q, ?_, h2, by omega⟩
      have e : (i - k).toNat = (i - (k + 1)).toNat + 1 := by omega
      rw [e, List.getElem?_cons_succ]; exact h1
    split at h
    · rename_i hb
      rcases List.mem_cons.1 h with rfl | h
      · exact ⟨s, by rw [Int.sub_self]; rfl, hb, Int.le_refl _⟩
      · exact rest h
    · exact rest h
theorem offL_mem {N : Nt} {i : Int} (h : i ∈ offL N) : ∃ s, N.ss[i.toNat]? = some s ∧ offB N.ps s = true := by
  obtain ⟨s, h1, h2, h3⟩ := offS_mem h
  rw [Int.sub_zero] at h1
  exact ⟨s, h1, h2⟩
theorem mvS_mem {N : Nt} {x : Int} : ∀ {n : Nat} {p : Int}, x ∈ mvS N p n ↔ (p ≤ x ∧ x < p + n) ∧ mvB N x = true
  | 0, p => by
    rw [mvS]
    constructor
    · intro h; cases h
    · intro h; omega
  | n + 1, p => by
    rw [mvS]
    have ih := mvS_mem (N := N) (x := x) (n := n) (p := p + 1)
    by_cases hb : mvB N p = true
    · rw [if_pos hb, List.mem_cons, ih]
      constructor
      · rintro (rfl | ⟨h1, h2⟩)
        · exact ⟨by omega, hb⟩
        · exact ⟨by omega, h2⟩
      · rintro ⟨h1, h2⟩
        by_cases e : x = p
        · exact .inl e
        · exact .inr ⟨by omega, h2⟩
    · rw [if_neg hb, ih]
      constructor
      · rintro ⟨h1, h2⟩; exact ⟨by omega, h2⟩
      · rintro ⟨h1, h2⟩
        have e : x ≠ p := fun e => hb (by rw [← e]; exact h2)
        exact ⟨by omega, h2⟩
theorem td_mover {N : Nt} (o : NtOk N) (hon : ∀ s ∈ N.ss, offB N.ps s = false) {p : Int} (hp : 0 ≤ p ∧ p < N.ps.length) {x : Pn} : p ∈ mvL (tdN N p x) := by
  have hb : mvB (tdN N p x) p = true := by
    unfold mvB
    rw [Bool.and_eq_true]
    constructor
    · rw [allOf_eq, List.all_eq_true]
      intro i hi
      obtain ⟨s, h1, h2⟩ := offL_mem hi
      rw [ofB_at h1, decide_eq_true_eq]
      refine Classical.byContradiction fun hn => ?_
      have hs : s ∈ N.ss := List.mem_of_getElem? h1
      rw [td_off o hp.1 hs (fun e => hn (.inl e)) (fun e => hn (.inr e)), hon s hs] at h2
      cases h2
    · rw [td_bnds o hp.1]
      have := Clip.regS_ne_of (bnds_sq N p) (bnds_sz o p) (own_feas o hp fun s hs _ => hon s hs)
      simp [this]
  unfold mvL
  refine mvS_mem.2 ⟨?_, hb⟩
  show 0 ≤ p ∧ p < 0 + ((N.ps.set p.toNat x).length : Int)
  rw [List.length_set]; omega
theorem mvL_all {N : Nt} {q i : Int} (hq : q ∈ mvL N) (hi : i ∈ offL N) : ofB N q i = true := by
  unfold mvL at hq
  have := (mvS_mem.1 hq).2
  unfold mvB at this
  rw [Bool.and_eq_true] at this
  have h := this.1
  rw [allOf_eq, List.all_eq_true] at h
  exact h i hi
theorem flatI (l : List Int) : l.flatMap encI = (l.map fun n => S.int .i64 n).map D.s := by
  induction l with
  | nil => rfl
  | cons a l ih => rw [List.flatMap_cons, ih]; rfl
theorem flatB (l : List Bd) : l.flatMap encBd = (l.flatMap fun b => [S.int .i64 b.A, S.int .i64 b.B, S.int .i64 b.C]).map D.s := by
  induction l with
  | nil => rfl
  | cons a l ih => rw [List.flatMap_cons, ih, List.flatMap_cons, List.map_append]; rfl
end Go.Proofs.Ytdlnjnfkbneibaa

open Go.Vm
open Clip (Pn Sg Nt Bd Sp Rt NtOk SgOk BdSz offB offL bnds bnds_sz bnds_len mvL pAt pAt_ok pAt_get okP okP_iff atP at_feas Feas chk_ok)
namespace Go.Proofs.Ytdlnjnfkbneibaa
set_option maxRecDepth 20000
set_option maxHeartbeats 4000000

def dNt (N : Nt) : D := .agg (encN N)
theorem vc_SightMoved (ns : List Int) (w : Int) (hw : 0 ≤ w ∧ w ≤ 255) (X : Int) (hX : 0 ≤ X ∧ X ≤ 65535) (Y : Int) (hY : 0 ≤ Y ∧ Y ≤ 65535) (h : Hp) : VC Try.prog 5 [bytes ns, .s (.int .u8 w), .s (.int .u16 X), .s (.int .u16 Y)] h (B true) h := by
  have cM := fun (i : Vm.Id) (h : Hp) hd => vc_Made ns (0, 9) 8 16 i h (by decide) (by decide) (by decide) hd
  have mo := (mdN_ok ns (0, 9) (p := 8) (s := 16) (by decide) (by decide)).1
  generalize (mdS ns (0, 9) 8 16).1 = D1 at *
  generalize mdN ns (0, 9) 8 16 = N at *
  obtain ⟨o, hn2, hm2, hon⟩ := mo
  have hn := o.n
  have hm := o.m
  have hneB : ((N.ps.length : Int) != 0) = true := by rw [bne_iff_ne]; omega
  have hp := tmod_pos (w := w) (n := N.ps.length) hw.1 (by omega)
  generalize hpw : w.tmod (N.ps.length : Int) = p at hp
  have hat : N.ps[p.toNat]? = some (N.ps[p.toNat]'(by omega)) := List.getElem?_eq_getElem _
  have pa := pAt_ok o hp
  have hf := own_feas o hp fun s hs _ => hon s hs
  rw [pAt_get hat] at pa hf
  generalize N.ps[p.toNat]'(by omega) = a at hat pa hf
  have x1 : 0 ≤ X.tmod 1001 ∧ X.tmod 1001 ≤ 1000 := by rw [Int.tmod_eq_emod_of_nonneg hX.1]; omega
  have y1 : 0 ≤ Y.tmod 1001 ∧ Y.tmod 1001 ≤ 1000 := by rw [Int.tmod_eq_emod_of_nonneg hY.1]; omega
  generalize hXx : X.tmod 1001 = x at x1
  generalize hYy : Y.tmod 1001 = y at y1
  have hxy : okP ⟨x, y⟩ = true := okP_iff.2 ⟨x1, y1⟩
  obtain ⟨T, hT⟩ : ∃ T, T = tdN N p ⟨x, y⟩ := ⟨_, rfl⟩
  have oT : NtOk T := by rw [hT]; exact tdN_ok o hxy
  have hTs : T.ss = N.ss := by rw [hT]; rfl
  have hTp : T.ps = N.ps.set p.toNat ⟨x, y⟩ := by rw [hT]; rfl
  have hTl : T.ps.length = N.ps.length := by rw [hTp, List.length_set]
  have hTat : T.ps[p.toNat]? = some ⟨x, y⟩ := by rw [hTp, List.getElem?_set_self (by omega)]
  have hTset : T.ps.set p.toNat a = N.ps := by
    rw [hTp, List.set_set]
    obtain ⟨h1, h2⟩ := List.getElem?_eq_some_iff.1 hat
    rw [← h2, List.set_getElem_self]
  have hmem : p ∈ mvL T := by rw [hT]; exact td_mover o hon hp
  have hfe : ∀ b ∈ bnds T p, b.A * a.x + b.B * a.y ≤ b.C := by rw [hT, td_bnds o hp.1]; exact at_feas.1 hf
  have hbz := bnds_sz oT p
  have hbl := bnds_len oT p
  have hnT := oT.n
  have hmT := oT.m
  have b0 := brE_zero oT (p := p) (by omega)
  have c1 := fun h => vc_CloneNetO N h (by omega) (by omega)
  have hofl := offL_len T
  have hmvl := mvL_len T
  have hoN := offL_nil hon
  have pP := fun h => vc_point x y h
  refine VC.bodyC 6 Try.func5 rfl Try.ntmps5 Try.call5 (h.grows_refl) rfl ?_; conv => whnf
  repeat' (first | ((first | refine zs1 ?_ | refine zs2 ?_ | refine zs3 ?_ | refine zs4 ?_ | refine zs5 ?_); conv => whnf) | ((first | apply zi1 | apply zi2 | apply zi3 | apply zi4 | apply zi5) <;> intro _ <;> conv => whnf) | (refine VCall.intro (vc_Of _ _) ?_; conv => whnf) | (refine VCall.intro (cM _ _ rfl) ?_; conv => whnf) | (refine VNeed.intro hneB ?_; conv => whnf) | (refine VCall.intro (c1 _) ?_; conv => whnf))
  rw [hpw]
  repeat' (first | ((first | refine zs1 ?_ | refine zs2 ?_ | refine zs3 ?_ | refine zs4 ?_ | refine zs5 ?_); conv => whnf) | ((first | apply zi1 | apply zi2 | apply zi3 | apply zi4 | apply zi5) <;> intro _ <;> conv => whnf) | (refine VAny.ix encPn_len p.toNat (by omega) rfl hat ?_; conv => whnf) | (refine VCall.intro (c1 _) ?_; conv => whnf))
  refine zs6 [(1, 9)] ?_
  conv => whnf
  repeat' (first | ((first | refine zs1 ?_ | refine zs2 ?_ | refine zs3 ?_ | refine zs4 ?_ | refine zs5 ?_); conv => whnf) | ((first | apply zi1 | apply zi2 | apply zi3 | apply zi4 | apply zi5) <;> intro _ <;> conv => whnf))
  rw [hXx, hYy]
  repeat' (first | ((first | refine zs1 ?_ | refine zs2 ?_ | refine zs3 ?_ | refine zs4 ?_ | refine zs5 ?_); conv => whnf) | ((first | apply zi1 | apply zi2 | apply zi3 | apply zi4 | apply zi5) <;> intro _ <;> conv => whnf) | (refine VCall.intro (pP _) ?_; conv => whnf))
  refine VMem.set2 encPn_len p.toNat 0 (⟨x, a.y⟩ : Pn) (⟨x, y⟩ : Pn) rfl rfl rfl hat (by decide) rfl rfl rfl ?_
  rw [← hTp]
  conv => whnf
  repeat' (first | ((first | refine zs1 ?_ | refine zs2 ?_ | refine zs3 ?_ | refine zs4 ?_ | refine zs5 ?_); conv => whnf) | ((first | apply zi1 | apply zi2 | apply zi3 | apply zi4 | apply zi5) <;> intro _ <;> conv => whnf))
  by_cases hO : offL T = []
  · have u1 := fun h => vc_OffU T h (by omega) (by omega)
    have u2 := fun h => vc_MoversU T h (by omega) (by omega)
    have u3 := fun h => vc_Convict T h (by omega) (by omega)
    have em : mvE T = 10 := by unfold mvE; rw [if_neg (by rw [chk_ok.2 oT]; decide), if_pos hO]
    have ec : cvE T = 10 := by unfold cvE; rw [if_pos (by rw [em]; decide), em]
    have eo : ofL T = [] := by unfold ofL; rw [if_pos (chk_ok.2 oT), hO]
    rw [eo, chk_ok.2 oT] at u1
    rw [em] at u2
    rw [ec] at u3
    rw [← hTs, ← hTl]
    refine VCut.at' (outer := h.lift) (marks := []) 99 [(8, B false), (12, .fp (encN T))] [] ?_ ?_
    · conv => whnf
      refine Retell.turn ⟨[], 6, [(5, encN T), (3, T.ps.flatMap encPn), (4, T.ss.flatMap encSg)], []⟩ (TurnOk.mk' _ _ [(5, encN T), (3, T.ps.flatMap encPn), (4, T.ss.flatMap encSg)] [] (OutOk.lift _) rfl (by decide) zb zr trivial rfl) zv zm
    conv => whnf
    repeat' (first | ((first | refine zs1 ?_ | refine zs2 ?_ | refine zs3 ?_ | refine zs4 ?_ | refine zs5 ?_ | refine zs6 [] ?_); conv => whnf) | ((first | apply zi1 | apply zi2 | apply zi3 | apply zi4 | apply zi5) <;> intro _ <;> conv => whnf) | (refine VCall.intro (u1 _) ?_; conv => whnf) | (refine VCall.intro (u2 _) ?_; conv => whnf) | (refine VCall.intro (u3 _) ?_; conv => whnf) | (refine VCall.intro (vc_awake _) ?_; conv => whnf))
    all_goals first | (exact VOut.same rfl) | (exfalso; simp at *; done)
  · obtain ⟨O, eO⟩ : ∃ O, O = offL T := ⟨_, rfl⟩
    obtain ⟨M, eM⟩ : ∃ M, M = mvL T := ⟨_, rfl⟩
    obtain ⟨bs, eB⟩ : ∃ bs, bs = bnds T p := ⟨_, rfl⟩
    have m0 : mvE T = 0 := mvE_ok.2 ⟨oT, hO⟩
    have v1 := vc_OffO T Hp.bare oT
    have v2 := vc_MoversO T Hp.bare oT hO
    have v3 := vc_Convict T Hp.bare (by omega) (by omega)
    have v4 := vc_BoundsO T p Hp.bare b0
    have v5 := vc_OffO N Hp.bare o
    have hall := fun q i (hq : q ∈ mvL T) (hi : i ∈ offL T) => mvL_all hq hi
    have hbd2 := fun i (hi : i ∈ offL T) => offL_bd hi
    rw [← eO, flatI] at v1
    rw [← eM, flatI] at v2
    rw [← eB, flatB] at v4
    rw [hoN, flatI] at v5
    rw [← eO, ← eM] at hall
    rw [← eO] at hbd2 hofl hO
    rw [← eM] at hmem hmvl
    rw [← eB] at hfe hbz hbl
    have hcE : cvE T = if 1 < M.length then 11 else 0 := by
      unfold cvE
      rw [if_neg (by omega), ← eM, if_neg (fun e => by rw [e] at hmem; cases hmem)]
    have hcV : M.length ≤ 1 → cvV T = p := fun h1 => by
      unfold cvV
      have e0 : cvE T = 0 := by rw [hcE, if_neg (by omega)]
      rw [if_pos e0, ← eM]
      match M, hmem, h1 with
      | [q], hq, _ => rw [List.mem_singleton.1 hq]; rfl
      | _ :: _ :: _, _, h1 => simp at h1
    have hMp : 0 < M.length := List.length_pos_of_mem hmem
    have hOp : 0 < O.length := List.length_pos_iff.2 hO
    have k1 := vc_ContI M p Hp.bare (by omega)
    rw [decide_eq_true hmem] at k1
    generalize cvE T = cE at *
    generalize cvV T = cV at *
    have hfact : (1 < M.length ∧ cE = 11) ∨ (M.length = 1 ∧ cE = 0 ∧ cV = p) := by
      rcases Nat.lt_or_ge 1 M.length with h1 | h1
      · exact .inl ⟨h1, by rw [hcE, if_pos h1]⟩
      · exact .inr ⟨by omega, by rw [hcE, if_neg (by omega)], hcV h1⟩
    have hEq : (cE == 0) = ((M.length : Int) == 1) := by
      rcases hfact with ⟨h1, h2⟩ | ⟨h1, h2, _⟩
      · rw [h2, Bool.eq_iff_iff, beq_iff_eq, beq_iff_eq]; omega
      · rw [h2, Bool.eq_iff_iff, beq_iff_eq, beq_iff_eq]; omega
    clear hcE hcV
    refine VCut.at' (outer := h.lift) (marks := []) 5 [(8, B false), (9, .fp (encN N)), (10, I p), (11, .fp (encPn a)), (12, .ptr (.loc 0) 0)] [.cells true [.gl (.loc 1) 2 T.ps.length, .gl (.loc 2) 6 T.ss.length], .flat true (T.ps.flatMap encPn), .flat true (T.ss.flatMap encSg)] ?_ ?_
    · rw [hTl, hTs]
      conv => whnf
      refine Retell.turn ⟨[5, 3, 4], 6, [(1, encN N), (2, encPn a)], []⟩ (TurnOk.mk' _ _ [(1, encN N), (2, encPn a)] [] (OutOk.lift _) rfl (by decide) zb zf trivial rfl) zv zm
    conv => whnf
    repeat' (first | ((first | refine zs1 ?_ | refine zs2 ?_ | refine zs3 ?_ | refine zs4 ?_ | refine zs5 ?_ | refine zs6 [] ?_); conv => whnf) | ((first | apply zi1 | apply zi2 | apply zi3 | apply zi4 | apply zi5) <;> intro _ <;> conv => whnf))
    refine VCall.intro (VC.lendL [dNt T] [(1, T.ps.flatMap encPn), (2, T.ss.flatMap encSg)] [] zf trivial zv v1) ?_
    rw [← flatI]
    conv => whnf
    repeat' (first | ((first | refine zs1 ?_ | refine zs2 ?_ | refine zs3 ?_ | refine zs4 ?_ | refine zs5 ?_ | refine zs6 [] ?_); conv => whnf) | ((first | apply zi1 | apply zi2 | apply zi3 | apply zi4 | apply zi5) <;> intro _ <;> conv => whnf))
    refine VCall.intro (VC.lendL [dNt T] [(1, T.ps.flatMap encPn), (2, T.ss.flatMap encSg)] [] zf trivial zv v2) ?_
    rw [← flatI]
    conv => whnf
    repeat' (first | ((first | refine zs1 ?_ | refine zs2 ?_ | refine zs3 ?_ | refine zs4 ?_ | refine zs5 ?_ | refine zs6 [] ?_); conv => whnf) | ((first | apply zi1 | apply zi2 | apply zi3 | apply zi4 | apply zi5) <;> intro _ <;> conv => whnf))
    refine VCall.intro (VC.lendS [dNt T] [(1, T.ps.flatMap encPn), (2, T.ss.flatMap encSg)] [] zf trivial zv v3) ?_
    conv => whnf
    repeat' (first | ((first | refine zs1 ?_ | refine zs2 ?_ | refine zs3 ?_ | refine zs4 ?_ | refine zs5 ?_ | refine zs6 [] ?_); conv => whnf) | ((first | apply zi1 | apply zi2 | apply zi3 | apply zi4 | apply zi5) <;> intro _ <;> conv => whnf))
    · exfalso; omega
    refine VCut.go 1 ?_
    apply suffices_
    · intro hrest
      conv => whnf
      repeat' (first | ((first | refine zs1 ?_ | refine zs2 ?_ | refine zs3 ?_ | refine zs4 ?_ | refine zs5 ?_ | refine zs6 [] ?_); conv => whnf) | ((first | apply zi1 | apply zi2 | apply zi3 | apply zi4 | apply zi5) <;> intro _ <;> conv => whnf))
      refine VCall.intro (VC.lend1 [dints M, DI p] [(4, M.flatMap encI)] [] zf trivial zv k1) ?_
      conv => whnf
      repeat' (first | ((first | refine zs1 ?_ | refine zs2 ?_ | refine zs3 ?_ | refine zs4 ?_ | refine zs5 ?_ | refine zs6 [] ?_); conv => whnf) | ((first | apply zi1 | apply zi2 | apply zi3 | apply zi4 | apply zi5) <;> intro _ <;> conv => whnf))
      · rename_i hz; exact absurd hEq hz
      all_goals try (exfalso; rcases hfact with ⟨_, _⟩ | ⟨_, _, _⟩ <;> omega)
      all_goals (
        refine VCut.at' (outer := h.lift) (marks := []) 99 [(9, .fp (encN N)), (10, I p), (11, .fp (encPn a)), (12, .ptr (.loc 0) 0), (13, ints O), (15, ints M)] [.cells true [.gl (.loc 1) 2 T.ps.length, .gl (.loc 2) 6 T.ss.length], .flat true (T.ps.flatMap encPn), .flat true (T.ss.flatMap encSg)] ?_ hrest.out
        conv => whnf
        refine Retell.turn ⟨[0, 1, 2], 5, [(3, O.flatMap encI), (4, M.flatMap encI)], []⟩ (TurnOk.mk' _ _ [(3, O.flatMap encI), (4, M.flatMap encI)] [] (OutOk.lift _) rfl (by decide) zb zf trivial rfl) zv zm)
    · conv => whnf
      repeat' (first | ((first | refine zs1 ?_ | refine zs2 ?_ | refine zs3 ?_ | refine zs4 ?_ | refine zs5 ?_ | refine zs6 [] ?_); conv => whnf) | ((first | apply zi1 | apply zi2 | apply zi3 | apply zi4 | apply zi5) <;> intro _ <;> conv => whnf))
      refine VCall.intro (VC.lendL [dNt T, DI p] [(1, T.ps.flatMap encPn), (2, T.ss.flatMap encSg)] [] zf trivial zv v4) ?_
      rw [← flatB]
      conv => whnf
      repeat' (first | ((first | refine zs1 ?_ | refine zs2 ?_ | refine zs3 ?_ | refine zs4 ?_ | refine zs5 ?_ | refine zs6 [] ?_); conv => whnf) | ((first | apply zi1 | apply zi2 | apply zi3 | apply zi4 | apply zi5) <;> intro _ <;> conv => whnf))
      refine VCode.lp (fun k : Nat => [(9, .fp (encN N)), (10, I p), (11, .fp (encPn a)), (12, .ptr (.loc 0) 0), (13, ints O), (15, ints M), (123, bds bs), (124, I bs.length), (125, I k)]) (fun _ => [.cells true [.gl (.loc 1) 2 T.ps.length, .gl (.loc 2) 6 T.ss.length], .flat true (T.ps.flatMap encPn), .flat true (T.ss.flatMap encSg)]) (fun k => k ≤ bs.length) (fun k => bs.length - k) 0 (Nat.zero_le _) ?_ ?_
      · conv => whnf
        refine Retell.turn ⟨[0,1,2], 4, [(3, bs.flatMap encBd)], []⟩ (TurnOk.mk' _ _ [(3, bs.flatMap encBd)] [] (OutOk.lift _) rfl (by decide) zb zf trivial rfl) zv zm
      · intro k hk
        conv => whnf
        refine VIte.dec (fun h3 => ?_) (fun h3 => ?_)
        · have hbk : bs[k]? = some bs[k] := List.getElem?_eq_getElem (by omega)
          have hb1 := hfe bs[k] (List.getElem_mem (by omega))
          have hb2 := hbz bs[k] (List.getElem_mem (by omega))
          generalize bs[k] = b at hbk hb1 hb2
          have m1 := Clip.mulb (x := b.A) (y := a.x) (A := 50) (B := 1000) hb2.a (by omega)
          have m2 := Clip.mulb (x := b.B) (y := a.y) (A := 50) (B := 1000) hb2.b' (by omega)
          conv => whnf
          repeat' (first | ((first | refine zs1 ?_ | refine zs2 ?_ | refine zs3 ?_ | refine zs4 ?_ | refine zs5 ?_ | refine zs6 [] ?_); conv => whnf) | ((first | apply zi1 | apply zi2 | apply zi3 | apply zi4 | apply zi5) <;> intro _ <;> conv => whnf) | (refine VAny.ix encBd_len k rfl rfl hbk ?_; conv => whnf))
          · exfalso; omega
          refine LEnd.intro (k + 1) (by omega) (by omega) ?_
          conv => whnf
          refine Retell.turn ⟨[0,1,2], 4, [], []⟩ (TurnOk.mk' _ _ [] [] (OutOk.lift _) rfl (by decide) zb trivial trivial rfl) zv zm
        · conv => whnf
          repeat' (first | ((first | refine zs1 ?_ | refine zs2 ?_ | refine zs3 ?_ | refine zs4 ?_ | refine zs5 ?_ | refine zs6 [] ?_); conv => whnf) | ((first | apply zi1 | apply zi2 | apply zi3 | apply zi4 | apply zi5) <;> intro _ <;> conv => whnf))
          refine VCode.lp (fun k : Nat => [(9, .fp (encN N)), (10, I p), (11, .fp (encPn a)), (12, .ptr (.loc 0) 0), (13, ints O), (144, ints M), (145, I M.length), (146, I k)]) (fun _ => [.cells true [.gl (.loc 1) 2 T.ps.length, .gl (.loc 2) 6 T.ss.length], .flat true (T.ps.flatMap encPn), .flat true (T.ss.flatMap encSg)]) (fun k => k ≤ M.length) (fun k => M.length - k) 0 (Nat.zero_le _) ?_ ?_
          · conv => whnf
            refine Retell.turn ⟨[0,1,2], 3, [], []⟩ (TurnOk.mk' _ _ [] [] (OutOk.lift _) rfl (by decide) zb trivial trivial rfl) zv zm
          · intro k hk
            conv => whnf
            refine VIte.dec (fun h3 => ?_) (fun h3 => ?_)
            · have hmk : M[k]? = some M[k] := List.getElem?_eq_getElem (by omega)
              have hq := List.getElem_mem (l := M) (n := k) (by omega)
              generalize M[k] = q at hmk hq
              conv => whnf
              repeat' (first | ((first | refine zs1 ?_ | refine zs2 ?_ | refine zs3 ?_ | refine zs4 ?_ | refine zs5 ?_ | refine zs6 [] ?_); conv => whnf) | ((first | apply zi1 | apply zi2 | apply zi3 | apply zi4 | apply zi5) <;> intro _ <;> conv => whnf) | (refine VAny.ix encI_len k rfl rfl hmk ?_; conv => whnf))
              refine VCode.lp (fun j : Nat => [(9, .fp (encN N)), (10, I p), (11, .fp (encPn a)), (12, .ptr (.loc 0) 0), (13, ints O), (23, I q), (144, ints M), (145, I M.length), (146, I k), (150, ints O), (151, I O.length), (152, I j)]) (fun _ => [.cells true [.gl (.loc 1) 2 T.ps.length, .gl (.loc 2) 6 T.ss.length], .flat true (T.ps.flatMap encPn), .flat true (T.ss.flatMap encSg)]) (fun j => j ≤ O.length) (fun j => O.length - j) 0 (Nat.zero_le _) ?_ ?_
              · conv => whnf
                refine Retell.turn ⟨[0,1,2], 3, [], []⟩ (TurnOk.mk' _ _ [] [] (OutOk.lift _) rfl (by decide) zb trivial trivial rfl) zv zm
              · intro j hj
                conv => whnf
                refine VIte.dec (fun h4 => ?_) (fun h4 => ?_)
                · have hoj : O[j]? = some O[j] := List.getElem?_eq_getElem (by omega)
                  have hi := List.getElem_mem (l := O) (n := j) (by omega)
                  generalize O[j] = i at hoj hi
                  have h5 := hbd2 i hi
                  have h6 := hall q i hq hi
                  rw [hTs] at h5
                  have hsk : N.ss[i.toNat]? = some (N.ss[i.toNat]'(by omega)) := List.getElem?_eq_getElem _
                  rw [ofB_at (by rw [hTs]; exact hsk), decide_eq_true_eq] at h6
                  generalize N.ss[i.toNat]'(by omega) = s at hsk h6
                  conv => whnf
                  repeat' (first | ((first | refine zs1 ?_ | refine zs2 ?_ | refine zs3 ?_ | refine zs4 ?_ | refine zs5 ?_ | refine zs6 [] ?_); conv => whnf) | ((first | apply zi1 | apply zi2 | apply zi3 | apply zi4 | apply zi5) <;> intro _ <;> conv => whnf) | (refine VAny.ix encI_len j rfl rfl hoj ?_; conv => whnf) | (refine VAny.ix encSg_len i.toNat (by omega) rfl hsk ?_; conv => whnf))
                  all_goals try (exfalso; omega)
                  all_goals (
                    refine LEnd.intro (j + 1) (by omega) (by omega) ?_
                    conv => whnf
                    refine Retell.turn ⟨[0,1,2], 3, [], []⟩ (TurnOk.mk' _ _ [] [] (OutOk.lift _) rfl (by decide) zb trivial trivial rfl) zv zm)
                · conv => whnf
                  repeat' (first | ((first | refine zs1 ?_ | refine zs2 ?_ | refine zs3 ?_ | refine zs4 ?_ | refine zs5 ?_ | refine zs6 [] ?_); conv => whnf) | ((first | apply zi1 | apply zi2 | apply zi3 | apply zi4 | apply zi5) <;> intro _ <;> conv => whnf))
                  refine LEnd.intro (k + 1) (by omega) (by omega) ?_
                  conv => whnf
                  refine Retell.turn ⟨[0,1,2], 3, [], []⟩ (TurnOk.mk' _ _ [] [] (OutOk.lift _) rfl (by decide) zb trivial trivial rfl) zv zm
            · conv => whnf
              repeat' (first | ((first | refine zs1 ?_ | refine zs2 ?_ | refine zs3 ?_ | refine zs4 ?_ | refine zs5 ?_ | refine zs6 [] ?_); conv => whnf) | ((first | apply zi1 | apply zi2 | apply zi3 | apply zi4 | apply zi5) <;> intro _ <;> conv => whnf))
              refine VMem.set2 encPn_len p.toNat 0 (⟨a.x, y⟩ : Pn) a rfl rfl rfl hTat (by decide) rfl rfl rfl ?_
              rw [hTset, hTl, hTs]
              conv => whnf
              repeat' (first | ((first | refine zs1 ?_ | refine zs2 ?_ | refine zs3 ?_ | refine zs4 ?_ | refine zs5 ?_ | refine zs6 [] ?_); conv => whnf) | ((first | apply zi1 | apply zi2 | apply zi3 | apply zi4 | apply zi5) <;> intro _ <;> conv => whnf))
              refine VCall.intro (VC.lendL [dNt N] [(1, N.ps.flatMap encPn), (2, N.ss.flatMap encSg)] [] zf trivial zv v5) ?_
              conv => whnf
              repeat' (first | ((first | refine zs1 ?_ | refine zs2 ?_ | refine zs3 ?_ | refine zs4 ?_ | refine zs5 ?_ | refine zs6 [] ?_); conv => whnf) | ((first | apply zi1 | apply zi2 | apply zi3 | apply zi4 | apply zi5) <;> intro _ <;> conv => whnf) | (refine VCall.intro (vc_awake _) ?_; conv => whnf))
              all_goals first | (exact VOut.same rfl) | (exfalso; omega)
end Go.Proofs.Ytdlnjnfkbneibaa

open Go.Vm
namespace Go.Proofs.Ytdlnjnfkbneibaa
open Go.ChangeShapes Go.WideShapes Go.ChangeAt Go.RowKit

def dU (l : List Int) : D := .sl 1 l.length (l.flatMap encU)
theorem openU : OpenV Try.prog 55 dU := OpenV.slice Try.underlying55 (Opens.slice Try.underlying55 encU_len (by kernel_rfl) (by decide) (Opens.int Try.underlying5))
def d8b (n : {n : Int // 0 ≤ n ∧ n ≤ 255}) : D := .s (.int .u8 n.1)
theorem openV_u8 {P : Program} {t : TypeId} (ht : P.underlying t = some (.int .u8)) : OpenV P t d8b := by
  intro W base H en v dd ps hok ⟨fuel, ht2⟩
  obtain ⟨n, h2, _, hw⟩ := DataW.trod_int ht ht2
  have hb : 0 ≤ n ∧ n ≤ 255 := by
    have hw2 : (decide ((0 : Int) ≤ n) && decide (n ≤ (255 : Int))) = true := hw
    simpa using hw2
  unfold Value.okWide at hok
  rw [ht] at hok
  simp only [Cell.okWide, ht] at hok
  refine ⟨⟨n, hb⟩, ?_⟩
  cases v <;> simp [Cell.ok, ht] at hok
  simp [Value.cells] at h2
  simp only [d8b, DR, S.val]
  rw [h2.1, h2.2]
theorem open8b : OpenV Try.prog 5 d8b := openV_u8 Try.underlying5
def d16b (n : {n : Int // 0 ≤ n ∧ n ≤ 65535}) : D := .s (.int .u16 n.1)
theorem openV_u16 {P : Program} {t : TypeId} (ht : P.underlying t = some (.int .u16)) : OpenV P t d16b := by
  intro W base H en v dd ps hok ⟨fuel, ht2⟩
  obtain ⟨n, h2, _, hw⟩ := DataW.trod_int ht ht2
  have hb : 0 ≤ n ∧ n ≤ 65535 := by
    have hw2 : (decide ((0 : Int) ≤ n) && decide (n ≤ (65535 : Int))) = true := hw
    simpa using hw2
  unfold Value.okWide at hok
  rw [ht] at hok
  simp only [Cell.okWide, ht] at hok
  refine ⟨⟨n, hb⟩, ?_⟩
  cases v <;> simp [Cell.ok, ht] at hok
  simp [Value.cells] at h2
  simp only [d16b, DR, S.val]
  rw [h2.1, h2.2]
theorem open16b : OpenV Try.prog 81 d16b := openV_u16 Try.underlying81
end Go.Proofs.Ytdlnjnfkbneibaa

open Go.Vm
namespace Go.Proofs.Ytdlnjnfkbneibaa
open Go.ChangeShapes Go.WideShapes Go.ChangeAt Go.RowKit

theorem open5p : OpenAll Try.prog Try.f5.params.toList (fun x : List Int × {n : Int // 0 ≤ n ∧ n ≤ 255} × {n : Int // 0 ≤ n ∧ n ≤ 65535} × {n : Int // 0 ≤ n ∧ n ≤ 65535} × Unit => [dU x.1, d8b x.2.1, d16b x.2.2.1, d16b x.2.2.2.1]) := by
  rw [Try.params5]
  exact OpenAll.cons openU (OpenAll.cons open8b (OpenAll.cons open16b (OpenAll.cons open16b (OpenAll.nil))))
set_option maxRecDepth 100000 in
theorem contract5 (H : Type) (enc : TypeId × Value → H) (W : World) (base : Nat) (args : Array Value) (ds gs : List (DataW H)) (before : List MemPlace)
    (hval : ∀ (j : Nat) t v, Try.f5.params[j]? = some t → args[j]? = some v → Value.okWide Try.prog W .any base t v)
    (hW : DataW.Whole enc Try.prog Try.f5.params.toList Rows.sightMovedSpec.vars false W args.toList ds gs before) :
    Calls Try.prog 5 args W fun e W' => ∃ v, e = .returned v ∧ Rows.sightMovedSpec.post enc Try.prog Try.f5 false true false false W args v W' := by
  refine contract_of_vc open5p (fun g => vc_SightMoved g.1 g.2.1.1 g.2.1.2 g.2.2.1.1 g.2.2.1.2 g.2.2.2.1.1 g.2.2.2.1.2 Hp.bare) laidOut ?_ (tb := 4) (by kernel_rfl) Try.underlying4 rfl ?_ hval hW
  · rw [Try.params5]
    intro t ht
    simp only [List.mem_cons, List.not_mem_nil, or_false] at ht
    rcases ht with rfl | rfl | rfl | rfl
    all_goals exact ⟨by kernel_rfl, of_decide_eq_true (by kernel_rfl)⟩
  · intro H dd hl
    rw [Try.params5] at hl
    match dd, hl with
    | [d0, d1, d2, d3], _ => rfl
set_option maxRecDepth 100000 in
theorem lifted5 (os : Os) (started : os.Started) (H : Type) (enc : TypeId × Value → H) :
    ReturnsInHanded {} Try.checked os 5 .any (Rows.sightMovedSpec.pre6 enc Try.prog Try.f5 Rows.sightMovedRow.domain false) (Rows.sightMovedSpec.post enc Try.prog Try.f5 false true false false) := by
  refine returnsInHanded_of_change (C := Try.checked) ownKn started (by kernel_rfl) Try.func5
    (ChangeSpec.witness6 (enc := enc) (C := Try.checked) false ⟨#[], #[.slice none 0 0, .int .u8 0, .int .u16 0, .int .u16 0], []⟩ 8 (by kernel_rfl) (by kernel_rfl) (by kernel_rfl) (by kernel_rfl)) ?_
  intro W base args ds gs before hval hW _ _
  exact contract5 H enc W base args ds gs before hval hW
theorem sightMoved_said : Rows.SightMovedSaid :=
  OpenClaim.holds_of_wide 5 Try.f5 rfl rfl rfl rfl rfl rfl rfl ⟨rfl, rfl, rfl, rfl, rfl⟩ rfl rfl rfl rfl rfl (by kernel_rfl) Try.func5 (by kernel_rfl)
    (of_decide_eq_true (by kernel_rfl)) (by unfold Func.isWrapper; first | (rw [if_pos (by decide +kernel)]; kernel_rfl) | (rw [if_neg (by decide +kernel)]; exact ⟨rfl, rfl⟩))
    (fun os started H enc _ => lifted5 os started H enc)
end Go.Proofs.Ytdlnjnfkbneibaa


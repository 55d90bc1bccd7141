/- Part 3 of the proof that what is gained is what is lost, and each number belongs to one owner alone. No condition. -/
import Derived.Test.YtkbbfeljlepgoaaGa2
set_option linter.unusedVariables false
set_option linter.unusedSimpArgs false
open Go.Vm
open Riv
namespace Go.Proofs.Ytkbbfeljlepgoaa
set_option maxRecDepth 20000
set_option maxHeartbeats 4000000

def ownY (W : Nat) (L : List (List Int)) (s : Int) : List (List Int) := (List.range L.length).map fun y => owns (lawAt W L s y) W
theorem ownY_len {W : Nat} {L : List (List Int)} {s : Int} : (ownY W L s).length = L.length := by unfold ownY; rw [List.length_map, List.length_range]
theorem ownY_at {W : Nat} {L : List (List Int)} {s : Int} {y : Nat} (hy : y < L.length) : (ownY W L s)[y]? = some (owns (lawAt W L s y) W) := by
  unfold ownY; rw [List.getElem?_map, List.getElem?_range hy]; rfl
theorem ofa (p : Nat) : 0 + (p : Int).toNat * 1 = p * 1 + 0 := by simp
theorem neq53 : vaggeq Try.prog .neq 53 (.agg [I 0, I 0, I 0, I 0]) (.agg [I 0, I 0, I 0, I 0]) = some (B false) := by kernel_rfl
theorem take_succ' {α : Type} {l : List α} {k : Nat} {x : α} (h : l[k]? = some x) : l.take (k + 1) = l.take k ++ [x] := by rw [List.take_add_one, h]; rfl
theorem vc_RiverGained (bs : List Int) (x1 : Int) (hx1 : 0 ≤ x1 ∧ x1 ≤ 255) (x2 : Int) (hx2 : 0 ≤ x2 ∧ x2 ≤ 255) (h : Hp) : VC Try.prog 4 [bytes bs, .s (.int .u8 x1), .s (.int .u8 x2)] h (B true) h := by
  obtain ⟨W, H, hWw, hHh, hW4, hL, hn, hdn, c1⟩ := vc_Aged bs ((0 : Nat), (9 : Int)) 7 4 5 (by decide) (by decide) (by decide) (by decide)
  have c0 := vc_Of bs
  have ht1 : x1.tmod 25 = x1 % 25 := Int.tmod_eq_emod_of_nonneg hx1.1
  generalize (agedX (dNx bs) ((0 : Nat), (9 : Int)) 7 4 5).2 = L at *
  generalize (agedX (dNx bs) ((0 : Nat), (9 : Int)) 7 4 5).1 = dd at *
  have hn10 : 1 ≤ L.length ∧ L.length ≤ 10 := ⟨hn.1, by omega⟩
  obtain ⟨s, hs⟩ : ∃ s, s = x1.tmod 25 := ⟨_, rfl⟩
  have hsb : 0 ≤ s ∧ s ≤ 144 := by rw [hs, ht1]; omega
  have o0 : MOk W H (L.getD 0 []) := by
    have e : L.getD 0 [] = L[0] := by rw [List.getD_eq_getElem?_getD, List.getElem?_eq_getElem (by omega)]; rfl
    rw [e]; exact hL _ (List.getElem_mem (by omega))
  have wh : W * H ≤ 144 := o0.few.2.2
  have wh1 : 1 ≤ W * H := Nat.mul_pos (by omega) (by have := o0.h.1; omega)
  have l0 : (mp W H (L.getD 0 [])).c.length = W * H := o0.len
  have ht2 : x2.tmod ((W * H : Nat) : Int) = x2 % ((W * H : Nat) : Int) := Int.tmod_eq_emod_of_nonneg hx2.1
  have hcb : 0 ≤ x2.tmod ((W * H : Nat) : Int) ∧ x2.tmod ((W * H : Nat) : Int) < ((W * H : Nat) : Int) := by
    rw [ht2]; exact ⟨Int.emod_nonneg _ (by omega), Int.emod_lt_of_pos _ (by omega)⟩
  obtain ⟨cell, hcell⟩ : ∃ cell : Nat, x2.tmod ((W * H : Nat) : Int) = cell := ⟨(x2.tmod ((W * H : Nat) : Int)).toNat, by omega⟩
  have hcz : cell < W * H := by omega
  have cS := kL hL hn10 hsb
  have cG := kG hL hn10 hsb
  have cLs := kLs hL hn10 hsb hcz
  have cSl := fun owner ho => kSl hL hn10 hcz (owner := owner) ho
  have lM : (mpl W H L).length = L.length := mpl_len
  have lA : (mpl W H (lawL W L s)).length = L.length := by rw [mpl_len, lawL_len]
  have y0M : (mpl W H L)[0]? = some (mp W H (L.getD 0 [])) := mpl_at (by omega)
  have xA : ∀ y, y < L.length → (mpl W H (lawL W L s))[y]? = some (mp W H (lawAt W L s y)) := fun y hy => by rw [List.getElem?_map, lawL_at hy]; rfl
  have cO := fun y hy => kO (lawAt_mok hL s (y := y) hy)
  have lO : ∀ y, y < L.length → (owns (lawAt W L s y) W).length = W * H := fun y hy => by rw [owns_len]; exact (lawAt_mok hL s hy).len
  have bO : ∀ y, y < L.length → ∀ k, k < W * H → 0 ≤ at0 (owns (lawAt W L s y) W) k ∧ at0 (owns (lawAt W L s y) W) k ≤ 3 := fun y hy k hk => ownB (lawAt_mok hL s hy) (by rw [(lawAt_mok hL s hy).len]; exact hk)
  have hNG := NG.all (W * H) (bO 0 (by omega)) (bO (L.length - 1) (by omega))
  have hcov := Riv.cover (f := fun t => at0 (owns (lawAt W L t (L.length - 1)) W) cell) (fun t => ownB (lawAt_mok hL t (by omega)) (by rw [(lawAt_mok hL t (by omega)).len]; exact hcz)) 145
  have cA := vc_awake
  have hz1 : (((mp W H (L.getD 0 [])).c.length : Int) != 0) = true := by rw [l0, bne_iff_ne]; omega
  have hz2 : decide (((mp W H (L.getD 0 [])).c.length : Int) ≠ 0) = true := by rw [l0, decide_eq_true_eq]; omega
  have hz3 : (!(((mp W H (L.getD 0 [])).c.length : Int) == 0)) = true := hz1
  rw [gnK_gg] at cG
  refine VC.bodyC 2 Try.func4 rfl Try.ntmps4 Try.call4 (h.grows_refl) rfl ?_
  conv => whnf
  repeat' (first | ((first | refine zs1 ?_ | refine zs2 ?_ | refine zs3 ?_ | refine zs4 ?_ | refine zs5 ?_); conv => whnf) | ((first | apply zi1 | apply zi2 | apply zi3 | apply zi4 | apply zi5) <;> intro _ <;> conv => whnf) | (refine VCall.intro (c0 _) ?_; conv => whnf) | (refine VCall.intro (c1 (.loc 0) _ rfl) ?_; conv => whnf))
  refine VCut.at' (outer := h.lift) (marks := []) 1 [(1, .s (.int .u8 x1)), (2, .s (.int .u8 x2)), (7, yrs (mpl W H L))] [] ?_ ?_
  · conv => whnf
    refine Retell.turn ⟨[], 9, [], []⟩ (TurnOk.mk' _ _ [] [] (OutOk.lift _) rfl (by decide) zb trivial trivial rfl) zw zm
  conv => whnf
  repeat' (first | ((first | refine zs1 ?_ | refine zs2 ?_ | refine zs3 ?_ | refine zs4 ?_ | refine zs5 ?_); conv => whnf) | ((first | apply zi1 | apply zi2 | apply zi3 | apply zi4 | apply zi5) <;> intro _ <;> first | (exfalso; omega) | contradiction | (conv => whnf)))
  refine zs6 [] ?_
  conv => whnf
  repeat' (first | ((first | refine zs1 ?_ | refine zs2 ?_ | refine zs3 ?_ | refine zs4 ?_ | refine zs5 ?_); conv => whnf) | ((first | apply zi1 | apply zi2 | apply zi3 | apply zi4 | apply zi5) <;> intro _ <;> first | (exfalso; omega) | contradiction | (conv => whnf)) | (refine VAny.ix encM_len 0 rfl rfl y0M ?_; conv => whnf))
  refine VCut.at' (outer := h.lift) (marks := []) 3 [(7, yrs (mpl W H L)), (8, I s), (9, I cell)] [] ?_ ?_
  · conv => whnf
    rw [← hs, l0, hcell]
    refine Retell.turn ⟨[], 9, [], []⟩ (TurnOk.mk' _ _ [] [] (OutOk.lift _) rfl (by decide) zb trivial trivial rfl) zw zm
  clear hs ht1 ht2 hcb hcell hz1 hz2 hz3 c0 c1 hx1 hx2
  have gB := gnK_bd (owns (lawAt W L s 0) W) (owns (lawAt W L s (L.length - 1)) W) (W * H)
  have gl := gnK_len (owns (lawAt W L s 0) W) (owns (lawAt W L s (L.length - 1)) W) (W * H)
  rw [gnK_gg] at gB gl
  have hlsk := lsk_ok (fun y => at0 (owns (lawAt W L s y) W) cell) (L.length - 1)
  have NGF := hNG (W * H) (Nat.le_refl _)
  have hNb := ntK_bd (owns (lawAt W L s 0) W) (owns (lawAt W L s (L.length - 1)) W)
  have hNl := ntK_len (owns (lawAt W L s 0) W) (owns (lawAt W L s (L.length - 1)) W)
  have hNs := ntK_succ (owns (lawAt W L s 0) W) (owns (lawAt W L s (L.length - 1)) W)
  generalize hG : ggK (owns (lawAt W L s 0) W) (owns (lawAt W L s (L.length - 1)) W) (W * H) = G at *
  generalize lsk (fun y => at0 (owns (lawAt W L s y) W) cell) (L.length - 1) = la at *
  have hOl : (ownY W L s).length = L.length := ownY_len
  have xO := fun y hy => ownY_at (W := W) (L := L) (s := s) (y := y) hy
  generalize mpl W H (lawL W L s) = AA at *
  generalize mpl W H L = M at *
  conv => whnf
  repeat' (first | ((first | refine zs1 ?_ | refine zs2 ?_ | refine zs3 ?_ | refine zs4 ?_ | refine zs5 ?_); conv => whnf) | ((first | apply zi1 | apply zi2 | apply zi3 | apply zi4 | apply zi5) <;> intro _ <;> first | (exfalso; omega) | contradiction | (conv => whnf)) | (refine VCall.intro (cS _) ?_; conv => whnf) | (refine VCall.intro (cG _) ?_; conv => whnf) | (refine VCall.intro (cLs _) ?_; conv => whnf))
  rw [forceVs_eq]
  conv => whnf
  repeat' (first | ((first | refine zs1 ?_ | refine zs2 ?_ | refine zs3 ?_ | refine zs4 ?_ | refine zs5 ?_); conv => whnf) | ((first | apply zi1 | apply zi2 | apply zi3 | apply zi4 | apply zi5) <;> intro _ <;> first | (exfalso; omega) | contradiction | (conv => whnf)))
  refine VMem.wholeI (G := G) (Z := List.replicate 16 0) rfl gl.symm rfl (by rw [gl]; rfl) ?_
  conv => whnf
  repeat' (first | ((first | refine zs1 ?_ | refine zs2 ?_ | refine zs3 ?_ | refine zs4 ?_ | refine zs5 ?_); conv => whnf) | ((first | apply zi1 | apply zi2 | apply zi3 | apply zi4 | apply zi5) <;> intro _ <;> first | (exfalso; omega) | contradiction | (conv => whnf)) | (refine VCall.intro (cLs _) ?_; conv => whnf))
  refine VCut.at' (outer := h.lift) (marks := []) 3 [(7, yrs M), (8, I s), (9, I cell), (10, yrs AA), (12, .fp (G.flatMap Vm.encI)), (14, I la), (11, I 0), (13, I 0), (15, I 0)] [] ?_ ?_
  · conv => whnf
    refine Retell.turn ⟨[], 9, [(0, G.flatMap Vm.encI)], []⟩ (TurnOk.mk' _ _ [(0, G.flatMap Vm.encI)] [] (OutOk.lift _) rfl (by decide) zb zf trivial rfl) zw zm
  conv => whnf
  repeat' (first | ((first | refine zs1 ?_ | refine zs2 ?_ | refine zs3 ?_ | refine zs4 ?_ | refine zs5 ?_); conv => whnf) | ((first | apply zi1 | apply zi2 | apply zi3 | apply zi4 | apply zi5) <;> intro _ <;> first | (exfalso; omega) | contradiction | (conv => whnf)))
  refine VCode.lpC (outer := h.lift) (marks := []) 2 (fun i : Nat => [(7, yrs M), (8, I s), (9, I cell), (12, .fp (G.flatMap Vm.encI)), (14, I la), (16, .gl (.loc 0) 1 ((ownY W L s).take i).length), (86, yrs AA), (87, I AA.length), (88, I i)]) (fun i => [.flat true (((ownY W L s).take i).flatMap encL)]) (fun i => i ≤ L.length) (fun i => L.length - i) 0 (Nat.zero_le _) ?_ ?_
  · rw [List.take_zero]
    conv => whnf
    refine Retell.turn ⟨[0], 0, [], []⟩ (TurnOk.mk' _ _ [] [] (OutOk.lift _) rfl (by decide) zb trivial trivial rfl) zw zm
  · rintro i hi
    rcases Nat.lt_or_ge i L.length with h3 | h3
    · have z1 := xA i h3
      have z2 := cO i h3
      have z3 := lO i h3
      have z4 := take_succ' (xO i h3)
      have z5 : ((ownY W L s).take i).length = i := by rw [List.length_take]; omega
      generalize owns (lawAt W L s i) W = ow at *
      generalize lawAt W L s i = la2 at *
      conv => whnf
      repeat' (first | ((first | refine zs1 ?_ | refine zs2 ?_ | refine zs3 ?_ | refine zs4 ?_ | refine zs5 ?_); conv => whnf) | ((first | apply zi1 | apply zi2 | apply zi3 | apply zi4 | apply zi5) <;> intro _ <;> first | (exfalso; omega) | contradiction | (conv => whnf)))
      refine VCut.block 99 ?_
      conv => whnf
      repeat' (first | ((first | refine zs1 ?_ | refine zs2 ?_ | refine zs3 ?_ | refine zs4 ?_ | refine zs5 ?_); conv => whnf) | ((first | apply zi1 | apply zi2 | apply zi3 | apply zi4 | apply zi5) <;> intro _ <;> first | (exfalso; omega) | contradiction | (conv => whnf)) | (refine VAny.ix encM_len i rfl rfl z1 ?_; conv => whnf) | (refine VCall.intro (z2 _) ?_; conv => whnf) | (refine VAny.ix encM_len 0 rfl rfl y0M ?_; conv => whnf))
      refine VMem.app1 (l := (ownY W L s).take i) ow encL_len rfl rfl rfl rfl rfl (by omega) ?_
      conv => whnf
      repeat' (first | ((first | refine zs1 ?_ | refine zs2 ?_ | refine zs3 ?_ | refine zs4 ?_ | refine zs5 ?_); conv => whnf) | ((first | apply zi1 | apply zi2 | apply zi3 | apply zi4 | apply zi5) <;> intro _ <;> first | (exfalso; omega) | contradiction | (conv => whnf)))
      refine LEnd.intro (i + 1) (by omega) (by omega) ?_
      rw [z4, List.length_append, List.length_singleton]
      conv => whnf
      refine Retell.turn ⟨[3], 9, [], []⟩ (TurnOk.mk' _ _ [] [] (OutOk.lift _) rfl (by decide) zb trivial trivial rfl) zw zm
    · obtain rfl : i = L.length := by omega
      rw [List.take_of_length_le (by rw [hOl]; omega)]
      conv => whnf
      repeat' (first | ((first | refine zs1 ?_ | refine zs2 ?_ | refine zs3 ?_ | refine zs4 ?_ | refine zs5 ?_); conv => whnf) | ((first | apply zi1 | apply zi2 | apply zi3 | apply zi4 | apply zi5) <;> intro _ <;> first | (exfalso; omega) | contradiction | (conv => whnf)))
      refine VCut.at' (outer := h.lift) (marks := []) 2 [(7, yrs M), (8, I s), (9, I cell), (12, .fp (G.flatMap Vm.encI)), (14, I la), (16, intss (ownY W L s))] [] ?_ ?_
      · conv => whnf
        refine Retell.turn ⟨[], 9, [(0, (ownY W L s).flatMap encL)], []⟩ (TurnOk.mk' _ _ [(0, (ownY W L s).flatMap encL)] [] (OutOk.lift _) rfl (by decide) zb zf trivial rfl) zw zm
      have xo0 := xO 0 (by omega)
      have xoN := xO (L.length - 1) (by omega)
      have a1 := lO 0 (by omega)
      have b1 := lO (L.length - 1) (by omega)
      have a2 := bO 0 (by omega)
      have b2 := bO (L.length - 1) (by omega)
      clear cS cG cLs cO xA hNG hG
      generalize hOA : owns (lawAt W L s 0) W = A at *
      generalize hOB : owns (lawAt W L s (L.length - 1)) W = Bw at *
      conv => whnf
      repeat' (first | ((first | refine zs1 ?_ | refine zs2 ?_ | refine zs3 ?_ | refine zs4 ?_ | refine zs5 ?_); conv => whnf) | ((first | apply zi1 | apply zi2 | apply zi3 | apply zi4 | apply zi5) <;> intro _ <;> first | (exfalso; omega) | contradiction | (conv => whnf)) | (refine VAny.ix encL_len 0 rfl rfl xo0 ?_; conv => whnf))
      refine VCode.lpC (outer := h.lift) (marks := []) 2 (fun k : Nat => [(7, yrs M), (8, I s), (9, I cell), (12, .fp (G.flatMap Vm.encI)), (14, I la), (16, intss (ownY W L s)), (21, .ptr (.loc 0) 0), (116, ints A), (117, I A.length), (118, I k)]) (fun k => [.flat true ((ntK A Bw k).flatMap Vm.encI)]) (fun k => k ≤ W * H) (fun k => W * H - k) 0 (Nat.zero_le _) ?_ ?_
      · rw [show ntK A Bw 0 = [0, 0, 0, 0] from rfl]
        conv => whnf
        refine Retell.turn ⟨[0], 9, [], []⟩ (TurnOk.mk' _ _ [] [] (OutOk.lift _) rfl (by decide) zb trivial trivial rfl) zw zm
      rintro k hk
      rcases Nat.lt_or_ge k (W * H) with h3 | h3
      · have xa := at0_get (l := A) (n := k) (by omega)
        have xb := at0_get (l := Bw) (n := k) (by omega)
        have a3 := a2 k h3
        have b3 := b2 k h3
        have hs1 := hNs k
        have hb1 := hNb k
        have hl1 := hNl k
        obtain ⟨p, hp⟩ : ∃ p : Nat, at0 A k = p := ⟨(at0 A k).toNat, by omega⟩
        obtain ⟨q, hq⟩ : ∃ q : Nat, at0 Bw k = q := ⟨(at0 Bw k).toNat, by omega⟩
        rw [hp] at xa a3 hs1
        rw [hq] at xb b3 hs1
        unfold ntS at hs1
        rw [Int.toNat_natCast, Int.toNat_natCast] at hs1
        generalize ntK A Bw k = Nk at *
        have np := at0_get (l := Nk) (n := p) (by omega)
        have hbp := hb1 p (by omega)
        have hbq := hb1 q (by omega)
        have nq := at0_get (l := Nk.set p (at0 Nk p - 1)) (n := q) (by rw [List.length_set]; omega)
        have hq2 : -200 ≤ at0 (Nk.set p (at0 Nk p - 1)) q ∧ at0 (Nk.set p (at0 Nk p - 1)) q ≤ 200 := by
          rw [at0_set (by omega)]
          split <;> omega
        conv => whnf
        repeat' (first | ((first | refine zs1 ?_ | refine zs2 ?_ | refine zs3 ?_ | refine zs4 ?_ | refine zs5 ?_); conv => whnf) | ((first | apply zi1 | apply zi2 | apply zi3 | apply zi4 | apply zi5) <;> intro _ <;> first | (exfalso; omega) | contradiction | (conv => whnf)))
        refine VCut.block 99 ?_
        conv => whnf
        repeat' (first | ((first | refine zs1 ?_ | refine zs2 ?_ | refine zs3 ?_ | refine zs4 ?_ | refine zs5 ?_); conv => whnf) | ((first | apply zi1 | apply zi2 | apply zi3 | apply zi4 | apply zi5) <;> intro _ <;> first | (exfalso; omega) | contradiction | (conv => whnf)) | (refine VAny.ix encL_len (L.length - 1) (by omega) rfl xoN ?_; conv => whnf) | (refine VAny.ix Vm.encI_len k rfl (by omega) xa ?_; conv => whnf) | (refine VAny.ix Vm.encI_len k rfl (by omega) xb ?_; conv => whnf) | (refine VLd.recc Vm.encI_len p 0 rfl rfl rfl np (by decide) rfl (by exact ofa p) ?_; conv => whnf) | (refine VMem.setRec Vm.encI_len p 0 (at0 Nk p - 1) rfl rfl rfl np (by decide) rfl (by exact ofa p) ?_; conv => whnf) | (refine VLd.recc (l := Nk.set p (at0 Nk p - 1)) Vm.encI_len q 0 rfl rfl rfl nq (by decide) rfl (by exact ofa q) ?_; conv => whnf) | (refine VMem.setRec (l := Nk.set p (at0 Nk p - 1)) Vm.encI_len q 0 (at0 (Nk.set p (at0 Nk p - 1)) q + 1) rfl rfl rfl nq (by decide) rfl (by exact ofa q) ?_; conv => whnf))
        refine LEnd.intro (k + 1) (by omega) (by omega) ?_
        rw [hs1]
        conv => whnf
        refine Retell.turn ⟨[0], 9, [], []⟩ (TurnOk.mk' _ _ [] [] (OutOk.lift _) rfl (by decide) zb trivial trivial rfl) zw zm
      · obtain rfl : k = W * H := by omega
        have hfin := NGF.fin
        have hdg := fun i hi => NGF.diag (i := i) hi
        have hPl := Riv.npK_len G (ntK A Bw (W * H))
        have hPb := Riv.npK_bd G (ntK A Bw (W * H)) 144 (fun p hp => by have := gB p hp; omega) (hNl _) (fun p hp => by have := hNb (W * H) p hp; omega)
        have hPs : ∀ m, Riv.npK G (ntK A Bw (W * H)) (m + 1) = Riv.npS G (Riv.npK G (ntK A Bw (W * H)) m) m := fun m => rfl
        have hP0 : Riv.npK G (ntK A Bw (W * H)) 0 = ntK A Bw (W * H) := rfl
        rw [hNl] at hPl
        generalize Riv.npK G (ntK A Bw (W * H)) = P at *
        clear NGF hNb hNs hNl
        conv => whnf
        repeat' (first | ((first | refine zs1 ?_ | refine zs2 ?_ | refine zs3 ?_ | refine zs4 ?_ | refine zs5 ?_); conv => whnf) | ((first | apply zi1 | apply zi2 | apply zi3 | apply zi4 | apply zi5) <;> intro _ <;> first | (exfalso; omega) | contradiction | (conv => whnf)))
        refine VCut.at' (outer := h.lift) (marks := []) 1 [(7, yrs M), (8, I s), (9, I cell), (12, .fp (G.flatMap Vm.encI)), (14, I la), (16, intss (ownY W L s)), (21, .ptr (.loc 0) 0)] [.flat true ((P 0).flatMap Vm.encI)] ?_ ?_
        · rw [hP0]
          conv => whnf
          refine Retell.turn ⟨[0], 9, [], []⟩ (TurnOk.mk' _ _ [] [] (OutOk.lift _) rfl (by decide) zb trivial trivial rfl) zw zm
        conv => whnf
        repeat' (first | ((first | refine zs1 ?_ | refine zs2 ?_ | refine zs3 ?_ | refine zs4 ?_ | refine zs5 ?_); conv => whnf) | ((first | apply zi1 | apply zi2 | apply zi3 | apply zi4 | apply zi5) <;> intro _ <;> first | (exfalso; omega) | contradiction | (conv => whnf)))
        refine VCode.lpC (outer := h.lift) (marks := []) 2 (fun i : Nat => [(7, yrs M), (8, I s), (9, I cell), (12, .fp (G.flatMap Vm.encI)), (14, I la), (16, intss (ownY W L s)), (21, .ptr (.loc 0) 0), (157, I i)]) (fun i => [.flat true ((P (4 * i)).flatMap Vm.encI)]) (fun i => i ≤ 4) (fun i => 4 - i) 0 (Nat.zero_le _) ?_ ?_
        · conv => whnf
          refine Retell.turn ⟨[0], 9, [], []⟩ (TurnOk.mk' _ _ [] [] (OutOk.lift _) rfl (by decide) zb trivial trivial rfl) zw zm
        rintro i hi
        rcases Nat.lt_or_ge i 4 with h3 | h3
        · conv => whnf
          repeat' (first | ((first | refine zs1 ?_ | refine zs2 ?_ | refine zs3 ?_ | refine zs4 ?_ | refine zs5 ?_); conv => whnf) | ((first | apply zi1 | apply zi2 | apply zi3 | apply zi4 | apply zi5) <;> intro _ <;> first | (exfalso; omega) | contradiction | (conv => whnf)))
          refine VCut.block 99 ?_
          conv => whnf
          repeat' (first | ((first | refine zs1 ?_ | refine zs2 ?_ | refine zs3 ?_ | refine zs4 ?_ | refine zs5 ?_); conv => whnf) | ((first | apply zi1 | apply zi2 | apply zi3 | apply zi4 | apply zi5) <;> intro _ <;> first | (exfalso; omega) | contradiction | (conv => whnf)))
          refine VCode.lpC (outer := h.lift) (marks := []) 2 (fun k : Nat => [(7, yrs M), (8, I s), (9, I cell), (12, .fp (G.flatMap Vm.encI)), (14, I la), (16, intss (ownY W L s)), (21, .ptr (.loc 0) 0), (157, I i), (25, I i), (160, I k)]) (fun k => [.flat true ((P (4 * i + k)).flatMap Vm.encI)]) (fun k => k ≤ 4) (fun k => 4 - k) 0 (Nat.zero_le _) ?_ ?_
          · rw [Nat.add_zero]
            conv => whnf
            refine Retell.turn ⟨[0], 9, [], []⟩ (TurnOk.mk' _ _ [] [] (OutOk.lift _) rfl (by decide) zb trivial trivial rfl) zw zm
          rintro k hk
          rcases Nat.lt_or_ge k 4 with h4 | h4
          · have g1 := gB (4 * i + k) (by omega)
            have d1 : (G.flatMap Vm.encI).drop (((i : Nat) : Int).toNat * 4) = ((G.drop (4 * i)).flatMap Vm.encI) ++ [] := by
              have := flat_dropD Vm.encI_len G (4 * i)
              rw [Nat.mul_one] at this
              rw [Int.toNat_natCast, Nat.mul_comm i 4, this, List.append_nil]
            have d2 : ((G.drop (4 * i)).flatMap Vm.encI).drop (((k : Nat) : Int).toNat * 1) = [DI (at0 G (4 * i + k))] ++ (G.drop (4 * i + k + 1)).flatMap Vm.encI := by
              rw [Int.toNat_natCast, flat_dropD Vm.encI_len _ k, List.drop_drop, List.drop_eq_getElem_cons (by omega), List.flatMap_cons]
              have : at0 G (4 * i + k) = G[4 * i + k]'(by omega) := by
                unfold at0
                rw [List.getD_eq_getElem?_getD, List.getElem?_eq_getElem]; rfl
              rw [this]; rfl
            have hdk := hdg i h3
            have p1 := hPs (4 * i + k)
            unfold Riv.npS at p1
            have e1 : (4 * i + k) / 4 = i := by omega
            have e2 : (4 * i + k) % 4 = k := by omega
            rw [e1, e2] at p1
            have p2 := hPl (4 * i + k)
            have p3 := hPb (4 * i + k) (by omega)
            have hik : i = k → at0 G (4 * i + k) = 0 := fun e => by rw [← e]; exact hdk
            generalize hst : P (4 * i + k + 1) = Pn at *
            have hstep : P (4 * i + (k + 1)) = Pn := hst
            generalize P (4 * i + k) = Q at *
            generalize at0 G (4 * i + k) = g at *
            have p3i := p3 i h3
            have p3k := p3 k h4
            have ni := at0_get (l := Q) (n := i) (by omega)
            have nk := at0_get (l := Q.set i (at0 Q i + g)) (n := k) (by rw [List.length_set]; omega)
            have hk2 : -20000 ≤ at0 (Q.set i (at0 Q i + g)) k ∧ at0 (Q.set i (at0 Q i + g)) k ≤ 20000 := by
              rw [at0_set (by omega)]
              split <;> omega
            rw [p1] at hstep
            clear p1 p2 p3 hPs hPl hPb hdg hst
            by_cases hik2 : i = k
            · have hg0 := hik hik2
              conv => whnf
              repeat' (first | ((first | refine zs1 ?_ | refine zs2 ?_ | refine zs3 ?_ | refine zs4 ?_ | refine zs5 ?_); conv => whnf) | ((first | apply zi1 | apply zi2 | apply zi3 | apply zi4 | apply zi5) <;> intro _ <;> first | (exfalso; omega) | contradiction | (conv => whnf)))
              refine VCut.block 99 ?_
              conv => whnf
              repeat' (first | ((first | refine zs1 ?_ | refine zs2 ?_ | refine zs3 ?_ | refine zs4 ?_ | refine zs5 ?_); conv => whnf) | ((first | apply zi1 | apply zi2 | apply zi3 | apply zi4 | apply zi5) <;> intro _ <;> first | (exfalso; omega) | contradiction | (conv => whnf)) | (refine VAny.intro (v := .fp ((G.drop (4 * i)).flatMap Vm.encI)) ⟨by omega, _, [], d1, rfl⟩ ?_; conv => whnf) | (refine VAny.intro (v := .fp [DI (g)]) ⟨by omega, [DI (g)], _, d2, rfl⟩ ?_; conv => whnf) | (refine VLd.recc Vm.encI_len i 0 rfl rfl rfl ni (by decide) rfl (by exact ofa i) ?_; conv => whnf) | (refine VMem.setRec Vm.encI_len i 0 (at0 Q i + g) rfl rfl rfl ni (by decide) rfl (by exact ofa i) ?_; conv => whnf) | (refine VLd.recc (l := Q.set i (at0 Q i + g)) Vm.encI_len k 0 rfl rfl rfl nk (by decide) rfl (by exact ofa k) ?_; conv => whnf) | (refine VMem.setRec (l := Q.set i (at0 Q i + g)) Vm.encI_len k 0 (at0 (Q.set i (at0 Q i + g)) k - g) rfl rfl rfl nk (by decide) rfl (by exact ofa k) ?_; conv => whnf))
              refine zs6 [] ?_
              conv => whnf
              repeat' (first | ((first | refine zs1 ?_ | refine zs2 ?_ | refine zs3 ?_ | refine zs4 ?_ | refine zs5 ?_); conv => whnf) | ((first | apply zi1 | apply zi2 | apply zi3 | apply zi4 | apply zi5) <;> intro _ <;> first | (exfalso; omega) | contradiction | (conv => whnf)) | (refine VAny.intro (v := .fp ((G.drop (4 * i)).flatMap Vm.encI)) ⟨by omega, _, [], d1, rfl⟩ ?_; conv => whnf) | (refine VAny.intro (v := .fp [DI (g)]) ⟨by omega, [DI (g)], _, d2, rfl⟩ ?_; conv => whnf) | (refine VLd.recc Vm.encI_len i 0 rfl rfl rfl ni (by decide) rfl (by exact ofa i) ?_; conv => whnf) | (refine VMem.setRec Vm.encI_len i 0 (at0 Q i + g) rfl rfl rfl ni (by decide) rfl (by exact ofa i) ?_; conv => whnf) | (refine VLd.recc (l := Q.set i (at0 Q i + g)) Vm.encI_len k 0 rfl rfl rfl nk (by decide) rfl (by exact ofa k) ?_; conv => whnf) | (refine VMem.setRec (l := Q.set i (at0 Q i + g)) Vm.encI_len k 0 (at0 (Q.set i (at0 Q i + g)) k - g) rfl rfl rfl nk (by decide) rfl (by exact ofa k) ?_; conv => whnf))
              refine zs6 [] ?_
              conv => whnf
              repeat' (first | ((first | refine zs1 ?_ | refine zs2 ?_ | refine zs3 ?_ | refine zs4 ?_ | refine zs5 ?_); conv => whnf) | ((first | apply zi1 | apply zi2 | apply zi3 | apply zi4 | apply zi5) <;> intro _ <;> first | (exfalso; omega) | contradiction | (conv => whnf)) | (refine VAny.intro (v := .fp ((G.drop (4 * i)).flatMap Vm.encI)) ⟨by omega, _, [], d1, rfl⟩ ?_; conv => whnf) | (refine VAny.intro (v := .fp [DI (g)]) ⟨by omega, [DI (g)], _, d2, rfl⟩ ?_; conv => whnf) | (refine VLd.recc Vm.encI_len i 0 rfl rfl rfl ni (by decide) rfl (by exact ofa i) ?_; conv => whnf) | (refine VMem.setRec Vm.encI_len i 0 (at0 Q i + g) rfl rfl rfl ni (by decide) rfl (by exact ofa i) ?_; conv => whnf) | (refine VLd.recc (l := Q.set i (at0 Q i + g)) Vm.encI_len k 0 rfl rfl rfl nk (by decide) rfl (by exact ofa k) ?_; conv => whnf) | (refine VMem.setRec (l := Q.set i (at0 Q i + g)) Vm.encI_len k 0 (at0 (Q.set i (at0 Q i + g)) k - g) rfl rfl rfl nk (by decide) rfl (by exact ofa k) ?_; conv => whnf))
              refine LEnd.intro (k + 1) (by omega) (by omega) ?_
              rw [hstep]
              conv => whnf
              refine Retell.turn ⟨[0], 9, [], []⟩ (TurnOk.mk' _ _ [] [] (OutOk.lift _) rfl (by decide) zb trivial trivial rfl) zw zm
            · clear hik
              conv => whnf
              repeat' (first | ((first | refine zs1 ?_ | refine zs2 ?_ | refine zs3 ?_ | refine zs4 ?_ | refine zs5 ?_); conv => whnf) | ((first | apply zi1 | apply zi2 | apply zi3 | apply zi4 | apply zi5) <;> intro _ <;> first | (exfalso; omega) | contradiction | (conv => whnf)))
              refine VCut.block 99 ?_
              conv => whnf
              repeat' (first | ((first | refine zs1 ?_ | refine zs2 ?_ | refine zs3 ?_ | refine zs4 ?_ | refine zs5 ?_); conv => whnf) | ((first | apply zi1 | apply zi2 | apply zi3 | apply zi4 | apply zi5) <;> intro _ <;> first | (exfalso; omega) | contradiction | (conv => whnf)) | (refine VAny.intro (v := .fp ((G.drop (4 * i)).flatMap Vm.encI)) ⟨by omega, _, [], d1, rfl⟩ ?_; conv => whnf) | (refine VAny.intro (v := .fp [DI (g)]) ⟨by omega, [DI (g)], _, d2, rfl⟩ ?_; conv => whnf) | (refine VLd.recc Vm.encI_len i 0 rfl rfl rfl ni (by decide) rfl (by exact ofa i) ?_; conv => whnf) | (refine VMem.setRec Vm.encI_len i 0 (at0 Q i + g) rfl rfl rfl ni (by decide) rfl (by exact ofa i) ?_; conv => whnf) | (refine VLd.recc (l := Q.set i (at0 Q i + g)) Vm.encI_len k 0 rfl rfl rfl nk (by decide) rfl (by exact ofa k) ?_; conv => whnf) | (refine VMem.setRec (l := Q.set i (at0 Q i + g)) Vm.encI_len k 0 (at0 (Q.set i (at0 Q i + g)) k - g) rfl rfl rfl nk (by decide) rfl (by exact ofa k) ?_; conv => whnf))
              refine zs6 [] ?_
              conv => whnf
              repeat' (first | ((first | refine zs1 ?_ | refine zs2 ?_ | refine zs3 ?_ | refine zs4 ?_ | refine zs5 ?_); conv => whnf) | ((first | apply zi1 | apply zi2 | apply zi3 | apply zi4 | apply zi5) <;> intro _ <;> first | (exfalso; omega) | contradiction | (conv => whnf)) | (refine VAny.intro (v := .fp ((G.drop (4 * i)).flatMap Vm.encI)) ⟨by omega, _, [], d1, rfl⟩ ?_; conv => whnf) | (refine VAny.intro (v := .fp [DI (g)]) ⟨by omega, [DI (g)], _, d2, rfl⟩ ?_; conv => whnf) | (refine VLd.recc Vm.encI_len i 0 rfl rfl rfl ni (by decide) rfl (by exact ofa i) ?_; conv => whnf) | (refine VMem.setRec Vm.encI_len i 0 (at0 Q i + g) rfl rfl rfl ni (by decide) rfl (by exact ofa i) ?_; conv => whnf) | (refine VLd.recc (l := Q.set i (at0 Q i + g)) Vm.encI_len k 0 rfl rfl rfl nk (by decide) rfl (by exact ofa k) ?_; conv => whnf) | (refine VMem.setRec (l := Q.set i (at0 Q i + g)) Vm.encI_len k 0 (at0 (Q.set i (at0 Q i + g)) k - g) rfl rfl rfl nk (by decide) rfl (by exact ofa k) ?_; conv => whnf))
              refine zs6 [] ?_
              conv => whnf
              repeat' (first | ((first | refine zs1 ?_ | refine zs2 ?_ | refine zs3 ?_ | refine zs4 ?_ | refine zs5 ?_); conv => whnf) | ((first | apply zi1 | apply zi2 | apply zi3 | apply zi4 | apply zi5) <;> intro _ <;> first | (exfalso; omega) | contradiction | (conv => whnf)) | (refine VAny.intro (v := .fp ((G.drop (4 * i)).flatMap Vm.encI)) ⟨by omega, _, [], d1, rfl⟩ ?_; conv => whnf) | (refine VAny.intro (v := .fp [DI (g)]) ⟨by omega, [DI (g)], _, d2, rfl⟩ ?_; conv => whnf) | (refine VLd.recc Vm.encI_len i 0 rfl rfl rfl ni (by decide) rfl (by exact ofa i) ?_; conv => whnf) | (refine VMem.setRec Vm.encI_len i 0 (at0 Q i + g) rfl rfl rfl ni (by decide) rfl (by exact ofa i) ?_; conv => whnf) | (refine VLd.recc (l := Q.set i (at0 Q i + g)) Vm.encI_len k 0 rfl rfl rfl nk (by decide) rfl (by exact ofa k) ?_; conv => whnf) | (refine VMem.setRec (l := Q.set i (at0 Q i + g)) Vm.encI_len k 0 (at0 (Q.set i (at0 Q i + g)) k - g) rfl rfl rfl nk (by decide) rfl (by exact ofa k) ?_; conv => whnf))
              refine LEnd.intro (k + 1) (by omega) (by omega) ?_
              rw [hstep]
              conv => whnf
              refine Retell.turn ⟨[0], 9, [], []⟩ (TurnOk.mk' _ _ [] [] (OutOk.lift _) rfl (by decide) zb trivial trivial rfl) zw zm
          · obtain rfl : k = 4 := by omega
            conv => whnf
            repeat' (first | ((first | refine zs1 ?_ | refine zs2 ?_ | refine zs3 ?_ | refine zs4 ?_ | refine zs5 ?_); conv => whnf) | ((first | apply zi1 | apply zi2 | apply zi3 | apply zi4 | apply zi5) <;> intro _ <;> first | (exfalso; omega) | contradiction | (conv => whnf)))
            refine LEnd.intro (i + 1) (by omega) (by omega) ?_
            rw [show 4 * (i + 1) = 4 * i + 4 by omega]
            conv => whnf
            refine Retell.turn ⟨[0], 9, [], []⟩ (TurnOk.mk' _ _ [] [] (OutOk.lift _) rfl (by decide) zb trivial trivial rfl) zw zm
        · obtain rfl : i = 4 := by omega
          rw [show P (4 * 4) = [0, 0, 0, 0] from hfin]
          conv => whnf
          repeat' (first | ((first | refine zs1 ?_ | refine zs2 ?_ | refine zs3 ?_ | refine zs4 ?_ | refine zs5 ?_); conv => whnf) | ((first | apply zi1 | apply zi2 | apply zi3 | apply zi4 | apply zi5) <;> intro _ <;> first | (exfalso; omega) | contradiction | (conv => whnf)))
          refine VCut.at' (outer := h.lift) (marks := []) 1 [(7, yrs M), (8, I s), (9, I cell), (14, I la), (16, intss (ownY W L s)), (21, .ptr (.loc 0) 0)] [.flat true [DI 0, DI 0, DI 0, DI 0]] ?_ ?_
          · conv => whnf
            refine Retell.turn ⟨[0], 9, [], []⟩ (TurnOk.mk' _ _ [] [] (OutOk.lift _) rfl (by decide) zb trivial trivial rfl) zw zm
          have hla : la = -1 ∨ (1 ≤ la ∧ la < L.length) := by
            rcases hlsk with ⟨g1, _⟩ | ⟨k, g1, g2, _⟩
            · exact .inl g1
            · exact .inr (by omega)
          have f8 : ∀ z, z < L.length - 1 → ((la = (z : Int) + 1 → at0 (owns (lawAt W L s (z + 1)) W) cell ≠ at0 (owns (lawAt W L s z) W) cell) ∧ (la < (z : Int) + 1 → at0 (owns (lawAt W L s (z + 1)) W) cell = at0 (owns (lawAt W L s z) W) cell)) := by
            intro z hz
            rcases hlsk with ⟨g1, g2⟩ | ⟨k, g1, g2, g3, g4⟩
            · exact ⟨fun e => by omega, fun _ => g2 z hz⟩
            · refine ⟨fun e => ?_, fun e => g4 z (by omega) hz⟩
              have : z = k := by omega
              rw [this]; exact g3
          clear hlsk hfin hPl hPb hPs hP0 hdg gB gl xo0 a1 a2 b2 bO
          apply sufficesL
          · intro hrest
            conv => whnf
            repeat' (first | ((first | refine zs1 ?_ | refine zs2 ?_ | refine zs3 ?_ | refine zs4 ?_ | refine zs5 ?_); conv => whnf) | ((first | apply zi1 | apply zi2 | apply zi3 | apply zi4 | apply zi5) <;> intro _ <;> first | (exfalso; omega) | contradiction | (conv => whnf)) | (refine VAgg.intro neq53 ?_; conv => whnf))
            all_goals (
              refine VCut.at' (outer := h.lift) (marks := []) 2 [(7, yrs M), (8, I s), (9, I cell), (16, intss (ownY W L s)), (14, I la)] [] ?_ hrest.out
              conv => whnf
              refine Retell.turn ⟨[], 9, [], []⟩ (TurnOk.mk' _ _ [] [] (OutOk.lift _) rfl (by decide) zb trivial trivial rfl) zw zm)
          conv => whnf
          repeat' (first | ((first | refine zs1 ?_ | refine zs2 ?_ | refine zs3 ?_ | refine zs4 ?_ | refine zs5 ?_); conv => whnf) | ((first | apply zi1 | apply zi2 | apply zi3 | apply zi4 | apply zi5) <;> intro _ <;> first | (exfalso; omega) | contradiction | (conv => whnf)))
          refine VCode.lpC (outer := h.lift) (marks := []) 2 (fun z : Nat => [(7, yrs M), (8, I s), (9, I cell), (16, intss (ownY W L s)), (14, I la), (27, I ((z : Int) + 1))]) (fun _ => []) (fun z => z ≤ L.length - 1) (fun z => L.length - 1 - z) 0 (Nat.zero_le _) ?_ ?_
          · conv => whnf
            refine Retell.turn ⟨[], 9, [], []⟩ (TurnOk.mk' _ _ [] [] (OutOk.lift _) rfl (by decide) zb trivial trivial rfl) zw zm
          · rintro z hz
            rcases Nat.lt_or_ge z (L.length - 1) with h5 | h5
            · obtain ⟨f9, f10⟩ := f8 z h5
              have xz1 := xO (z + 1) (by omega)
              have xz := xO z (by omega)
              have l1 := lO (z + 1) (by omega)
              have l2 := lO z (by omega)
              generalize owns (lawAt W L s (z + 1)) W = o1 at *
              generalize owns (lawAt W L s z) W = o2 at *
              have c1 := at0_get (l := o1) (n := cell) (by omega)
              have c2 := at0_get (l := o2) (n := cell) (by omega)
              generalize at0 o1 cell = u at *
              generalize at0 o2 cell = v at *
              by_cases e : u = v
              · have f11 : ¬ la = (z : Int) + 1 := fun g => f9 g e
                clear f9 f10
                subst e
                conv => whnf
                repeat' (first | ((first | refine zs1 ?_ | refine zs2 ?_ | refine zs3 ?_ | refine zs4 ?_ | refine zs5 ?_); conv => whnf) | ((first | apply zi1 | apply zi2 | apply zi3 | apply zi4 | apply zi5) <;> intro _ <;> first | (exfalso; omega) | contradiction | (conv => whnf)))
                refine zs6 [] ?_
                conv => whnf
                repeat' (first | ((first | refine zs1 ?_ | refine zs2 ?_ | refine zs3 ?_ | refine zs4 ?_ | refine zs5 ?_); conv => whnf) | ((first | apply zi1 | apply zi2 | apply zi3 | apply zi4 | apply zi5) <;> intro _ <;> first | (exfalso; omega) | contradiction | (conv => whnf)) | (refine VAny.ix encL_len (z + 1) (by omega) rfl xz1 ?_; conv => whnf) | (refine VAny.ix encL_len z (by omega) rfl xz ?_; conv => whnf) | (refine VAny.ix Vm.encI_len cell rfl (by omega) c1 ?_; conv => whnf) | (refine VAny.ix Vm.encI_len cell rfl (by omega) c2 ?_; conv => whnf))
                all_goals try (exfalso; rename_i hh; simp at hh; done)
                all_goals (
                  refine VCut.at' (outer := h.lift) (marks := []) 99 [(7, yrs M), (8, I s), (9, I cell), (16, intss (ownY W L s)), (14, I la), (27, I ((z : Int) + 1))] [] ?_ ?_
                  · conv => whnf
                    refine Retell.turn ⟨[], 9, [], []⟩ (TurnOk.mk' _ _ [] [] (OutOk.lift _) rfl (by decide) zb trivial trivial rfl) zw zm
                  conv => whnf
                  repeat' (first | ((first | refine zs1 ?_ | refine zs2 ?_ | refine zs3 ?_ | refine zs4 ?_ | refine zs5 ?_); conv => whnf) | ((first | apply zi1 | apply zi2 | apply zi3 | apply zi4 | apply zi5) <;> intro _ <;> first | (exfalso; omega) | contradiction | (conv => whnf)))
                  refine LEnd.intro (z + 1) (by omega) (by omega) ?_
                  conv => whnf
                  refine Retell.turn ⟨[], 9, [], []⟩ (TurnOk.mk' _ _ [] [] (OutOk.lift _) rfl (by decide) zb trivial trivial rfl) zw zm)
              · have f11 : ¬ la < (z : Int) + 1 := fun g => e (f10 g)
                clear f9 f10
                conv => whnf
                repeat' (first | ((first | refine zs1 ?_ | refine zs2 ?_ | refine zs3 ?_ | refine zs4 ?_ | refine zs5 ?_); conv => whnf) | ((first | apply zi1 | apply zi2 | apply zi3 | apply zi4 | apply zi5) <;> intro _ <;> first | (exfalso; omega) | contradiction | (conv => whnf)))
                refine zs6 [] ?_
                conv => whnf
                repeat' (first | ((first | refine zs1 ?_ | refine zs2 ?_ | refine zs3 ?_ | refine zs4 ?_ | refine zs5 ?_); conv => whnf) | ((first | apply zi1 | apply zi2 | apply zi3 | apply zi4 | apply zi5) <;> intro _ <;> first | (exfalso; omega) | contradiction | (conv => whnf)) | (refine VAny.ix encL_len (z + 1) (by omega) rfl xz1 ?_; conv => whnf) | (refine VAny.ix encL_len z (by omega) rfl xz ?_; conv => whnf) | (refine VAny.ix Vm.encI_len cell rfl (by omega) c1 ?_; conv => whnf) | (refine VAny.ix Vm.encI_len cell rfl (by omega) c2 ?_; conv => whnf))
                all_goals try (exfalso; rename_i hh; simp [e] at hh; done)
                all_goals (
                  refine VCut.at' (outer := h.lift) (marks := []) 99 [(7, yrs M), (8, I s), (9, I cell), (16, intss (ownY W L s)), (14, I la), (27, I ((z : Int) + 1))] [] ?_ ?_
                  · conv => whnf
                    refine Retell.turn ⟨[], 9, [], []⟩ (TurnOk.mk' _ _ [] [] (OutOk.lift _) rfl (by decide) zb trivial trivial rfl) zw zm
                  conv => whnf
                  repeat' (first | ((first | refine zs1 ?_ | refine zs2 ?_ | refine zs3 ?_ | refine zs4 ?_ | refine zs5 ?_); conv => whnf) | ((first | apply zi1 | apply zi2 | apply zi3 | apply zi4 | apply zi5) <;> intro _ <;> first | (exfalso; omega) | contradiction | (conv => whnf)))
                  refine LEnd.intro (z + 1) (by omega) (by omega) ?_
                  conv => whnf
                  refine Retell.turn ⟨[], 9, [], []⟩ (TurnOk.mk' _ _ [] [] (OutOk.lift _) rfl (by decide) zb trivial trivial rfl) zw zm)
            · obtain rfl : z = L.length - 1 := by omega
              conv => whnf
              repeat' (first | ((first | refine zs1 ?_ | refine zs2 ?_ | refine zs3 ?_ | refine zs4 ?_ | refine zs5 ?_); conv => whnf) | ((first | apply zi1 | apply zi2 | apply zi3 | apply zi4 | apply zi5) <;> intro _ <;> first | (exfalso; omega) | contradiction | (conv => whnf)))
              refine VCut.at' (outer := h.lift) (marks := []) 99 [(7, yrs M), (8, I s), (9, I cell), (16, intss (ownY W L s)), (29, I 0)] [] ?_ ?_
              · conv => whnf
                refine Retell.turn ⟨[], 9, [], []⟩ (TurnOk.mk' _ _ [] [] (OutOk.lift _) rfl (by decide) zb trivial trivial rfl) zw zm
              clear f8 hla
              conv => whnf
              repeat' (first | ((first | refine zs1 ?_ | refine zs2 ?_ | refine zs3 ?_ | refine zs4 ?_ | refine zs5 ?_); conv => whnf) | ((first | apply zi1 | apply zi2 | apply zi3 | apply zi4 | apply zi5) <;> intro _ <;> first | (exfalso; omega) | contradiction | (conv => whnf)))
              refine VCode.lpC (outer := h.lift) (marks := []) 2 (fun o : Nat => [(7, yrs M), (8, I s), (9, I cell), (16, intss (ownY W L s)), (29, I (covK (slP W L cell) o)), (258, I o)]) (fun _ => []) (fun o => o ≤ 4) (fun o => 4 - o) 0 (Nat.zero_le _) ?_ ?_
              · rw [show covK (slP W L cell) 0 = 0 from rfl]
                conv => whnf
                refine Retell.turn ⟨[], 9, [], []⟩ (TurnOk.mk' _ _ [] [] (OutOk.lift _) rfl (by decide) zb trivial trivial rfl) zw zm
              rintro o ho
              have cb := covK_bd (slP W L cell) o
              rcases Nat.lt_or_ge o 4 with h6 | h6
              · have cSo := cSl (o : Int) (by omega)
                have sp := spf_ok (slP W L cell o)
                have cvs : covK (slP W L cell) (o + 1) = covK (slP W L cell) o + cntP (slP W L cell o) 145 := rfl
                have hps : slP W L cell o s = decide (at0 (owns (lawAt W L s (L.length - 1)) W) cell = (o : Int)) := rfl
                rw [hOB] at hps
                obtain ⟨s1, s2, s3, s4, s5, s6⟩ := sp
                have s6 := s6 s hsb.1 hsb.2
                rw [hps] at s6
                rw [← s5] at cvs
                generalize (rseg (slP W L cell o) 0 145 ([], false)).1 = Sp at *
                generalize covK (slP W L cell) o = cv at *
                have c1 := at0_get (l := Bw) (n := cell) (by omega)
                generalize at0 Bw cell = u at *
                conv => whnf
                repeat' (first | ((first | refine zs1 ?_ | refine zs2 ?_ | refine zs3 ?_ | refine zs4 ?_ | refine zs5 ?_); conv => whnf) | ((first | apply zi1 | apply zi2 | apply zi3 | apply zi4 | apply zi5) <;> intro _ <;> first | (exfalso; omega) | contradiction | (conv => whnf)))
                refine VCut.block 2 ?_
                conv => whnf
                repeat' (first | ((first | refine zs1 ?_ | refine zs2 ?_ | refine zs3 ?_ | refine zs4 ?_ | refine zs5 ?_); conv => whnf) | ((first | apply zi1 | apply zi2 | apply zi3 | apply zi4 | apply zi5) <;> intro _ <;> first | (exfalso; omega) | contradiction | (conv => whnf)) | (refine VCall.intro (cSo _) ?_; conv => whnf))
                refine VCut.at' (outer := h.lift) (marks := []) 2 [(7, yrs M), (8, I s), (9, I cell), (16, intss (ownY W L s)), (29, I cv), (258, I o), (30, I o), (31, spans Sp), (32, I 0)] [] ?_ ?_
                · conv => whnf
                  refine Retell.turn ⟨[], 9, [], []⟩ (TurnOk.mk' _ _ [] [] (OutOk.lift _) rfl (by decide) zb trivial trivial rfl) zw zm
                conv => whnf
                repeat' (first | ((first | refine zs1 ?_ | refine zs2 ?_ | refine zs3 ?_ | refine zs4 ?_ | refine zs5 ?_); conv => whnf) | ((first | apply zi1 | apply zi2 | apply zi3 | apply zi4 | apply zi5) <;> intro _ <;> first | (exfalso; omega) | contradiction | (conv => whnf)))
                refine VCut.at' (outer := h.lift) (marks := []) 1 [(7, yrs M), (8, I s), (9, I cell), (16, intss (ownY W L s)), (258, I o), (30, I o), (31, spans Sp), (29, I cv), (33, B false)] [] ?_ ?_
                · conv => whnf
                  refine Retell.turn ⟨[], 9, [], []⟩ (TurnOk.mk' _ _ [] [] (OutOk.lift _) rfl (by decide) zb trivial trivial rfl) zw zm
                conv => whnf
                repeat' (first | ((first | refine zs1 ?_ | refine zs2 ?_ | refine zs3 ?_ | refine zs4 ?_ | refine zs5 ?_); conv => whnf) | ((first | apply zi1 | apply zi2 | apply zi3 | apply zi4 | apply zi5) <;> intro _ <;> first | (exfalso; omega) | contradiction | (conv => whnf)))
                refine VCode.lpC (outer := h.lift) (marks := []) 2 (fun k : Nat => [(7, yrs M), (8, I s), (9, I cell), (16, intss (ownY W L s)), (258, I o), (30, I o), (31, spans Sp), (270, spans Sp), (271, I Sp.length), (272, I k), (29, I (cv + lenS (Sp.take k))), (33, B (inS Sp k s))]) (fun _ => []) (fun k => k ≤ Sp.length) (fun k => Sp.length - k) 0 (Nat.zero_le _) ?_ ?_
                · rw [show lenS (Sp.take 0) = 0 from rfl, show inS Sp 0 s = false from rfl, Int.add_zero]
                  conv => whnf
                  refine Retell.turn ⟨[], 9, [], []⟩ (TurnOk.mk' _ _ [] [] (OutOk.lift _) rfl (by decide) zb trivial trivial rfl) zw zm
                rintro k hk
                have s4k := s4 k hk
                rcases Nat.lt_or_ge k Sp.length with h7 | h7
                · have xk : Sp[k]? = some Sp[k] := List.getElem?_eq_getElem h7
                  have bk := s1 k _ xk
                  have hln := lenS_take xk
                  have hin := inS_succ xk s
                  have sepk := fun j (hj : k = j + 1) => s2 j _ _ (List.getElem?_eq_getElem (by omega)) (by rw [← hj]; exact xk)
                  generalize Sp[k] = x at *
                  obtain ⟨lo, hi⟩ := x
                  dsimp only at bk hln hin sepk
                  conv => whnf
                  repeat' (first | ((first | refine zs1 ?_ | refine zs2 ?_ | refine zs3 ?_ | refine zs4 ?_ | refine zs5 ?_); conv => whnf) | ((first | apply zi1 | apply zi2 | apply zi3 | apply zi4 | apply zi5) <;> intro _ <;> first | (exfalso; omega) | contradiction | (conv => whnf)))
                  refine VCut.block 1 ?_
                  conv => whnf
                  repeat' (first | ((first | refine zs1 ?_ | refine zs2 ?_ | refine zs3 ?_ | refine zs4 ?_ | refine zs5 ?_); conv => whnf) | ((first | apply zi1 | apply zi2 | apply zi3 | apply zi4 | apply zi5) <;> intro _ <;> first | (exfalso; omega) | contradiction | (conv => whnf)) | (refine VAny.ix encS_len k rfl rfl xk ?_; conv => whnf))
                  apply sufficesL
                  · intro hrest
                    refine VCut.at' (outer := h.lift) (marks := []) 1 [(7, yrs M), (8, I s), (9, I cell), (16, intss (ownY W L s)), (258, I o), (30, I o), (31, spans Sp), (270, spans Sp), (271, I Sp.length), (272, I k), (29, I (cv + lenS (Sp.take k))), (33, B (inS Sp k s)), (34, I k), (35, .fp [DI lo, DI hi])] [] ?_ ?_
                    · conv => whnf
                      refine Retell.turn ⟨[], 9, [(0, [DI lo, DI hi])], []⟩ (TurnOk.mk' _ _ [(0, [DI lo, DI hi])] [] (OutOk.lift _) rfl (by decide) zb zf trivial rfl) zw zm
                    conv => whnf
                    rcases Nat.eq_zero_or_pos k with hz2 | hz2
                    · have hz3 : (k : Int) = 0 := by omega
                      repeat' (first | ((first | refine zs1 ?_ | refine zs2 ?_ | refine zs3 ?_ | refine zs4 ?_ | refine zs5 ?_); conv => whnf) | ((first | apply zi1 | apply zi2 | apply zi3 | apply zi4 | apply zi5) <;> intro _ <;> first | (exfalso; omega) | contradiction | (conv => whnf)))
                      refine zs6 [] ?_
                      conv => whnf
                      repeat' (first | ((first | refine zs1 ?_ | refine zs2 ?_ | refine zs3 ?_ | refine zs4 ?_ | refine zs5 ?_); conv => whnf) | ((first | apply zi1 | apply zi2 | apply zi3 | apply zi4 | apply zi5) <;> intro _ <;> first | (exfalso; omega) | contradiction | (conv => whnf)))
                      refine VCut.at' (outer := h.lift) (marks := []) 99 [(7, yrs M), (8, I s), (9, I cell), (16, intss (ownY W L s)), (258, I o), (30, I o), (31, spans Sp), (270, spans Sp), (271, I Sp.length), (272, I k), (29, I (cv + lenS (Sp.take k))), (33, B (inS Sp k s)), (34, I k), (35, .fp [DI lo, DI hi])] [] ?_ hrest.out
                      conv => whnf
                      refine Retell.turn ⟨[], 9, [], []⟩ (TurnOk.mk' _ _ [] [] (OutOk.lift _) rfl (by decide) zb trivial trivial rfl) zw zm
                    · obtain ⟨j, hj⟩ : ∃ j, k = j + 1 := ⟨k - 1, by omega⟩
                      have xj : Sp[j]? = some (Sp[j]'(by omega)) := List.getElem?_eq_getElem (by omega)
                      have sj := sepk j hj
                      have bj := s1 j _ xj
                      generalize Sp[j]'(by omega) = y2 at *
                      try dsimp only at sj
                      repeat' (first | ((first | refine zs1 ?_ | refine zs2 ?_ | refine zs3 ?_ | refine zs4 ?_ | refine zs5 ?_); conv => whnf) | ((first | apply zi1 | apply zi2 | apply zi3 | apply zi4 | apply zi5) <;> intro _ <;> first | (exfalso; omega) | contradiction | (conv => whnf)))
                      refine zs6 [] ?_
                      conv => whnf
                      repeat' (first | ((first | refine zs1 ?_ | refine zs2 ?_ | refine zs3 ?_ | refine zs4 ?_ | refine zs5 ?_); conv => whnf) | ((first | apply zi1 | apply zi2 | apply zi3 | apply zi4 | apply zi5) <;> intro _ <;> first | (exfalso; omega) | contradiction | (conv => whnf)) | (refine VAny.ix encS_len j (by omega) rfl xj ?_; conv => whnf))
                      refine VCut.at' (outer := h.lift) (marks := []) 99 [(7, yrs M), (8, I s), (9, I cell), (16, intss (ownY W L s)), (258, I o), (30, I o), (31, spans Sp), (270, spans Sp), (271, I Sp.length), (272, I k), (29, I (cv + lenS (Sp.take k))), (33, B (inS Sp k s)), (34, I k), (35, .fp [DI lo, DI hi])] [] ?_ hrest.out
                      conv => whnf
                      refine Retell.turn ⟨[], 9, [], []⟩ (TurnOk.mk' _ _ [] [] (OutOk.lift _) rfl (by decide) zb trivial trivial rfl) zw zm
                  clear sepk
                  cases hi1 : inS Sp k s
                  · rw [hi1, Bool.false_or] at hin
                    by_cases g1 : lo ≤ s
                    · rw [decide_eq_true g1, Bool.true_and] at hin
                      by_cases g2 : s ≤ hi
                      · rw [decide_eq_true g2] at hin
                        conv => whnf
                        repeat' (first | ((first | refine zs1 ?_ | refine zs2 ?_ | refine zs3 ?_ | refine zs4 ?_ | refine zs5 ?_); conv => whnf) | ((first | apply zi1 | apply zi2 | apply zi3 | apply zi4 | apply zi5) <;> intro _ <;> first | (exfalso; omega) | contradiction | (conv => whnf)))
                        refine LEnd.intro (k + 1) (by omega) (by omega) ?_
                        rw [hln, hin]
                        conv => whnf
                        refine Retell.turn ⟨[], 9, [], []⟩ (TurnOk.mk' _ _ [] [] (OutOk.lift _) rfl (by decide) zb trivial trivial rfl) zw zm
                      · rw [decide_eq_false g2] at hin
                        conv => whnf
                        repeat' (first | ((first | refine zs1 ?_ | refine zs2 ?_ | refine zs3 ?_ | refine zs4 ?_ | refine zs5 ?_); conv => whnf) | ((first | apply zi1 | apply zi2 | apply zi3 | apply zi4 | apply zi5) <;> intro _ <;> first | (exfalso; omega) | contradiction | (conv => whnf)))
                        refine LEnd.intro (k + 1) (by omega) (by omega) ?_
                        rw [hln, hin]
                        conv => whnf
                        refine Retell.turn ⟨[], 9, [], []⟩ (TurnOk.mk' _ _ [] [] (OutOk.lift _) rfl (by decide) zb trivial trivial rfl) zw zm
                    · rw [decide_eq_false g1, Bool.false_and] at hin
                      conv => whnf
                      repeat' (first | ((first | refine zs1 ?_ | refine zs2 ?_ | refine zs3 ?_ | refine zs4 ?_ | refine zs5 ?_); conv => whnf) | ((first | apply zi1 | apply zi2 | apply zi3 | apply zi4 | apply zi5) <;> intro _ <;> first | (exfalso; omega) | contradiction | (conv => whnf)))
                      refine LEnd.intro (k + 1) (by omega) (by omega) ?_
                      rw [hln, hin]
                      conv => whnf
                      refine Retell.turn ⟨[], 9, [], []⟩ (TurnOk.mk' _ _ [] [] (OutOk.lift _) rfl (by decide) zb trivial trivial rfl) zw zm
                  · rw [hi1, Bool.true_or] at hin
                    conv => whnf
                    repeat' (first | ((first | refine zs1 ?_ | refine zs2 ?_ | refine zs3 ?_ | refine zs4 ?_ | refine zs5 ?_); conv => whnf) | ((first | apply zi1 | apply zi2 | apply zi3 | apply zi4 | apply zi5) <;> intro _ <;> first | (exfalso; omega) | contradiction | (conv => whnf)))
                    refine LEnd.intro (k + 1) (by omega) (by omega) ?_
                    rw [hln, hin]
                    conv => whnf
                    refine Retell.turn ⟨[], 9, [], []⟩ (TurnOk.mk' _ _ [] [] (OutOk.lift _) rfl (by decide) zb trivial trivial rfl) zw zm
                · obtain rfl : k = Sp.length := by omega
                  rw [s6]
                  conv => whnf
                  repeat' (first | ((first | refine zs1 ?_ | refine zs2 ?_ | refine zs3 ?_ | refine zs4 ?_ | refine zs5 ?_); conv => whnf) | ((first | apply zi1 | apply zi2 | apply zi3 | apply zi4 | apply zi5) <;> intro _ <;> first | (exfalso; omega) | contradiction | (conv => whnf)))
                  have cb2 := s4 _ (Nat.le_refl _)
                  have xoN2 := xoN
                  by_cases g1 : u = (o : Int)
                  · rw [decide_eq_true g1]
                    refine VCut.at' (outer := h.lift) (marks := []) 99 [(7, yrs M), (8, I s), (9, I cell), (16, intss (ownY W L s)), (258, I o), (30, I o), (29, I (covK (slP W L cell) (o + 1))), (33, B true)] [] ?_ ?_
                    · rw [cvs]
                      conv => whnf
                      refine Retell.turn ⟨[], 9, [], []⟩ (TurnOk.mk' _ _ [] [] (OutOk.lift _) rfl (by decide) zb trivial trivial rfl) zw zm
                    conv => whnf
                    repeat' (first | ((first | refine zs1 ?_ | refine zs2 ?_ | refine zs3 ?_ | refine zs4 ?_ | refine zs5 ?_); conv => whnf) | ((first | apply zi1 | apply zi2 | apply zi3 | apply zi4 | apply zi5) <;> intro _ <;> first | (exfalso; omega) | contradiction | (conv => whnf)) | (refine VAny.ix encL_len (L.length - 1) (by omega) rfl xoN ?_; conv => whnf) | (refine VAny.ix Vm.encI_len cell rfl (by omega) c1 ?_; conv => whnf))
                    all_goals try (exfalso; rename_i hh; simp [g1] at hh; done)
                    refine LEnd.intro (o + 1) (by omega) (by omega) ?_
                    conv => whnf
                    refine Retell.turn ⟨[], 9, [], []⟩ (TurnOk.mk' _ _ [] [] (OutOk.lift _) rfl (by decide) zb trivial trivial rfl) zw zm
                  · rw [decide_eq_false g1]
                    refine VCut.at' (outer := h.lift) (marks := []) 99 [(7, yrs M), (8, I s), (9, I cell), (16, intss (ownY W L s)), (258, I o), (30, I o), (29, I (covK (slP W L cell) (o + 1))), (33, B false)] [] ?_ ?_
                    · rw [cvs]
                      conv => whnf
                      refine Retell.turn ⟨[], 9, [], []⟩ (TurnOk.mk' _ _ [] [] (OutOk.lift _) rfl (by decide) zb trivial trivial rfl) zw zm
                    conv => whnf
                    repeat' (first | ((first | refine zs1 ?_ | refine zs2 ?_ | refine zs3 ?_ | refine zs4 ?_ | refine zs5 ?_); conv => whnf) | ((first | apply zi1 | apply zi2 | apply zi3 | apply zi4 | apply zi5) <;> intro _ <;> first | (exfalso; omega) | contradiction | (conv => whnf)) | (refine VAny.ix encL_len (L.length - 1) (by omega) rfl xoN ?_; conv => whnf) | (refine VAny.ix Vm.encI_len cell rfl (by omega) c1 ?_; conv => whnf))
                    all_goals try (exfalso; rename_i hh; simp [g1] at hh; done)
                    refine LEnd.intro (o + 1) (by omega) (by omega) ?_
                    conv => whnf
                    refine Retell.turn ⟨[], 9, [], []⟩ (TurnOk.mk' _ _ [] [] (OutOk.lift _) rfl (by decide) zb trivial trivial rfl) zw zm
              · obtain rfl : o = 4 := by omega
                have hc4 : covK (slP W L cell) 4 = 145 := by
                  show 0 + cntP (slP W L cell 0) 145 + cntP (slP W L cell 1) 145 + cntP (slP W L cell 2) 145 + cntP (slP W L cell 3) 145 = 145
                  rw [Int.zero_add]
                  exact hcov
                rw [hc4]
                conv => whnf
                repeat' (first | ((first | refine zs1 ?_ | refine zs2 ?_ | refine zs3 ?_ | refine zs4 ?_ | refine zs5 ?_); conv => whnf) | ((first | apply zi1 | apply zi2 | apply zi3 | apply zi4 | apply zi5) <;> intro _ <;> first | (exfalso; omega) | contradiction | (conv => whnf)) | (refine VCall.intro (cA _) ?_; conv => whnf))
                exact VOut.same rfl
end Go.Proofs.Ytkbbfeljlepgoaa


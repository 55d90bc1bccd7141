/- Part 2 of the proof that what is gained is what is lost, and each number belongs to one owner alone. No condition. -/
import Derived.Test.YtkbbfeljlepgoaaGa1
set_option linter.unusedVariables false
set_option linter.unusedSimpArgs false
open Go.Vm
open Riv
namespace Go.Proofs.Ytkbbfeljlepgoaa
set_option maxRecDepth 20000
set_option maxHeartbeats 4000000

structure HoldL (R : Prop) : Prop where
  out : R
theorem sufficesL {R G : Prop} (main : HoldL R → G) (rest : R) : G := main ⟨rest⟩
theorem vc_Later {W H : Nat} (bs : List Int) (d : Dk) (c : List Int) (i : Vm.Id) (h : Hp) (o : MOk W H c) (hN : d.1 ≤ 900000) (hd : h.get i = some (deckB bs d)) :
    VC Try.prog 55 [.ptr i 0, vM ⟨W, H, c⟩] h (vM ⟨W, H, (laterX (dNx bs) W d c).2⟩) (h.set i (deckB bs (laterX (dNx bs) W d c).1)) := by
  have hm := MOk.le o
  have hW := o.w
  have n1 := (dealt bs).n d 4
  have n2 := (dealt bs).lo d 4
  have n3 := (dealt bs).hi d 4 (by decide)
  have g1 := fun (h2 : Hp) hg => vc_draw bs d 4 (.out i) h2 (by omega) hg
  have hT := fun k => ltrs_ok (dealt bs) (x := ((dNx bs d 4).2, c)) o k
  have hTs : ∀ k, ltrs (dNx bs) W ((dNx bs d 4).2, c) (k + 1) = ltr (dNx bs) W (ltrs (dNx bs) W ((dNx bs d 4).2, c) k) := fun k => rfl
  have hT0 : ltrs (dNx bs) W ((dNx bs d 4).2, c) 0 = ((dNx bs d 4).2, c) := rfl
  have hX : laterX (dNx bs) W d c = ltrs (dNx bs) W ((dNx bs d 4).2, c) (dNx bs d 4).1.toNat := rfl
  rw [hX]
  have c2 : ∀ h : Hp, VC Try.prog 13 [.agg [I W, I H, ints c]] h (.agg [I W, I H, .gl h.fresh 1 c.length]) (h.push (.flat true (c.flatMap Vm.encI))) := fun h => vc_CloneMapO ⟨W, H, c⟩ h (by show c.length ≤ _; omega)
  dsimp only at hT
  generalize dNx bs d 4 = q1 at *
  obtain ⟨n, hn⟩ : ∃ n : Nat, q1.1 = n := ⟨q1.1.toNat, by omega⟩
  rw [hn] at g1 ⊢
  rw [Int.toNat_natCast]
  generalize ltrs (dNx bs) W (q1.2, c) = X at *
  show VC Try.prog 55 [.ptr i 0, .agg [I W, I H, ints c]] h _ _
  refine VC.bodyC 2 Try.func55 rfl Try.ntmps55 Try.call55 (h.grows_set _ _) rfl ?_
  conv => whnf
  repeat' (first | ((first | refine zs1 ?_ | refine zs2 ?_ | refine zs3 ?_ | refine zs4 ?_ | refine zs5 ?_); conv => whnf) | ((first | apply zi1 | apply zi2 | apply zi3 | apply zi4 | apply zi5) <;> intro _ <;> conv => whnf) | (refine VCall.intro (c2 _) ?_; conv => whnf))
  refine VCut.at' (outer := h.lift) (marks := []) 99 [(0, .ptr (.out i) 0), (3, .ptr (.loc 0) 0), (4, .ptr (.loc 2) 0)] [.cells true [I W, I H, .gl (.loc 1) 1 c.length], .flat true (c.flatMap Vm.encI), .flat true [DI 0, DI 0, .nilslice]] ?_ ?_
  · conv => whnf
    refine Retell.turn ⟨[0,2,1], 9, [], []⟩ (TurnOk.mk' _ _ [] [] (OutOk.lift _) rfl (by decide) zb trivial trivial rfl) zw zm
  conv => whnf
  repeat' (first | ((first | refine zs1 ?_ | refine zs2 ?_ | refine zs3 ?_ | refine zs4 ?_ | refine zs5 ?_); conv => whnf) | ((first | apply zi1 | apply zi2 | apply zi3 | apply zi4 | apply zi5) <;> intro _ <;> conv => whnf) | (refine VCall.intro (g1 _ (get_out hd _)) ?_; conv => whnf))
  refine VCode.lpoH (marks := []) 2 (fun y : Nat => [(0, .ptr (.out i) 0), (3, .ptr (.loc 0) 0), (4, .ptr (.loc 2) 0), (12, I n), (13, I y)]) (fun y => outW h.lift i (deckB bs (X y).1)) (fun y => [.cells true [I W, I H, .gl (.loc 1) 1 (X y).2.length], .flat true ((X y).2.flatMap Vm.encI), .flat true [DI 0, DI 0, .nilslice]]) (fun y => y ≤ n) (fun y => n - y) 0 (Nat.zero_le _) (by rw [hT0]; funext j; by_cases e : j = i <;> simp [outW, e, Hp.set]) ?_ ?_
  · rw [hT0]
    conv => whnf
    refine Retell.turn ⟨[0,1,2], 9, [], []⟩ (TurnOk.mk' _ _ [] [] (OutOk.outW (OutOk.lift _) rfl) rfl (by decide) zb trivial trivial rfl) zw zm
  rintro y hy
  rcases Nat.lt_or_ge y n with h4 | h4
  · obtain ⟨hY, hYn⟩ := hT y
    have hYs := hTs y
    generalize X y = x at *
    have r := ltr_ok (dealt bs) hY
    obtain ⟨r1, r2, r3, r4, r5, r6⟩ := r
    have rl := hY.len
    have rm := MOk.le hY
    have k1 := (dealt bs).n x.1 (x.2.length : Int)
    have f1 := fun (h2 : Hp) hg => vc_draw bs x.1 (x.2.length : Int) (.out i) h2 (by omega) hg
    rw [show dNx bs x.1 (x.2.length : Int) = la (dNx bs) x from rfl] at f1 k1
    have k2 := (dealt bs).n (la (dNx bs) x).2 4
    have f2 := fun (h2 : Hp) hg => vc_draw bs (la (dNx bs) x).2 4 (.out i) h2 (by omega) hg
    rw [show dNx bs (la (dNx bs) x).2 4 = lk (dNx bs) x from rfl] at f2 k2
    have f3 := fun (h2 : Hp) hg => vc_between bs (lk (dNx bs) x).2 1 4 (.out i) h2 (by omega) (by omega) (by omega) hg
    rw [show dNx bs (lk (dNx bs) x).2 (4 - 1 + 1) = lb (dNx bs) x from rfl] at f3
    unfold ltr at hYs r2
    dsimp only at r2
    generalize la (dNx bs) x = A at *
    generalize lk (dNx bs) x = K at *
    generalize lb (dNx bs) x = Bq at *
    obtain ⟨a, ha⟩ : ∃ a : Nat, A.1 = a := ⟨A.1.toNat, by omega⟩
    obtain ⟨m, hm2⟩ : ∃ m : Nat, 1 + Bq.1 = m := ⟨(1 + Bq.1).toNat, by omega⟩
    rw [hm2, ha, Int.toNat_natCast, Int.toNat_natCast] at hYs
    rw [ha] at f1
    rw [hm2] at f3
    have hZ := fun k => lputs_ok (a := a) hY (show 0 ≤ K.1 ∧ K.1 ≤ 3 from r4) k
    have hZs : ∀ k, (List.range (k + 1)).foldl (lput W a K.1) x.2 = lput W a K.1 ((List.range k).foldl (lput W a K.1) x.2) k := fun k => by rw [List.range_succ, List.foldl_append]; rfl
    have hZ0 : (List.range 0).foldl (lput W a K.1) x.2 = x.2 := rfl
    generalize hZe : (fun k => (List.range k).foldl (lput W a K.1) x.2) = Z at *
    have hZ : ∀ k, MOk W H (Z k) := fun k => by rw [← hZe]; exact hZ k
    have hZs : ∀ k, Z (k + 1) = lput W a K.1 (Z k) k := fun k => by rw [← hZe]; exact hZs k
    have hZ0 : Z 0 = x.2 := by rw [← hZe]; rfl
    have hYs : X (y + 1) = (Bq.2, Z m) := by rw [← hZe]; exact hYs
    clear hZe r1
    conv => whnf
    repeat' (first | ((first | refine zs1 ?_ | refine zs2 ?_ | refine zs3 ?_ | refine zs4 ?_ | refine zs5 ?_); conv => whnf) | ((first | apply zi1 | apply zi2 | apply zi3 | apply zi4 | apply zi5) <;> intro _ <;> first | (exfalso; omega) | contradiction | (conv => whnf)))
    refine VCut.block 1 ?_
    conv => whnf
    repeat' (first | ((first | refine zs1 ?_ | refine zs2 ?_ | refine zs3 ?_ | refine zs4 ?_ | refine zs5 ?_); conv => whnf) | ((first | apply zi1 | apply zi2 | apply zi3 | apply zi4 | apply zi5) <;> intro _ <;> first | (exfalso; omega) | contradiction | (conv => whnf)) | (refine VCall.intro (f1 _ (outW_get _ _ _ _)) ?_; conv => whnf) | (refine VCall.intro (f2 _ (outW_get _ _ _ _)) ?_; conv => whnf))
    refine VCut.atO (marks := []) 99 [(0, .ptr (.out i) 0), (3, .ptr (.loc 0) 0), (4, .ptr (.loc 2) 0), (12, I n), (13, I y), (5, I a), (6, I K.1)] (outW h.lift i (deckB bs K.2)) [.cells true [I W, I H, .gl (.loc 1) 1 x.2.length], .flat true (x.2.flatMap Vm.encI), .flat true [DI 0, DI 0, .nilslice]] ?_ ?_ ?_
    · funext j; by_cases e : j = i <;> simp [outW, e]
    · conv => whnf
      refine Retell.turn ⟨[0,1,2], 9, [], []⟩ (TurnOk.mk' _ _ [] [] (OutOk.outW (OutOk.lift _) rfl) rfl (by decide) zb trivial trivial rfl) zw zm
    conv => whnf
    repeat' (first | ((first | refine zs1 ?_ | refine zs2 ?_ | refine zs3 ?_ | refine zs4 ?_ | refine zs5 ?_); conv => whnf) | ((first | apply zi1 | apply zi2 | apply zi3 | apply zi4 | apply zi5) <;> intro _ <;> first | (exfalso; omega) | contradiction | (conv => whnf)) | (refine VCall.intro (f3 _ (outW_get _ _ _ _)) ?_; conv => whnf))
    refine VCode.lpoH (marks := []) 2 (fun k : Nat => [(0, .ptr (.out i) 0), (3, .ptr (.loc 0) 0), (4, .ptr (.loc 2) 0), (12, I n), (13, I y), (5, I a), (6, I K.1), (23, I m), (24, I k)]) (fun _ => outW h.lift i (deckB bs Bq.2)) (fun k => [.cells true [I W, I H, .gl (.loc 1) 1 (Z k).length], .flat true ((Z k).flatMap Vm.encI), .flat true [DI 0, DI 0, .nilslice]]) (fun k => k ≤ m) (fun k => m - k) 0 (Nat.zero_le _) (by funext j; by_cases e : j = i <;> simp [outW, e]) ?_ ?_
    · rw [hZ0]
      conv => whnf
      refine Retell.turn ⟨[0,1,2], 9, [], []⟩ (TurnOk.mk' _ _ [] [] (OutOk.outW (OutOk.lift _) rfl) rfl (by decide) zb trivial trivial rfl) zw zm
    rintro k hk
    rcases Nat.lt_or_ge k m with h5 | h5
    · have z1 := hZ k
      have z2 := hZs k
      generalize Z k = z at *
      have z3 := MOk.le z1
      have z4 := z1.len
      obtain ⟨t, ht⟩ : ∃ t : Nat, t = spot W a k := ⟨_, rfl⟩
      have e1 : (t : Int).tmod (W : Int) = ((t % W : Nat) : Int) := Int.ofNat_tmod t W
      have e2 : t % W < W := Nat.mod_lt t (by omega)
      have e3 : (W : Int) * ((k : Int) - 1) = if 1 < k then ((W * (k - 1) : Nat) : Int) else (W : Int) * ((k : Int) - 1) := by
        split
        · rw [Int.natCast_mul, show ((k - 1 : Nat) : Int) = (k : Int) - 1 by omega]
        · rfl
      have e4 : W * (k - 1) ≤ 12 * 4 := Nat.mul_le_mul (by omega) (by omega)
      unfold lput at z2
      rw [← ht] at z2
      have te : t ≤ 1000000 := by
        rw [ht]
        unfold spot
        split <;> omega
      unfold spot at ht
      generalize t % W = p at *
      apply sufficesL
      · intro hrest
        by_cases hk1 : 1 < k
        · rw [if_pos hk1] at e3 ht
          conv => whnf
          repeat' (first | ((first | refine zs1 ?_ | refine zs2 ?_ | refine zs3 ?_ | refine zs4 ?_ | refine zs5 ?_); conv => whnf) | ((first | apply zi1 | apply zi2 | apply zi3 | apply zi4 | apply zi5) <;> intro _ <;> first | (exfalso; omega) | contradiction | (conv => whnf)))
          refine VCut.block 3 ?_
          conv => whnf
          repeat' (first | ((first | refine zs1 ?_ | refine zs2 ?_ | refine zs3 ?_ | refine zs4 ?_ | refine zs5 ?_); conv => whnf) | ((first | apply zi1 | apply zi2 | apply zi3 | apply zi4 | apply zi5) <;> intro _ <;> first | (exfalso; omega) | contradiction | (conv => whnf)) | (rw [e3]; refine VArith.ok (by omega) ?_; conv => whnf))
          refine VCut.atO (marks := []) 99 [(0, .ptr (.out i) 0), (3, .ptr (.loc 0) 0), (4, .ptr (.loc 2) 0), (12, I n), (13, I y), (5, I a), (6, I K.1), (23, I m), (24, I k), (8, I t)] (outW h.lift i (deckB bs Bq.2)) [.cells true [I W, I H, .gl (.loc 1) 1 z.length], .flat true (z.flatMap Vm.encI), .flat true [DI 0, DI 0, .nilslice]] rfl ?_ hrest.out
          conv => whnf
          refine Retell.turn ⟨[0,1,2], 9, [], []⟩ (TurnOk.mk' _ _ [] [] (OutOk.outW (OutOk.lift _) rfl) rfl (by decide) zb trivial trivial rfl) zw zm
        · rw [if_neg hk1] at ht
          conv => whnf
          repeat' (first | ((first | refine zs1 ?_ | refine zs2 ?_ | refine zs3 ?_ | refine zs4 ?_ | refine zs5 ?_); conv => whnf) | ((first | apply zi1 | apply zi2 | apply zi3 | apply zi4 | apply zi5) <;> intro _ <;> first | (exfalso; omega) | contradiction | (conv => whnf)))
          refine VCut.block 3 ?_
          conv => whnf
          repeat' (first | ((first | refine zs1 ?_ | refine zs2 ?_ | refine zs3 ?_ | refine zs4 ?_ | refine zs5 ?_); conv => whnf) | ((first | apply zi1 | apply zi2 | apply zi3 | apply zi4 | apply zi5) <;> intro _ <;> first | (exfalso; omega) | contradiction | (conv => whnf)))
          refine VCut.atO (marks := []) 99 [(0, .ptr (.out i) 0), (3, .ptr (.loc 0) 0), (4, .ptr (.loc 2) 0), (12, I n), (13, I y), (5, I a), (6, I K.1), (23, I m), (24, I k), (8, I t)] (outW h.lift i (deckB bs Bq.2)) [.cells true [I W, I H, .gl (.loc 1) 1 z.length], .flat true (z.flatMap Vm.encI), .flat true [DI 0, DI 0, .nilslice]] rfl ?_ hrest.out
          conv => whnf
          refine Retell.turn ⟨[0,1,2], 9, [], []⟩ (TurnOk.mk' _ _ [] [] (OutOk.outW (OutOk.lift _) rfl) rfl (by decide) zb trivial trivial rfl) zw zm
      clear ht e3 e4
      have e5 : t ≤ 1000000 := te
      by_cases hc : t < z.length ∧ 0 < p ∧ p < W - 1
      · rw [if_pos hc] at z2
        have zt := at0_get (l := z) (n := t) hc.1
        have zl : (z.set t K.1).length = z.length := List.length_set
        conv => whnf
        repeat' (first | ((first | refine zs1 ?_ | refine zs2 ?_ | refine zs3 ?_ | refine zs4 ?_ | refine zs5 ?_); conv => whnf) | ((first | apply zi1 | apply zi2 | apply zi3 | apply zi4 | apply zi5) <;> intro _ <;> first | (exfalso; omega) | contradiction | (conv => whnf)))
        refine zs6 [] ?_
        conv => whnf
        repeat' (first | ((first | refine zs1 ?_ | refine zs2 ?_ | refine zs3 ?_ | refine zs4 ?_ | refine zs5 ?_); conv => whnf) | ((first | apply zi1 | apply zi2 | apply zi3 | apply zi4 | apply zi5) <;> intro _ <;> first | (exfalso; omega) | contradiction | (conv => whnf)) | (refine VMem.setRec Vm.encI_len t 0 K.1 rfl rfl rfl zt (by decide) rfl (ofs _) ?_; conv => whnf))
        refine LEndO.intro (k + 1) (by omega) (by omega) rfl ?_
        rw [z2, zl]
        conv => whnf
        refine Retell.turn ⟨[0,1,2], 9, [], []⟩ (TurnOk.mk' _ _ [] [] (OutOk.outW (OutOk.lift _) rfl) rfl (by decide) zb trivial trivial rfl) zw zm
      · rw [if_neg hc] at z2
        conv => whnf
        repeat' (first | ((first | refine zs1 ?_ | refine zs2 ?_ | refine zs3 ?_ | refine zs4 ?_ | refine zs5 ?_); conv => whnf) | ((first | apply zi1 | apply zi2 | apply zi3 | apply zi4 | apply zi5) <;> intro _ <;> first | (exfalso; omega) | contradiction | (conv => whnf)))
        refine zs6 [] ?_
        conv => whnf
        repeat' (first | ((first | refine zs1 ?_ | refine zs2 ?_ | refine zs3 ?_ | refine zs4 ?_ | refine zs5 ?_); conv => whnf) | ((first | apply zi1 | apply zi2 | apply zi3 | apply zi4 | apply zi5) <;> intro _ <;> first | (exfalso; omega) | contradiction | (conv => whnf)))
        all_goals (
          refine LEndO.intro (k + 1) (by omega) (by omega) rfl ?_
          rw [z2]
          conv => whnf
          refine Retell.turn ⟨[0,1,2], 9, [], []⟩ (TurnOk.mk' _ _ [] [] (OutOk.outW (OutOk.lift _) rfl) rfl (by decide) zb trivial trivial rfl) zw zm)
    · obtain rfl : k = m := by omega
      conv => whnf
      repeat' (first | ((first | refine zs1 ?_ | refine zs2 ?_ | refine zs3 ?_ | refine zs4 ?_ | refine zs5 ?_); conv => whnf) | ((first | apply zi1 | apply zi2 | apply zi3 | apply zi4 | apply zi5) <;> intro _ <;> first | (exfalso; omega) | contradiction | (conv => whnf)))
      refine LEndO.intro (y + 1) (by omega) (by omega) (by rw [hYs]) ?_
      rw [hYs]
      conv => whnf
      refine Retell.turn ⟨[0,1,2], 9, [], []⟩ (TurnOk.mk' _ _ [] [] (OutOk.outW (OutOk.lift _) rfl) rfl (by decide) zb trivial trivial rfl) zw zm
  · obtain rfl : y = n := by omega
    generalize X y = x at *
    conv => whnf
    repeat' (first | ((first | refine zs1 ?_ | refine zs2 ?_ | refine zs3 ?_ | refine zs4 ?_ | refine zs5 ?_); conv => whnf) | ((first | apply zi1 | apply zi2 | apply zi3 | apply zi4 | apply zi5) <;> intro _ <;> first | (exfalso; omega) | contradiction | (conv => whnf)))
    have hfl : (x.2.flatMap Vm.encI).length = x.2.length * 1 := flat_len Vm.encI_len _
    refine VOut.turn ⟨[], 9, [(1, x.2.flatMap Vm.encI)], []⟩ (loc' := []) (r1' := vM ⟨W, H, x.2⟩) (TurnOk.mk' [] 9 [(1, x.2.flatMap Vm.encI)] [] (OutOk.outW (OutOk.lift _) rfl) rfl List.nodup_nil BTos.nil (FzAll.flat rfl FzAll.nil) trivial rfl) zw ?_
    exact VOut.setF (L := 0) rfl hd fun _ => rfl
end Go.Proofs.Ytkbbfeljlepgoaa

open Go.Vm
open Riv
namespace Go.Proofs.Ytkbbfeljlepgoaa
set_option maxRecDepth 20000
set_option maxHeartbeats 4000000

abbrev mpl (W H : Nat) (L : List (List Int)) : List Mp := L.map (mp W H)
theorem getLast_at {L : List (List Int)} {k : Nat} (h : L.length = k + 1) : L[k]? = some (L.getLastD []) := by
  rw [List.getLastD_eq_getLast?, List.getLast?_eq_getElem?, h, Nat.add_sub_cancel, List.getElem?_eq_getElem (by omega)]; rfl
theorem vc_Aged (bs : List Int) (d : Dk) (w hh y : Int) (hN : d.1 ≤ 800000) (hw : 4 ≤ w ∧ w ≤ 12) (hh1 : 1 ≤ hh ∧ hh ≤ 12) (hy : 1 ≤ y ∧ y ≤ 10) : ∃ W H : Nat, (W : Int) ≤ w ∧ (H : Int) ≤ hh ∧ 4 ≤ W ∧ (∀ c ∈ (agedX (dNx bs) d w hh y).2, MOk W H c) ∧ (1 ≤ (agedX (dNx bs) d w hh y).2.length ∧ ((agedX (dNx bs) d w hh y).2.length : Int) ≤ y) ∧ (agedX (dNx bs) d w hh y).1.1 ≤ d.1 + 700 ∧
    ∀ (i : Vm.Id) (h : Hp), h.get i = some (deckB bs d) → VC Try.prog 21 [.ptr i 0, I w, I hh, I y] h (yrs (mpl W H (agedX (dNx bs) d w hh y).2)) (h.set i (deckB bs (agedX (dNx bs) d w hh y).1)) := by
  obtain ⟨W, H, e1, e2, e3, e4, e5, e6, e7, e8⟩ := madeX_ok (dealt bs) (d := d) hw hh1
  have a1 := (dealt bs).lo (madeX (dNx bs) d w hh).1 y
  have a2 := (dealt bs).hi (madeX (dNx bs) d w hh).1 y (by omega)
  have a3 := (dealt bs).n (madeX (dNx bs) d w hh).1 y
  have g1 := fun i (h2 : Hp) hg => vc_draw bs (madeX (dNx bs) d w hh).1 y i h2 (by omega) hg
  rw [show dNx bs (madeX (dNx bs) d w hh).1 y = ag0 (dNx bs) d w hh y from rfl] at a1 a2 a3 g1
  have hI := agI_ok (dealt bs) (W := W) (H := H) (N := (ag0 (dNx bs) d w hh y).2.1) (x := ((ag0 (dNx bs) d w hh y).2, [(madeX (dNx bs) d w hh).2])) ⟨Nat.le_refl _, rfl, fun c hc => by rw [List.mem_singleton.1 hc]; exact e6⟩
  have hX : agedX (dNx bs) d w hh y = agI (dNx bs) W ((ag0 (dNx bs) d w hh y).2, [(madeX (dNx bs) d w hh).2]) (ag0 (dNx bs) d w hh y).1.toNat := by
    unfold agedX
    rw [e1, Int.toNat_natCast]
  have hXs : ∀ k, agI (dNx bs) W ((ag0 (dNx bs) d w hh y).2, [(madeX (dNx bs) d w hh).2]) (k + 1) = agS (dNx bs) W (agI (dNx bs) W ((ag0 (dNx bs) d w hh y).2, [(madeX (dNx bs) d w hh).2]) k) := fun k => rfl
  have hX0 : agI (dNx bs) W ((ag0 (dNx bs) d w hh y).2, [(madeX (dNx bs) d w hh).2]) 0 = ((ag0 (dNx bs) d w hh y).2, [(madeX (dNx bs) d w hh).2]) := rfl
  have h2 := (hI (ag0 (dNx bs) d w hh y).1.toNat).len
  have h1 := (hI (ag0 (dNx bs) d w hh y).1.toNat).n
  refine ⟨W, H, e3, e4, e5, by rw [hX]; exact (hI _).ok, by rw [hX, h2]; omega, by rw [hX]; omega, fun i h hd => ?_⟩
  rw [hX]
  have c1 := fun (h2 : Hp) hg => vc_Made bs d w hh (.out i) h2 (by omega) hw hh1 hg
  unfold mdM at c1
  rw [e1, e2] at c1
  have g1 := g1 (.out i)
  generalize (madeX (dNx bs) d w hh).1 = D1 at *
  generalize (madeX (dNx bs) d w hh).2 = c at *
  generalize ag0 (dNx bs) d w hh y = q1 at *
  obtain ⟨n, hn⟩ : ∃ n : Nat, q1.1 = n := ⟨q1.1.toNat, by omega⟩
  rw [hn] at g1 ⊢
  rw [Int.toNat_natCast]
  generalize agI (dNx bs) W (q1.2, [c]) = X at *
  clear h1 h2 hX
  refine VC.bodyC 2 Try.func21 rfl Try.ntmps21 Try.call21 (h.grows_set _ _) rfl ?_
  conv => whnf
  repeat' (first | ((first | refine zs1 ?_ | refine zs2 ?_ | refine zs3 ?_ | refine zs4 ?_ | refine zs5 ?_); conv => whnf) | ((first | apply zi1 | apply zi2 | apply zi3 | apply zi4 | apply zi5) <;> intro _ <;> conv => whnf) | (refine VCall.intro (c1 _ (get_out hd _)) ?_; conv => whnf))
  refine VCut.atO (marks := []) 99 [(0, .ptr (.out i) 0), (3, I y), (9, .gl (.loc 0) 3 1)] (outW h.lift i (deckB bs D1)) [.flat true ((mpl W H [c]).flatMap encM)] ?_ ?_ ?_
  · funext j; by_cases e : j = i <;> simp [outW, e, Hp.set]
  · conv => whnf
    refine Retell.turn ⟨[0], 2, [], []⟩ (TurnOk.mk' _ _ [] [] (OutOk.outW (OutOk.lift _) rfl) rfl (by decide) zb trivial trivial rfl) zw zm
  conv => whnf
  repeat' (first | ((first | refine zs1 ?_ | refine zs2 ?_ | refine zs3 ?_ | refine zs4 ?_ | refine zs5 ?_); conv => whnf) | ((first | apply zi1 | apply zi2 | apply zi3 | apply zi4 | apply zi5) <;> intro _ <;> conv => whnf) | (refine VCall.intro (g1 _ (outW_get _ _ _ _)) ?_; conv => whnf))
  refine VCode.lpoH (marks := []) 2 (fun k : Nat => [(0, .ptr (.out i) 0), (9, .gl (.loc 0) 3 (mpl W H (X k).2).length), (17, I n), (18, I k)]) (fun k => outW h.lift i (deckB bs (X k).1)) (fun k => [.flat true ((mpl W H (X k).2).flatMap encM)]) (fun k => k ≤ n) (fun k => n - k) 0 (Nat.zero_le _) (by rw [hX0]; funext j; by_cases e : j = i <;> simp [outW, e]) ?_ ?_
  · rw [hX0]
    conv => whnf
    refine Retell.turn ⟨[0], 9, [], []⟩ (TurnOk.mk' _ _ [] [] (OutOk.outW (OutOk.lift _) rfl) rfl (by decide) zb trivial trivial rfl) zw zm
  rintro k hk
  rcases Nat.lt_or_ge k n with h4 | h4
  · obtain ⟨p1, p2, p3⟩ := hI k
    have hXs := hXs k
    have hl := getLast_at p2
    have hM : (X k).2.getLastD [] ∈ (X k).2 := List.mem_of_getElem? hl
    generalize X k = x at *
    try dsimp only at p1
    unfold agS at hXs
    have hLL : (mpl W H x.2).length = k + 1 := by rw [List.length_map, p2]
    have hlm : (mpl W H x.2)[k]? = some (mp W H (x.2.getLastD [])) := by rw [List.getElem?_map, hl]; rfl
    have hof : ((mpl W H x.2).length : Int) - 1 = k := by rw [hLL]; omega
    have f1 := fun (h2 : Hp) hg => vc_Later bs x.1 (x.2.getLastD []) (.out i) h2 (p3 _ hM) (by omega) hg
    generalize x.2.getLastD [] = lc at *
    generalize laterX (dNx bs) W x.1 lc = lx at *
    conv => whnf
    repeat' (first | ((first | refine zs1 ?_ | refine zs2 ?_ | refine zs3 ?_ | refine zs4 ?_ | refine zs5 ?_); conv => whnf) | ((first | apply zi1 | apply zi2 | apply zi3 | apply zi4 | apply zi5) <;> intro _ <;> first | (exfalso; omega) | contradiction | (conv => whnf)))
    refine VCut.block 99 ?_
    conv => whnf
    repeat' (first | ((first | refine zs1 ?_ | refine zs2 ?_ | refine zs3 ?_ | refine zs4 ?_ | refine zs5 ?_); conv => whnf) | ((first | apply zi1 | apply zi2 | apply zi3 | apply zi4 | apply zi5) <;> intro _ <;> first | (exfalso; omega) | contradiction | (conv => whnf)) | (refine VLd.recd encM_len k rfl rfl rfl rfl hlm (by rw [hof]; simp) ?_; conv => whnf) | (refine VCall.intro (f1 _ (outW_get _ _ _ _)) ?_; conv => whnf) | (refine VMem.app1 (l := mpl W H x.2) (mp W H lx.2) encM_len rfl rfl rfl rfl rfl (by omega) ?_; conv => whnf))
    refine LEndO.intro (k + 1) (by omega) (by omega) (by rw [hXs]; exact (outW_same _ _ _ _)) ?_
    have hmm : mpl W H (x.2 ++ [lx.2]) = mpl W H x.2 ++ [mp W H lx.2] := by rw [mpl, List.map_append]; rfl
    rw [hXs]
    dsimp only
    rw [hmm, List.length_append, List.length_singleton]
    conv => whnf
    refine Retell.turn ⟨[2], 9, [], []⟩ (TurnOk.mk' _ _ [] [] (OutOk.outW (OutOk.lift _) rfl) rfl (by decide) zb trivial trivial rfl) zw zm
  · obtain rfl : k = n := by omega
    generalize X k = x at *
    conv => whnf
    repeat' (first | ((first | refine zs1 ?_ | refine zs2 ?_ | refine zs3 ?_ | refine zs4 ?_ | refine zs5 ?_); conv => whnf) | ((first | apply zi1 | apply zi2 | apply zi3 | apply zi4 | apply zi5) <;> intro _ <;> first | (exfalso; omega) | contradiction | (conv => whnf)))
    have hfl : ((mpl W H x.2).flatMap encM).length = (mpl W H x.2).length * 3 := flat_len encM_len _
    refine VOut.turn ⟨[], 9, [(0, (mpl W H x.2).flatMap encM)], []⟩ (loc' := []) (r1' := yrs (mpl W H x.2)) (TurnOk.mk' [] 9 [(0, (mpl W H x.2).flatMap encM)] [] (OutOk.outW (OutOk.lift _) rfl) rfl List.nodup_nil BTos.nil (FzAll.flat rfl FzAll.nil) trivial rfl) zw ?_
    exact VOut.setF (L := 0) rfl hd fun _ => rfl
end Go.Proofs.Ytkbbfeljlepgoaa

open Go.Vm
open Riv
namespace Go.Proofs.Ytkbbfeljlepgoaa
set_option maxRecDepth 20000
set_option maxHeartbeats 4000000
section
variable {W H : Nat} {L : List (List Int)}
theorem mpl_len : (mpl W H L).length = L.length := List.length_map _
theorem mpl_at {y : Nat} (hy : y < L.length) : (mpl W H L)[y]? = some (mp W H (L.getD y [])) := by
  rw [List.getElem?_map, List.getD_eq_getElem?_getD, List.getElem?_eq_getElem hy]; rfl
theorem mpl_getD {y : Nat} (hy : y < L.length) : (mpl W H L).getD y mp0 = mp W H (L.getD y []) := by
  rw [List.getD_eq_getElem?_getD, mpl_at hy]; rfl
theorem mpl_ok (hL : ∀ c ∈ L, MOk W H c) : ∀ m ∈ mpl W H L, m.w = W ∧ m.h = H ∧ MOk W H m.c := fun m hm => by
  obtain ⟨c, hc, rfl⟩ := List.mem_map.1 hm
  exact ⟨rfl, rfl, hL c hc⟩
theorem mpl_few (hL : ∀ c ∈ L, MOk W H c) : ∀ m ∈ mpl W H L, m.c.length ≤ 4000000 := fun m hm => by
  have := MOk.le (mpl_ok hL m hm).2.2
  omega
theorem mpl_chk (hL : ∀ c ∈ L, MOk W H c) (hn : 1 ≤ L.length ∧ L.length ≤ 10) : chkY (mpl W H L) = 0 := chkY_of (by rw [mpl_len]; exact hn) (mpl_ok hL)
theorem cells_mpl : cellsY (mpl W H L) = L := by
  unfold cellsY
  rw [List.map_map]
  exact List.map_id' _
theorem wOf_mpl (hn : 1 ≤ L.length) : wOf (mpl W H L) = W := by
  cases L with
  | nil => simp at hn
  | cons c l => rfl
theorem lawL_at {y : Nat} {slow : Int} (hy : y < L.length) : (lawL W L slow)[y]? = some (lawAt W L slow y) := by
  unfold lawL; rw [List.getElem?_map, List.getElem?_range hy]; rfl
theorem lawL_len (slow : Int) : (lawL W L slow).length = L.length := by unfold lawL; rw [List.length_map, List.length_range]
theorem lawY_mpl (slow : Int) : lawY W (mpl W H L) slow = mpl W H (lawL W L slow) := by
  apply List.ext_getElem?
  intro y
  rcases Nat.lt_or_ge y L.length with h | h
  · rw [lawY_at (by rw [mpl_len]; exact h), mpl_getD h, cells_mpl, List.getElem?_map, lawL_at h]; rfl
  · rw [List.getElem?_eq_none (by rw [lawY_len, mpl_len]; exact h), List.getElem?_eq_none (by rw [mpl_len, lawL_len]; exact h)]
theorem kL (hL : ∀ c ∈ L, MOk W H c) (hn : 1 ≤ L.length ∧ L.length ≤ 10) {slow : Int} (hs : 0 ≤ slow ∧ slow ≤ 144) (h : Hp) : VC Try.prog 23 [yrs (mpl W H L), I slow] h (.tuple [yrs (mpl W H (lawL W L slow)), I 0]) h := by
  have := vc_Law (mpl W H L) slow h (by rw [mpl_len]; omega) (mpl_few hL)
  have e : rlE (mpl W H L) slow = 0 := by unfold rlE; rw [if_pos (mpl_chk hL hn), if_pos hs]
  unfold lwA at this
  rw [e, if_pos rfl, wOf_mpl hn.1, lawY_mpl] at this
  exact this
end
end Go.Proofs.Ytkbbfeljlepgoaa

open Go.Vm
open Riv
namespace Go.Proofs.Ytkbbfeljlepgoaa
set_option maxRecDepth 20000
set_option maxHeartbeats 4000000
theorem gnK_gg (A B : List Int) (k : Nat) : gnK A B k = ggK A B k := rfl
theorem lsK_lsk (f : Nat → Int) : ∀ m, lsK f m = lsk f m
  | 0 => rfl
  | m + 1 => by rw [lsK, lsk, lsK_lsk f m]
section
variable {W H : Nat} {L : List (List Int)}
theorem law_getD {slow : Int} {y : Nat} (hy : y < L.length) : (mpl W H (lawL W L slow)).getD y mp0 = mp W H (lawAt W L slow y) := by
  rw [List.getD_eq_getElem?_getD, List.getElem?_map, lawL_at hy]; rfl
theorem rlE0 (hL : ∀ c ∈ L, MOk W H c) (hn : 1 ≤ L.length ∧ L.length ≤ 10) {slow : Int} (hs : 0 ≤ slow ∧ slow ≤ 144) : rlE (mpl W H L) slow = 0 := by
  unfold rlE; rw [if_pos (mpl_chk hL hn), if_pos hs]
theorem lwA0 (hL : ∀ c ∈ L, MOk W H c) (hn : 1 ≤ L.length ∧ L.length ≤ 10) {slow : Int} (hs : 0 ≤ slow ∧ slow ≤ 144) : lwA (mpl W H L) slow = mpl W H (lawL W L slow) := by
  unfold lwA; rw [if_pos (rlE0 hL hn hs), wOf_mpl hn.1, lawY_mpl]
theorem kG (hL : ∀ c ∈ L, MOk W H c) (hn : 1 ≤ L.length ∧ L.length ≤ 10) {slow : Int} (hs : 0 ≤ slow ∧ slow ≤ 144) (h : Hp) : VC Try.prog 24 [yrs (mpl W H L), I slow] h (.tuple [vGn (gnK (owns (lawAt W L slow 0) W) (owns (lawAt W L slow (L.length - 1)) W) (W * H)), I 0]) h := by
  have := vc_Gains (mpl W H L) slow h (by rw [mpl_len]; omega) (mpl_few hL)
  have o0 := lawAt_mok hL slow (y := 0) (by omega)
  unfold gnA at this
  rw [rlE0 hL hn hs, if_pos rfl, lwA0 hL hn hs, mpl_len, law_getD (by omega), law_getD (by omega), wOf_mpl hn.1, owns_len] at this
  dsimp only at this
  rw [o0.len] at this
  exact this
theorem kLs (hL : ∀ c ∈ L, MOk W H c) (hn : 1 ≤ L.length ∧ L.length ≤ 10) {slow : Int} (hs : 0 ≤ slow ∧ slow ≤ 144) {cell : Nat} (hc : cell < W * H) (h : Hp) : VC Try.prog 25 [yrs (mpl W H L), I slow, I cell] h (.tuple [I (lsk (fun y => at0 (owns (lawAt W L slow y) W) cell) (L.length - 1)), I 0]) h := by
  have := vc_Last (mpl W H L) slow cell h (by rw [mpl_len]; omega) (mpl_few hL)
  have o0 : MOk W H (L.getD 0 []) := by
    have e : L.getD 0 [] = L[0] := by rw [List.getD_eq_getElem?_getD, List.getElem?_eq_getElem (by omega)]; rfl
    rw [e]; exact hL _ (List.getElem_mem (by omega))
  have e : Go.Proofs.Ytkbbfeljlepgoaa.dnE (mpl W H L) slow cell = 0 := by
    unfold Go.Proofs.Ytkbbfeljlepgoaa.dnE
    rw [if_pos (rlE0 hL hn hs), mpl_getD (by omega), if_pos]
    show 0 ≤ (cell : Int) ∧ (cell : Int) ≤ ((L.getD 0 []).length : Int) - 1
    rw [o0.len]
    omega
  unfold Go.Proofs.Ytkbbfeljlepgoaa.dnL at this
  rw [e, if_pos rfl, lwA0 hL hn hs, mpl_len, lsK_lsk, wOf_mpl hn.1, Int.toNat_natCast] at this
  rw [lsk_congr (g := fun y => at0 (owns (lawAt W L slow y) W) cell) (fun y hy => by
    rw [law_getD (by omega)])] at this
  exact this
theorem kSl (hL : ∀ c ∈ L, MOk W H c) (hn : 1 ≤ L.length ∧ L.length ≤ 10) {cell : Nat} (hc : cell < W * H) {owner : Int} (ho : 0 ≤ owner ∧ owner ≤ 3) (h : Hp) : VC Try.prog 26 [yrs (mpl W H L), I cell, I owner] h (.tuple [spans (rseg (slP W L cell owner) 0 145 ([], false)).1, I 0]) h := by
  have := vc_Slows (mpl W H L) cell owner h (by rw [mpl_len]; omega) (mpl_few hL)
  have hY := yrs_of (by omega) hL
  have o0 : MOk W H (L.getD 0 []) := by
    have e : L.getD 0 [] = L[0] := by rw [List.getD_eq_getElem?_getD, List.getElem?_eq_getElem (by omega)]; rfl
    rw [e]; exact hL _ (List.getElem_mem (by omega))
  have e : slE (mpl W H L) cell owner = 0 := by
    unfold slE
    rw [if_pos (mpl_chk hL hn), mpl_getD (by omega), if_pos, if_pos ho]
    show 0 ≤ (cell : Int) ∧ (cell : Int) ≤ ((L.getD 0 []).length : Int) - 1
    rw [o0.len]
    omega
  have wh := o0.few.2.2
  have hp : (stI W (mpl W H L)).Perm (0 :: ((145 : Nat) : Int) :: sizes W L) := by
    unfold stI
    rw [cells_mpl]
    exact List.mergeSort_perm _ _
  have hr : (stI W (mpl W H L)).Pairwise (· ≤ ·) := by
    unfold stI
    have := List.pairwise_mergeSort (le := fun x y : Int => decide (x ≤ y)) (fun a b c h1 h2 => by simp at *; omega) (fun a b => by simp; omega) (0 :: 145 :: sizes W (cellsY (mpl W H L)))
    exact this.imp fun h => of_decide_eq_true h
  have hs := slows_eq (N := 145) hY (by omega) (by omega) hp hr cell owner
  have e2 : (fun s => slP W L cell owner (min s ((W * H : Nat) : Int))) = slP W L cell owner := funext fun s => slP_min hY (by omega) cell owner s
  rw [e2] at hs
  unfold slL at this
  rw [e, if_pos rfl, wOf_mpl hn.1, cells_mpl, Int.toNat_natCast, ← hs] at this
  exact this
end
end Go.Proofs.Ytkbbfeljlepgoaa


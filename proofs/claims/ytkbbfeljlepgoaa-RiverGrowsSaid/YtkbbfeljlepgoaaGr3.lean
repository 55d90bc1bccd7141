/- Part 3 of the proof that the line moves as the law of slow growth and sudden change says. No condition. -/
import Derived.Test.YtkbbfeljlepgoaaGr2
set_option linter.unusedVariables false
set_option linter.unusedSimpArgs false
open Go.Vm
open Riv
namespace Go.Proofs.Ytkbbfeljlepgoaa
set_option maxRecDepth 20000
set_option maxHeartbeats 4000000

theorem natLL_len (l : List (List Nat)) : (natLL l).length = l.length := List.length_map _
theorem natLL_at {l : List (List Nat)} {i : Nat} {cs : List Nat} (h : l[i]? = some cs) : (natLL l)[i]? = some (natI cs) := by
  unfold natLL; rw [List.getElem?_map, h]; rfl
theorem natI_at' {l : List Nat} {i n : Nat} (h : l[i]? = some n) : (natI l)[i]? = some (n : Int) := by
  unfold natI; rw [List.getElem?_map, h]; rfl
theorem natI_head {l : List Nat} (h : 0 < l.length) : (natI l)[0]? = some ((l.headD 0 : Nat) : Int) := by
  cases l with
  | nil => simp at h
  | cons n l => rfl
theorem vc_RiverGrows (bs : List Int) (x : Int) (hx : 0 ≤ x ∧ x ≤ 255) (h : Hp) : VC Try.prog 7 [bytes bs, .s (.int .u8 x)] h (B true) h := by
  obtain ⟨W, H, hWw, hHh, hW4, hL, hn, hdn, c1⟩ := vc_Aged bs ((0 : Nat), (9 : Int)) 8 5 6 (by decide) (by decide) (by decide) (by decide)
  have c0 := vc_Of bs
  have ht : x.tmod 20 = x % 20 := Int.tmod_eq_emod_of_nonneg hx.1
  generalize (agedX (dNx bs) ((0 : Nat), (9 : Int)) 8 5 6).2 = L at *
  generalize (agedX (dNx bs) ((0 : Nat), (9 : Int)) 8 5 6).1 = dd at *
  have hn10 : 1 ≤ L.length ∧ L.length ≤ 10 := ⟨hn.1, by omega⟩
  obtain ⟨s, hs⟩ : ∃ s, s = x.tmod 20 := ⟨_, rfl⟩
  have hsb : 0 ≤ s ∧ s ≤ 144 := by rw [hs, ht]; omega
  have c144 := kL hL hn10 (slow := 144) (by decide)
  have c00 := kL hL hn10 (slow := 0) (by decide)
  have cS := kL hL hn10 hsb
  rw [law_all hL hn10.1] at c144
  have lM : (mpl W H L).length = L.length := mpl_len
  have lN : (mpl W H (lawL W L 0)).length = L.length := by rw [mpl_len, lawL_len]
  have lA : (mpl W H (lawL W L s)).length = L.length := by rw [mpl_len, lawL_len]
  have cEq := fun h => vc_equals (mpl W H L) (mpl W H L) h (by omega) (by omega) (mpl_few hL) (mpl_few hL)
  rw [decide_eq_true rfl] at cEq
  have hg : ∀ y, y < L.length → MOk W H (L.getD y []) := fun y hy => by
    have e : L.getD y [] = L[y] := by rw [List.getD_eq_getElem?_getD, List.getElem?_eq_getElem hy]; rfl
    rw [e]; exact hL _ (List.getElem_mem hy)
  have o0 := hg 0 (by omega)
  have l0 := o0.len
  have m0 := MOk.le o0
  have xM : ∀ y, y < L.length → (mpl W H L)[y]? = some (mp W H (L.getD y [])) := fun y hy => mpl_at hy
  have xN : ∀ y, y < L.length → (mpl W H (lawL W L 0))[y]? = some (mp W H (L.getD 0 [])) := fun y hy => by rw [List.getElem?_map, law_none hL hy]; rfl
  have xA : ∀ y, y < L.length → (mpl W H (lawL W L s))[y]? = some (mp W H (lawAt W L s y)) := fun y hy => by rw [List.getElem?_map, lawL_at hy]; rfl
  have hA0 : lawAt W L s 0 = L.getD 0 [] := law_zero hn.1
  have lAt : ∀ y, y < L.length → (lawAt W L s y).length = W * H := fun y hy => (lawAt_mok hL s hy).len
  have cE2 := fun h => vc_equal (mp W H (L.getD 0 [])) (mp W H (L.getD 0 [])) h (by show _ ≤ _; dsimp only; omega) (by show _ ≤ _; dsimp only; omega)
  rw [decide_eq_true rfl] at cE2
  have kC0' := kC0 hL hn10
  have kC' := fun y hy => kC hL hn10 (y := y) hy
  have yr := fun y hy => yr_ok hL s (y := y) hy
  have lg : ∀ y, y < L.length → (L.getD y []).length = W * H := fun y hy => (hg y hy).len
  have cA := vc_awake
  have wh : W * H ≤ 144 := o0.few.2.2
  clear hL hg o0 l0
  generalize mpl W H L = M at *
  generalize mpl W H (lawL W L 0) = NN at *
  generalize mpl W H (lawL W L s) = AA at *
  refine VC.bodyC 3 Try.func7 rfl Try.ntmps7 Try.call7 (h.grows_refl) rfl ?_
  conv => whnf
  repeat' (first | ((first | refine zs1 ?_ | refine zs2 ?_ | refine zs3 ?_ | refine zs4 ?_ | refine zs5 ?_); conv => whnf) | ((first | apply zi1 | apply zi2 | apply zi3 | apply zi4 | apply zi5) <;> intro _ <;> conv => whnf) | (refine VCall.intro (c0 _) ?_; conv => whnf) | (refine VCall.intro (c1 (.loc 0) _ rfl) ?_; conv => whnf))
  refine VCut.at' (outer := h.lift) (marks := []) 99 [(5, yrs M), (6, I (x.tmod 20))] [] ?_ ?_
  · conv => whnf
    refine Retell.turn ⟨[], 9, [], []⟩ (TurnOk.mk' _ _ [] [] (OutOk.lift _) rfl (by decide) zb trivial trivial rfl) zw zm
  rw [← hs]
  clear hs ht c0 c1
  have y0M := xM 0 (by omega)
  have y0A := xA 0 (by omega)
  rw [hA0] at y0A
  conv => whnf
  repeat' (first | ((first | refine zs1 ?_ | refine zs2 ?_ | refine zs3 ?_ | refine zs4 ?_ | refine zs5 ?_); conv => whnf) | ((first | apply zi1 | apply zi2 | apply zi3 | apply zi4 | apply zi5) <;> intro _ <;> first | (exfalso; omega) | contradiction | (conv => whnf)) | (refine VCall.intro (c144 _) ?_; conv => whnf) | (refine VCall.intro (c00 _) ?_; conv => whnf) | (refine VCall.intro (cS _) ?_; conv => whnf))
  refine zs6 [] ?_
  conv => whnf
  repeat' (first | ((first | refine zs1 ?_ | refine zs2 ?_ | refine zs3 ?_ | refine zs4 ?_ | refine zs5 ?_); conv => whnf) | ((first | apply zi1 | apply zi2 | apply zi3 | apply zi4 | apply zi5) <;> intro _ <;> first | (exfalso; omega) | contradiction | (conv => whnf)) | (refine VCall.intro (cEq _) ?_; conv => whnf) | (refine VCall.intro (cE2 _) ?_; conv => whnf) | (refine VAny.ix encM_len 0 rfl rfl y0M ?_; conv => whnf) | (refine VAny.ix encM_len 0 rfl rfl y0A ?_; conv => whnf))
  refine VCode.lpC (outer := h.lift) (marks := []) 2 (fun y : Nat => [(5, yrs M), (6, I s), (9, yrs NN), (11, yrs AA), (88, I M.length), (89, I y)]) (fun _ => []) (fun y => y ≤ L.length) (fun y => L.length - y) 0 (Nat.zero_le _) ?_ ?_
  · conv => whnf
    refine Retell.turn ⟨[], 9, [], []⟩ (TurnOk.mk' _ _ [] [] (OutOk.lift _) rfl (by decide) zb trivial trivial rfl) zw zm
  rintro y hy
  rcases Nat.lt_or_ge y L.length with h3 | h3
  · have z1 := xM y h3
    have z2 := xN y h3
    have z3 := xA y h3
    have z4 := lAt y h3
    have z5 := lg 0 (by omega)
    clear c144 c00 cS cEq cA
    rcases Nat.eq_zero_or_pos y with hz | hz
    · subst hz
      conv => whnf
      repeat' (first | ((first | refine zs1 ?_ | refine zs2 ?_ | refine zs3 ?_ | refine zs4 ?_ | refine zs5 ?_); conv => whnf) | ((first | apply zi1 | apply zi2 | apply zi3 | apply zi4 | apply zi5) <;> intro _ <;> first | (exfalso; omega) | contradiction | (conv => whnf)))
      refine VCut.block 99 ?_
      conv => whnf
      repeat' (first | ((first | refine zs1 ?_ | refine zs2 ?_ | refine zs3 ?_ | refine zs4 ?_ | refine zs5 ?_); conv => whnf) | ((first | apply zi1 | apply zi2 | apply zi3 | apply zi4 | apply zi5) <;> intro _ <;> first | (exfalso; omega) | contradiction | (conv => whnf)))
      refine zs6 [] ?_
      conv => whnf
      repeat' (first | ((first | refine zs1 ?_ | refine zs2 ?_ | refine zs3 ?_ | refine zs4 ?_ | refine zs5 ?_); conv => whnf) | ((first | apply zi1 | apply zi2 | apply zi3 | apply zi4 | apply zi5) <;> intro _ <;> first | (exfalso; omega) | contradiction | (conv => whnf)) | (refine VCall.intro (cE2 _) ?_; conv => whnf) | (refine VCall.intro (kC0' _) ?_; conv => whnf) | (refine VAny.ix encM_len 0 rfl rfl z1 ?_; conv => whnf) | (refine VAny.ix encM_len 0 rfl rfl z2 ?_; conv => whnf) | (refine VAny.ix encM_len 0 rfl rfl z3 ?_; conv => whnf))
      refine LEnd.intro 1 (by omega) (by omega) ?_
      conv => whnf
      refine Retell.turn ⟨[], 9, [], []⟩ (TurnOk.mk' _ _ [] [] (OutOk.lift _) rfl (by decide) zb trivial trivial rfl) zw zm
    · obtain ⟨Y, hY⟩ : ∃ Y, y = Y + 1 := ⟨y - 1, by omega⟩
      have e89 : ((y : Nat) : Int) = (Y : Int) + 1 := by omega
      rw [e89]
      have w1 := xM Y (by omega)
      have w3 := xA Y (by omega)
      have w4 := lAt Y (by omega)
      have w5 := lg Y (by omega)
      have w6 := lg y h3
      have kCy := kC' Y (by omega)
      have yr := yr Y (by omega)
      rw [← hY] at kCy yr
      clear xM xN xA lAt lg kC' kC0'
      generalize L.getD 0 [] = c0 at *
      generalize L.getD Y [] = a at *
      generalize L.getD y [] = b at *
      generalize lawAt W L s Y = now at *
      generalize lawAt W L s y = nxt at *
      generalize chg a b W = CS at *
      obtain ⟨f1, f2, f3, f4, f5, f6⟩ := yr
      have v0 : (mp W H c0).c.length = W * H := z5
      have v1 : (mp W H nxt).c.length = W * H := z4
      have v2 : (mp W H now).c.length = W * H := w4
      have v3 : (mp W H a).c.length = W * H := w5
      have v4 : (mp W H b).c.length = W * H := w6
      conv => whnf
      repeat' (first | ((first | refine zs1 ?_ | refine zs2 ?_ | refine zs3 ?_ | refine zs4 ?_ | refine zs5 ?_); conv => whnf) | ((first | apply zi1 | apply zi2 | apply zi3 | apply zi4 | apply zi5) <;> intro _ <;> first | (exfalso; omega) | contradiction | (conv => whnf)))
      refine VCut.block 7 ?_
      conv => whnf
      repeat' (first | ((first | refine zs1 ?_ | refine zs2 ?_ | refine zs3 ?_ | refine zs4 ?_ | refine zs5 ?_); conv => whnf) | ((first | apply zi1 | apply zi2 | apply zi3 | apply zi4 | apply zi5) <;> intro _ <;> first | (exfalso; omega) | contradiction | (conv => whnf)))
      refine zs6 [] ?_
      conv => whnf
      repeat' (first | ((first | refine zs1 ?_ | refine zs2 ?_ | refine zs3 ?_ | refine zs4 ?_ | refine zs5 ?_); conv => whnf) | ((first | apply zi1 | apply zi2 | apply zi3 | apply zi4 | apply zi5) <;> intro _ <;> first | (exfalso; omega) | contradiction | (conv => whnf)) | (refine VCall.intro (cE2 _) ?_; conv => whnf) | (refine VCall.intro (kCy _) ?_; conv => whnf) | (refine VAny.ix encM_len 0 rfl rfl y0M ?_; conv => whnf) | (refine VAny.ix encM_len y (by omega) rfl z1 ?_; conv => whnf) | (refine VAny.ix encM_len y (by omega) rfl z2 ?_; conv => whnf) | (refine VAny.ix encM_len y (by omega) rfl z3 ?_; conv => whnf) | (refine VMem.make false encB_len rfl rfl rfl rfl rfl rfl (by omega) ?_; conv => whnf))
      refine VCut.at' (outer := h.lift) (marks := []) 1 [(5, yrs M), (6, I s), (9, yrs NN), (11, yrs AA), (88, I M.length), (89, I ((Y : Int) + 1)), (13, I ((Y : Int) + 1)), (14, intss (natLL CS)), (16, .gl (.loc 0) 1 c0.length), (17, I 0)] [.flat true ((List.replicate c0.length false).flatMap encB)] ?_ ?_
      · conv => whnf
        refine Retell.turn ⟨[0], 9, [], []⟩ (TurnOk.mk' _ _ [] [] (OutOk.lift _) rfl (by decide) zb trivial trivial rfl) zw zm
      conv => whnf
      repeat' (first | ((first | refine zs1 ?_ | refine zs2 ?_ | refine zs3 ?_ | refine zs4 ?_ | refine zs5 ?_); conv => whnf) | ((first | apply zi1 | apply zi2 | apply zi3 | apply zi4 | apply zi5) <;> intro _ <;> first | (exfalso; omega) | contradiction | (conv => whnf)))
      have hcl : (natLL CS).length = CS.length := natLL_len CS
      refine VCode.lpC (outer := h.lift) (marks := []) 2 (fun q : Nat × List Bool => [(5, yrs M), (6, I s), (9, yrs NN), (11, yrs AA), (88, I M.length), (89, I ((Y : Int) + 1)), (13, I ((Y : Int) + 1)), (14, intss (natLL CS)), (16, .gl (.loc 0) 1 q.2.length), (17, I (sumL CS q.1)), (140, intss (natLL CS)), (141, I (natLL CS).length), (142, I q.1)]) (fun q => [.flat true (q.2.flatMap encB)]) (fun q => q.1 ≤ CS.length ∧ q.2.length = W * H ∧ Gw s CS q.1 [] 0 q.2 ∧ sumL CS q.1 ≤ 160 * q.1) (fun q => CS.length - q.1) (0, List.replicate c0.length false) ⟨Nat.zero_le _, by rw [List.length_replicate]; exact z5, Gw.zero _ _ _, Nat.le_refl _⟩ ?_ ?_
      · dsimp only
        rw [List.length_replicate, show sumL CS 0 = 0 from rfl]
        conv => whnf
        refine Retell.turn ⟨[0], 9, [], []⟩ (TurnOk.mk' _ _ [] [] (OutOk.lift _) rfl (by decide) zb trivial trivial rfl) zw zm
      · rintro ⟨i, G⟩ ⟨hi, hGl, hG, hsum⟩
        dsimp only at hi hGl hG hsum ⊢
        rcases Nat.lt_or_ge i CS.length with h5 | h5
        · have xi : CS[i]? = some CS[i] := List.getElem?_eq_getElem h5
          generalize CS[i] = cs at xi
          obtain ⟨t1, t2, t3⟩ := f2 cs (List.mem_of_getElem? xi)
          have xs := sumL_succ xi
          have xl := natLL_at xi
          have ncl : (natI cs).length = cs.length := natI_len cs
          have xh : (natI cs)[0]? = some ((cs.headD 0 : Nat) : Int) := natI_head t1
          conv => whnf
          repeat' (first | ((first | refine zs1 ?_ | refine zs2 ?_ | refine zs3 ?_ | refine zs4 ?_ | refine zs5 ?_); conv => whnf) | ((first | apply zi1 | apply zi2 | apply zi3 | apply zi4 | apply zi5) <;> intro _ <;> first | (exfalso; omega) | contradiction | (conv => whnf)))
          refine VCut.block 2 ?_
          conv => whnf
          repeat' (first | ((first | refine zs1 ?_ | refine zs2 ?_ | refine zs3 ?_ | refine zs4 ?_ | refine zs5 ?_); conv => whnf) | ((first | apply zi1 | apply zi2 | apply zi3 | apply zi4 | apply zi5) <;> intro _ <;> first | (exfalso; omega) | contradiction | (conv => whnf)) | (refine VAny.ix encL_len i rfl rfl xl ?_; conv => whnf))
          refine zs6 [] ?_
          conv => whnf
          apply sufficesL
          · intro hrest
            rcases Nat.eq_zero_or_pos i with hz | hz
            · repeat' (first | ((first | refine zs1 ?_ | refine zs2 ?_ | refine zs3 ?_ | refine zs4 ?_ | refine zs5 ?_); conv => whnf) | ((first | apply zi1 | apply zi2 | apply zi3 | apply zi4 | apply zi5) <;> intro _ <;> first | (exfalso; omega) | contradiction | (conv => whnf)) | (refine VAny.ix Vm.encI_len 0 rfl rfl xh ?_; conv => whnf))
              refine VCut.at' (outer := h.lift) (marks := []) 99 [(5, yrs M), (6, I s), (9, yrs NN), (11, yrs AA), (88, I M.length), (89, I ((Y : Int) + 1)), (13, I ((Y : Int) + 1)), (14, intss (natLL CS)), (16, .gl (.loc 0) 1 G.length), (17, I (sumL CS i)), (140, intss (natLL CS)), (141, I (natLL CS).length), (142, I i), (18, I i), (19, ints (natI cs))] [.flat true (G.flatMap encB)] ?_ hrest.out
              conv => whnf
              refine Retell.turn ⟨[0], 9, [], []⟩ (TurnOk.mk' _ _ [] [] (OutOk.lift _) rfl (by decide) zb trivial trivial rfl) zw zm
            · obtain ⟨I2, hI2⟩ : ∃ I2, i = I2 + 1 := ⟨i - 1, by omega⟩
              have xi2 : CS[I2]? = some CS[I2] := List.getElem?_eq_getElem (by omega)
              have hhd := f3 I2 _ cs xi2 (by rw [← hI2]; exact xi)
              generalize CS[I2] = ds at xi2 hhd
              have xl2 := natLL_at xi2
              have d1 := (f2 ds (List.mem_of_getElem? xi2)).1
              have xh2 : (natI ds)[0]? = some ((ds.headD 0 : Nat) : Int) := natI_head d1
              have ndl : (natI ds).length = ds.length := natI_len ds
              repeat' (first | ((first | refine zs1 ?_ | refine zs2 ?_ | refine zs3 ?_ | refine zs4 ?_ | refine zs5 ?_); conv => whnf) | ((first | apply zi1 | apply zi2 | apply zi3 | apply zi4 | apply zi5) <;> intro _ <;> first | (exfalso; omega) | contradiction | (conv => whnf)) | (refine VAny.ix encL_len I2 (by omega) rfl xl2 ?_; conv => whnf) | (refine VAny.ix Vm.encI_len 0 rfl rfl xh2 ?_; conv => whnf) | (refine VAny.ix Vm.encI_len 0 rfl rfl xh ?_; conv => whnf))
              refine VCut.at' (outer := h.lift) (marks := []) 99 [(5, yrs M), (6, I s), (9, yrs NN), (11, yrs AA), (88, I M.length), (89, I ((Y : Int) + 1)), (13, I ((Y : Int) + 1)), (14, intss (natLL CS)), (16, .gl (.loc 0) 1 G.length), (17, I (sumL CS i)), (140, intss (natLL CS)), (141, I (natLL CS).length), (142, I i), (18, I i), (19, ints (natI cs))] [.flat true (G.flatMap encB)] ?_ hrest.out
              conv => whnf
              refine Retell.turn ⟨[0], 9, [], []⟩ (TurnOk.mk' _ _ [] [] (OutOk.lift _) rfl (by decide) zb trivial trivial rfl) zw zm
          conv => whnf
          repeat' (first | ((first | refine zs1 ?_ | refine zs2 ?_ | refine zs3 ?_ | refine zs4 ?_ | refine zs5 ?_); conv => whnf) | ((first | apply zi1 | apply zi2 | apply zi3 | apply zi4 | apply zi5) <;> intro _ <;> first | (exfalso; omega) | contradiction | (conv => whnf)))
          refine VCode.lpC (outer := h.lift) (marks := []) 2 (fun q : Nat × List Bool => [(5, yrs M), (6, I s), (9, yrs NN), (11, yrs AA), (88, I M.length), (89, I ((Y : Int) + 1)), (13, I ((Y : Int) + 1)), (14, intss (natLL CS)), (16, .gl (.loc 0) 1 q.2.length), (17, I ((sumL CS i + q.1 : Nat) : Int)), (140, intss (natLL CS)), (141, I (natLL CS).length), (142, I i), (18, I i), (19, ints (natI cs)), (167, ints (natI cs)), (168, I (natI cs).length), (169, I q.1)]) (fun q => [.flat true (q.2.flatMap encB)]) (fun q => q.1 ≤ cs.length ∧ q.2.length = W * H ∧ Gw s CS i cs q.1 q.2) (fun q => cs.length - q.1) (0, G) ⟨Nat.zero_le _, hGl, hG.start cs⟩ ?_ ?_
          · dsimp only
            conv => whnf
            refine Retell.turn ⟨[0], 9, [], []⟩ (TurnOk.mk' _ _ [] [] (OutOk.lift _) rfl (by decide) zb trivial trivial rfl) zw zm
          rintro ⟨j, G2⟩ ⟨hj, hG2l, hG2⟩
          dsimp only at hj hG2l hG2 ⊢
          rcases Nat.lt_or_ge j cs.length with h6 | h6
          · have xj : cs[j]? = some cs[j] := List.getElem?_eq_getElem h6
            have t4 := t3 _ (List.getElem_mem (h := h6))
            have xjI := natI_at' xj
            have hG3 := hG2.step f1 xi xj (by omega)
            generalize cs[j] = n at *
            obtain ⟨t4, t5⟩ := t4
            have xa := at0_get (l := a) (n := n) t4
            have xb := at0_get (l := b) (n := n) (by omega)
            have xg := bat_get (mk := G2) (q := n) (by omega)
            generalize at0 a n = ua at *
            generalize at0 b n = ub at *
            rw [← ncl] at hG3
            conv => whnf
            repeat' (first | ((first | refine zs1 ?_ | refine zs2 ?_ | refine zs3 ?_ | refine zs4 ?_ | refine zs5 ?_); conv => whnf) | ((first | apply zi1 | apply zi2 | apply zi3 | apply zi4 | apply zi5) <;> intro _ <;> first | (exfalso; omega) | contradiction | (conv => whnf)))
            refine VCut.block 99 ?_
            conv => whnf
            repeat' (first | ((first | refine zs1 ?_ | refine zs2 ?_ | refine zs3 ?_ | refine zs4 ?_ | refine zs5 ?_); conv => whnf) | ((first | apply zi1 | apply zi2 | apply zi3 | apply zi4 | apply zi5) <;> intro _ <;> first | (exfalso; omega) | contradiction | (conv => whnf)) | (refine VAny.ix Vm.encI_len j rfl rfl xjI ?_; conv => whnf))
            refine zs6 [] ?_
            conv => whnf
            repeat' (first | ((first | refine zs1 ?_ | refine zs2 ?_ | refine zs3 ?_ | refine zs4 ?_ | refine zs5 ?_); conv => whnf) | ((first | apply zi1 | apply zi2 | apply zi3 | apply zi4 | apply zi5) <;> intro _ <;> first | (exfalso; omega) | contradiction | (conv => whnf)) | (refine VAny.ix encM_len y (by omega) rfl z1 ?_; conv => whnf) | (refine VAny.ix encM_len Y (by omega) rfl w1 ?_; conv => whnf) | (refine VAny.ix encM_len Y (by omega) rfl w3 ?_; conv => whnf) | (refine VAny.ix encM_len y (by omega) rfl z3 ?_; conv => whnf) | (refine VAny.ix Vm.encI_len n rfl (by omega) xb ?_; conv => whnf) | (refine VAny.ix Vm.encI_len n rfl (by omega) xa ?_; conv => whnf) | (refine VMem.setRec encB_len n 0 (decide (((natI cs).length : Int) ≤ s)) rfl rfl rfl xg (by decide) rfl (ofs _) ?_; conv => whnf))
            refine LEnd.intro (j + 1, G2.set n (decide (((natI cs).length : Int) ≤ s))) ⟨by dsimp only; omega, by dsimp only; rw [List.length_set]; exact hG2l, hG3⟩ (by dsimp only; omega) ?_
            dsimp only
            rw [List.length_set]
            conv => whnf
            refine Retell.turn ⟨[0], 9, [], []⟩ (TurnOk.mk' _ _ [] [] (OutOk.lift _) rfl (by decide) zb trivial trivial rfl) zw zm
          · obtain rfl : j = cs.length := by omega
            have hG3 := hG2.next xi
            conv => whnf
            repeat' (first | ((first | refine zs1 ?_ | refine zs2 ?_ | refine zs3 ?_ | refine zs4 ?_ | refine zs5 ?_); conv => whnf) | ((first | apply zi1 | apply zi2 | apply zi3 | apply zi4 | apply zi5) <;> intro _ <;> first | (exfalso; omega) | contradiction | (conv => whnf)))
            refine LEnd.intro (i + 1, G2) ⟨by dsimp only; omega, hG2l, hG3, by dsimp only; omega⟩ (by dsimp only; omega) ?_
            dsimp only
            rw [xs]
            conv => whnf
            refine Retell.turn ⟨[0], 9, [], []⟩ (TurnOk.mk' _ _ [] [] (OutOk.lift _) rfl (by decide) zb trivial trivial rfl) zw zm
        · obtain rfl : i = CS.length := by omega
          have hfin := hG.fin
          clear z2 kCy v0 y0A cE2 hA0
          have hnx : ∀ n, at0 nxt n = if bat G n = true then at0 b n else at0 now n := fun n => by
            rw [f6 n]
            by_cases e : bat G n = true
            · rw [if_pos e, if_pos ((hfin n).1 e)]
            · rw [if_neg e, if_neg fun g => e ((hfin n).2 g)]
          clear hG hfin f6 f3 f2 f1
          rw [f4]
          conv => whnf
          repeat' (first | ((first | refine zs1 ?_ | refine zs2 ?_ | refine zs3 ?_ | refine zs4 ?_ | refine zs5 ?_); conv => whnf) | ((first | apply zi1 | apply zi2 | apply zi3 | apply zi4 | apply zi5) <;> intro _ <;> first | (exfalso; omega) | contradiction | (conv => whnf)))
          refine VCut.at' (outer := h.lift) (marks := []) 1 [(5, yrs M), (6, I s), (9, yrs NN), (11, yrs AA), (88, I M.length), (89, I ((Y : Int) + 1)), (13, I ((Y : Int) + 1)), (16, .gl (.loc 0) 1 G.length), (17, I (cntD a b a.length))] [.flat true (G.flatMap encB)] ?_ ?_
          · conv => whnf
            refine Retell.turn ⟨[0], 9, [], []⟩ (TurnOk.mk' _ _ [] [] (OutOk.lift _) rfl (by decide) zb trivial trivial rfl) zw zm
          have cle := cntD_le a b a.length
          generalize hT : cntD a b a.length = T at *
          conv => whnf
          repeat' (first | ((first | refine zs1 ?_ | refine zs2 ?_ | refine zs3 ?_ | refine zs4 ?_ | refine zs5 ?_); conv => whnf) | ((first | apply zi1 | apply zi2 | apply zi3 | apply zi4 | apply zi5) <;> intro _ <;> first | (exfalso; omega) | contradiction | (conv => whnf)) | (refine VAny.ix encM_len y (by omega) rfl z1 ?_; conv => whnf) | (refine VAny.ix encM_len Y (by omega) rfl w1 ?_; conv => whnf) | (refine VAny.ix encM_len Y (by omega) rfl w3 ?_; conv => whnf) | (refine VAny.ix encM_len y (by omega) rfl z3 ?_; conv => whnf))
          refine VCode.lpC (outer := h.lift) (marks := []) 2 (fun n : Nat => [(5, yrs M), (6, I s), (9, yrs NN), (11, yrs AA), (88, I M.length), (89, I ((Y : Int) + 1)), (13, I ((Y : Int) + 1)), (16, .gl (.loc 0) 1 G.length), (17, I ((T : Int) - (cntD a b n : Int))), (216, ints b), (217, I b.length), (218, I n)]) (fun _ => [.flat true (G.flatMap encB)]) (fun n => n ≤ W * H) (fun n => W * H - n) 0 (Nat.zero_le _) ?_ ?_
          · rw [show cntD a b 0 = 0 from rfl]
            conv => whnf
            refine Retell.turn ⟨[0], 9, [], []⟩ (TurnOk.mk' _ _ [] [] (OutOk.lift _) rfl (by decide) zb trivial trivial rfl) zw zm
          rintro n hn5
          have cl2 := cntD_le a b n
          rcases Nat.lt_or_ge n (W * H) with h6 | h6
          · have hcn := cntD_succ a b n
            have hnx := hnx n
            have xa := at0_get (l := a) (n := n) (by omega)
            have xb := at0_get (l := b) (n := n) (by omega)
            have xw := at0_get (l := now) (n := n) (by omega)
            have xx := at0_get (l := nxt) (n := n) (by omega)
            have xg := bat_get (mk := G) (q := n) (by omega)
            rw [hnx] at xx
            clear hnx
            obtain ⟨ua, hua⟩ : ∃ ua, ua = at0 a n := ⟨_, rfl⟩
            obtain ⟨ub, hub⟩ : ∃ ub, ub = at0 b n := ⟨_, rfl⟩
            obtain ⟨uw, huw⟩ : ∃ uw, uw = at0 now n := ⟨_, rfl⟩
            obtain ⟨ug, hug⟩ : ∃ ug, ug = bat G n := ⟨_, rfl⟩
            rw [← hua] at xa hcn
            rw [← hub] at xb hcn xx
            rw [← huw] at xw xx
            rw [← hug] at xg xx
            clear hua hub huw hug
            apply sufficesL
            · intro hrest
              by_cases e : ua = ub
              · rw [if_pos e, Nat.add_zero] at hcn
                conv => whnf
                repeat' (first | ((first | refine zs1 ?_ | refine zs2 ?_ | refine zs3 ?_ | refine zs4 ?_ | refine zs5 ?_); conv => whnf) | ((first | apply zi1 | apply zi2 | apply zi3 | apply zi4 | apply zi5) <;> intro _ <;> first | (exfalso; omega) | contradiction | (conv => whnf)))
                refine VCut.block 2 ?_
                conv => whnf
                repeat' (first | ((first | refine zs1 ?_ | refine zs2 ?_ | refine zs3 ?_ | refine zs4 ?_ | refine zs5 ?_); conv => whnf) | ((first | apply zi1 | apply zi2 | apply zi3 | apply zi4 | apply zi5) <;> intro _ <;> first | (exfalso; omega) | contradiction | (conv => whnf)) | (refine VAny.ix Vm.encI_len n rfl (by omega) xb ?_; conv => whnf) | (refine VAny.ix encM_len Y (by omega) rfl w1 ?_; conv => whnf) | (refine VAny.ix Vm.encI_len n rfl (by omega) xa ?_; conv => whnf))
                refine VCut.at' (outer := h.lift) (marks := []) 99 [(5, yrs M), (6, I s), (9, yrs NN), (11, yrs AA), (88, I M.length), (89, I ((Y : Int) + 1)), (13, I ((Y : Int) + 1)), (16, .gl (.loc 0) 1 G.length), (17, I ((T : Int) - (cntD a b (n + 1) : Int))), (216, ints b), (217, I b.length), (218, I n), (22, I n), (23, I ub)] [.flat true (G.flatMap encB)] ?_ hrest.out
                rw [hcn]
                conv => whnf
                refine Retell.turn ⟨[0], 9, [], []⟩ (TurnOk.mk' _ _ [] [] (OutOk.lift _) rfl (by decide) zb trivial trivial rfl) zw zm
              · rw [if_neg e] at hcn
                conv => whnf
                repeat' (first | ((first | refine zs1 ?_ | refine zs2 ?_ | refine zs3 ?_ | refine zs4 ?_ | refine zs5 ?_); conv => whnf) | ((first | apply zi1 | apply zi2 | apply zi3 | apply zi4 | apply zi5) <;> intro _ <;> first | (exfalso; omega) | contradiction | (conv => whnf)))
                refine VCut.block 2 ?_
                conv => whnf
                repeat' (first | ((first | refine zs1 ?_ | refine zs2 ?_ | refine zs3 ?_ | refine zs4 ?_ | refine zs5 ?_); conv => whnf) | ((first | apply zi1 | apply zi2 | apply zi3 | apply zi4 | apply zi5) <;> intro _ <;> first | (exfalso; omega) | contradiction | (conv => whnf)) | (refine VAny.ix Vm.encI_len n rfl (by omega) xb ?_; conv => whnf) | (refine VAny.ix encM_len Y (by omega) rfl w1 ?_; conv => whnf) | (refine VAny.ix Vm.encI_len n rfl (by omega) xa ?_; conv => whnf))
                refine VCut.at' (outer := h.lift) (marks := []) 99 [(5, yrs M), (6, I s), (9, yrs NN), (11, yrs AA), (88, I M.length), (89, I ((Y : Int) + 1)), (13, I ((Y : Int) + 1)), (16, .gl (.loc 0) 1 G.length), (17, I ((T : Int) - (cntD a b (n + 1) : Int))), (216, ints b), (217, I b.length), (218, I n), (22, I n), (23, I ub)] [.flat true (G.flatMap encB)] ?_ hrest.out
                rw [hcn]
                conv => whnf
                refine Retell.turn ⟨[0], 9, [], []⟩ (TurnOk.mk' _ _ [] [] (OutOk.lift _) rfl (by decide) zb trivial trivial rfl) zw zm
            clear xa xb hcn
            cases ug
            · rw [if_neg (by decide)] at xx
              conv => whnf
              repeat' (first | ((first | refine zs1 ?_ | refine zs2 ?_ | refine zs3 ?_ | refine zs4 ?_ | refine zs5 ?_); conv => whnf) | ((first | apply zi1 | apply zi2 | apply zi3 | apply zi4 | apply zi5) <;> intro _ <;> first | (exfalso; omega) | contradiction | (conv => whnf)) | (refine VAny.ix encM_len Y (by omega) rfl w3 ?_; conv => whnf) | (refine VAny.ix encM_len y (by omega) rfl z3 ?_; conv => whnf) | (refine VLd.recc encB_len n 0 rfl rfl rfl xg (by decide) rfl (ofs _) ?_; conv => whnf) | (refine VAny.ix Vm.encI_len n rfl (by omega) xw ?_; conv => whnf) | (refine VAny.ix Vm.encI_len n rfl (by omega) xx ?_; conv => whnf))
              refine LEnd.intro (n + 1) (by omega) (by omega) ?_
              conv => whnf
              refine Retell.turn ⟨[0], 9, [], []⟩ (TurnOk.mk' _ _ [] [] (OutOk.lift _) rfl (by decide) zb trivial trivial rfl) zw zm
            · rw [if_pos rfl] at xx
              conv => whnf
              repeat' (first | ((first | refine zs1 ?_ | refine zs2 ?_ | refine zs3 ?_ | refine zs4 ?_ | refine zs5 ?_); conv => whnf) | ((first | apply zi1 | apply zi2 | apply zi3 | apply zi4 | apply zi5) <;> intro _ <;> first | (exfalso; omega) | contradiction | (conv => whnf)) | (refine VAny.ix encM_len Y (by omega) rfl w3 ?_; conv => whnf) | (refine VAny.ix encM_len y (by omega) rfl z3 ?_; conv => whnf) | (refine VLd.recc encB_len n 0 rfl rfl rfl xg (by decide) rfl (ofs _) ?_; conv => whnf) | (refine VAny.ix Vm.encI_len n rfl (by omega) xw ?_; conv => whnf) | (refine VAny.ix Vm.encI_len n rfl (by omega) xx ?_; conv => whnf))
              refine LEnd.intro (n + 1) (by omega) (by omega) ?_
              conv => whnf
              refine Retell.turn ⟨[0], 9, [], []⟩ (TurnOk.mk' _ _ [] [] (OutOk.lift _) rfl (by decide) zb trivial trivial rfl) zw zm
          · obtain rfl : n = W * H := by omega
            rw [← w5, hT]
            conv => whnf
            repeat' (first | ((first | refine zs1 ?_ | refine zs2 ?_ | refine zs3 ?_ | refine zs4 ?_ | refine zs5 ?_); conv => whnf) | ((first | apply zi1 | apply zi2 | apply zi3 | apply zi4 | apply zi5) <;> intro _ <;> first | (exfalso; omega) | contradiction | (conv => whnf)))
            refine VCut.at' (outer := h.lift) (marks := []) 99 [(5, yrs M), (6, I s), (9, yrs NN), (11, yrs AA), (88, I M.length), (89, I ((Y : Int) + 1)), (17, I ((T : Int) - (T : Int)))] [] ?_ ?_
            · conv => whnf
              refine Retell.turn ⟨[], 9, [], []⟩ (TurnOk.mk' _ _ [] [] (OutOk.lift _) rfl (by decide) zb trivial trivial rfl) zw zm
            conv => whnf
            repeat' (first | ((first | refine zs1 ?_ | refine zs2 ?_ | refine zs3 ?_ | refine zs4 ?_ | refine zs5 ?_); conv => whnf) | ((first | apply zi1 | apply zi2 | apply zi3 | apply zi4 | apply zi5) <;> intro _ <;> first | (exfalso; omega) | contradiction | (conv => whnf)))
            refine LEnd.intro (y + 1) (by omega) (by omega) ?_
            conv => whnf
            refine Retell.turn ⟨[], 9, [], []⟩ (TurnOk.mk' _ _ [] [] (OutOk.lift _) rfl (by decide) zb trivial trivial rfl) zw zm
  · obtain rfl : y = L.length := by omega
    conv => whnf
    repeat' (first | ((first | refine zs1 ?_ | refine zs2 ?_ | refine zs3 ?_ | refine zs4 ?_ | refine zs5 ?_); conv => whnf) | ((first | apply zi1 | apply zi2 | apply zi3 | apply zi4 | apply zi5) <;> intro _ <;> first | (exfalso; omega) | contradiction | (conv => whnf)) | (refine VCall.intro (cA _) ?_; conv => whnf))
    exact VOut.same rfl
end Go.Proofs.Ytkbbfeljlepgoaa


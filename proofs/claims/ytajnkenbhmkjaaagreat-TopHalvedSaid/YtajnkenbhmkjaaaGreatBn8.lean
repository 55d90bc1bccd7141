/- Part 8 of the proof that two base points leave no enclaves. No condition. -/
import Derived.Test.YtajnkenbhmkjaaaGreatBn7
set_option linter.unusedVariables false
set_option linter.unusedSimpArgs false
open Go.Vm
open Riv
namespace Go.Proofs.YtajnkenbhmkjaaaGreat
set_option maxRecDepth 20000
set_option maxHeartbeats 4000000

/-! ### Depths -/
abbrev AS := List Int × List Int × List Bool
def arS (R : List Int) (W i : Nat) (s : AS) (k : Nat) : AS :=
  if wit R W i k = true then
    (s.1.set i (at0 s.1 i + 1), (if at0 s.2.1 i = -1 then s.2.1.set i k else if wit R W k (at0 s.2.1 i) = true then s.2.1.set i k else s.2.1),
      if at0 s.2.1 i = -1 then metW R W i k s.2.2 else metW R W k (at0 s.2.1 i) (metW R W i k s.2.2))
  else (s.1, s.2.1, metW R W i k s.2.2)
def arK (R : List Int) (W i : Nat) (s : AS) (k : Nat) : AS := (List.range k).foldl (arS R W i) s
def arR (R : List Int) (W m : Nat) (s : AS) (i : Nat) : AS := (List.range i).foldl (fun s i => arK R W i s m) s
theorem arK_step (R : List Int) (W i : Nat) (s : AS) (k : Nat) : arK R W i s (k + 1) = arS R W i (arK R W i s k) k := by unfold arK; rw [List.range_succ, List.foldl_append]; rfl
theorem arR_step (R : List Int) (W m : Nat) (s : AS) (i : Nat) : arR R W m s (i + 1) = arK R W i (arR R W m s i) m := by unfold arR; rw [List.range_succ, List.foldl_append]; rfl
structure AOk (m : Nat) (c : Int) (s : AS) : Prop where
  d : s.1.length = m
  a : s.2.1.length = m
  M : s.2.2.length = 100
  v : ∀ x ∈ s.1, 0 ≤ x ∧ x ≤ c
theorem arS_ok {R : List Int} {W i m k : Nat} {c : Int} {s : AS} (h : AOk m c s) (hi : i < m) : AOk m (c + 1) (arS R W i s k) := by
  have hv : ∀ x ∈ s.1, 0 ≤ x ∧ x ≤ c + 1 := fun x hx => by have := h.v x hx; omega
  unfold arS
  split
  · refine ⟨by dsimp only; rw [List.length_set]; exact h.d, ?_, ?_, fun x hx => ?_⟩
    · dsimp only
      split
      · rw [List.length_set]; exact h.a
      · split
        · rw [List.length_set]; exact h.a
        · exact h.a
    · dsimp only
      split
      · exact metW_len h.M
      · exact metW_len (metW_len h.M)
    · rcases List.mem_or_eq_of_mem_set hx with hx | hx
      · exact hv x hx
      · have := h.v _ (List.mem_of_getElem? (at0_get (l := s.1) (n := i) (by rw [h.d]; exact hi)))
        subst hx; omega
  · exact ⟨h.d, h.a, metW_len h.M, hv⟩
theorem arK_ok {R : List Int} {W i m : Nat} {c : Int} {s : AS} (h : AOk m c s) (hi : i < m) : ∀ k : Nat, AOk m (c + k) (arK R W i s k)
  | 0 => by
    have : arK R W i s 0 = s := rfl
    rw [this]
    exact ⟨h.d, h.a, h.M, fun x hx => by have := h.v x hx; omega⟩
  | k + 1 => by
    rw [arK_step, show c + ((k + 1 : Nat) : Int) = c + k + 1 by omega]
    exact arS_ok (arK_ok h hi k) hi
theorem arR_ok {R : List Int} {W m : Nat} {s : AS} (hm : m ≤ 100) (h : AOk m 0 s) : ∀ i : Nat, i ≤ m → AOk m (100 * i) (arR R W m s i)
  | 0, _ => by
    have : arR R W m s 0 = s := rfl
    rw [this]; exact h
  | i + 1, hi => by
    rw [arR_step]
    have h2 := arK_ok (R := R) (W := W) (arR_ok (R := R) (W := W) hm h i (by omega)) (show i < m by omega) m
    exact ⟨h2.d, h2.a, h2.M, fun x hx => by have := h2.v x hx; omega⟩
theorem vc_around (W : Nat) (o R : List Int) (m : Nat) (M : List Bool) (wI : Vm.Id) (h : Hp) (e : EOk W o) (hR : R.length = o.length) (hM : M.length = 100) (hw : h.get wI = some (wkB W o R m M)) (hm : m ≤ 100) :
    VC Tryz.prog 15 [.ptr wI 0] h (.tuple [ints (arR R W m (List.replicate m 0, List.replicate m (-1), M) m).1, ints (arR R W m (List.replicate m 0, List.replicate m (-1), M) m).2.1]) (h.set wI (wkB W o R m (arR R W m (List.replicate m 0, List.replicate m (-1), M) m).2.2)) := by
  have hw2 : ∀ loc, (⟨h.lift, loc⟩ : Hp).get (.out wI) = some (wkB W o R m M) := fun loc => by rw [get_out hw loc, wkB_ren]
  have eo0 : outW h.lift wI (wkB W o R m M) = h.lift := (outW_id (o := h.lift) (i := wI) (hw2 [])).symm
  obtain ⟨s0, hs0⟩ : ∃ s : AS, s = (List.replicate m 0, List.replicate m (-1), M) := ⟨_, rfl⟩
  have hok0 : AOk m 0 s0 := by
    rw [hs0]
    exact ⟨List.length_replicate, List.length_replicate, hM, fun x hx => by rw [List.eq_of_mem_replicate hx]; omega⟩
  have hok := fun i hi => arR_ok (R := R) (W := W) hm hok0 i hi
  have hstR := fun i => arR_step R W m s0 i
  have hA0 : arR R W m s0 0 = s0 := rfl
  rw [← hs0]
  generalize arR R W m s0 = A at *
  refine VC.bodyC 99 Tryz.func15 rfl Tryz.ntmps15 Tryz.call15 (h.grows_set _ _) rfl ?_
  conv => whnf
  repeat' (first | ((first | refine zs1 ?_ | refine zs2 ?_ | refine zs3 ?_ | refine zs4 ?_ | refine zs5 ?_); conv => whnf) | ((first | apply zi1 | apply zi2 | apply zi3 | apply zi4 | apply zi5) <;> intro _ <;> first | (exfalso; omega) | contradiction | (conv => whnf)))
  refine zs6 [(3, 10), (4, 10)] ?_
  conv => whnf
  repeat' (first | ((first | refine zs1 ?_ | refine zs2 ?_ | refine zs3 ?_ | refine zs4 ?_ | refine zs5 ?_); conv => whnf) | ((first | apply zi1 | apply zi2 | apply zi3 | apply zi4 | apply zi5) <;> intro _ <;> first | (exfalso; omega) | contradiction | (conv => whnf)) | (refine VLd.wkN rfl rfl (hw2 _) rfl ?_; conv => whnf) | (refine VMkD.makeI m rfl rfl rfl rfl rfl (by decide) (by omega) ?_; conv => whnf))
  refine VCall.intro (VC.give (args' := [ints [-1], I m]) (loc' := [.flat true ((List.replicate m (0 : Int)).flatMap Vm.encI), .dead]) [(1, [DI (-1)])] [] (OutOk.lift _) zb zf (by exact FmAll.nil) rfl zw (vc_Repeat (-1) m _ (by omega))) ?_
  conv => whnf
  repeat' (first | ((first | refine zs1 ?_ | refine zs2 ?_ | refine zs3 ?_ | refine zs4 ?_ | refine zs5 ?_); conv => whnf) | ((first | apply zi1 | apply zi2 | apply zi3 | apply zi4 | apply zi5) <;> intro _ <;> first | (exfalso; omega) | contradiction | (conv => whnf)) | (refine VLd.wkN rfl rfl (hw2 _) rfl ?_; conv => whnf))
  refine VCode.lpoC (marks := []) 99 (fun i : Nat => [(0, .ptr (.out wI) 0), (2, .gl (.loc 0) 1 m), (3, .gl (.loc 1) 1 m), (4, .func (.func 34) [.ptr (.out wI) 0] []), (23, I m), (24, I i)]) (fun i => outW h.lift wI (wkB W o R m (A i).2.2)) (fun i => [.flat true ((A i).1.flatMap Vm.encI), .flat true ((A i).2.1.flatMap Vm.encI)])
    (fun i => i ≤ m) (fun i => m - i) 0 (Nat.zero_le _) ?_ ?_
  · rw [hA0, hs0, eo0]
    conv => whnf
    refine Retell.turn ⟨[0,2], 9, [], []⟩ (TurnOk.mk' _ _ [] [] (OutOk.lift _) rfl (by decide) zb trivial trivial rfl) zw zm
  · intro i hi
    rcases Nat.lt_or_ge i m with h3 | h3
    · have hAi := hstR i
      have hoki := hok i (by omega)
      clear hok hstR hA0 hs0 hok0 eo0
      have hokk := fun k => arK_ok (R := R) (W := W) hoki h3 k
      have hKs := fun k => arK_step R W i (A i) k
      have hK0 : arK R W i (A i) 0 = A i := rfl
      rw [← hK0]
      generalize arK R W i (A i) = K at *
      conv => whnf
      repeat' (first | ((first | refine zs1 ?_ | refine zs2 ?_ | refine zs3 ?_ | refine zs4 ?_ | refine zs5 ?_); conv => whnf) | ((first | apply zi1 | apply zi2 | apply zi3 | apply zi4 | apply zi5) <;> intro _ <;> first | (exfalso; omega) | contradiction | (conv => whnf)) | (refine VLd.wkN rfl rfl (outW_get _ _ _ _) rfl ?_; conv => whnf))
      refine VCode.lpoC (marks := []) 99 (fun k : Nat => [(0, .ptr (.out wI) 0), (2, .gl (.loc 0) 1 m), (3, .gl (.loc 1) 1 m), (4, .func (.func 34) [.ptr (.out wI) 0] []), (23, I m), (24, I i), (5, I i), (30, I m), (31, I k)]) (fun k => outW h.lift wI (wkB W o R m (K k).2.2)) (fun k => [.flat true ((K k).1.flatMap Vm.encI), .flat true ((K k).2.1.flatMap Vm.encI)])
        (fun k => k ≤ m) (fun k => m - k) 0 (Nat.zero_le _) ?_ ?_
      · conv => whnf
        refine Retell.turn ⟨[0, 1], 9, [], []⟩ (TurnOk.mk' _ _ [] [] (OutOk.outW (OutOk.lift _) (wkB_ren _ _ _ _ _ _)) rfl (by decide) zb trivial trivial rfl) zw zm
      · intro k hk
        rcases Nat.lt_or_ge k m with h5 | h5
        · have hs := hKs k
          have ho := hokk k
          clear hKs hokk hAi hK0
          have hd : (K k).1[i]? = some (at0 (K k).1 i) := at0_get (by rw [ho.d]; exact h3)
          have ha : (K k).2.1[i]? = some (at0 (K k).2.1 i) := at0_get (by rw [ho.a]; exact h3)
          have hdv := ho.v _ (List.mem_of_getElem? hd)
          have hMl := ho.M
          have w1 := fun H hw hne => vc_within W o R m (i : Int) (k : Int) (K k).2.2 (.out wI) H e hR hMl hw hne
          have w2 := fun H hw hne => vc_within W o R m (k : Int) (at0 (K k).2.1 i) (metW R W i k (K k).2.2) (.out wI) H e hR (metW_len hMl) hw hne
          unfold arS at hs
          generalize hx : at0 (K k).1 i = x at *
          generalize hy : at0 (K k).2.1 i = y at *
          by_cases hik : (i : Int) = (k : Int)
          · have hw0 : wit R W i k = false := by unfold wit; rw [decide_eq_false (fun hh => hh hik), Bool.false_and]
            have hm0 : metW R W i k (K k).2.2 = (K k).2.2 := by unfold metW; rw [if_pos hik]
            rw [hw0, if_neg (by decide), hm0] at hs
            have hs : K (k + 1) = K k := hs
            conv => whnf
            rw [hik]
            repeat' (first | ((first | refine zs1 ?_ | refine zs2 ?_ | refine zs3 ?_ | refine zs4 ?_ | refine zs5 ?_); conv => whnf) | ((first | apply zi1 | apply zi2 | apply zi3 | apply zi4 | apply zi5) <;> intro _ <;> first | (exfalso; omega) | contradiction | (conv => whnf)) | (refine VCall.intro (vc_within0 _ _ _) ?_; conv => whnf))
            refine LEndO.intro (k + 1) (by omega) (by omega) (by rw [hs]) ?_
            rw [hs]
            conv => whnf
            refine Retell.turn ⟨[0, 1], 9, [], []⟩ (TurnOk.mk' _ _ [] [] (OutOk.outW (OutOk.lift _) (wkB_ren _ _ _ _ _ _)) rfl (by decide) zb trivial trivial rfl) zw zm
          · have w1 := fun H hw => w1 H hw hik
            cases hwt : wit R W i k with
            | false =>
              rw [hwt, if_neg (by decide)] at hs
              rw [hwt] at w1
              have eo : outW (outW h.lift wI (wkB W o R m (K k).2.2)) wI (wkB W o R m (metW R W i k (K k).2.2)) = outW h.lift wI (wkB W o R m (K (k + 1)).2.2) := by rw [outW_same, hs]
              conv => whnf
              repeat' (first | ((first | refine zs1 ?_ | refine zs2 ?_ | refine zs3 ?_ | refine zs4 ?_ | refine zs5 ?_); conv => whnf) | ((first | apply zi1 | apply zi2 | apply zi3 | apply zi4 | apply zi5) <;> intro _ <;> first | (exfalso; omega) | contradiction | (conv => whnf)) | (refine VCall.intro (w1 _ (outW_get _ _ _ _)) ?_; conv => whnf))
              refine LEndO.intro (k + 1) (by omega) (by omega) eo ?_
              rw [hs]
              conv => whnf
              refine Retell.turn ⟨[0, 1], 9, [], []⟩ (TurnOk.mk' _ _ [] [] (OutOk.outW (OutOk.lift _) (wkB_ren _ _ _ _ _ _)) rfl (by decide) zb trivial trivial rfl) zw zm
            | true =>
              rw [hwt, if_pos rfl] at hs
              rw [hwt] at w1
              by_cases hy1 : y = -1
              · rw [if_pos hy1, if_pos hy1] at hs
                have eo : outW (outW h.lift wI (wkB W o R m (K k).2.2)) wI (wkB W o R m (metW R W i k (K k).2.2)) = outW h.lift wI (wkB W o R m (K (k + 1)).2.2) := by rw [outW_same, hs]
                clear w2
                subst hy1
                conv => whnf
                repeat' (first | ((first | refine zs1 ?_ | refine zs2 ?_ | refine zs3 ?_ | refine zs4 ?_ | refine zs5 ?_); conv => whnf) | ((first | apply zi1 | apply zi2 | apply zi3 | apply zi4 | apply zi5) <;> intro _ <;> first | (exfalso; omega) | contradiction | (conv => whnf)) | (refine VCall.intro (w1 _ (outW_get _ _ _ _)) ?_; conv => whnf) | (refine VLd.recc Vm.encI_len i 0 rfl rfl rfl hd (by decide) rfl (ix1 _) ?_; conv => whnf) | (refine VMem.setRec Vm.encI_len i 0 (x + 1) rfl rfl rfl hd (by decide) rfl (ix1 _) ?_; conv => whnf) | (refine VLd.recc Vm.encI_len i 0 rfl rfl rfl ha (by decide) rfl (ix1 _) ?_; conv => whnf) | (refine VMem.setRec Vm.encI_len i 0 (k : Int) rfl rfl rfl ha (by decide) rfl (ix1 _) ?_; conv => whnf))
                refine LEndO.intro (k + 1) (by omega) (by omega) eo ?_
                rw [hs]
                conv => whnf
                refine Retell.turn ⟨[0, 1], 9, [], []⟩ (TurnOk.mk' _ _ [] [] (OutOk.outW (OutOk.lift _) (wkB_ren _ _ _ _ _ _)) rfl (by decide) zb trivial trivial rfl) zw zm
              · rw [if_neg hy1, if_neg hy1] at hs
                by_cases hky : (k : Int) = y
                · have hw0 : wit R W k y = false := by unfold wit; rw [decide_eq_false (fun hh => hh hky), Bool.false_and]
                  have hm0 : metW R W k y (metW R W i k (K k).2.2) = metW R W i k (K k).2.2 := by unfold metW; rw [if_pos hky]
                  rw [hw0, if_neg (by decide), hm0] at hs
                  have eo : outW (outW h.lift wI (wkB W o R m (K k).2.2)) wI (wkB W o R m (metW R W i k (K k).2.2)) = outW h.lift wI (wkB W o R m (K (k + 1)).2.2) := by rw [outW_same, hs]
                  clear w2
                  have w0 := fun h => vc_within0 y (.out wI) h
                  conv => whnf
                  repeat' (first | ((first | refine zs1 ?_ | refine zs2 ?_ | refine zs3 ?_ | refine zs4 ?_ | refine zs5 ?_); conv => whnf) | ((first | apply zi1 | apply zi2 | apply zi3 | apply zi4 | apply zi5) <;> intro _ <;> first | (exfalso; omega) | contradiction | (conv => whnf)) | (refine VCall.intro (w1 _ (outW_get _ _ _ _)) ?_; conv => whnf) | (refine VLd.recc Vm.encI_len i 0 rfl rfl rfl hd (by decide) rfl (ix1 _) ?_; conv => whnf) | (refine VMem.setRec Vm.encI_len i 0 (x + 1) rfl rfl rfl hd (by decide) rfl (ix1 _) ?_; conv => whnf) | (refine VLd.recc Vm.encI_len i 0 rfl rfl rfl ha (by decide) rfl (ix1 _) ?_; conv => whnf) | (refine VMem.setRec Vm.encI_len i 0 (k : Int) rfl rfl rfl ha (by decide) rfl (ix1 _) ?_; conv => whnf))
                  rw [hky] at eo
                  rw [hky]
                  conv => whnf
                  repeat' (first | ((first | refine zs1 ?_ | refine zs2 ?_ | refine zs3 ?_ | refine zs4 ?_ | refine zs5 ?_); conv => whnf) | ((first | apply zi1 | apply zi2 | apply zi3 | apply zi4 | apply zi5) <;> intro _ <;> first | (exfalso; omega) | contradiction | (conv => whnf)) | (refine VCall.intro (w0 _) ?_; conv => whnf))
                  refine LEndO.intro (k + 1) (by omega) (by omega) eo ?_
                  rw [hs]
                  conv => whnf
                  refine Retell.turn ⟨[0, 1], 9, [], []⟩ (TurnOk.mk' _ _ [] [] (OutOk.outW (OutOk.lift _) (wkB_ren _ _ _ _ _ _)) rfl (by decide) zb trivial trivial rfl) zw zm
                · have w2 := fun H hw => w2 H hw hky
                  have eo : outW (outW (outW h.lift wI (wkB W o R m (K k).2.2)) wI (wkB W o R m (metW R W i k (K k).2.2))) wI (wkB W o R m (metW R W k y (metW R W i k (K k).2.2))) = outW h.lift wI (wkB W o R m (K (k + 1)).2.2) := by rw [outW_same, outW_same, hs]
                  cases hwt2 : wit R W k y with
                  | false =>
                    rw [hwt2, if_neg (by decide)] at hs
                    rw [hwt2] at w2
                    conv => whnf
                    repeat' (first | ((first | refine zs1 ?_ | refine zs2 ?_ | refine zs3 ?_ | refine zs4 ?_ | refine zs5 ?_); conv => whnf) | ((first | apply zi1 | apply zi2 | apply zi3 | apply zi4 | apply zi5) <;> intro _ <;> first | (exfalso; omega) | contradiction | (conv => whnf)) | (refine VCall.intro (w1 _ (outW_get _ _ _ _)) ?_; conv => whnf) | (refine VCall.intro (w2 _ (outW_get _ _ _ _)) ?_; conv => whnf) | (refine VLd.recc Vm.encI_len i 0 rfl rfl rfl hd (by decide) rfl (ix1 _) ?_; conv => whnf) | (refine VMem.setRec Vm.encI_len i 0 (x + 1) rfl rfl rfl hd (by decide) rfl (ix1 _) ?_; conv => whnf) | (refine VLd.recc Vm.encI_len i 0 rfl rfl rfl ha (by decide) rfl (ix1 _) ?_; conv => whnf) | (refine VMem.setRec Vm.encI_len i 0 (k : Int) rfl rfl rfl ha (by decide) rfl (ix1 _) ?_; conv => whnf))
                    refine LEndO.intro (k + 1) (by omega) (by omega) eo ?_
                    rw [hs]
                    conv => whnf
                    refine Retell.turn ⟨[0, 1], 9, [], []⟩ (TurnOk.mk' _ _ [] [] (OutOk.outW (OutOk.lift _) (wkB_ren _ _ _ _ _ _)) rfl (by decide) zb trivial trivial rfl) zw zm
                  | true =>
                    rw [hwt2, if_pos rfl] at hs
                    rw [hwt2] at w2
                    conv => whnf
                    repeat' (first | ((first | refine zs1 ?_ | refine zs2 ?_ | refine zs3 ?_ | refine zs4 ?_ | refine zs5 ?_); conv => whnf) | ((first | apply zi1 | apply zi2 | apply zi3 | apply zi4 | apply zi5) <;> intro _ <;> first | (exfalso; omega) | contradiction | (conv => whnf)) | (refine VCall.intro (w1 _ (outW_get _ _ _ _)) ?_; conv => whnf) | (refine VCall.intro (w2 _ (outW_get _ _ _ _)) ?_; conv => whnf) | (refine VLd.recc Vm.encI_len i 0 rfl rfl rfl hd (by decide) rfl (ix1 _) ?_; conv => whnf) | (refine VMem.setRec Vm.encI_len i 0 (x + 1) rfl rfl rfl hd (by decide) rfl (ix1 _) ?_; conv => whnf) | (refine VLd.recc Vm.encI_len i 0 rfl rfl rfl ha (by decide) rfl (ix1 _) ?_; conv => whnf) | (refine VMem.setRec Vm.encI_len i 0 (k : Int) rfl rfl rfl ha (by decide) rfl (ix1 _) ?_; conv => whnf))
                    refine LEndO.intro (k + 1) (by omega) (by omega) eo ?_
                    rw [hs]
                    conv => whnf
                    refine Retell.turn ⟨[0, 1], 9, [], []⟩ (TurnOk.mk' _ _ [] [] (OutOk.outW (OutOk.lift _) (wkB_ren _ _ _ _ _ _)) rfl (by decide) zb trivial trivial rfl) zw zm
        · obtain rfl : k = m := by omega
          conv => whnf
          repeat' (first | ((first | refine zs1 ?_ | refine zs2 ?_ | refine zs3 ?_ | refine zs4 ?_ | refine zs5 ?_); conv => whnf) | ((first | apply zi1 | apply zi2 | apply zi3 | apply zi4 | apply zi5) <;> intro _ <;> first | (exfalso; omega) | contradiction | (conv => whnf)))
          refine LEndO.intro (i + 1) (by omega) (by omega) (by rw [hAi]) ?_
          rw [hAi]
          conv => whnf
          refine Retell.turn ⟨[0, 1], 9, [], []⟩ (TurnOk.mk' _ _ [] [] (OutOk.outW (OutOk.lift _) (wkB_ren _ _ _ _ _ _)) rfl (by decide) zb trivial trivial rfl) zw zm
    · obtain rfl : i = m := by omega
      have hoki := hok i (Nat.le_refl _)
      generalize A i = s at *
      obtain ⟨d, a, M2⟩ := s
      have h1 := hoki.d
      have h2 := hoki.a
      dsimp only at h1 h2
      have f1 : (d.flatMap Vm.encI).length = i * 1 := by rw [flat_len Vm.encI_len, h1]
      have f2 : (a.flatMap Vm.encI).length = i * 1 := by rw [flat_len Vm.encI_len, h2]
      dsimp only
      conv => whnf
      repeat' (first | ((first | refine zs1 ?_ | refine zs2 ?_ | refine zs3 ?_ | refine zs4 ?_ | refine zs5 ?_); conv => whnf) | ((first | apply zi1 | apply zi2 | apply zi3 | apply zi4 | apply zi5) <;> intro _ <;> first | (exfalso; omega) | contradiction | (conv => whnf)))
      refine VOut.turn ⟨[], 9, [(0, d.flatMap Vm.encI), (1, a.flatMap Vm.encI)], []⟩ (loc' := []) (r1' := .tuple [.fs 1 i (d.flatMap Vm.encI), .fs 1 i (a.flatMap Vm.encI)]) (TurnOk.mk' _ _ [(0, d.flatMap Vm.encI), (1, a.flatMap Vm.encI)] [] (OutOk.outW (OutOk.lift _) (wkB_ren _ _ _ _ _ _)) rfl (by decide) zb zf trivial rfl) zw ?_
      rw [show V.fs 1 i (d.flatMap Vm.encI) = ints d by unfold ints; rw [h1], show V.fs 1 i (a.flatMap Vm.encI) = ints a by unfold ints; rw [h2]]
      exact VOut.setB 9 rfl hw (fun ρ => wkB_ren _ _ _ _ _ ρ) (fun ρ => rfl)
end Go.Proofs.YtajnkenbhmkjaaaGreat

open Go.Vm
open Riv
namespace Go.Proofs.YtajnkenbhmkjaaaGreat
set_option maxRecDepth 20000
set_option maxHeartbeats 4000000

/-! ### Regions: what they are -/
def Ad (W n p q : Nat) : Prop := p < n ∧ q < n ∧ (q + W = p ∨ p + W = q ∨ (q + 1 = p ∧ p % W ≠ 0) ∨ (q = p + 1 ∧ q % W ≠ 0))
theorem Ad.symm {W n p q : Nat} (h : Ad W n p q) : Ad W n q p := by
  obtain ⟨h1, h2, h3 | h3 | ⟨h3, h4⟩ | ⟨h3, h4⟩⟩ := h
  · exact ⟨h2, h1, .inr (.inl h3)⟩
  · exact ⟨h2, h1, .inl h3⟩
  · exact ⟨h2, h1, .inr (.inr (.inr ⟨h3.symm, h4⟩))⟩
  · exact ⟨h2, h1, .inr (.inr (.inl ⟨h3.symm, h4⟩))⟩
theorem mod_up {W p : Nat} (hW : 1 ≤ W) : (p + 1) % W = 0 ↔ p % W = W - 1 := by
  have h1 := Nat.div_add_mod p W
  have h2 := Nat.mod_lt p (show 0 < W by omega)
  generalize p % W = r at *
  generalize p / W = q at *
  subst h1
  rw [show W * q + r + 1 = W * q + (r + 1) by omega, Nat.mul_add_mod]
  rcases Nat.lt_or_ge (r + 1) W with h | h
  · rw [Nat.mod_eq_of_lt h]; omega
  · rw [show r + 1 = W by omega, Nat.mod_self]; omega
theorem mem_nbs {W n p q : Nat} (hW : 1 ≤ W) (hn : n % W = 0) (hp : p < n) : q ∈ nbs W n p ↔ Ad W n p q := by
  have hm := mod_up (p := p) hW
  have hlast : p % W ≠ W - 1 → p + 1 < n := fun h => by
    have : p + 1 ≠ n := fun e => h (hm.1 (by rw [e]; exact hn))
    omega
  have h0 : p % W ≠ 0 → p ≠ 0 := fun h e => h (by rw [e]; exact Nat.zero_mod W)
  unfold nbs Ad
  simp only [List.mem_append]
  constructor
  · rintro (((h | h) | h) | h)
    · split at h
      · cases h
      · rw [List.mem_singleton] at h; exact ⟨hp, by omega, .inl (by omega)⟩
    · split at h
      · cases h
      · rename_i h2
        rw [List.mem_singleton] at h
        have := h0 h2
        exact ⟨hp, by omega, .inr (.inr (.inl ⟨by omega, h2⟩))⟩
    · split at h
      · cases h
      · rename_i h2
        rw [List.mem_singleton] at h
        subst h
        exact ⟨hp, hlast h2, .inr (.inr (.inr ⟨rfl, fun e => h2 (hm.1 e)⟩))⟩
    · split at h
      · cases h
      · rw [List.mem_singleton] at h; exact ⟨hp, by omega, .inr (.inl (by omega))⟩
  · rintro ⟨_, hq, h | h | ⟨h, h2⟩ | ⟨h, h2⟩⟩
    · left; left; left
      rw [if_neg (by omega), List.mem_singleton]; omega
    · right
      rw [if_neg (by omega), List.mem_singleton]; omega
    · left; left; right
      rw [if_neg h2, List.mem_singleton]; omega
    · left; right
      subst h
      rw [if_neg (fun e => h2 (hm.2 e)), List.mem_singleton]
theorem set_at {l : List Int} {k p : Nat} {v : Int} (hk : k < l.length) : at0 (l.set k v) p = if p = k then v else at0 l p := at0_set hk p
structure FlI (o R0 : List Int) (W : Nat) (ow mn : Int) (st : List Int × List Nat) : Prop where
  e : EI o.length st
  s : ∀ k ∈ st.2, at0 st.1 k = mn
  old : ∀ k, k < o.length → at0 R0 k ≠ -1 → at0 st.1 k = at0 R0 k
  new : ∀ k, k < o.length → at0 R0 k = -1 → at0 st.1 k = -1 ∨ (at0 st.1 k = mn ∧ at0 o k = ow)
def FlC (o : List Int) (W : Nat) (ow mn : Int) (R : List Int) (S : List Nat) (X : Nat → Prop) : Prop := ∀ k, k < o.length → at0 R k = mn → k ∉ S → ¬ X k → ∀ q, Ad W o.length k q → at0 o q = ow → at0 R q ≠ -1
theorem putE_fl {o R0 : List Int} {W : Nat} {ow mn : Int} {st : List Int × List Nat} {q : Nat} (hm : mn ≠ -1) (h : FlI o R0 W ow mn st) (hq : q < o.length) :
    FlI o R0 W ow mn (putE o ow mn st q) ∧ (at0 o q = ow → at0 (putE o ow mn st q).1 q ≠ -1) ∧ (∀ k, at0 st.1 k ≠ -1 → at0 (putE o ow mn st q).1 k = at0 st.1 k) ∧ (∀ k ∈ st.2, k ∈ (putE o ow mn st q).2) ∧ (∀ k, at0 (putE o ow mn st q).1 k = mn → at0 st.1 k = mn ∨ k ∈ (putE o ow mn st q).2) := by
  have hl : q < st.1.length := by rw [h.e.len]; exact hq
  have he := (putE_ok (o := o) (ow := ow) h.e hq hm).1
  unfold putE at he ⊢
  split
  · rename_i hc
    rw [if_pos hc] at he
    have hs := fun p => set_at (p := p) (v := mn) hl
    refine ⟨⟨he, fun k hk => ?_, fun k hk h0 => ?_, fun k hk h0 => ?_⟩, fun _ => ?_, fun k h0 => ?_, fun k hk => List.mem_append_left _ hk, fun k h0 => ?_⟩
    · dsimp only; rw [hs]
      split
      · rfl
      · rename_i hne
        rcases List.mem_append.1 hk with hk | hk
        · exact h.s k hk
        · rw [List.mem_singleton] at hk; exact absurd hk hne
    · dsimp only; rw [hs, if_neg (fun e => by subst e; exact h0 (by rw [← h.old k hk h0]; exact hc.1))]
      exact h.old k hk h0
    · dsimp only; rw [hs]
      split
      · rename_i e; subst e; exact .inr ⟨rfl, hc.2⟩
      · exact h.new k hk h0
    · dsimp only; rw [hs, if_pos rfl]; exact hm
    · dsimp only; rw [hs, if_neg (fun e => h0 (by rw [e]; exact hc.1))]
    · dsimp only at h0 ⊢; rw [hs] at h0
      split at h0
      · rename_i e; exact .inr (by rw [e]; simp)
      · exact .inl h0
  · rename_i hc
    refine ⟨h, fun ho e => hc ⟨e, ho⟩, fun k _ => rfl, fun k hk => hk, fun k h0 => .inl h0⟩
theorem fold_fl {o R0 : List Int} {W : Nat} {ow mn : Int} (hm : mn ≠ -1) : ∀ (l : List Nat) (st : List Int × List Nat), FlI o R0 W ow mn st → (∀ q ∈ l, q < o.length) →
    FlI o R0 W ow mn (l.foldl (putE o ow mn) st) ∧ (∀ q ∈ l, at0 o q = ow → at0 (l.foldl (putE o ow mn) st).1 q ≠ -1) ∧ (∀ k, at0 st.1 k ≠ -1 → at0 (l.foldl (putE o ow mn) st).1 k = at0 st.1 k) ∧ (∀ k ∈ st.2, k ∈ (l.foldl (putE o ow mn) st).2) ∧ (∀ k, at0 (l.foldl (putE o ow mn) st).1 k = mn → at0 st.1 k = mn ∨ k ∈ (l.foldl (putE o ow mn) st).2)
  | [], st, h, _ => ⟨h, fun q hq => (List.not_mem_nil hq).elim, fun k _ => rfl, fun k hk => hk, fun k h0 => .inl h0⟩
  | q :: l, st, h, hl => by
    rw [List.foldl_cons]
    obtain ⟨a1, a2, a3, a4, a5⟩ := putE_fl hm h (hl q List.mem_cons_self)
    obtain ⟨b1, b2, b3, b4, b5⟩ := fold_fl hm l _ a1 (fun x hx => hl x (List.mem_cons_of_mem _ hx))
    refine ⟨b1, fun x hx hox => ?_, fun k hk => ?_, fun k hk => b4 k (a4 k hk), fun k h0 => ?_⟩
    · rcases List.mem_cons.1 hx with rfl | hx
      · have := a2 hox
        rw [b3 _ this]; exact this
      · exact b2 x hx hox
    · have h2 := a3 k hk
      rw [b3 k (by rw [h2]; exact hk), h2]
    · rcases b5 k h0 with h1 | h1
      · rcases a5 k h1 with h2 | h2
        · exact .inl h2
        · exact .inr (b4 k h2)
      · exact .inr h1
theorem flE_fl {o R0 : List Int} {W : Nat} {ow mn : Int} (hW : 1 ≤ W) (hn : o.length % W = 0) (hm : mn ≠ -1) : ∀ (N : Nat) (st : List Int × List Nat), FlI o R0 W ow mn st → muE st ≤ N → FlC o W ow mn st.1 st.2 (fun _ => False) →
    FlI o R0 W ow mn (flE o W ow mn N st, []) ∧ FlC o W ow mn (flE o W ow mn N st) [] (fun _ => False) ∧ ∀ k, at0 st.1 k ≠ -1 → at0 (flE o W ow mn N st) k = at0 st.1 k
  | 0, st, h, hmu, hc => by
    have hS : st.2 = [] := by
      have : st.2.length = 0 := by unfold muE at hmu; omega
      exact List.eq_nil_of_length_eq_zero this
    rw [hS] at hc
    exact ⟨⟨⟨h.e.len, fun k hk => (List.not_mem_nil hk).elim⟩, fun k hk => (List.not_mem_nil hk).elim, h.old, h.new⟩, hc, fun k _ => rfl⟩
  | N + 1, st, h, hmu, hc => by
    obtain ⟨R, S⟩ := st
    rcases List.eq_nil_or_concat S with rfl | ⟨S', p, rfl⟩
    · rw [flE_nil]
      exact ⟨h, hc, fun k _ => rfl⟩
    · rw [List.concat_eq_append] at *
      rw [flE_step, nbF_all]
      have hp := h.e.lt p (by simp)
      have hI2 : FlI o R0 W ow mn (R, S') := ⟨⟨h.e.len, fun k hk => h.e.lt k (List.mem_append_left _ hk)⟩, fun k hk => h.s k (List.mem_append_left _ hk), h.old, h.new⟩
      have hmu2 : muE (R, S') ≤ N := by have := mu_pop (R := R) (S := S') (p := p); omega
      have hmem := fun q => mem_nbs (q := q) hW hn hp
      obtain ⟨b1, b2, b3, b4, b5⟩ := fold_fl hm (nbs W o.length p) (R, S') hI2 (fun q hq => ((hmem q).1 hq).2.1)
      have hmu3 := (nbF_putE (o := o) (ow := ow) hW rfl hn hp hm hI2.e (nbO_lt hW hn hp) 4 (Nat.le_refl _)).2
      rw [nbF_all] at hmu3
      generalize (nbs W o.length p).foldl (putE o ow mn) (R, S') = st2 at *
      have hcl : FlC o W ow mn st2.1 st2.2 (fun _ => False) := by
        intro k hk hkm hkS _ q hq ho
        by_cases hkp : k = p
        · subst hkp
          exact b2 q ((hmem q).2 hq) ho
        · rcases b5 k hkm with h1 | h1
          · have h2 := hc k hk h1 (fun hx => by
              rcases List.mem_append.1 hx with hx | hx
              · exact hkS (b4 k hx)
              · rw [List.mem_singleton] at hx; exact hkp hx) (fun hf => hf) q hq ho
            have h2 : at0 R q ≠ -1 := h2
            rw [b3 q h2]; exact h2
          · exact absurd h1 hkS
      obtain ⟨c1, c2, c3⟩ := flE_fl hW hn hm N st2 b1 (by omega) hcl
      refine ⟨c1, c2, fun k hk => ?_⟩
      have h2 := b3 k hk
      rw [c3 k (by rw [h2]; exact hk), h2]
structure OpI (o : List Int) (W k : Nat) (s : List Int × Nat) : Prop where
  len : s.1.length = o.length
  rng : ∀ p, p < o.length → at0 s.1 p = -1 ∨ (0 ≤ at0 s.1 p ∧ at0 s.1 p < s.2)
  own : ∀ p q, p < o.length → q < o.length → at0 s.1 p ≠ -1 → at0 s.1 p = at0 s.1 q → at0 o p = at0 o q
  adj : ∀ p q, Ad W o.length p q → at0 s.1 p ≠ -1 → at0 o q = at0 o p → at0 s.1 q = at0 s.1 p
  has : ∀ i : Nat, i < s.2 → ∃ p, p < o.length ∧ at0 s.1 p = i
  done : ∀ p, p < k → at0 s.1 p ≠ -1
theorem opE_op {o : List Int} {W : Nat} (hW : 1 ≤ W) (hn : o.length % W = 0) : ∀ k, k ≤ o.length → OpI o W k (opE o W k)
  | 0, _ => by
    have h1 : ∀ p, p < o.length → at0 (opE o W 0).1 p = -1 := fun p hp => by
      show at0 (List.replicate o.length (-1)) p = -1
      unfold at0
      rw [List.getD_eq_getElem?_getD, List.getElem?_replicate, if_pos hp]; rfl
    exact ⟨List.length_replicate, fun p hp => .inl (h1 p hp), fun p q hp _ h => absurd (h1 p hp) h, fun p q h h2 => absurd (h1 p h.1) h2, fun i hi => absurd hi (Nat.not_lt_zero _), fun p hp => absurd hp (Nat.not_lt_zero _)⟩
  | k + 1, hk => by
    have ih := opE_op hW hn k (by omega)
    rw [opE]
    by_cases h0 : at0 (opE o W k).1 k = -1
    · rw [if_pos h0]
      generalize opE o W k = s at *
      obtain ⟨R, m⟩ := s
      dsimp only at *
      have hm : (m : Int) ≠ -1 := by omega
      have hlen : R.length = o.length := ih.len
      have hone := mu_one (m := (m : Int)) hm hlen (show k < o.length by omega) h0
      have hs := fun p => set_at (l := R) (k := k) (p := p) (v := (m : Int)) (by omega)
      have hfl0 : FlI o R W (at0 o k) m (R.set k m, [k]) := by
        refine ⟨hone.1, fun x hx => ?_, fun x hx h1 => ?_, fun x hx h1 => ?_⟩
        · rw [List.mem_singleton] at hx; subst hx; dsimp only; rw [hs, if_pos rfl]
        · dsimp only; rw [hs, if_neg (fun e => h1 (by rw [e]; exact h0))]
        · dsimp only; rw [hs]
          split
          · rename_i e; subst e; exact .inr ⟨rfl, rfl⟩
          · exact .inl h1
      have hrm : ∀ p, p < o.length → at0 R p ≠ m := fun p hp e => by
        rcases ih.rng p hp with h1 | h1
        · dsimp only at h1; omega
        · dsimp only at h1; omega
      have hcl0 : FlC o W (at0 o k) m (R.set k m) [k] (fun _ => False) := by
        intro x hx hxm hxS _ q hq ho
        rw [hs] at hxm
        split at hxm
        · rename_i e; exact absurd (by rw [e]; simp) hxS
        · exact absurd hxm (hrm x hx)
      obtain ⟨g1, g2, g3⟩ := flE_fl hW hn hm o.length _ hfl0 hone.2 hcl0
      have g3k := g3 k (by dsimp only; rw [hs, if_pos rfl]; exact hm)
      dsimp only at g3k
      rw [hs, if_pos rfl] at g3k
      generalize flE o W (at0 o k) m o.length (R.set k m, [k]) = R' at *
      have gold : ∀ p, p < o.length → at0 R p ≠ -1 → at0 R' p = at0 R p := fun p hp h => g1.old p hp h
      have gnew : ∀ p, p < o.length → at0 R p = -1 → at0 R' p = -1 ∨ (at0 R' p = m ∧ at0 o p = at0 o k) := fun p hp h => g1.new p hp h
      have gm : ∀ p, p < o.length → at0 R' p = m → at0 R p = -1 ∧ at0 o p = at0 o k := fun p hp h => by
        by_cases h1 : at0 R p = -1
        · rcases gnew p hp h1 with h2 | h2
          · omega
          · exact ⟨h1, h2.2⟩
        · rw [gold p hp h1] at h
          exact absurd h (hrm p hp)
      refine ⟨g1.e.len, fun p hp => ?_, fun p q hp hq h1 h2 => ?_, fun p q hpq h1 h2 => ?_, fun i hi => ?_, fun p hp => ?_⟩
      · dsimp only
        by_cases h1 : at0 R p = -1
        · rcases gnew p hp h1 with h2 | h2
          · exact .inl h2
          · right; rw [h2.1]; omega
        · rw [gold p hp h1]
          rcases ih.rng p hp with h2 | h2
          · exact .inl h2
          · right; dsimp only at h2; omega
      · dsimp only at h1 h2
        by_cases hpm : at0 R' p = m
        · rw [(gm p hp hpm).2, (gm q hq (by rw [← h2]; exact hpm)).2]
        · have hp1 : at0 R p ≠ -1 := fun e => by
            rcases gnew p hp e with h3 | h3
            · exact h1 h3
            · exact hpm h3.1
          have hq1 : at0 R q ≠ -1 := fun e => by
            rcases gnew q hq e with h3 | h3
            · exact h1 (by rw [h2]; exact h3)
            · exact hpm (by rw [h2]; exact h3.1)
          rw [gold p hp hp1, gold q hq hq1] at h2
          exact ih.own p q hp hq hp1 h2
      · dsimp only at h1 ⊢
        have hp := hpq.1
        have hq := hpq.2.1
        by_cases hpm : at0 R' p = m
        · obtain ⟨h3, h4⟩ := gm p hp hpm
          have h5 := g2 p hp hpm (List.not_mem_nil) (fun hf => hf) q hpq (by rw [h2, h4])
          by_cases hq1 : at0 R q = -1
          · rcases gnew q hq hq1 with h6 | h6
            · exact absurd h6 h5
            · rw [h6.1, hpm]
          · have := ih.adj q p hpq.symm hq1 h2.symm
            dsimp only at this
            omega
        · have hp1 : at0 R p ≠ -1 := fun e => by
            rcases gnew p hp e with h3 | h3
            · exact h1 h3
            · exact hpm h3.1
          have h3 := ih.adj p q hpq hp1 h2
          dsimp only at h3
          rw [gold p hp hp1, gold q hq (by rw [h3]; exact hp1), h3]
      · dsimp only at hi ⊢
        rcases Nat.lt_or_ge i m with h1 | h1
        · obtain ⟨p, h2, h3⟩ := ih.has i h1
          dsimp only at h3
          exact ⟨p, h2, by rw [gold p h2 (by omega)]; exact h3⟩
        · exact ⟨k, by omega, by rw [g3k]; omega⟩
      · dsimp only
        rcases Nat.lt_or_ge p k with h1 | h1
        · have := ih.done p h1
          dsimp only at this
          rw [gold p (by omega) this]; exact this
        · rw [show p = k by omega, g3k]; exact hm
    · rw [if_neg h0]
      refine ⟨ih.len, ih.rng, ih.own, ih.adj, ih.has, fun p hp => ?_⟩
      rcases Nat.lt_or_ge p k with h1 | h1
      · exact ih.done p h1
      · rw [show p = k by omega]; exact h0
end Go.Proofs.YtajnkenbhmkjaaaGreat

open Go.Vm
open Riv
namespace Go.Proofs.YtajnkenbhmkjaaaGreat
set_option maxRecDepth 20000
set_option maxHeartbeats 4000000

/-! ### A way out is found, if there is one -/
def OutC (R : List Int) (W : Nat) (b : Int) (st : FS) : Prop := ∀ p ∈ keysF st.1, p ∉ st.2 → rimB W R.length p = false ∧ ∀ q, Ad W R.length p q → at0 R q ≠ b → q ∈ keysF st.1
theorem putO_keys {R : List Int} {b p : Int} {st : FS} {q : Nat} : (∀ k ∈ keysF st.1, k ∈ keysF (putO R b p st q).1) ∧ (∀ k ∈ st.2, k ∈ (putO R b p st q).2) ∧ (at0 R q ≠ b → q ∈ keysF (putO R b p st q).1) ∧ (∀ k ∈ keysF (putO R b p st q).1, k ∈ keysF st.1 ∨ k ∈ (putO R b p st q).2) := by
  unfold putO
  split
  · rename_i hc
    refine ⟨fun k hk => ?_, fun k hk => List.mem_append_left _ hk, fun _ => ?_, fun k hk => ?_⟩
    · dsimp only; rw [keysF_app]; exact List.mem_append_left _ hk
    · dsimp only; rw [keysF_app]; simp
    · dsimp only at hk ⊢
      rw [keysF_app] at hk
      rcases List.mem_append.1 hk with hk | hk
      · exact .inl hk
      · exact .inr (List.mem_append_right _ hk)
  · rename_i hc
    refine ⟨fun k hk => hk, fun k hk => hk, fun h => ?_, fun k hk => .inl hk⟩
    exact Decidable.byContradiction fun h2 => hc ⟨h, h2⟩
theorem foldO_keys {R : List Int} {b p : Int} : ∀ (l : List Nat) (st : FS), (∀ k ∈ keysF st.1, k ∈ keysF (l.foldl (putO R b p) st).1) ∧ (∀ k ∈ st.2, k ∈ (l.foldl (putO R b p) st).2) ∧ (∀ q ∈ l, at0 R q ≠ b → q ∈ keysF (l.foldl (putO R b p) st).1) ∧ (∀ k ∈ keysF (l.foldl (putO R b p) st).1, k ∈ keysF st.1 ∨ k ∈ (l.foldl (putO R b p) st).2)
  | [], st => ⟨fun k hk => hk, fun k hk => hk, fun q hq => (List.not_mem_nil hq).elim, fun k hk => .inl hk⟩
  | q :: l, st => by
    rw [List.foldl_cons]
    obtain ⟨a1, a2, a3, a4⟩ := putO_keys (R := R) (b := b) (p := p) (st := st) (q := q)
    obtain ⟨b1, b2, b3, b4⟩ := foldO_keys (R := R) (b := b) (p := p) l (putO R b p st q)
    refine ⟨fun k hk => b1 k (a1 k hk), fun k hk => b2 k (a2 k hk), fun x hx hxb => ?_, fun k hk => ?_⟩
    · rcases List.mem_cons.1 hx with rfl | hx
      · exact b1 _ (a3 hxb)
      · exact b3 x hx hxb
    · rcases b4 k hk with h | h
      · rcases a4 k h with h | h
        · exact .inl h
        · exact .inr (b2 k h)
      · exact .inr h
theorem outG_none {R : List Int} {W : Nat} {b : Int} (hW : 1 ≤ W) (hn : R.length % W = 0) : ∀ (N : Nat) (st : FS), FI R.length st → muO R.length st ≤ N → OutC R W b st → (outG R W b N st).1 = none →
    ∃ F, (∀ k ∈ keysF st.1, k ∈ keysF F) ∧ OutC R W b (F, [])
  | 0, st, h, hmu, hc, _ => by
    have hS : st.2 = [] := by
      have : st.2.length = 0 := by unfold muO at hmu; omega
      exact List.eq_nil_of_length_eq_zero this
    refine ⟨st.1, fun k hk => hk, fun p hp _ => hc p hp (by rw [hS]; exact List.not_mem_nil)⟩
  | N + 1, st, h, hmu, hc, hr => by
    obtain ⟨F, S⟩ := st
    rcases List.eq_nil_or_concat S with rfl | ⟨S', p, rfl⟩
    · exact ⟨F, fun k hk => hk, hc⟩
    · rw [List.concat_eq_append] at *
      obtain ⟨hI2, hpk, hp⟩ := h.pop
      have hmu2 : muO R.length (F, S') ≤ N := by have := muO_pop (n := R.length) (F := F) (S := S') (p := p); omega
      cases hrim : rimB W R.length p with
      | true => rw [outG_rim hrim] at hr; cases hr
      | false =>
        rw [outG_step hrim, nbF_all] at hr
        have hst := nbF_putO (R := R) (b := b) hI2 hpk (nbO_lt hW hn hp) 4 (Nat.le_refl _)
        rw [nbF_all] at hst
        obtain ⟨b1, b2, b3, b4⟩ := foldO_keys (R := R) (b := b) (p := (p : Int)) (nbs W R.length p) (F, S')
        have hmem := fun q => mem_nbs (q := q) hW hn hp
        generalize (nbs W R.length p).foldl (putO R b p) (F, S') = st2 at *
        have hcl : OutC R W b st2 := by
          intro k hk hkS
          by_cases hkp : k = p
          · subst hkp
            exact ⟨hrim, fun q hq hqb => b3 q ((hmem q).2 hq) hqb⟩
          · rcases b4 k hk with h1 | h1
            · obtain ⟨h2, h3⟩ := hc k h1 (fun hx => by
                rcases List.mem_append.1 hx with hx | hx
                · exact hkS (b2 k hx)
                · rw [List.mem_singleton] at hx; exact hkp hx)
              exact ⟨h2, fun q hq hqb => b1 q (h3 q hq hqb)⟩
            · exact absurd h1 hkS
        obtain ⟨F', g1, g2⟩ := outG_none hW hn N st2 hst.1 (by rw [hst.2.1]; exact hmu2) hcl hr
        exact ⟨F', fun k hk => g1 k (b1 k hk), g2⟩
theorem iniO_has {R : List Int} {a : Int} : ∀ (k p : Nat), p < k → at0 R p = a → p ∈ keysF (iniO R a k).1
  | 0, p, h, _ => absurd h (Nat.not_lt_zero _)
  | k + 1, p, h, ha => by
    rw [iniO]
    split
    · dsimp only; rw [keysF_app]
      rcases Nat.lt_or_ge p k with h1 | h1
      · exact List.mem_append_left _ (iniO_has k p h1 ha)
      · exact List.mem_append_right _ (by rw [show p = k by omega]; simp)
    · rename_i h2
      rcases Nat.lt_or_ge p k with h1 | h1
      · exact iniO_has k p h1 ha
      · exact absurd (by rw [show k = p by omega]; exact ha) h2
theorem outR_none {R : List Int} {W : Nat} {a b : Int} (hW : 1 ≤ W) (hn : R.length % W = 0) (h : (outR R W a b).1 = none) : ∃ X : Nat → Prop, (∀ p, p < R.length → at0 R p = a → X p) ∧ ∀ p, X p → rimB W R.length p = false ∧ ∀ q, Ad W R.length p q → at0 R q ≠ b → X q := by
  obtain ⟨i1, i2, i3⟩ := iniO_ok R a R.length R.length (Nat.le_refl _)
  obtain ⟨F, g1, g2⟩ := outG_none hW hn R.length (iniO R a R.length) i1 (by rw [muO_ini (Nat.le_refl _)]; exact Nat.le_refl _) (fun p hp hpS => absurd (by rw [i2]; exact hp) hpS) h
  exact ⟨fun p => p ∈ keysF F, fun p hp ha => g1 p (iniO_has R.length p hp ha), fun p hp => g2 p hp List.not_mem_nil⟩
end Go.Proofs.YtajnkenbhmkjaaaGreat

open Go.Vm
open Riv
namespace Go.Proofs.YtajnkenbhmkjaaaGreat
set_option maxRecDepth 20000
set_option maxHeartbeats 4000000

/-! ### Two base points leave no enclaves -/
structure HPl (W H : Nat) (al be c : Int) (o : List Int) : Prop where
  w : 1 ≤ W
  len : o.length = W * H
  ne : al ≠ 0 ∨ be ≠ 0
  at_ : ∀ x y : Nat, x < W → y < H → at0 o (y * W + x) = if c + al * x + be * y < 0 then 1 else if 0 < c + al * x + be * y then 2 else 0
def Pos (al be c : Int) (e : Int) (x y : Nat) : Prop := 0 < e * (c + al * x + be * y)
section
variable {W H : Nat} {al be c : Int} {o : List Int}
theorem cell_lt {x y : Nat} (hx : x < W) (hy : y < H) : y * W + x < W * H := by
  have h1 : (y + 1) * W ≤ H * W := Nat.mul_le_mul_right _ hy
  rw [Nat.add_mul, Nat.one_mul, Nat.mul_comm H] at h1
  omega
theorem cell_mod {x y : Nat} (hx : x < W) : (y * W + x) % W = x := by rw [Nat.mul_comm, Nat.mul_add_mod, Nat.mod_eq_of_lt hx]
theorem ad_x {x y : Nat} (hx : x + 1 < W) (hy : y < H) : Ad W (W * H) (y * W + x) (y * W + (x + 1)) := by
  refine ⟨cell_lt (by omega) hy, cell_lt hx hy, .inr (.inr (.inr ⟨by omega, ?_⟩))⟩
  rw [cell_mod hx]; omega
theorem ad_y {x y : Nat} (hx : x < W) (hy : y + 1 < H) : Ad W (W * H) (y * W + x) ((y + 1) * W + x) := by
  refine ⟨cell_lt hx (by omega), cell_lt hx hy, .inr (.inl ?_)⟩
  rw [Nat.add_mul, Nat.one_mul]; omega
theorem own_pos (P : HPl W H al be c o) {e : Int} (he : e = 1 ∨ e = -1) {x y : Nat} (hx : x < W) (hy : y < H) : Pos al be c e x y ↔ at0 o (y * W + x) = if e = 1 then 2 else 1 := by
  rw [P.at_ x y hx hy]
  unfold Pos
  generalize c + al * (x : Int) + be * (y : Int) = v
  have q1 : (if (1 : Int) = 1 then (2 : Int) else 1) = 2 := rfl
  have q2 : (if (-1 : Int) = 1 then (2 : Int) else 1) = 1 := rfl
  rcases he with rfl | rfl
  · rw [q1, Int.one_mul]
    by_cases h1 : v < 0
    · rw [if_pos h1]; omega
    · rw [if_neg h1]
      by_cases h2 : 0 < v
      · rw [if_pos h2]; omega
      · rw [if_neg h2]; omega
  · rw [q2]
    by_cases h1 : v < 0
    · rw [if_pos h1]; omega
    · rw [if_neg h1]
      by_cases h2 : 0 < v
      · rw [if_pos h2]; omega
      · rw [if_neg h2]; omega
theorem pos_x {e : Int} {x y : Nat} (h : Pos al be c e x y) (he : 0 ≤ e * al) : Pos al be c e (x + 1) y := by
  unfold Pos at *
  rw [show c + al * ((x + 1 : Nat) : Int) + be * (y : Int) = (c + al * x + be * y) + al by rw [Int.natCast_add, Int.mul_add]; simp; omega, Int.mul_add]
  omega
theorem pos_x' {e : Int} {x y : Nat} (h : Pos al be c e (x + 1) y) (he : e * al ≤ 0) : Pos al be c e x y := by
  unfold Pos at *
  rw [show c + al * ((x + 1 : Nat) : Int) + be * (y : Int) = (c + al * x + be * y) + al by rw [Int.natCast_add, Int.mul_add]; simp; omega, Int.mul_add] at h
  omega
theorem pos_y {e : Int} {x y : Nat} (h : Pos al be c e x y) (he : 0 ≤ e * be) : Pos al be c e x (y + 1) := by
  unfold Pos at *
  rw [show c + al * (x : Int) + be * ((y + 1 : Nat) : Int) = (c + al * x + be * y) + be by rw [Int.natCast_add, Int.mul_add]; simp; omega, Int.mul_add]
  omega
theorem pos_y' {e : Int} {x y : Nat} (h : Pos al be c e x (y + 1)) (he : e * be ≤ 0) : Pos al be c e x y := by
  unfold Pos at *
  rw [show c + al * (x : Int) + be * ((y + 1 : Nat) : Int) = (c + al * x + be * y) + be by rw [Int.natCast_add, Int.mul_add]; simp; omega, Int.mul_add] at h
  omega
theorem row_up (P : HPl W H al be c o) {R : List Int} (hadj : ∀ p q, Ad W (W * H) p q → at0 o q = at0 o p → at0 R q = at0 R p) {e : Int} (he : e = 1 ∨ e = -1) (ha : 0 ≤ e * al) {y : Nat} (hy : y < H) : ∀ (k x : Nat), x + k < W → Pos al be c e x y → at0 R (y * W + (x + k)) = at0 R (y * W + x) ∧ Pos al be c e (x + k) y
  | 0, x, _, h => ⟨rfl, h⟩
  | k + 1, x, hk, h => by
    obtain ⟨h1, h2⟩ := row_up P hadj he ha hy k x (by omega) h
    have h3 := pos_x h2 ha
    have e1 := (own_pos P he (show x + k < W by omega) hy).1 h2
    have e2 := (own_pos P he (show x + k + 1 < W by omega) hy).1 h3
    refine ⟨?_, h3⟩
    rw [show x + (k + 1) = x + k + 1 by omega, hadj _ _ (ad_x (by omega) hy) (by rw [e1, e2]), h1]
theorem row_dn (P : HPl W H al be c o) {R : List Int} (hadj : ∀ p q, Ad W (W * H) p q → at0 o q = at0 o p → at0 R q = at0 R p) {e : Int} (he : e = 1 ∨ e = -1) (ha : e * al ≤ 0) {y : Nat} (hy : y < H) : ∀ (k x : Nat), x + k < W → Pos al be c e (x + k) y → at0 R (y * W + x) = at0 R (y * W + (x + k)) ∧ Pos al be c e x y
  | 0, x, _, h => ⟨rfl, h⟩
  | k + 1, x, hk, h => by
    have h3 := pos_x' (x := x + k) h ha
    obtain ⟨h1, h2⟩ := row_dn P hadj he ha hy k x (by omega) h3
    have e1 := (own_pos P he (show x + k < W by omega) hy).1 h3
    have e2 := (own_pos P he (show x + k + 1 < W by omega) hy).1 h
    refine ⟨?_, h2⟩
    rw [show x + (k + 1) = x + k + 1 by omega, hadj _ _ (ad_x (by omega) hy) (by rw [e1, e2]), h1]
theorem col_up (P : HPl W H al be c o) {R : List Int} (hadj : ∀ p q, Ad W (W * H) p q → at0 o q = at0 o p → at0 R q = at0 R p) {e : Int} (he : e = 1 ∨ e = -1) (hb : 0 ≤ e * be) {x : Nat} (hx : x < W) : ∀ (k y : Nat), y + k < H → Pos al be c e x y → at0 R ((y + k) * W + x) = at0 R (y * W + x) ∧ Pos al be c e x (y + k)
  | 0, y, _, h => ⟨rfl, h⟩
  | k + 1, y, hk, h => by
    obtain ⟨h1, h2⟩ := col_up P hadj he hb hx k y (by omega) h
    have h3 := pos_y h2 hb
    have e1 := (own_pos P he hx (show y + k < H by omega)).1 h2
    have e2 := (own_pos P he hx (show y + k + 1 < H by omega)).1 h3
    refine ⟨?_, h3⟩
    rw [show y + (k + 1) = y + k + 1 by omega, hadj _ _ (ad_y hx (by omega)) (by rw [e1, e2]), h1]
theorem col_dn (P : HPl W H al be c o) {R : List Int} (hadj : ∀ p q, Ad W (W * H) p q → at0 o q = at0 o p → at0 R q = at0 R p) {e : Int} (he : e = 1 ∨ e = -1) (hb : e * be ≤ 0) {x : Nat} (hx : x < W) : ∀ (k y : Nat), y + k < H → Pos al be c e x (y + k) → at0 R (y * W + x) = at0 R ((y + k) * W + x) ∧ Pos al be c e x y
  | 0, y, _, h => ⟨rfl, h⟩
  | k + 1, y, hk, h => by
    have h3 := pos_y' (y := y + k) h hb
    obtain ⟨h1, h2⟩ := col_dn P hadj he hb hx k y (by omega) h3
    have e1 := (own_pos P he hx (show y + k < H by omega)).1 h3
    have e2 := (own_pos P he hx (show y + k + 1 < H by omega)).1 h
    refine ⟨?_, h2⟩
    rw [show y + (k + 1) = y + k + 1 by omega, hadj _ _ (ad_y hx (by omega)) (by rw [e1, e2]), h1]
theorem to_end (P : HPl W H al be c o) {R : List Int} (hadj : ∀ p q, Ad W (W * H) p q → at0 o q = at0 o p → at0 R q = at0 R p) {e : Int} (he : e = 1 ∨ e = -1) {x y : Nat} (hx : x < W) (hy : y < H) (h : Pos al be c e x y) :
    at0 R (y * W + x) = at0 R ((if 0 ≤ e * be then H - 1 else 0) * W + (if 0 ≤ e * al then W - 1 else 0)) := by
  have hX : ∃ X, X = (if 0 ≤ e * al then W - 1 else 0) ∧ X < W ∧ at0 R (y * W + x) = at0 R (y * W + X) ∧ Pos al be c e X y := by
    refine ⟨_, rfl, ?_⟩
    split
    · rename_i ha
      obtain ⟨h1, h2⟩ := row_up P hadj he ha hy (W - 1 - x) x (by omega) h
      rw [show x + (W - 1 - x) = W - 1 by omega] at h1 h2
      exact ⟨by omega, h1.symm, h2⟩
    · rename_i ha
      obtain ⟨h1, h2⟩ := row_dn P hadj he (by omega) hy x 0 (by omega) (by rw [Nat.zero_add]; exact h)
      rw [Nat.zero_add] at h1
      exact ⟨by omega, h1.symm, h2⟩
  obtain ⟨X, hXe, hXl, h1, h2⟩ := hX
  rw [← hXe, h1]
  split
  · rename_i hb
    obtain ⟨h3, _⟩ := col_up P hadj he hb hXl (H - 1 - y) y (by omega) h2
    rw [show y + (H - 1 - y) = H - 1 by omega] at h3
    exact h3.symm
  · rename_i hb
    obtain ⟨h3, _⟩ := col_dn P hadj he (by omega) hXl y 0 (by omega) (by rw [Nat.zero_add]; exact h2)
    rw [Nat.zero_add] at h3
    exact h3.symm
theorem side_one (P : HPl W H al be c o) {R : List Int} (hadj : ∀ p q, Ad W (W * H) p q → at0 o q = at0 o p → at0 R q = at0 R p) {e : Int} (he : e = 1 ∨ e = -1) {x y x' y' : Nat} (hx : x < W) (hy : y < H) (hx' : x' < W) (hy' : y' < H) (h : Pos al be c e x y) (h' : Pos al be c e x' y') : at0 R (y * W + x) = at0 R (y' * W + x') := by
  rw [to_end P hadj he hx hy h, to_end P hadj he hx' hy' h']
theorem rim_x0 {y : Nat} (n : Nat) : rimB W n (y * W + 0) = true := by unfold rimB; rw [decide_eq_true_eq]; right; right; left; rw [Nat.add_zero, Nat.mul_mod_left]
theorem rim_x1 {y : Nat} (hW : 1 ≤ W) (n : Nat) : rimB W n (y * W + (W - 1)) = true := by unfold rimB; rw [decide_eq_true_eq]; right; right; right; exact cell_mod (by omega)
theorem rim_y0 {x : Nat} (hx : x < W) (n : Nat) : rimB W n (0 * W + x) = true := by unfold rimB; rw [decide_eq_true_eq]; left; rw [Nat.zero_mul, Nat.zero_add]; exact hx
theorem rim_y1 {x : Nat} (hH : 1 ≤ H) : rimB W (W * H) ((H - 1) * W + x) = true := by
  unfold rimB; rw [decide_eq_true_eq]; right; left
  have : W * H = (H - 1) * W + W := by
    obtain ⟨k, rfl⟩ : ∃ k, H = k + 1 := ⟨H - 1, by omega⟩
    rw [Nat.add_sub_cancel, Nat.mul_add, Nat.mul_one, Nat.mul_comm]
  omega
theorem no_set (P : HPl W H al be c o) {e : Int} (he : e = 1 ∨ e = -1) {X : Nat → Prop} (hX : ∀ p, X p → rimB W (W * H) p = false ∧ ∀ q, Ad W (W * H) p q → at0 o q = (if e = 1 then 2 else 1) → X q) {x y : Nat} (hx : x < W) (hy : y < H) (hp : X (y * W + x)) : e * (c + al * x + be * y) < 0 := by
  refine Decidable.byContradiction fun hh => ?_
  have hv : 0 ≤ e * (c + al * x + be * y) := by omega
  have hee : e * al ≠ 0 ∨ e * be ≠ 0 := by
    rcases P.ne with h | h
    · left; rcases he with rfl | rfl <;> omega
    · right; rcases he with rfl | rfl <;> omega
  have st : ∀ {x y : Nat} (dx dy : Int), True := fun _ _ => trivial
  -- along the row, or along the column
  by_cases ha : e * al = 0
  · have hb : e * be ≠ 0 := by rcases hee with h | h; · exact absurd ha h
                               · exact h
    rcases Int.lt_or_le 0 (e * be) with hb2 | hb2
    · -- upwards
      have : ∀ k, y + k < H → X ((y + k) * W + x) ∧ (0 < k → Pos al be c e x (y + k)) := by
        intro k
        induction k with
        | zero => intro _; exact ⟨hp, fun h => absurd h (Nat.lt_irrefl _)⟩
        | succ k ih =>
          intro hk
          obtain ⟨g1, g2⟩ := ih (by omega)
          have hpos : Pos al be c e x (y + k + 1) := by
            unfold Pos
            rw [show c + al * (x : Int) + be * ((y + k + 1 : Nat) : Int) = (c + al * x + be * ((y + k : Nat) : Int)) + be by rw [Int.natCast_add (y + k), Int.mul_add]; simp; omega, Int.mul_add]
            rcases Nat.eq_zero_or_pos k with rfl | h0
            · rw [Nat.add_zero]; omega
            · have := g2 h0; unfold Pos at this; omega
          exact ⟨(hX _ g1).2 _ (ad_y hx (by omega)) ((own_pos P he hx (by omega)).1 hpos), fun _ => hpos⟩
      have h1 := (this (H - 1 - y) (by omega)).1
      rw [show y + (H - 1 - y) = H - 1 by omega] at h1
      have := (hX _ h1).1
      rw [rim_y1 (by omega)] at this; cases this
    · have hb3 : e * be < 0 := by omega
      have : ∀ k, k ≤ y → X ((y - k) * W + x) ∧ (0 < k → Pos al be c e x (y - k)) := by
        intro k
        induction k with
        | zero => intro _; exact ⟨hp, fun h => absurd h (Nat.lt_irrefl _)⟩
        | succ k ih =>
          intro hk
          obtain ⟨g1, g2⟩ := ih (by omega)
          obtain ⟨z, hz⟩ : ∃ z, y - k = z + 1 := ⟨y - k - 1, by omega⟩
          rw [show y - (k + 1) = z by omega]
          rw [hz] at g1 g2
          have hpos : Pos al be c e x z := by
            unfold Pos
            have e1 : c + al * (x : Int) + be * ((z + 1 : Nat) : Int) = (c + al * x + be * (z : Int)) + be := by rw [Int.natCast_add, Int.mul_add]; simp; omega
            rcases Nat.eq_zero_or_pos k with rfl | h0
            · have e2 : (y : Int) = ((z + 1 : Nat) : Int) := by omega
              rw [e2, e1, Int.mul_add] at hv
              omega
            · have := g2 h0; unfold Pos at this; rw [e1, Int.mul_add] at this; omega
          exact ⟨(hX _ g1).2 _ (ad_y hx (by omega)).symm ((own_pos P he hx (by omega)).1 hpos), fun _ => hpos⟩
      have h1 := (this y (Nat.le_refl _)).1
      rw [Nat.sub_self] at h1
      have := (hX _ h1).1
      rw [rim_y0 hx] at this; cases this
  · rcases Int.lt_or_le 0 (e * al) with ha2 | ha2
    · have : ∀ k, x + k < W → X (y * W + (x + k)) ∧ (0 < k → Pos al be c e (x + k) y) := by
        intro k
        induction k with
        | zero => intro _; exact ⟨hp, fun h => absurd h (Nat.lt_irrefl _)⟩
        | succ k ih =>
          intro hk
          obtain ⟨g1, g2⟩ := ih (by omega)
          have hpos : Pos al be c e (x + k + 1) y := by
            unfold Pos
            rw [show c + al * ((x + k + 1 : Nat) : Int) + be * (y : Int) = (c + al * ((x + k : Nat) : Int) + be * y) + al by rw [Int.natCast_add (x + k), Int.mul_add]; simp; omega, Int.mul_add]
            rcases Nat.eq_zero_or_pos k with rfl | h0
            · rw [Nat.add_zero]; omega
            · have := g2 h0; unfold Pos at this; omega
          exact ⟨(hX _ g1).2 _ (ad_x (by omega) hy) ((own_pos P he (by omega) hy).1 hpos), fun _ => hpos⟩
      have h1 := (this (W - 1 - x) (by omega)).1
      rw [show x + (W - 1 - x) = W - 1 by omega] at h1
      have := (hX _ h1).1
      rw [rim_x1 P.w] at this; cases this
    · have ha3 : e * al < 0 := by omega
      have : ∀ k, k ≤ x → X (y * W + (x - k)) ∧ (0 < k → Pos al be c e (x - k) y) := by
        intro k
        induction k with
        | zero => intro _; exact ⟨hp, fun h => absurd h (Nat.lt_irrefl _)⟩
        | succ k ih =>
          intro hk
          obtain ⟨g1, g2⟩ := ih (by omega)
          obtain ⟨z, hz⟩ : ∃ z, x - k = z + 1 := ⟨x - k - 1, by omega⟩
          rw [show x - (k + 1) = z by omega]
          rw [hz] at g1 g2
          have hpos : Pos al be c e z y := by
            unfold Pos
            have e1 : c + al * ((z + 1 : Nat) : Int) + be * (y : Int) = (c + al * (z : Int) + be * y) + al := by rw [Int.natCast_add, Int.mul_add]; simp; omega
            rcases Nat.eq_zero_or_pos k with rfl | h0
            · have e2 : (x : Int) = ((z + 1 : Nat) : Int) := by omega
              rw [e2, e1, Int.mul_add] at hv
              omega
            · have := g2 h0; unfold Pos at this; rw [e1, Int.mul_add] at this; omega
          exact ⟨(hX _ g1).2 _ (ad_x (by omega) hy).symm ((own_pos P he (by omega) hy).1 hpos), fun _ => hpos⟩
      have h1 := (this x (Nat.le_refl _)).1
      rw [Nat.sub_self] at h1
      have := (hX _ h1).1
      rw [rim_x0] at this; cases this
end
end Go.Proofs.YtajnkenbhmkjaaaGreat

open Go.Vm
open Riv
namespace Go.Vm
end Go.Vm
namespace Go.Proofs.YtajnkenbhmkjaaaGreat
set_option maxRecDepth 20000
set_option maxHeartbeats 4000000

theorem dealt (bs : List Int) : Dealt (dNx bs) :=
  ⟨fun d k => (dNx_bd bs d k).1, fun d k hk => by have := (dNx_bd bs d k).2.1; omega, fun d k => (dNx_bd bs d k).2.2⟩
end Go.Proofs.YtajnkenbhmkjaaaGreat

open Go.Vm
open Riv
namespace Go.Proofs.YtajnkenbhmkjaaaGreat
set_option maxRecDepth 20000
set_option maxHeartbeats 4000000

theorem drop_eq_dec {α : Type} [DecidableEq α] {a b : List α} {k : Nat} {x y : α} (hx : a[k]? = some x) (hy : b[k]? = some y) : decide (a.drop k = b.drop k) = (decide (x = y) && decide (a.drop (k + 1) = b.drop (k + 1))) := by
  obtain ⟨h1, rfl⟩ := List.getElem?_eq_some_iff.1 hx
  obtain ⟨h2, rfl⟩ := List.getElem?_eq_some_iff.1 hy
  rw [List.drop_eq_getElem_cons h1, List.drop_eq_getElem_cons h2, Bool.eq_iff_iff, Bool.and_eq_true, decide_eq_true_eq, decide_eq_true_eq, decide_eq_true_eq, List.cons.injEq]
theorem drop_ne {α : Type} [DecidableEq α] {a b : List α} {k : Nat} (h1 : k < a.length) (h2 : b.length ≤ k) : decide (a.drop k = b.drop k) = false := by
  rw [decide_eq_false_iff_not]
  intro hh
  have := congrArg List.length hh
  simp at this; omega
theorem len_dec {α : Type} [DecidableEq α] {a b : List α} (h : a.length ≤ b.length) : ((a.length : Int) == b.length) = decide (a.drop a.length = b.drop a.length) := by
  rw [List.drop_length, Bool.eq_iff_iff, decide_eq_true_eq, beq_iff_eq]
  constructor
  · intro hh; rw [List.drop_of_length_le (by omega)]
  · intro hh
    have := congrArg List.length hh
    simp at this; omega
theorem vc_kequalI (a b : List Int) (h : Hp) (ha : a.length ≤ 4000000) (hb : b.length ≤ 4000000) : VC Tryz.prog 24 [ints a, ints b] h (B (decide (a = b))) h := by
  obtain ⟨E, hE⟩ : ∃ E, E = decide (a = b) := ⟨_, rfl⟩
  rw [← hE]
  refine VC.body Tryz.func24 rfl Tryz.ntmps24 Tryz.call24 (h.grows_refl) rfl ?_; conv => whnf
  refine VCode.lp (fun k : Nat => [(0, ints a), (1, ints b), (4, B false), (7, I a.length), (8, I k)]) (fun _ => []) (fun k => k ≤ a.length ∧ k ≤ b.length ∧ E = decide (a.drop k = b.drop k)) (fun k => a.length - k) 0 ⟨Nat.zero_le _, Nat.zero_le _, hE⟩ ?_ ?_
  · conv => whnf
    refine Retell.turn ⟨[], 0, [], []⟩ (TurnOk.mk' _ _ [] [] (OutOk.lift _) rfl (by decide) zb trivial trivial rfl) zw zm
  · rintro k ⟨h1, h2, h3⟩
    rcases Nat.lt_or_ge k a.length with h4 | h4
    · have hx : a[k]? = some a[k] := List.getElem?_eq_getElem h4
      rcases Nat.lt_or_ge k b.length with h5 | h5
      · have hy : b[k]? = some b[k] := List.getElem?_eq_getElem h5
        rw [drop_eq_dec hx hy] at h3
        generalize a[k] = x at hx h3
        generalize b[k] = y at hy h3
        by_cases hxy : x = y
        · rw [decide_eq_true hxy, Bool.true_and] at h3
          conv => whnf
          repeat' (first | ((first | refine zs1 ?_ | refine zs2 ?_ | refine zs3 ?_ | refine zs4 ?_ | refine zs5 ?_); conv => whnf) | ((first | apply zi1 | apply zi2 | apply zi3 | apply zi4 | apply zi5) <;> intro _ <;> first | (exfalso; omega) | contradiction | (conv => whnf)))
          refine zs6 [] ?_
          conv => whnf
          repeat' (first | ((first | refine zs1 ?_ | refine zs2 ?_ | refine zs3 ?_ | refine zs4 ?_ | refine zs5 ?_); conv => whnf) | ((first | apply zi1 | apply zi2 | apply zi3 | apply zi4 | apply zi5) <;> intro _ <;> first | (exfalso; omega) | contradiction | (conv => whnf)) | (refine VAny.ix Vm.encI_len k rfl rfl hx ?_; conv => whnf) | (refine VAny.ix Vm.encI_len k rfl rfl hy ?_; conv => whnf))
          refine LEnd.intro (k + 1) ⟨by omega, by omega, h3⟩ (by omega) ?_
          conv => whnf
          refine Retell.turn ⟨[], 0, [], []⟩ (TurnOk.mk' _ _ [] [] (OutOk.lift _) rfl (by decide) zb trivial trivial rfl) zw zm
        · rw [decide_eq_false hxy, Bool.false_and] at h3
          subst h3
          conv => whnf
          repeat' (first | ((first | refine zs1 ?_ | refine zs2 ?_ | refine zs3 ?_ | refine zs4 ?_ | refine zs5 ?_); conv => whnf) | ((first | apply zi1 | apply zi2 | apply zi3 | apply zi4 | apply zi5) <;> intro _ <;> first | (exfalso; omega) | contradiction | (conv => whnf)))
          refine zs6 [] ?_
          conv => whnf
          repeat' (first | ((first | refine zs1 ?_ | refine zs2 ?_ | refine zs3 ?_ | refine zs4 ?_ | refine zs5 ?_); conv => whnf) | ((first | apply zi1 | apply zi2 | apply zi3 | apply zi4 | apply zi5) <;> intro _ <;> first | (exfalso; omega) | contradiction | (conv => whnf)) | (refine VAny.ix Vm.encI_len k rfl rfl hx ?_; conv => whnf) | (refine VAny.ix Vm.encI_len k rfl rfl hy ?_; conv => whnf))
          exact VOut.same rfl
      · rw [drop_ne h4 h5] at h3
        subst h3
        conv => whnf
        repeat' (first | ((first | refine zs1 ?_ | refine zs2 ?_ | refine zs3 ?_ | refine zs4 ?_ | refine zs5 ?_); conv => whnf) | ((first | apply zi1 | apply zi2 | apply zi3 | apply zi4 | apply zi5) <;> intro _ <;> first | (exfalso; omega) | contradiction | (conv => whnf)))
        refine zs6 [] ?_
        conv => whnf
        repeat' (first | ((first | refine zs1 ?_ | refine zs2 ?_ | refine zs3 ?_ | refine zs4 ?_ | refine zs5 ?_); conv => whnf) | ((first | apply zi1 | apply zi2 | apply zi3 | apply zi4 | apply zi5) <;> intro _ <;> first | (exfalso; omega) | contradiction | (conv => whnf)))
        exact VOut.same rfl
    · have hk : k = a.length := by omega
      rw [hk, ← len_dec (by omega)] at h3
      rw [h3, hk]
      conv => whnf
      repeat' (first | ((first | refine zs1 ?_ | refine zs2 ?_ | refine zs3 ?_ | refine zs4 ?_ | refine zs5 ?_); conv => whnf) | ((first | apply zi1 | apply zi2 | apply zi3 | apply zi4 | apply zi5) <;> intro _ <;> first | (exfalso; omega) | contradiction | (conv => whnf)))
      exact VOut.same rfl
/-! ### Depths -/
def m0B : List Bool := List.replicate 100 false
def deL (W : Nat) (o : List Int) : List Int := (arR (opE o W o.length).1 W (opE o W o.length).2 (List.replicate (opE o W o.length).2 0, List.replicate (opE o W o.length).2 (-1), m0B) (opE o W o.length).2).1
theorem vc_Depths (W : Nat) (o : List Int) (h : Hp) (e : EOk W o) : VC Tryz.prog 9 [vE W o] h (.tuple [ints (deL W o), I 0]) h := by
  have hn := e.n
  obtain ⟨h1, h2⟩ := opE_ok (W := W) e.w e.m o.length (Nat.le_refl _)
  have c := fun h => vc_eopened W o h e
  have em : ms0 = m0B.map DB := by unfold ms0 m0B; rw [List.map_replicate]
  rw [em] at c
  have c2 := fun wI h hw => vc_around W o (opE o W o.length).1 (opE o W o.length).2 m0B wI h e h1 (by unfold m0B; exact List.length_replicate) hw (by omega)
  unfold deL
  generalize (opE o W o.length).1 = R at *
  generalize (opE o W o.length).2 = m at *
  generalize arR R W m (List.replicate m 0, List.replicate m (-1), m0B) m = s at *
  obtain ⟨d, a, M⟩ := s
  dsimp only at *
  unfold vE at *
  refine VC.body Tryz.func9 rfl Tryz.ntmps9 Tryz.call9 (h.grows_refl) rfl ?_; conv => whnf
  repeat' (first | ((first | refine zs1 ?_ | refine zs2 ?_ | refine zs3 ?_ | refine zs4 ?_ | refine zs5 ?_); conv => whnf) | ((first | apply zi1 | apply zi2 | apply zi3 | apply zi4 | apply zi5) <;> intro _ <;> first | (exfalso; omega) | contradiction | (conv => whnf)) | (refine VCall.intro (c _) ?_; conv => whnf) | (refine VCall.intro (c2 _ _ rfl) ?_; conv => whnf))
  exact VOut.same rfl
/-! ### The examples -/
def psR : List Int := [6, 7, 8, 11, 13, 16, 17, 18]
def rgL (k : Nat) : List Int := (psR.take k).foldl (fun l p => l.set p.toNat 1) (List.replicate 25 0)
def rgE : List Int := (rgL 8).set 7 1
theorem rgL_step {k : Nat} {x : Int} (h : psR[k]? = some x) : rgL (k + 1) = (rgL k).set x.toNat 1 := by
  unfold rgL
  rw [List.take_add_one, h, List.foldl_append]; rfl
theorem rgL_len : ∀ k, (rgL k).length = 25 := by
  intro k
  unfold rgL
  generalize psR.take k = l
  have : ∀ (l m : List Int), (l.foldl (fun l p => l.set p.toNat 1) m).length = m.length := by
    intro l
    induction l with
    | nil => intro m; rfl
    | cons a l ih => intro m; rw [List.foldl_cons, ih, List.length_set]
  rw [this]; rfl
theorem psR_bd : ∀ x ∈ psR, 0 ≤ x ∧ x < 25 := by decide
theorem vc_Ring (h : Hp) : VC Tryz.prog 21 [I 1] h (vE 5 rgE) h := by
  have hs := fun k x (hx : psR[k]? = some x) => rgL_step hx
  have hl := rgL_len
  have h0 : rgL 0 = List.replicate 25 0 := rfl
  have hp := psR_bd
  have hpl : psR.length = 8 := rfl
  unfold rgE vE
  obtain ⟨pl, hpe⟩ : ∃ p, p = psR := ⟨_, rfl⟩
  rw [← hpe] at hp hpl hs
  generalize rgL = G at *
  refine VC.bodyC 99 Tryz.func21 rfl Tryz.ntmps21 Tryz.call21 (h.grows_refl) rfl ?_
  conv => whnf
  repeat' (first | ((first | refine zs1 ?_ | refine zs2 ?_ | refine zs3 ?_ | refine zs4 ?_ | refine zs5 ?_); conv => whnf) | ((first | apply zi1 | apply zi2 | apply zi3 | apply zi4 | apply zi5) <;> intro _ <;> first | (exfalso; omega) | contradiction | (conv => whnf)) | (refine VMem.make (n := 25) (0 : Int) Vm.encI_len rfl rfl rfl rfl rfl rfl (by omega) ?_; conv => whnf))
  refine VCode.lpC (outer := h.lift) (marks := []) 99 (fun k : Nat => [(0, I 1), (2, .ptr (.loc 0) 0), (3, .ptr (.loc 1) 0), (8, ints pl), (9, I 8), (10, I k)]) (fun k => [.flat true [DI 0, .nilslice], .cells true [I 5, .gl (.loc 2) 1 25], .flat true ((G k).flatMap Vm.encI)]) (fun k => k ≤ 8) (fun k => 8 - k) 0 (by omega) ?_ ?_
  · rw [h0, hpe]
    conv => whnf
    refine Retell.turn ⟨[0, 2, 1], 9, [(3, psR.flatMap Vm.encI)], []⟩ (TurnOk.mk' _ _ [(3, psR.flatMap Vm.encI)] [] (OutOk.lift _) rfl (by decide) zb zf trivial rfl) zw zm
  · intro k hk
    rcases Nat.lt_or_ge k 8 with h3 | h3
    · have hx : pl[k]? = some pl[k] := List.getElem?_eq_getElem (by omega)
      have hb := hp _ (List.getElem_mem (by omega : k < pl.length))
      have hst := hs k _ hx
      generalize pl[k] = x at *
      have hg : (G k)[x.toNat]? = some (at0 (G k) x.toNat) := at0_get (by rw [hl]; omega)
      generalize at0 (G k) x.toNat = y at *
      generalize G k = L at *
      conv => whnf
      repeat' (first | ((first | refine zs1 ?_ | refine zs2 ?_ | refine zs3 ?_ | refine zs4 ?_ | refine zs5 ?_); conv => whnf) | ((first | apply zi1 | apply zi2 | apply zi3 | apply zi4 | apply zi5) <;> intro _ <;> first | (exfalso; omega) | contradiction | (conv => whnf)) | (refine VAny.ix Vm.encI_len k rfl rfl hx ?_; conv => whnf) | (refine VMem.setRec Vm.encI_len x.toNat 0 (1 : Int) rfl rfl rfl hg (by decide) rfl (ix1 _) ?_; conv => whnf))
      refine LEnd.intro (k + 1) (by omega) (by omega) ?_
      rw [hst]
      conv => whnf
      refine Retell.turn ⟨[0,1,2], 9, [], []⟩ (TurnOk.mk' _ _ [] [] (OutOk.lift _) rfl (by decide) zb trivial trivial rfl) zw zm
    · obtain rfl : k = 8 := by omega
      have h8 := hl 8
      have h7 : (G 8)[7]? = some (at0 (G 8) 7) := at0_get (by rw [h8]; omega)
      generalize G 8 = L at *
      generalize at0 L 7 = y at *
      have fl : ((L.set 7 1).flatMap Vm.encI).length = 25 * 1 := by rw [flat_len Vm.encI_len, List.length_set, h8]
      have e25 : ints (L.set 7 1) = .fs 1 25 ((L.set 7 1).flatMap Vm.encI) := by unfold ints; rw [List.length_set, h8]
      rw [e25]
      conv => whnf
      repeat' (first | ((first | refine zs1 ?_ | refine zs2 ?_ | refine zs3 ?_ | refine zs4 ?_ | refine zs5 ?_); conv => whnf) | ((first | apply zi1 | apply zi2 | apply zi3 | apply zi4 | apply zi5) <;> intro _ <;> first | (exfalso; omega) | contradiction | (conv => whnf)) | (refine VMem.setRec Vm.encI_len 7 0 (1 : Int) rfl rfl rfl h7 (by decide) rfl (ix1 _) ?_; conv => whnf))
      refine VOut.data 9 [(2, (L.set 7 1).flatMap Vm.encI)] [] rfl zf (by exact FmAll.nil) zw
theorem vc_point (x y : Int) (h : Hp) : VC Tryz.prog 39 [I x, I y] h (vPt x y) h := by
  unfold vPt
  refine VC.body Tryz.func39 rfl Tryz.ntmps39 Tryz.call39 (h.grows_refl) rfl ?_; conv => whnf
  repeat' (first | ((first | refine zs1 ?_ | refine zs2 ?_ | refine zs3 ?_ | refine zs4 ?_ | refine zs5 ?_); conv => whnf) | ((first | apply zi1 | apply zi2 | apply zi3 | apply zi4 | apply zi5) <;> intro _ <;> first | (exfalso; omega) | contradiction | (conv => whnf)))
  exact VOut.same rfl
def twoC : Cst := ⟨[⟨0, 0, 0⟩, ⟨0, 10, 0⟩, ⟨10, 0, 1⟩], [⟨5, 20, 2, 0⟩]⟩
theorem vc_Two (h : Hp) : VC Tryz.prog 20 [I 0] h (vCt twoC) h := by
  have c := fun x y h => vc_point x y h
  unfold vPt at c
  refine VC.body Tryz.func20 rfl Tryz.ntmps20 Tryz.call20 (h.grows_refl) rfl ?_; conv => whnf
  repeat' (first | ((first | refine zs1 ?_ | refine zs2 ?_ | refine zs3 ?_ | refine zs4 ?_ | refine zs5 ?_); conv => whnf) | ((first | apply zi1 | apply zi2 | apply zi3 | apply zi4 | apply zi5) <;> intro _ <;> first | (exfalso; omega) | contradiction | (conv => whnf)) | (refine VCall.intro (c _ _ _) ?_; conv => whnf))
  refine VOut.data 9 [(1, twoC.bs.flatMap encBs), (2, twoC.ie.flatMap encIe)] [] rfl zf (by exact FmAll.nil) zw
theorem two_ok : COk twoC where
  nb := by decide
  ni := by decide
  b := by
    intro b hb
    simp only [twoC, List.mem_cons, List.not_mem_nil, or_false] at hb
    rcases hb with rfl | rfl | rfl <;> (dsimp only; omega)
  i := by
    intro b hb
    simp only [twoC, List.mem_cons, List.not_mem_nil, or_false] at hb
    subst hb; dsimp only; omega
  o := by
    intro b hb
    simp only [twoC, List.mem_cons, List.not_mem_nil, or_false] at hb
    subst hb; dsimp only; simp [twoC]
theorem two_sites : sitesC twoC = [⟨0, 0, 0⟩, ⟨0, 20, 0⟩, ⟨20, 0, 1⟩] := by rfl
theorem two_nc : NoCl (sitesC twoC) := by
  rw [two_sites]
  intro a ha b hb
  simp only [List.mem_cons, List.not_mem_nil, or_false] at ha hb
  rcases ha with rfl | rfl | rfl <;> rcases hb with rfl | rfl | rfl <;> (dsimp only; omega)
theorem two_wh : whC twoC 4 3 = 0 := by kernel_rfl
theorem ring_ok : EOk 5 rgE where
  n := by decide
  w := by decide
  m := by decide
  v := by decide
theorem ring_de : deL 5 rgE = [0, 1, 2] := by kernel_rfl
def rowA : ByteArray := ⟨#[87, 46, 46, 46, 46, 46, 69]⟩
def cA : List Int := [1, 0, 0, 0, 0, 0, 2]
theorem dwA_ : dwM [rowA] = ⟨7, 1, cA⟩ := by kernel_rfl
theorem e01 : chkM ⟨7, 1, cA⟩ = 0 := by kernel_rfl
theorem e05 : owns cA 7 = [1, 1, 1, 3, 2, 2, 2] := by
  have S : Stt 7 1 6 := ⟨by decide, by decide, by decide⟩
  have e : cA = stc (sk 1 6) 7 (7 * 1) := by rfl
  rw [e]
  have hl : (owns (stc (sk 1 6) 7 (7 * 1)) 7).length = 7 := by rw [owns_len, stc_len]
  refine ext0 (by rw [hl]; rfl) fun n hn => ?_
  · have hn2 : n < 7 * 1 := by rw [hl] at hn; exact hn
    rw [st_owns S (by decide) hn2]
    have : n = 0 ∨ n = 1 ∨ n = 2 ∨ n = 3 ∨ n = 4 ∨ n = 5 ∨ n = 6 := by omega
    rcases this with rfl | rfl | rfl | rfl | rfl | rfl | rfl <;> rfl
theorem k1 (h : Hp) : VC Tryz.prog 22 [vM ⟨7, 1, cA⟩] h (.tuple [ints [1, 1, 1, 3, 2, 2, 2], I 0]) h := by
  have c := vc_Owners ⟨7, 1, cA⟩ h (by decide)
  rw [e01, if_pos rfl, show (⟨7, 1, cA⟩ : Mp).w.toNat = 7 from rfl, show (⟨7, 1, cA⟩ : Mp).c = cA from rfl, e05] at c
  exact c
theorem q1 (h : Hp) : VC Tryz.prog 23 [strs [rowA]] h (vM ⟨7, 1, cA⟩) h := by
  have c := vc_Drawn [rowA] h (by decide) (by decide); rw [dwA_] at c; exact c
end Go.Proofs.YtajnkenbhmkjaaaGreat

open Go.Vm
open Riv
open Sea (nrK oneS ds)
namespace Go.Proofs.YtajnkenbhmkjaaaGreat
set_option maxRecDepth 20000
set_option maxHeartbeats 4000000
section
variable {W H : Nat} {al be c : Int} {o : List Int}
theorem HPl.cell (P : HPl W H al be c o) {p : Nat} (hp : p < W * H) : p % W < W ∧ p / W < H ∧ p / W * W + p % W = p := by
  have h1 := Nat.div_add_mod p W
  refine ⟨Nat.mod_lt p P.w, Nat.div_lt_of_lt_mul hp, ?_⟩
  rw [Nat.mul_comm]; exact h1
theorem HPl.pos (P : HPl W H al be c o) {p : Nat} (hp : p < W * H) {e : Int} (he : e = 1 ∨ e = -1) : Pos al be c e (p % W) (p / W) ↔ at0 o p = if e = 1 then 2 else 1 := by
  obtain ⟨h1, h2, h3⟩ := P.cell hp
  rw [own_pos P he h1 h2, h3]
theorem law_reg (P : HPl W H al be c o) {k : Nat} {s : List Int × Nat} (S : OpI o W k s) (hk : o.length ≤ k) {p q : Nat} (hp : p < W * H) (hq : q < W * H) (h0 : at0 o p = 1 ∨ at0 o p = 2) (hpq : at0 o q = at0 o p) : at0 s.1 p = at0 s.1 q := by
  have hl := P.len
  have hadj : ∀ p q, Ad W (W * H) p q → at0 o q = at0 o p → at0 s.1 q = at0 s.1 p := fun p q h1 h2 => by
    rw [← hl] at h1
    exact S.adj p q h1 (S.done p (by have := h1.1; omega)) h2
  have key : ∀ e : Int, (e = 1 ∨ e = -1) → at0 o p = (if e = 1 then 2 else 1) → at0 s.1 p = at0 s.1 q := fun e he h1 => by
    have g1 := (P.pos hp he).2 h1
    have g2 := (P.pos hq he).2 (by rw [hpq]; exact h1)
    obtain ⟨a1, a2, a3⟩ := P.cell hp
    obtain ⟨b1, b2, b3⟩ := P.cell hq
    have := side_one P hadj he a1 a2 b1 b2 g1 g2
    rw [a3, b3] at this
    exact this
  rcases h0 with h0 | h0
  · exact key (-1) (.inr rfl) (by rw [h0]; rfl)
  · exact key 1 (.inl rfl) (by rw [h0]; rfl)
theorem HPl.mod (P : HPl W H al be c o) : o.length % W = 0 := by rw [P.len, Nat.mul_mod_right]
theorem law_wit (P : HPl W H al be c o) {k : Nat} {s : List Int × Nat} (S : OpI o W k s) (hk : o.length ≤ k) {i j : Nat} (hi : i < s.2) (hj : j < s.2) : wit s.1 W i j = false := by
  have hl := P.len
  obtain ⟨p, hp, hpi⟩ := S.has i hi
  obtain ⟨q, hq, hqj⟩ := S.has j hj
  unfold wit
  by_cases hij : (i : Int) = (j : Int)
  · rw [decide_eq_false (fun hh => hh hij), Bool.false_and]
  · rw [decide_eq_true hij, Bool.true_and]
    cases hr : (outR s.1 W i j).1 with
    | some x => rfl
    | none =>
      exfalso
      obtain ⟨X, x1, x2⟩ := outR_none P.w (by rw [S.len]; exact P.mod) hr
      rw [S.len, hl] at x2
      rw [S.len, hl] at x1
      rw [hl] at hp hq
      obtain ⟨a1, a2, a3⟩ := P.cell hp
      have hXp := x1 p hp hpi
      have hXs : ∀ e : Int, (if e = 1 then (2 : Int) else 1) ≠ at0 o q → ∀ p, X p → rimB W (W * H) p = false ∧ ∀ q, Ad W (W * H) p q → at0 o q = (if e = 1 then 2 else 1) → X q := fun e hne p' hp' => by
        obtain ⟨y1, y2⟩ := x2 p' hp'
        refine ⟨y1, fun q' hq' ho => y2 q' hq' fun e2 => ?_⟩
        have := S.own q' q (by rw [hl]; exact hq'.2.1) (by rw [hl]; exact hq) (S.done q' (by have := hq'.2.1; omega)) (by rw [e2, hqj])
        rw [ho] at this
        exact hne this
      have hno : ∀ e : Int, (e = 1 ∨ e = -1) → (if e = 1 then (2 : Int) else 1) ≠ at0 o q → e * (c + al * ((p % W : Nat) : Int) + be * ((p / W : Nat) : Int)) < 0 := fun e he hne => no_set P he (hXs e hne) a1 a2 (by rw [a3]; exact hXp)
      have hown := P.at_ _ _ a1 a2
      rw [a3] at hown
      obtain ⟨b1, b2, b3⟩ := P.cell hq
      have howq := P.at_ _ _ b1 b2
      rw [b3] at howq
      have hdiff : at0 o q = at0 o p → at0 o p = 1 ∨ at0 o p = 2 → False := fun h1 h2 => by
        have := law_reg P S hk hp hq h2 h1
        omega
      have n1 := hno 1 (.inl rfl)
      have n2 := hno (-1) (.inr rfl)
      rw [if_pos rfl] at n1
      rw [if_neg (by decide)] at n2
      generalize c + al * ((p % W : Nat) : Int) + be * ((p / W : Nat) : Int) = v at *
      generalize c + al * ((q % W : Nat) : Int) + be * ((q / W : Nat) : Int) = u at *
      have ho3 : at0 o q = 0 ∨ at0 o q = 1 ∨ at0 o q = 2 := by
        rw [howq]
        split
        · exact .inr (.inl rfl)
        · split
          · exact .inr (.inr rfl)
          · exact .inl rfl
      rcases ho3 with h3 | h3 | h3
      · have := n1 (by omega)
        have := n2 (by omega)
        omega
      · have h4 := n1 (by omega)
        rw [Int.one_mul] at h4
        rw [if_pos h4] at hown
        exact hdiff (by omega) (.inl hown)
      · have h4 := n2 (by omega)
        have h5 : 0 < v := by omega
        rw [if_neg (by omega), if_pos h5] at hown
        exact hdiff (by omega) (.inr hown)
theorem arK_no {R : List Int} {W i m : Nat} (h : ∀ k : Nat, k < m → wit R W i k = false) (s : AS) : ∀ k, k ≤ m → (arK R W i s k).1 = s.1
  | 0, _ => rfl
  | k + 1, hk => by
    rw [arK_step]
    unfold arS
    rw [h k (by omega), if_neg (by decide)]
    exact arK_no h s k (by omega)
theorem arR_no {R : List Int} {W m : Nat} (h : ∀ i k : Nat, i < m → k < m → wit R W i k = false) (s : AS) : ∀ i, i ≤ m → (arR R W m s i).1 = s.1
  | 0, _ => rfl
  | i + 1, hi => by
    rw [arR_step, arK_no (fun k hk => h i k (by omega) hk) _ m (Nat.le_refl _)]
    exact arR_no h s i (by omega)
theorem law_de (P : HPl W H al be c o) : deL W o = List.replicate (opE o W o.length).2 0 := by
  have S := opE_op (o := o) P.w P.mod o.length (Nat.le_refl _)
  unfold deL
  rw [arR_no (fun i k hi hk => law_wit P S (Nat.le_refl _) hi hk) _ _ (Nat.le_refl _)]
end

/-! ### Whose a place is by two base points -/
def twoB (x0 y0 x1 y1 : Int) : Cst := ⟨[⟨x0, y0, 0⟩, ⟨x1, y1, 1⟩], []⟩
theorem twoB_wh (x0 y0 x1 y1 x y : Int) : whC (twoB x0 y0 x1 y1) x y = if ds (2 * x0) (2 * y0) x y < ds (2 * x1) (2 * y1) x y then 0 else if ds (2 * x1) (2 * y1) x y < ds (2 * x0) (2 * y0) x y then 1 else -1 := by
  have hs : sitesC (twoB x0 y0 x1 y1) = [⟨2 * x0, 2 * y0, 0⟩, ⟨2 * x1, 2 * y1, 1⟩] := rfl
  unfold whC
  rw [hs]
  refine Sea.whose_two (k := 2) (i0 := 0) (i1 := 1) (by omega) (fun i hi => ?_) ⟨by omega, rfl, rfl⟩ ⟨by omega, rfl, rfl⟩ (fun i hi he => ?_) (fun i hi he => ?_)
  · rcases (show i = 0 ∨ i = 1 by omega) with rfl | rfl
    · exact .inl rfl
    · exact .inr rfl
  · rcases (show i = 0 ∨ i = 1 by omega) with rfl | rfl
    · exact Int.le_refl _
    · cases he
  · rcases (show i = 0 ∨ i = 1 by omega) with rfl | rfl
    · cases he
    · exact Int.le_refl _
theorem sq_ex (a X : Int) : (2 * a - 2 * X) * (2 * a - 2 * X) = 4 * (a * a) - 8 * (a * X) + 4 * (X * X) := by
  have q : ∀ u v : Int, 2 * u * (2 * v) = 4 * (u * v) := fun u v => by rw [Int.mul_assoc 2 u (2 * v), Int.mul_left_comm u 2 v]; omega
  rw [Int.sub_mul, Int.mul_sub, Int.mul_sub, q, q, q, q, Int.mul_comm X a]
  omega
theorem ds_lin (x0 y0 x1 y1 fx fy : Int) (x y : Nat) : ds (2 * x0) (2 * y0) (fx + x) (fy + y) - ds (2 * x1) (2 * y1) (fx + x) (fy + y) =
    (4 * (x0 * x0) - 4 * (x1 * x1) + 4 * (y0 * y0) - 4 * (y1 * y1) - 8 * ((x0 - x1) * fx) - 8 * ((y0 - y1) * fy)) + (-8 * (x0 - x1)) * x + (-8 * (y0 - y1)) * y := by
  unfold ds
  rw [sq_ex, sq_ex, sq_ex, sq_ex]
  simp only [Int.mul_add, Int.sub_mul, Int.mul_sub, Int.neg_mul, Int.mul_assoc]
  omega
end Go.Proofs.YtajnkenbhmkjaaaGreat

open Go.Vm
open Riv
namespace Go.Proofs.YtajnkenbhmkjaaaGreat
set_option maxRecDepth 20000
set_option maxHeartbeats 4000000

theorem vc_aware (h : Hp) : VC Tryz.prog 11 [] h (B true) h := by
  have c1 := vc_Two
  have c2 := fun h => vc_Whose twoC 4 3 h two_ok two_nc (by omega) (by omega)
  rw [two_wh] at c2
  unfold vPt at c2
  have c3 := vc_Ring
  have c4 := fun h => vc_Depths 5 rgE h ring_ok
  rw [ring_de] at c4
  have q1 := q1
  have k1 := k1
  have j1 := fun h => vc_kequalI [1, 1, 1, 3, 2, 2, 2] [1, 1, 1, 3, 2, 2, 2] h (by decide) (by decide)
  have j2 := fun h => vc_kequalI [0, 1, 2] [0, 1, 2] h (by decide) (by decide)
  rw [decide_eq_true rfl] at j1 j2
  generalize twoC = T at *
  generalize rgE = G at *
  generalize cA = z at *
  refine VC.body Tryz.func11 rfl Tryz.ntmps11 Tryz.call11 (h.grows_refl) rfl ?_; conv => whnf
  repeat' (first | ((first | refine zs1 ?_ | refine zs2 ?_ | refine zs3 ?_ | refine zs4 ?_ | refine zs5 ?_); conv => whnf) | ((first | apply zi1 | apply zi2 | apply zi3 | apply zi4 | apply zi5) <;> intro _ <;> first | (exfalso; omega) | contradiction | (conv => whnf)) | (refine VCall.intro (c1 _) ?_; conv => whnf) | (refine VCall.intro (c2 _) ?_; conv => whnf) | (refine VCall.intro (c3 _) ?_; conv => whnf) | (refine VCall.intro (c4 _) ?_; conv => whnf))
  refine VCall.intro (VC.give (args' := [strs [rowA]]) (loc' := [.dead]) [(0, [.lit (.string rowA)])] [] (OutOk.lift _) zb zf (by exact FmAll.nil) rfl zv (q1 _)) ?_
  conv => whnf
  repeat' (first | ((first | refine zs1 ?_ | refine zs2 ?_ | refine zs3 ?_ | refine zs4 ?_ | refine zs5 ?_); conv => whnf) | ((first | apply zi1 | apply zi2 | apply zi3 | apply zi4 | apply zi5) <;> intro _ <;> first | (exfalso; omega) | contradiction | (conv => whnf)) | (refine VCall.intro (k1 _) ?_; conv => whnf))
  refine VCall.intro (VC.give (args' := [ints [1, 1, 1, 3, 2, 2, 2], ints [1, 1, 1, 3, 2, 2, 2]]) (loc' := [.dead, .dead]) [(1, [DI 1, DI 1, DI 1, DI 3, DI 2, DI 2, DI 2])] [] (OutOk.lift _) zb zf (by exact FmAll.nil) rfl zv (j1 _)) ?_
  conv => whnf
  repeat' (first | ((first | refine zs1 ?_ | refine zs2 ?_ | refine zs3 ?_ | refine zs4 ?_ | refine zs5 ?_); conv => whnf) | ((first | apply zi1 | apply zi2 | apply zi3 | apply zi4 | apply zi5) <;> intro _ <;> first | (exfalso; omega) | contradiction | (conv => whnf)))
  refine VCall.intro (VC.give (args' := [ints [0, 1, 2], ints [0, 1, 2]]) (loc' := [.dead, .dead, .dead]) [(2, [DI 0, DI 1, DI 2])] [] (OutOk.lift _) zb zf (by exact FmAll.nil) rfl zv (j2 _)) ?_
  conv => whnf
  repeat' (first | ((first | refine zs1 ?_ | refine zs2 ?_ | refine zs3 ?_ | refine zs4 ?_ | refine zs5 ?_); conv => whnf) | ((first | apply zi1 | apply zi2 | apply zi3 | apply zi4 | apply zi5) <;> intro _ <;> first | (exfalso; omega) | contradiction | (conv => whnf)))
  exact VOut.same rfl
end Go.Proofs.YtajnkenbhmkjaaaGreat

open Go.Vm
open Riv
namespace Go.Proofs.YtajnkenbhmkjaaaGreat
set_option maxRecDepth 20000
set_option maxHeartbeats 4000000

theorem vc_Regions (W : Nat) (o : List Int) (h : Hp) (e : EOk W o) : VC Tryz.prog 8 [vE W o] h (.tuple [ints (opE o W o.length).1, I 0]) h := by
  have c := fun h => vc_eopened W o h e
  generalize (opE o W o.length).1 = R at *
  generalize (opE o W o.length).2 = m at *
  unfold vE at *
  refine VC.body Tryz.func8 rfl Tryz.ntmps8 Tryz.call8 (h.grows_refl) rfl ?_; conv => whnf
  repeat' (first | ((first | refine zs1 ?_ | refine zs2 ?_ | refine zs3 ?_ | refine zs4 ?_ | refine zs5 ?_); conv => whnf) | ((first | apply zi1 | apply zi2 | apply zi3 | apply zi4 | apply zi5) <;> intro _ <;> first | (exfalso; omega) | contradiction | (conv => whnf)) | (refine VCall.intro (c _) ?_; conv => whnf))
  exact VOut.same rfl
/-! ### Counts -/
def cB (k : Nat) (l : List Int) : List Int := (List.range k).map fun j : Nat => ((l.count (j : Int) : Nat) : Int)
theorem cB_len (k : Nat) (l : List Int) : (cB k l).length = k := by unfold cB; rw [List.length_map, List.length_range]
theorem cB_at {k : Nat} {l : List Int} {v : Nat} (h : v < k) : (cB k l)[v]? = some ((l.count (v : Int) : Nat) : Int) := by
  unfold cB; rw [List.getElem?_map, List.getElem?_range h]; rfl
theorem cB_nil (k : Nat) : cB k [] = List.replicate k 0 := by
  unfold cB
  rw [List.eq_replicate_iff]
  exact ⟨by simp, fun x hx => by obtain ⟨j, _, rfl⟩ := List.mem_map.1 hx; rfl⟩
theorem cB_step {k : Nat} {l : List Int} {v : Nat} (h : v < k) : cB k (l ++ [(v : Int)]) = (cB k l).set v (((l.count (v : Int) : Nat) : Int) + 1) := by
  apply List.ext_getElem?
  intro j
  rcases Nat.lt_or_ge j k with h1 | h1
  · rw [cB_at h1, List.count_append]
    by_cases hj : v = j
    · subst hj
      rw [List.getElem?_set_self (by rw [cB_len]; exact h)]
      simp
    · rw [List.getElem?_set_ne hj, cB_at h1]
      have : ([(v : Int)] : List Int).count (j : Int) = 0 := by
        rw [List.count_eq_zero]
        simp; omega
      rw [this]; rfl
  · rw [List.getElem?_eq_none (by rw [cB_len]; exact h1), List.getElem?_eq_none (by rw [List.length_set, cB_len]; exact h1)]
theorem vc_bad (lo hi : Int) (h : Hp) (hb : -300 ≤ lo ∧ lo ≤ hi ∧ hi ≤ 300) : VC Tryz.prog 37 [.agg [I lo, I hi]] h (B false) h := by
  have c := fun h => vc_in lo (-300) hi h
  rw [decide_eq_true (by omega)] at c
  refine VC.body Tryz.func37 rfl Tryz.ntmps37 Tryz.call37 (h.grows_refl) rfl ?_; conv => whnf
  repeat' (first | ((first | refine zs1 ?_ | refine zs2 ?_ | refine zs3 ?_ | refine zs4 ?_ | refine zs5 ?_); conv => whnf) | ((first | apply zi1 | apply zi2 | apply zi3 | apply zi4 | apply zi5) <;> intro _ <;> first | (exfalso; omega) | contradiction | (conv => whnf)) | (refine VCall.intro (c _) ?_; conv => whnf))
  all_goals (
    refine VOut.same ?_
    show B (decide (300 < hi)) = B false
    rw [decide_eq_false (by omega)])
theorem vc_fielded (xl xh yl yh : Int) (h : Hp) (hx : -300 ≤ xl ∧ xl ≤ xh ∧ xh ≤ 300) (hy : -300 ≤ yl ∧ yl ≤ yh ∧ yh ≤ 300) (hm : 0 ≤ (xh - xl + 1) * (yh - yl + 1) ∧ (xh - xl + 1) * (yh - yl + 1) ≤ 2000) : VC Tryz.prog 17 [.agg [I xl, I xh, I yl, I yh]] h (I 0) h := by
  have c1 := fun h => vc_bad xl xh h hx
  have c2 := fun h => vc_bad yl yh h hy
  refine VC.body Tryz.func17 rfl Tryz.ntmps17 Tryz.call17 (h.grows_refl) rfl ?_; conv => whnf
  repeat' (first | ((first | refine zs1 ?_ | refine zs2 ?_ | refine zs3 ?_ | refine zs4 ?_ | refine zs5 ?_); conv => whnf) | ((first | apply zi1 | apply zi2 | apply zi3 | apply zi4 | apply zi5) <;> intro _ <;> first | (exfalso; omega) | contradiction | (conv => whnf)) | (refine VCall.intro (c1 _) ?_; conv => whnf) | (refine VCall.intro (c2 _) ?_; conv => whnf))
  all_goals exact VOut.same rfl
def stN (w : Int) : Nat := if w = -1 then 5 else w.toNat
def cntL (c : Cst) (xl yl : Int) (H i : Nat) : List Int := (List.range i).flatMap fun x => (List.range H).map fun y => ((stN (whC c (xl + (x : Nat)) (yl + (y : Nat))) : Nat) : Int)
def cntK (c : Cst) (xl yl : Int) (H i j : Nat) : List Int := cntL c xl yl H i ++ (List.range j).map fun y => ((stN (whC c (xl + (i : Nat)) (yl + (y : Nat))) : Nat) : Int)
theorem cntK_step (c : Cst) (xl yl : Int) (H i j : Nat) : cntK c xl yl H i (j + 1) = cntK c xl yl H i j ++ [((stN (whC c (xl + (i : Nat)) (yl + (j : Nat))) : Nat) : Int)] := by
  unfold cntK
  rw [List.range_succ, List.map_append, ← List.append_assoc]; rfl
theorem cntL_step (c : Cst) (xl yl : Int) (H i : Nat) : cntL c xl yl H (i + 1) = cntK c xl yl H i H := by
  unfold cntK cntL
  rw [List.range_succ, List.flatMap_append]
  simp
theorem cntK_zero (c : Cst) (xl yl : Int) (H i : Nat) : cntK c xl yl H i 0 = cntL c xl yl H i := by unfold cntK; simp
theorem cntK_len (c : Cst) (xl yl : Int) (H i j : Nat) : (cntK c xl yl H i j).length = i * H + j := by
  have h1 : (cntL c xl yl H i).length = i * H := by
    induction i with
    | zero => simp [cntL]
    | succ i ih =>
      unfold cntL at *
      rw [List.range_succ, List.flatMap_append, List.length_append, ih]
      simp [Nat.add_mul]
  unfold cntK
  rw [List.length_append, h1, List.length_map, List.length_range]
def tlB (l : List Int) : Blk := .flat true ((cB 6 l).flatMap Vm.encI)
theorem vc_count (c : Cst) (xl yl : Int) (W H : Nat) (l0 : List Int) (tI : Vm.Id) (h : Hp) (ok : COk c) (hx : -300 ≤ xl ∧ xl + W ≤ 300) (hy : -300 ≤ yl ∧ yl + H ≤ 300) (hWH : W ≤ 9 ∧ H ≤ 9) (hw : ∀ x y : Int, whC c x y = -1 ∨ whC c x y = 0 ∨ whC c x y = 1) (hl0 : l0.length = 6) (ht : h.get tI = some (.flat true (l0.flatMap Vm.encI))) :
    VC Tryz.prog 18 [.fp (encWk c), .agg [I xl, I (xl + W - 1), I yl, I (yl + H - 1)], .ptr tI 0] h (.tuple []) (h.set tI (tlB (cntL c xl yl H W))) := by
  have cW := fun x y h hx hy => vc_whose c x y h ok hx hy
  have kst := fun i j => cntK_step c xl yl H i j
  have kl := fun i => cntL_step c xl yl H i
  have k0 := fun i => cntK_zero c xl yl H i
  have kln := fun i j => cntK_len c xl yl H i j
  have h00 : cntL c xl yl H 0 = [] := rfl
  generalize encWk c = K at *
  generalize cntK c xl yl H = KK at *
  generalize cntL c xl yl H = LL at *
  generalize whC c = wf at *
  have fl0 : (l0.flatMap Vm.encI).length = 6 := by rw [flat_len Vm.encI_len, hl0]
  refine VC.bodyC 99 Tryz.func18 rfl Tryz.ntmps18 Tryz.call18 (h.grows_set _ _) rfl ?_
  conv => whnf
  repeat' (first | ((first | refine zs1 ?_ | refine zs2 ?_ | refine zs3 ?_ | refine zs4 ?_ | refine zs5 ?_); conv => whnf) | ((first | apply zi1 | apply zi2 | apply zi3 | apply zi4 | apply zi5) <;> intro _ <;> first | (exfalso; omega) | contradiction | (conv => whnf)))
  refine VMem.intro (does_sliceArr (tiOf_ok _) (n := 6) (esz := 1) (b := .flat true (l0.flatMap Vm.encI)) (l := (l0.flatMap Vm.encI).map D.v) rfl (by decide) (get_out ht _) rfl (by rw [List.length_map, fl0]; decide)) ?_
  conv => whnf
  repeat' (first | ((first | refine zs1 ?_ | refine zs2 ?_ | refine zs3 ?_ | refine zs4 ?_ | refine zs5 ?_); conv => whnf) | ((first | apply zi1 | apply zi2 | apply zi3 | apply zi4 | apply zi5) <;> intro _ <;> first | (exfalso; omega) | contradiction | (conv => whnf)))
  refine VMem.intro (does_clear (tiOf_ok _) (b' := tlB []) (b := .flat true (l0.flatMap Vm.encI)) (l := (l0.flatMap Vm.encI).map D.v) rfl (get_out ht _) rfl (by rw [List.length_map, fl0]; decide) ?_) ?_
  · unfold tlB
    rw [cB_nil]
    refine congrArg (fun t => some (true, t)) ?_
    rw [List.drop_of_length_le (by rw [List.length_map, fl0]; decide), List.append_nil]
    rfl
  conv => whnf
  repeat' (first | ((first | refine zs1 ?_ | refine zs2 ?_ | refine zs3 ?_ | refine zs4 ?_ | refine zs5 ?_); conv => whnf) | ((first | apply zi1 | apply zi2 | apply zi3 | apply zi4 | apply zi5) <;> intro _ <;> first | (exfalso; omega) | contradiction | (conv => whnf)))
  refine VCode.lpoC (marks := []) 99 (fun i : Nat => [(0, .fp K), (2, .ptr (.out tI) 0), (4, .fp [DI xl, DI (xl + W - 1), DI yl, DI (yl + H - 1)]), (6, I (xl + i))]) (fun i => outW h.lift tI (tlB (LL i))) (fun i => []) (fun i => i ≤ W) (fun i => W - i) 0 (Nat.zero_le _) ?_ ?_
  · rw [h00]
    conv => whnf
    refine Retell.turn ⟨[], 9, [(0, [DI xl, DI (xl + W - 1), DI yl, DI (yl + H - 1)])], []⟩ (TurnOk.mk' _ _ [(0, [DI xl, DI (xl + W - 1), DI yl, DI (yl + H - 1)])] [] (OutOk.outW (OutOk.lift _) rfl) rfl (by decide) zb zf trivial rfl) zw zm
  · intro i hi
    rcases Nat.lt_or_ge i W with h3 | h3
    · have ki := kl i
      have kj := kst i
      have knj := kln i
      rw [← k0 i]
      generalize KK i = G at *
      clear kl kst kln k0 h00
      conv => whnf
      repeat' (first | ((first | refine zs1 ?_ | refine zs2 ?_ | refine zs3 ?_ | refine zs4 ?_ | refine zs5 ?_); conv => whnf) | ((first | apply zi1 | apply zi2 | apply zi3 | apply zi4 | apply zi5) <;> intro _ <;> first | (exfalso; omega) | contradiction | (conv => whnf)))
      refine VCode.lpoC (marks := []) 99 (fun j : Nat => [(0, .fp K), (2, .ptr (.out tI) 0), (4, .fp [DI xl, DI (xl + W - 1), DI yl, DI (yl + H - 1)]), (6, I (xl + i)), (7, I (yl + j))]) (fun j => outW h.lift tI (tlB (G j))) (fun j => []) (fun j => j ≤ H) (fun j => H - j) 0 (Nat.zero_le _) ?_ ?_
      · conv => whnf
        refine Retell.turn ⟨[], 9, [], []⟩ (TurnOk.mk' _ _ [] [] (OutOk.outW (OutOk.lift _) rfl) rfl (by decide) zb trivial trivial rfl) zw zm
      · intro j hj
        rcases Nat.lt_or_ge j H with h5 | h5
        · have kk := kj j
          have kn := knj j
          have cw := fun h => cW (xl + (i : Nat)) (yl + (j : Nat)) h (by omega) (by omega)
          have hwv := hw (xl + (i : Nat)) (yl + (j : Nat))
          generalize wf (xl + (i : Nat)) (yl + (j : Nat)) = w at *
          have hiH : i * H ≤ 9 * 9 := Nat.mul_le_mul (by omega) hWH.2
          obtain ⟨s, hs, hs6, hs1⟩ : ∃ s : Nat, s = stN w ∧ s < 6 ∧ ((w = -1 ∧ s = 5) ∨ (w ≠ -1 ∧ (s : Int) = w)) := by
            refine ⟨_, rfl, ?_⟩
            unfold stN
            rcases hwv with rfl | rfl | rfl
            · exact ⟨by decide, .inl ⟨rfl, rfl⟩⟩
            · exact ⟨by decide, .inr ⟨by decide, rfl⟩⟩
            · exact ⟨by decide, .inr ⟨by decide, rfl⟩⟩
          rw [← hs] at kk
          generalize hGj : G j = l at *
          have hx := cB_at (l := l) hs6
          have hcs := cB_step (l := l) hs6
          have hcl := List.count_le_length (a := (s : Int)) (l := l)
          generalize l.count (s : Int) = cn at *
          have eo : outW (outW h.lift tI (tlB l)) tI (.flat true (((cB 6 l).set s ((cn : Int) + 1)).flatMap Vm.encI)) = outW h.lift tI (tlB (G (j + 1))) := by
            rw [outW_same, kk]; unfold tlB; rw [hcs]
          rcases hs1 with ⟨h7, h8⟩ | ⟨h7, h8⟩
          · subst h7
            conv => whnf
            repeat' (first | ((first | refine zs1 ?_ | refine zs2 ?_ | refine zs3 ?_ | refine zs4 ?_ | refine zs5 ?_); conv => whnf) | ((first | apply zi1 | apply zi2 | apply zi3 | apply zi4 | apply zi5) <;> intro _ <;> first | (exfalso; omega) | contradiction | (conv => whnf)) | (refine VCall.intro (cw _) ?_; conv => whnf))
            refine zs6 [] ?_
            conv => whnf
            repeat' (first | ((first | refine zs1 ?_ | refine zs2 ?_ | refine zs3 ?_ | refine zs4 ?_ | refine zs5 ?_); conv => whnf) | ((first | apply zi1 | apply zi2 | apply zi3 | apply zi4 | apply zi5) <;> intro _ <;> first | (exfalso; omega) | contradiction | (conv => whnf)) | (refine VLd.recc Vm.encI_len s 0 rfl rfl (outW_get _ _ _ _) hx (by decide) rfl (by show 0 + (5 : Int).toNat * 1 = s * 1 + 0; omega) ?_; conv => whnf) | (refine VMem.setRec Vm.encI_len s 0 ((cn : Int) + 1) rfl rfl (outW_get _ _ _ _) hx (by decide) rfl (by show 0 + (5 : Int).toNat * 1 = s * 1 + 0; omega) ?_; conv => whnf))
            refine LEndO.intro (j + 1) (by omega) (by omega) eo ?_
            conv => whnf
            refine Retell.turn ⟨[], 9, [], []⟩ (TurnOk.mk' _ _ [] [] (OutOk.outW (OutOk.lift _) rfl) rfl (by decide) zb trivial trivial rfl) zw zm
          · have h9 : w.toNat = s := by omega
            conv => whnf
            repeat' (first | ((first | refine zs1 ?_ | refine zs2 ?_ | refine zs3 ?_ | refine zs4 ?_ | refine zs5 ?_); conv => whnf) | ((first | apply zi1 | apply zi2 | apply zi3 | apply zi4 | apply zi5) <;> intro _ <;> first | (exfalso; omega) | contradiction | (conv => whnf)) | (refine VCall.intro (cw _) ?_; conv => whnf))
            refine zs6 [] ?_
            conv => whnf
            repeat' (first | ((first | refine zs1 ?_ | refine zs2 ?_ | refine zs3 ?_ | refine zs4 ?_ | refine zs5 ?_); conv => whnf) | ((first | apply zi1 | apply zi2 | apply zi3 | apply zi4 | apply zi5) <;> intro _ <;> first | (exfalso; omega) | contradiction | (conv => whnf)) | (refine VLd.recc Vm.encI_len s 0 rfl rfl (outW_get _ _ _ _) hx (by decide) rfl (by show 0 + w.toNat * 1 = s * 1 + 0; omega) ?_; conv => whnf) | (refine VMem.setRec Vm.encI_len s 0 ((cn : Int) + 1) rfl rfl (outW_get _ _ _ _) hx (by decide) rfl (by show 0 + w.toNat * 1 = s * 1 + 0; omega) ?_; conv => whnf))
            refine LEndO.intro (j + 1) (by omega) (by omega) eo ?_
            conv => whnf
            refine Retell.turn ⟨[], 9, [], []⟩ (TurnOk.mk' _ _ [] [] (OutOk.outW (OutOk.lift _) rfl) rfl (by decide) zb trivial trivial rfl) zw zm
        · obtain rfl : j = H := by omega
          conv => whnf
          repeat' (first | ((first | refine zs1 ?_ | refine zs2 ?_ | refine zs3 ?_ | refine zs4 ?_ | refine zs5 ?_); conv => whnf) | ((first | apply zi1 | apply zi2 | apply zi3 | apply zi4 | apply zi5) <;> intro _ <;> first | (exfalso; omega) | contradiction | (conv => whnf)))
          refine LEndO.intro (i + 1) (by omega) (by omega) (by rw [ki]) ?_
          rw [ki]
          conv => whnf
          refine Retell.turn ⟨[], 9, [], []⟩ (TurnOk.mk' _ _ [] [] (OutOk.outW (OutOk.lift _) rfl) rfl (by decide) zb trivial trivial rfl) zw zm
    · obtain rfl : i = W := by omega
      conv => whnf
      repeat' (first | ((first | refine zs1 ?_ | refine zs2 ?_ | refine zs3 ?_ | refine zs4 ?_ | refine zs5 ?_); conv => whnf) | ((first | apply zi1 | apply zi2 | apply zi3 | apply zi4 | apply zi5) <;> intro _ <;> first | (exfalso; omega) | contradiction | (conv => whnf)))
      exact VOut.setB 9 rfl ht (fun ρ => rfl) (fun ρ => rfl)
theorem vc_Count (c : Cst) (xl yl : Int) (W H : Nat) (h : Hp) (ok : COk c) (nc : NoCl (sitesC c)) (hx : -300 ≤ xl ∧ xl + W ≤ 300) (hy : -300 ≤ yl ∧ yl + H ≤ 300) (hWH : (1 ≤ W ∧ W ≤ 9) ∧ 1 ≤ H ∧ H ≤ 9) (hw : ∀ x y : Int, whC c x y = -1 ∨ whC c x y = 0 ∨ whC c x y = 1) :
    VC Tryz.prog 10 [vCt c, .agg [I xl, I (xl + W - 1), I yl, I (yl + H - 1)]] h (.tuple [ints ((cB 6 (cntL c xl yl H W)).take 5), I (((cntL c xl yl H W).count 5 : Nat) : Int), I 0]) h := by
  have hWHm : W * H ≤ 9 * 9 := Nat.mul_le_mul hWH.1.2 hWH.2.2
  have c0 := fun h => vc_asked c h ok nc
  have e1 : xl + (W : Int) - 1 - xl + 1 = W := by omega
  have e2 : yl + (H : Int) - 1 - yl + 1 = H := by omega
  have e3 : (W : Int) * (H : Int) = ((W * H : Nat) : Int) := by rw [Int.natCast_mul]
  have c1 := fun h => vc_fielded xl (xl + W - 1) yl (yl + H - 1) h (by omega) (by omega) (by rw [e1, e2, e3]; omega)
  have c2 := fun l0 tI h hl ht => vc_count c xl yl W H l0 tI h ok hx hy ⟨hWH.1.2, hWH.2.2⟩ hw hl ht
  generalize cntL c xl yl H W = L at *
  generalize encWk c = K at *
  obtain ⟨a0, a1, a2, a3, a4, a5, e6, ea5⟩ : ∃ a0 a1 a2 a3 a4 a5 : Int, cB 6 L = [a0, a1, a2, a3, a4, a5] ∧ a5 = ((L.count 5 : Nat) : Int) := ⟨_, _, _, _, _, _, rfl, rfl⟩
  unfold tlB at c2
  rw [e6] at c2 ⊢
  rw [← ea5]
  clear ea5 e6
  have c3 := fun h => vc_cloneI [a0, a1, a2, a3, a4] h (by show 0 < 5; decide) (by show 5 ≤ 4000000; decide)
  show VC Tryz.prog 10 _ h (.tuple [ints [a0, a1, a2, a3, a4], I a5, I 0]) h
  unfold vCt at *
  refine VC.bodyC 6 Tryz.func10 rfl Tryz.ntmps10 Tryz.call10 (h.grows_refl) rfl ?_
  conv => whnf
  repeat' (first | ((first | refine zs1 ?_ | refine zs2 ?_ | refine zs3 ?_ | refine zs4 ?_ | refine zs5 ?_); conv => whnf) | ((first | apply zi1 | apply zi2 | apply zi3 | apply zi4 | apply zi5) <;> intro _ <;> first | (exfalso; omega) | contradiction | (conv => whnf)) | (refine VCall.intro (c0 _) ?_; conv => whnf) | (refine VCall.intro (c1 _) ?_; conv => whnf) | (refine VCall.intro (c2 [0, 0, 0, 0, 0, 0] _ _ rfl rfl) ?_; conv => whnf))
  refine VCut.at' (outer := h.lift) (marks := []) 99 [(8, .fp [DI a0, DI a1, DI a2, DI a3, DI a4, DI a5])] [] ?_ ?_
  · conv => whnf
    refine Retell.turn ⟨[], 9, [(2, [DI a0, DI a1, DI a2, DI a3, DI a4, DI a5])], []⟩ (TurnOk.mk' _ _ [(2, [DI a0, DI a1, DI a2, DI a3, DI a4, DI a5])] [] (OutOk.lift _) rfl (by decide) zb zf trivial rfl) zw zm
  conv => whnf
  refine zs6 [(1, 3)] ?_
  conv => whnf
  repeat' (first | ((first | refine zs1 ?_ | refine zs2 ?_ | refine zs3 ?_ | refine zs4 ?_ | refine zs5 ?_); conv => whnf) | ((first | apply zi1 | apply zi2 | apply zi3 | apply zi4 | apply zi5) <;> intro _ <;> first | (exfalso; omega) | contradiction | (conv => whnf)))
  refine VCall.intro (c3 _) ?_
  conv => whnf
  repeat' (first | ((first | refine zs1 ?_ | refine zs2 ?_ | refine zs3 ?_ | refine zs4 ?_ | refine zs5 ?_); conv => whnf) | ((first | apply zi1 | apply zi2 | apply zi3 | apply zi4 | apply zi5) <;> intro _ <;> first | (exfalso; omega) | contradiction | (conv => whnf)) | (refine VAny.ix (l := [a0, a1, a2, a3, a4, a5]) Vm.encI_len 5 rfl rfl rfl ?_; conv => whnf))
  refine VOut.data 9 [(0, [DI a0, DI a1, DI a2, DI a3, DI a4])] [] rfl zf (by exact FmAll.nil) zw
end Go.Proofs.YtajnkenbhmkjaaaGreat

open Go.Vm
open Riv
open Sea (ds)
namespace Go.Proofs.YtajnkenbhmkjaaaGreat
set_option maxRecDepth 20000
set_option maxHeartbeats 4000000

/-! ### Fields, row by row -/
def grd (f : Nat → Nat → Int) (W j : Nat) : List Int := (List.range j).flatMap fun y => (List.range W).map fun x => f x y
def grK (f : Nat → Nat → Int) (W j k : Nat) : List Int := grd f W j ++ (List.range k).map fun x => f x j
theorem grK_step (f : Nat → Nat → Int) (W j k : Nat) : grK f W j (k + 1) = grK f W j k ++ [f k j] := by
  unfold grK
  rw [List.range_succ, List.map_append, ← List.append_assoc]; rfl
theorem grd_step (f : Nat → Nat → Int) (W j : Nat) : grd f W (j + 1) = grK f W j W := by
  unfold grK grd
  rw [List.range_succ, List.flatMap_append]
  simp
theorem grK_zero (f : Nat → Nat → Int) (W j : Nat) : grK f W j 0 = grd f W j := by unfold grK; simp
theorem grd_len (f : Nat → Nat → Int) (W : Nat) : ∀ j, (grd f W j).length = j * W
  | 0 => by simp [grd]
  | j + 1 => by
    rw [grd_step]
    unfold grK
    rw [List.length_append, grd_len f W j, List.length_map, List.length_range, Nat.add_mul, Nat.one_mul]
theorem grK_len (f : Nat → Nat → Int) (W j k : Nat) : (grK f W j k).length = j * W + k := by
  unfold grK
  rw [List.length_append, grd_len, List.length_map, List.length_range]
theorem grd_at (f : Nat → Nat → Int) (W : Nat) : ∀ (j x y : Nat), x < W → y < j → at0 (grd f W j) (y * W + x) = f x y
  | 0, x, y, _, h => absurd h (Nat.not_lt_zero _)
  | j + 1, x, y, hx, hy => by
    rw [grd_step]
    unfold grK
    have hl := grd_len f W j
    rcases Nat.lt_or_ge y j with h | h
    · have hlt : y * W + x < j * W := by
        have h1 : (y + 1) * W ≤ j * W := Nat.mul_le_mul_right _ h
        rw [Nat.add_mul, Nat.one_mul] at h1; omega
      have ih := grd_at f W j x y hx h
      unfold at0 at ih ⊢
      rw [List.getD_eq_getElem?_getD] at ih ⊢
      rw [List.getElem?_append_left (by omega)]; exact ih
    · obtain rfl : y = j := by omega
      unfold at0
      rw [List.getD_eq_getElem?_getD, List.getElem?_append_right (by omega), hl, Nat.add_sub_cancel_left, List.getElem?_map, List.getElem?_range hx]
      rfl
def sumN (f : Nat → Nat) : Nat → Nat
  | 0 => 0
  | k + 1 => sumN f k + f k
theorem sumN_congr {f g : Nat → Nat} : ∀ k, (∀ i, i < k → f i = g i) → sumN f k = sumN g k
  | 0, _ => rfl
  | k + 1, h => by rw [sumN, sumN, sumN_congr k (fun i hi => h i (by omega)), h k (by omega)]
theorem sumN_add (f g : Nat → Nat) : ∀ k, sumN (fun i => f i + g i) k = sumN f k + sumN g k
  | 0 => rfl
  | k + 1 => by rw [sumN, sumN, sumN, sumN_add f g k]; omega
theorem sumN_zero : ∀ k, sumN (fun _ => 0) k = 0
  | 0 => rfl
  | k + 1 => by rw [sumN, sumN_zero k]
theorem sumN_swap (f : Nat → Nat → Nat) (W : Nat) : ∀ H, sumN (fun y => sumN (fun x => f x y) W) H = sumN (fun x => sumN (fun y => f x y) H) W
  | 0 => (sumN_zero W).symm
  | H + 1 => by
    rw [sumN, sumN_swap f W H, ← sumN_add]
    rfl
theorem count_row (g : Nat → Int) (v : Int) : ∀ W, ((List.range W).map g).count v = sumN (fun x => if g x = v then 1 else 0) W
  | 0 => rfl
  | W + 1 => by
    rw [List.range_succ, List.map_append, List.count_append, count_row g v W, sumN]
    congr 1
    simp [List.count_cons]
theorem count_grd (f : Nat → Nat → Int) (W : Nat) (v : Int) : ∀ j, (grd f W j).count v = sumN (fun y => sumN (fun x => if f x y = v then 1 else 0) W) j
  | 0 => rfl
  | j + 1 => by
    rw [grd_step]
    unfold grK
    rw [List.count_append, count_grd f W v j, count_row (fun x => f x j) v W, sumN]
theorem count_swap {f g : Nat → Nat → Int} {u v : Int} (h : ∀ x y, f x y = u ↔ g x y = v) (W H : Nat) : (grd f W H).count u = (grd (fun y x => g x y) H W).count v := by
  rw [count_grd, count_grd, sumN_swap]
  refine sumN_congr W fun x _ => sumN_congr H fun y _ => ?_
  by_cases h1 : f x y = u
  · rw [if_pos h1, if_pos ((h x y).1 h1)]
  · rw [if_neg h1, if_neg fun h2 => h1 ((h x y).2 h2)]
theorem cntL_grd (c : Cst) (xl yl : Int) (H i : Nat) : cntL c xl yl H i = grd (fun y x => ((stN (whC c (xl + (x : Nat)) (yl + (y : Nat))) : Nat) : Int)) H i := rfl
/-! ### The map of two base points -/
structure Two (x0 y0 x1 y1 : Int) : Prop where
  a : (-12 ≤ x0 ∧ x0 ≤ 12) ∧ (-12 ≤ y0 ∧ y0 ≤ 12)
  b : (-12 ≤ x1 ∧ x1 ≤ 13) ∧ (-12 ≤ y1 ∧ y1 ≤ 12)
  ne : ¬ (x0 = x1 ∧ y0 = y1)
theorem Two.ok {x0 y0 x1 y1 : Int} (t : Two x0 y0 x1 y1) : COk (twoB x0 y0 x1 y1) where
  nb := by show 1 ≤ 2 ∧ 2 ≤ 12; decide
  ni := by show 0 ≤ 5; decide
  b := fun b hb => by
    have h1 := t.a
    have h2 := t.b
    simp only [twoB, List.mem_cons, List.not_mem_nil, or_false] at hb
    rcases hb with rfl | rfl <;> (dsimp only; omega)
  i := fun i hi => (List.not_mem_nil hi).elim
  o := fun i hi => (List.not_mem_nil hi).elim
theorem Two.nc {x0 y0 x1 y1 : Int} (t : Two x0 y0 x1 y1) : NoCl (sitesC (twoB x0 y0 x1 y1)) := by
  have hs : sitesC (twoB x0 y0 x1 y1) = [⟨2 * x0, 2 * y0, 0⟩, ⟨2 * x1, 2 * y1, 1⟩] := rfl
  rw [hs]
  have h := t.ne
  intro a ha b hb
  simp only [List.mem_cons, List.not_mem_nil, or_false] at ha hb
  rcases ha with rfl | rfl <;> rcases hb with rfl | rfl <;> (dsimp only; omega)
theorem two_cases (x0 y0 x1 y1 x y : Int) : whC (twoB x0 y0 x1 y1) x y = -1 ∨ whC (twoB x0 y0 x1 y1) x y = 0 ∨ whC (twoB x0 y0 x1 y1) x y = 1 := by
  rw [twoB_wh]
  split
  · exact .inr (.inl rfl)
  · split
    · exact .inr (.inr rfl)
    · exact .inl rfl
def ownF2 (c : Cst) (fx fy : Int) (x y : Nat) : Int := whC c (fx + (x : Nat)) (fy + (y : Nat)) + 1
theorem two_hpl {x0 y0 x1 y1 fx fy : Int} (t : Two x0 y0 x1 y1) {W H : Nat} (hW : 1 ≤ W) : ∃ al be c : Int, HPl W H al be c (grd (ownF2 (twoB x0 y0 x1 y1) fx fy) W H) := by
  refine ⟨-8 * (x0 - x1), -8 * (y0 - y1), 4 * (x0 * x0) - 4 * (x1 * x1) + 4 * (y0 * y0) - 4 * (y1 * y1) - 8 * ((x0 - x1) * fx) - 8 * ((y0 - y1) * fy), hW, by rw [grd_len, Nat.mul_comm], by have := t.ne; omega, fun x y hx hy => ?_⟩
  rw [grd_at _ _ _ _ _ hx hy]
  unfold ownF2
  rw [twoB_wh, ← ds_lin]
  generalize ds (2 * x0) (2 * y0) (fx + ↑x) (fy + ↑y) = u
  generalize ds (2 * x1) (2 * y1) (fx + ↑x) (fy + ↑y) = v
  simp only [show (u - v < 0) = (u < v) from propext (by omega), show (0 < u - v) = (v < u) from propext (by omega)]
  by_cases h1 : u < v
  · simp only [if_pos h1]; rfl
  · by_cases h2 : v < u
    · simp only [if_neg h1, if_pos h2]; rfl
    · simp only [if_neg h1, if_neg h2]; rfl
/-! ### The regions that were met -/
def rgS (o R : List Int) (g : List Int) (k : Nat) : List Int := g.set (at0 o k).toNat (at0 R k)
def rgA (o R : List Int) (k : Nat) : List Int := (List.range k).foldl (rgS o R) [-1, -1, -1]
theorem rgA_step (o R : List Int) (k : Nat) : rgA o R (k + 1) = (rgA o R k).set (at0 o k).toNat (at0 R k) := by unfold rgA; rw [List.range_succ, List.foldl_append]; rfl
theorem rgA_len (o R : List Int) : ∀ k, (rgA o R k).length = 3
  | 0 => rfl
  | k + 1 => by rw [rgA_step, List.length_set, rgA_len o R k]
theorem rgA_at {o R : List Int} : ∀ (k v : Nat), v < 3 → at0 (rgA o R k) v = -1 ∨ ∃ p, p < k ∧ (at0 o p).toNat = v ∧ at0 R p = at0 (rgA o R k) v
  | 0, v, h => by
    left
    rcases (show v = 0 ∨ v = 1 ∨ v = 2 by omega) with rfl | rfl | rfl <;> rfl
  | k + 1, v, h => by
    by_cases hv : (at0 o k).toNat = v
    · right
      refine ⟨k, by omega, hv, ?_⟩
      rw [rgA_step, at0_set (by rw [rgA_len]; omega) v, if_pos hv.symm]
    · have e : at0 (rgA o R (k + 1)) v = at0 (rgA o R k) v := by
        rw [rgA_step]
        by_cases h3 : (at0 o k).toNat < 3
        · rw [at0_set (by rw [rgA_len]; exact h3) v, if_neg fun h2 => hv h2.symm]
        · rw [List.set_eq_of_length_le (by rw [rgA_len]; omega)]
      rw [e]
      rcases rgA_at (o := o) (R := R) k v h with h1 | ⟨p, h1, h2, h3⟩
      · exact .inl h1
      · exact .inr ⟨p, by omega, h2, h3⟩
end Go.Proofs.YtajnkenbhmkjaaaGreat

open Go.Vm
open Riv
namespace Go.Proofs.YtajnkenbhmkjaaaGreat
set_option maxRecDepth 20000
set_option maxHeartbeats 4000000

structure HoldT (R : Prop) : Prop where
  out : R
theorem suffT {R G : Prop} (main : HoldT R → G) (rest : R) : G := main ⟨rest⟩
theorem wf_own {c : Cst} (hw : ∀ x y : Int, whC c x y = -1 ∨ whC c x y = 0 ∨ whC c x y = 1) (fx fy : Int) (x y : Nat) : 0 ≤ ownF2 c fx fy x y ∧ ownF2 c fx fy x y ≤ 2 := by
  unfold ownF2
  have := hw (fx + (x : Nat)) (fy + (y : Nat))
  omega
theorem grd_mem {f : Nat → Nat → Int} {W j : Nat} {v : Int} (h : v ∈ grd f W j) : ∃ x y, v = f x y := by
  unfold grd at h
  obtain ⟨y, _, h2⟩ := List.mem_flatMap.1 h
  obtain ⟨x, _, h3⟩ := List.mem_map.1 h2
  exact ⟨x, y, h3.symm⟩
theorem vc_TopHalved (bs : List Int) (h : Hp) : VC Tryz.prog 3 [bytes bs] h (B true) h := by
  have c0 := vc_Of bs
  have a1 := (dealt bs).lo ((0 : Nat), (9 : Int)) 25
  have b1 := (dealt bs).hi ((0 : Nat), (9 : Int)) 25 (by decide)
  have n1 := (dealt bs).n ((0 : Nat), (9 : Int)) 25
  have d1 := fun i h hd => vc_between bs ((0 : Nat), (9 : Int)) (-12) 12 i h (by decide) (by decide) (by decide) hd
  rw [show (12 : Int) - (-12) + 1 = 25 from rfl] at d1
  generalize dNx bs ((0 : Nat), (9 : Int)) 25 = z1 at *
  have a2 := (dealt bs).lo z1.2 25
  have b2 := (dealt bs).hi z1.2 25 (by decide)
  have n2 := (dealt bs).n z1.2 25
  have d2 := fun i h hd => vc_between bs z1.2 (-12) 12 i h (by omega) (by decide) (by decide) hd
  rw [show (12 : Int) - (-12) + 1 = 25 from rfl] at d2
  generalize dNx bs z1.2 25 = z2 at *
  have a3 := (dealt bs).lo z2.2 25
  have b3 := (dealt bs).hi z2.2 25 (by decide)
  have n3 := (dealt bs).n z2.2 25
  have d3 := fun i h hd => vc_between bs z2.2 (-12) 12 i h (by omega) (by decide) (by decide) hd
  rw [show (12 : Int) - (-12) + 1 = 25 from rfl] at d3
  generalize dNx bs z2.2 25 = z3 at *
  have a4 := (dealt bs).lo z3.2 25
  have b4 := (dealt bs).hi z3.2 25 (by decide)
  have n4 := (dealt bs).n z3.2 25
  have d4 := fun i h hd => vc_between bs z3.2 (-12) 12 i h (by omega) (by decide) (by decide) hd
  rw [show (12 : Int) - (-12) + 1 = 25 from rfl] at d4
  generalize dNx bs z3.2 25 = z4 at *
  have a5 := (dealt bs).lo z4.2 19
  have b5 := (dealt bs).hi z4.2 19 (by decide)
  have n5 := (dealt bs).n z4.2 19
  have d5 := fun i h hd => vc_between bs z4.2 (-12) 6 i h (by omega) (by decide) (by decide) hd
  rw [show (6 : Int) - (-12) + 1 = 19 from rfl] at d5
  generalize dNx bs z4.2 19 = z5 at *
  have a6 := (dealt bs).lo z5.2 19
  have b6 := (dealt bs).hi z5.2 19 (by decide)
  have n6 := (dealt bs).n z5.2 19
  have d6 := fun i h hd => vc_between bs z5.2 (-12) 6 i h (by omega) (by decide) (by decide) hd
  rw [show (6 : Int) - (-12) + 1 = 19 from rfl] at d6
  generalize dNx bs z5.2 19 = z6 at *
  have a7 := (dealt bs).lo z6.2 9
  have b7 := (dealt bs).hi z6.2 9 (by decide)
  have n7 := (dealt bs).n z6.2 9
  have d7 := fun i h hd => vc_draw bs z6.2 9 i h (by omega) hd
  generalize dNx bs z6.2 9 = z7 at *
  have a8 := (dealt bs).lo z7.2 9
  have b8 := (dealt bs).hi z7.2 9 (by decide)
  have n8 := (dealt bs).n z7.2 9
  have d8 := fun i h hd => vc_draw bs z7.2 9 i h (by omega) hd
  generalize dNx bs z7.2 9 = z8 at *
  obtain ⟨x0, e1, hx0⟩ : ∃ x0 : Int, (-12 : Int) + z1.1 = x0 ∧ -12 ≤ x0 ∧ x0 ≤ 12 := ⟨_, rfl, by omega, by omega⟩
  rw [e1] at d1
  obtain ⟨y0, e2, hy0⟩ : ∃ y0 : Int, (-12 : Int) + z2.1 = y0 ∧ -12 ≤ y0 ∧ y0 ≤ 12 := ⟨_, rfl, by omega, by omega⟩
  rw [e2] at d2
  obtain ⟨x1, e3, hx1⟩ : ∃ x1 : Int, (-12 : Int) + z3.1 = x1 ∧ -12 ≤ x1 ∧ x1 ≤ 12 := ⟨_, rfl, by omega, by omega⟩
  rw [e3] at d3
  obtain ⟨y1, e4, hy1⟩ : ∃ y1 : Int, (-12 : Int) + z4.1 = y1 ∧ -12 ≤ y1 ∧ y1 ≤ 12 := ⟨_, rfl, by omega, by omega⟩
  rw [e4] at d4
  obtain ⟨fx, e5, hfx⟩ : ∃ fx : Int, (-12 : Int) + z5.1 = fx ∧ -12 ≤ fx ∧ fx ≤ 6 := ⟨_, rfl, by omega, by omega⟩
  rw [e5] at d5
  obtain ⟨fy, e6, hfy⟩ : ∃ fy : Int, (-12 : Int) + z6.1 = fy ∧ -12 ≤ fy ∧ fy ≤ 6 := ⟨_, rfl, by omega, by omega⟩
  rw [e6] at d6
  obtain ⟨W, eW, hW⟩ : ∃ W : Nat, z7.1 = (W : Int) - 1 ∧ 1 ≤ W ∧ W ≤ 9 := ⟨(z7.1 + 1).toNat, by omega, by omega⟩
  obtain ⟨H, eH, hH⟩ : ∃ H : Nat, z8.1 = (H : Int) - 1 ∧ 1 ≤ H ∧ H ≤ 9 := ⟨(z8.1 + 1).toNat, by omega, by omega⟩
  rw [eW] at d7
  rw [eH] at d8
  clear a1 b1 n1 a2 b2 n2 a3 b3 n3 a4 b4 n4 a5 b5 n5 a6 b6 n6 a7 b7 n7 a8 b8 n8 e1 e2 e3 e4 e5 e6 eW eH
  generalize z1.2 = D1 at *
  generalize z2.2 = D2 at *
  generalize z3.2 = D3 at *
  generalize z4.2 = D4 at *
  generalize z5.2 = D5 at *
  generalize z6.2 = D6 at *
  generalize z7.2 = D7 at *
  generalize z8.2 = D8 at *
  -- the second base
  obtain ⟨x2, hx2, hx2b⟩ : ∃ x2 : Int, (if x0 = x1 ∧ y0 = y1 then x1 + 1 else x1) = x2 ∧ Two x0 y0 x2 y1 := by
    refine ⟨_, rfl, ⟨⟨hx0, hy0⟩, ⟨?_, hy1⟩, ?_⟩⟩
    · split <;> omega
    · split <;> omega
  have t := hx2b
  have ok := t.ok
  have nc := t.nc
  have hcs := two_cases x0 y0 x2 y1
  obtain ⟨al, be, cc, P⟩ := two_hpl (fx := fx) (fy := fy) t (W := W) (H := H) hW.1
  have kW := fun x y h hx hy => vc_Whose (twoB x0 y0 x2 y1) x y h ok nc hx hy
  have hHW : H * W ≤ 9 * 9 := Nat.mul_le_mul hH.2 hW.2
  have kC := fun h => vc_Count (twoB x0 y0 x2 y1) fx fy W H h ok nc (by omega) (by omega) ⟨hW, hH⟩ hcs
  have hlen := grd_len (ownF2 (twoB x0 y0 x2 y1) fx fy) W H
  have eo : EOk W (grd (ownF2 (twoB x0 y0 x2 y1) fx fy) W H) := by
    have h1 : 1 * 1 ≤ H * W := Nat.mul_le_mul hH.1 hW.1
    refine ⟨by rw [hlen]; omega, hW.1, by rw [hlen, Nat.mul_mod_left], fun x hx => ?_⟩
    obtain ⟨u, v, rfl⟩ := grd_mem hx
    have := wf_own hcs fx fy u v
    omega
  have kR := fun h => vc_Regions W _ h eo
  have kD := fun h => vc_Depths W _ h eo
  rw [law_de P] at kD
  have S := opE_op (o := grd (ownF2 (twoB x0 y0 x2 y1) fx fy) W H) hW.1 P.mod _ (Nat.le_refl _)
  have hreg := fun p q hp hq h0 hpq => law_reg P S (Nat.le_refl _) (p := p) (q := q) hp hq h0 hpq
  have hov : ∀ k, k < H * W → 0 ≤ at0 (grd (ownF2 (twoB x0 y0 x2 y1) fx fy) W H) k ∧ at0 (grd (ownF2 (twoB x0 y0 x2 y1) fx fy) W H) k ≤ 2 := fun k hk => by
    obtain ⟨u, v, e⟩ := grd_mem (List.mem_of_getElem? (at0_get (l := grd (ownF2 (twoB x0 y0 x2 y1) fx fy) W H) (n := k) (by rw [hlen]; exact hk)))
    rw [e]; exact wf_own hcs fx fy u v
  have hRl := S.len
  have hRv : ∀ k, k < H * W → 0 ≤ at0 (opE (grd (ownF2 (twoB x0 y0 x2 y1) fx fy) W H) W (grd (ownF2 (twoB x0 y0 x2 y1) fx fy) W H).length).1 k ∧ at0 (opE (grd (ownF2 (twoB x0 y0 x2 y1) fx fy) W H) W (grd (ownF2 (twoB x0 y0 x2 y1) fx fy) W H).length).1 k ≤ 1000 := fun k hk => by
    have h1 := S.rng k (by rw [hlen]; exact hk)
    have h2 := S.done k (by rw [hlen]; exact hk)
    have h3 := (opE_ok (o := grd (ownF2 (twoB x0 y0 x2 y1) fx fy) W H) hW.1 P.mod _ (Nat.le_refl _)).2
    rw [hlen] at h3
    rw [hlen] at h1 h2 ⊢
    omega
  have hml := (opE_ok (o := grd (ownF2 (twoB x0 y0 x2 y1) fx fy) W H) hW.1 P.mod _ (Nat.le_refl _)).2
  rw [hlen] at hml
  clear S
  generalize (opE (grd (ownF2 (twoB x0 y0 x2 y1) fx fy) W H) W (grd (ownF2 (twoB x0 y0 x2 y1) fx fy) W H).length).1 = R at *
  generalize hmm : (opE (grd (ownF2 (twoB x0 y0 x2 y1) fx fy) W H) W (grd (ownF2 (twoB x0 y0 x2 y1) fx fy) W H).length).2 = mm at *
  have hmm2 : mm ≤ 1000 := by rw [← hmm, hlen]; omega
  clear hmm hml
  -- the counts
  have hct : ∀ (u : Int) (s : Nat), (∀ w : Int, w = -1 ∨ w = 0 ∨ w = 1 → (w + 1 = u ↔ ((stN w : Nat) : Int) = (s : Int))) → (grd (ownF2 (twoB x0 y0 x2 y1) fx fy) W H).count u = (cntL (twoB x0 y0 x2 y1) fx fy H W).count (s : Int) := fun u s hus => by
    rw [cntL_grd]
    exact count_swap (f := ownF2 (twoB x0 y0 x2 y1) fx fy) (g := fun x y => ((stN (whC (twoB x0 y0 x2 y1) (fx + (x : Nat)) (fy + (y : Nat))) : Nat) : Int)) (fun x y => hus _ (hcs _ _)) W H
  have hct0 := hct 0 5 (fun w hw => by rcases hw with rfl | rfl | rfl <;> decide)
  have hct1 := hct 1 0 (fun w hw => by rcases hw with rfl | rfl | rfl <;> decide)
  have hct2 := hct 2 1 (fun w hw => by rcases hw with rfl | rfl | rfl <;> decide)
  clear hct
  obtain ⟨m0, m1, m2, em, em0, em1, em2⟩ : ∃ m0 m1 m2 : Int, cB 3 (grd (ownF2 (twoB x0 y0 x2 y1) fx fy) W H) = [m0, m1, m2] ∧ m0 = (((grd (ownF2 (twoB x0 y0 x2 y1) fx fy) W H).count 0 : Nat) : Int) ∧ m1 = (((grd (ownF2 (twoB x0 y0 x2 y1) fx fy) W H).count 1 : Nat) : Int) ∧ m2 = (((grd (ownF2 (twoB x0 y0 x2 y1) fx fy) W H).count 2 : Nat) : Int) := ⟨_, _, _, rfl, rfl, rfl, rfl⟩
  obtain ⟨s2, s3, s4, es⟩ : ∃ s2 s3 s4 : Int, (cB 6 (cntL (twoB x0 y0 x2 y1) fx fy H W)).take 5 = [(((cntL (twoB x0 y0 x2 y1) fx fy H W).count 0 : Nat) : Int), (((cntL (twoB x0 y0 x2 y1) fx fy H W).count 1 : Nat) : Int), s2, s3, s4] := ⟨_, _, _, rfl⟩
  rw [es] at kC
  rw [show ((cntL (twoB x0 y0 x2 y1) fx fy H W).count 5) = (grd (ownF2 (twoB x0 y0 x2 y1) fx fy) W H).count 0 from hct0.symm, show ((cntL (twoB x0 y0 x2 y1) fx fy H W).count 0) = (grd (ownF2 (twoB x0 y0 x2 y1) fx fy) W H).count 1 from hct1.symm, show ((cntL (twoB x0 y0 x2 y1) fx fy H W).count 1) = (grd (ownF2 (twoB x0 y0 x2 y1) fx fy) W H).count 2 from hct2.symm, ← em0, ← em1, ← em2] at kC
  clear hct0 hct1 hct2 es em0 em1 em2
  have kW : ∀ x y h, (-300 ≤ x ∧ x ≤ 300) → (-300 ≤ y ∧ y ≤ 300) → VC Tryz.prog 7 [.agg [.fs 3 2 [DI x0, DI y0, DI 0, DI x2, DI y1, DI 1], .fs 4 0 []], .agg [I x, I y]] h (.tuple [I (whC (twoB x0 y0 x2 y1) x y), I 0]) h := kW
  have kC : ∀ h, VC Tryz.prog 10 [.agg [.fs 3 2 [DI x0, DI y0, DI 0, DI x2, DI y1, DI 1], .fs 4 0 []], .agg [I fx, I (fx + W - 1), I fy, I (fy + H - 1)]] h (.tuple [ints [m1, m2, s2, s3, s4], I m0, I 0]) h := kC
  rw [show fx + (W : Int) - 1 = fx + ((W : Int) - 1) by omega, show fy + (H : Int) - 1 = fy + ((H : Int) - 1) by omega] at kC
  have gst := fun j k => grK_step (ownF2 (twoB x0 y0 x2 y1) fx fy) W j k
  have gsd := fun j => grd_step (ownF2 (twoB x0 y0 x2 y1) fx fy) W j
  have gk0 := fun j => grK_zero (ownF2 (twoB x0 y0 x2 y1) fx fy) W j
  have gkl := fun j k => grK_len (ownF2 (twoB x0 y0 x2 y1) fx fy) W j k
  have gd0 : grd (ownF2 (twoB x0 y0 x2 y1) fx fy) W 0 = [] := rfl
  have gof : ∀ x y : Nat, ownF2 (twoB x0 y0 x2 y1) fx fy x y = whC (twoB x0 y0 x2 y1) (fx + (x : Nat)) (fy + (y : Nat)) + 1 := fun _ _ => rfl
  generalize grK (ownF2 (twoB x0 y0 x2 y1) fx fy) W = GK at *
  generalize grd (ownF2 (twoB x0 y0 x2 y1) fx fy) W = GD at *
  generalize ownF2 (twoB x0 y0 x2 y1) fx fy = own at *
  generalize whC (twoB x0 y0 x2 y1) = wf at *
  clear ok nc t hx2b
  have caw := vc_aware
  refine VC.bodyC 8 Tryz.func3 rfl Tryz.ntmps3 Tryz.call3 (h.grows_refl) rfl ?_
  conv => whnf
  apply suffT
  · intro hrest
    by_cases hx : x0 = x1 ∧ y0 = y1
    · rw [if_pos hx] at hx2
      have hv := veqP x0 y0 x1 y1
      rw [decide_eq_true hx] at hv
      repeat' (first | ((first | refine zs1 ?_ | refine zs2 ?_ | refine zs3 ?_ | refine zs4 ?_ | refine zs5 ?_); conv => whnf) | ((first | apply zi1 | apply zi2 | apply zi3 | apply zi4 | apply zi5) <;> intro _ <;> first | (exfalso; omega) | contradiction | (conv => whnf)) | (refine VCall.intro (c0 _) ?_; conv => whnf) | (refine VCall.intro (d1 _ _ rfl) ?_; conv => whnf) | (refine VCall.intro (d2 _ _ rfl) ?_; conv => whnf) | (refine VCall.intro (d3 _ _ rfl) ?_; conv => whnf) | (refine VCall.intro (d4 _ _ rfl) ?_; conv => whnf))
      refine zs6 [] ?_
      conv => whnf
      repeat' (first | ((first | refine zs1 ?_ | refine zs2 ?_ | refine zs3 ?_ | refine zs4 ?_ | refine zs5 ?_); conv => whnf) | ((first | apply zi1 | apply zi2 | apply zi3 | apply zi4 | apply zi5) <;> intro _ <;> first | (exfalso; omega) | contradiction | (conv => whnf)) | (refine VAgg.intro hv ?_; conv => whnf) | (refine VCall.intro (d5 _ _ rfl) ?_; conv => whnf) | (refine VCall.intro (d6 _ _ rfl) ?_; conv => whnf) | (refine VCall.intro (d7 _ _ rfl) ?_; conv => whnf) | (refine VCall.intro (d8 _ _ rfl) ?_; conv => whnf))
      rw [hx2]
      refine VCut.at' (outer := h.lift) (marks := []) 1 [(4, .fp [.sl 3 2 [DI x0, DI y0, DI 0, DI x2, DI y1, DI 1], .sl 4 0 []]), (7, .fp [DI fx, DI (fx + ((W : Int) - 1)), DI fy, DI (fy + ((H : Int) - 1))]), (8, .ptr (.loc 0) 0), (9, .ptr (.loc 1) 0)] [.cells true [I W, .gl (.loc 2) 1 0], .flat true [DI 0, DI 0, DI 0], .flat true []] ?_ hrest.out
      conv => whnf
      refine Retell.turn ⟨[4, 5, 9], 9, [(1, [DI x0, DI y0, DI 0, DI x2, DI y1, DI 1]), (2, [.sl 3 2 [DI x0, DI y0, DI 0, DI x2, DI y1, DI 1], .sl 4 0 []]), (3, [DI fx, DI (fx + ((W : Int) - 1)), DI fy, DI (fy + ((H : Int) - 1))])], []⟩ (TurnOk.mk' _ _ [(1, [DI x0, DI y0, DI 0, DI x2, DI y1, DI 1]), (2, [.sl 3 2 [DI x0, DI y0, DI 0, DI x2, DI y1, DI 1], .sl 4 0 []]), (3, [DI fx, DI (fx + ((W : Int) - 1)), DI fy, DI (fy + ((H : Int) - 1))])] [] (OutOk.lift _) rfl (by decide) zb zr trivial rfl) zw zm
    · rw [if_neg hx] at hx2
      have hv := veqP x0 y0 x1 y1
      rw [decide_eq_false hx] at hv
      repeat' (first | ((first | refine zs1 ?_ | refine zs2 ?_ | refine zs3 ?_ | refine zs4 ?_ | refine zs5 ?_); conv => whnf) | ((first | apply zi1 | apply zi2 | apply zi3 | apply zi4 | apply zi5) <;> intro _ <;> first | (exfalso; omega) | contradiction | (conv => whnf)) | (refine VCall.intro (c0 _) ?_; conv => whnf) | (refine VCall.intro (d1 _ _ rfl) ?_; conv => whnf) | (refine VCall.intro (d2 _ _ rfl) ?_; conv => whnf) | (refine VCall.intro (d3 _ _ rfl) ?_; conv => whnf) | (refine VCall.intro (d4 _ _ rfl) ?_; conv => whnf))
      refine zs6 [] ?_
      conv => whnf
      repeat' (first | ((first | refine zs1 ?_ | refine zs2 ?_ | refine zs3 ?_ | refine zs4 ?_ | refine zs5 ?_); conv => whnf) | ((first | apply zi1 | apply zi2 | apply zi3 | apply zi4 | apply zi5) <;> intro _ <;> first | (exfalso; omega) | contradiction | (conv => whnf)) | (refine VAgg.intro hv ?_; conv => whnf) | (refine VCall.intro (d5 _ _ rfl) ?_; conv => whnf) | (refine VCall.intro (d6 _ _ rfl) ?_; conv => whnf) | (refine VCall.intro (d7 _ _ rfl) ?_; conv => whnf) | (refine VCall.intro (d8 _ _ rfl) ?_; conv => whnf))
      rw [hx2]
      refine VCut.at' (outer := h.lift) (marks := []) 1 [(4, .fp [.sl 3 2 [DI x0, DI y0, DI 0, DI x2, DI y1, DI 1], .sl 4 0 []]), (7, .fp [DI fx, DI (fx + ((W : Int) - 1)), DI fy, DI (fy + ((H : Int) - 1))]), (8, .ptr (.loc 0) 0), (9, .ptr (.loc 1) 0)] [.cells true [I W, .gl (.loc 2) 1 0], .flat true [DI 0, DI 0, DI 0], .flat true []] ?_ hrest.out
      conv => whnf
      refine Retell.turn ⟨[4, 5, 9], 9, [(1, [DI x0, DI y0, DI 0, DI x2, DI y1, DI 1]), (2, [.sl 3 2 [DI x0, DI y0, DI 0, DI x2, DI y1, DI 1], .sl 4 0 []]), (3, [DI fx, DI (fx + ((W : Int) - 1)), DI fy, DI (fy + ((H : Int) - 1))])], []⟩ (TurnOk.mk' _ _ [(1, [DI x0, DI y0, DI 0, DI x2, DI y1, DI 1]), (2, [.sl 3 2 [DI x0, DI y0, DI 0, DI x2, DI y1, DI 1], .sl 4 0 []]), (3, [DI fx, DI (fx + ((W : Int) - 1)), DI fy, DI (fy + ((H : Int) - 1))])] [] (OutOk.lift _) rfl (by decide) zb zr trivial rfl) zw zm
  clear hx2 d1 d2 d3 d4 d5 d6 d7 d8 c0
  conv => whnf
  repeat' (first | ((first | refine zs1 ?_ | refine zs2 ?_ | refine zs3 ?_ | refine zs4 ?_ | refine zs5 ?_); conv => whnf) | ((first | apply zi1 | apply zi2 | apply zi3 | apply zi4 | apply zi5) <;> intro _ <;> first | (exfalso; omega) | contradiction | (conv => whnf)))
  refine VCode.lpC (outer := h.lift) (marks := []) 99 (fun j : Nat => [(4, .fp [.sl 3 2 [DI x0, DI y0, DI 0, DI x2, DI y1, DI 1], .sl 4 0 []]), (7, .fp [DI fx, DI (fx + ((W : Int) - 1)), DI fy, DI (fy + ((H : Int) - 1))]), (8, .ptr (.loc 0) 0), (9, .ptr (.loc 1) 0), (10, I (fy + j))]) (fun j => [.cells true [I W, .gl (.loc 2) 1 (GD j).length], .flat true ((cB 3 (GD j)).flatMap Vm.encI), .flat true ((GD j).flatMap Vm.encI)]) (fun j => j ≤ H) (fun j => H - j) 0 (Nat.zero_le _) ?_ ?_
  · rw [gd0]
    conv => whnf
    refine Retell.turn ⟨[0,1,2], 9, [], []⟩ (TurnOk.mk' _ _ [] [] (OutOk.lift _) rfl (by decide) zb trivial trivial rfl) zw zm
  · intro j hj
    rcases Nat.lt_or_ge j H with h3 | h3
    · have ki := gsd j
      have kj := gst j
      have kl := gkl j
      rw [← gk0 j]
      have hjW : j * W ≤ 9 * 9 := Nat.mul_le_mul (by omega) hW.2
      clear gst gsd gk0 gkl gd0 kC kR kD hreg hov
      generalize GK j = G at *
      conv => whnf
      repeat' (first | ((first | refine zs1 ?_ | refine zs2 ?_ | refine zs3 ?_ | refine zs4 ?_ | refine zs5 ?_); conv => whnf) | ((first | apply zi1 | apply zi2 | apply zi3 | apply zi4 | apply zi5) <;> intro _ <;> first | (exfalso; omega) | contradiction | (conv => whnf)))
      refine VCode.lpC (outer := h.lift) (marks := []) 99 (fun k : Nat => [(4, .fp [.sl 3 2 [DI x0, DI y0, DI 0, DI x2, DI y1, DI 1], .sl 4 0 []]), (7, .fp [DI fx, DI (fx + ((W : Int) - 1)), DI fy, DI (fy + ((H : Int) - 1))]), (8, .ptr (.loc 0) 0), (9, .ptr (.loc 1) 0), (10, I (fy + j)), (11, I (fx + k))]) (fun k => [.cells true [I W, .gl (.loc 2) 1 (G k).length], .flat true ((cB 3 (G k)).flatMap Vm.encI), .flat true ((G k).flatMap Vm.encI)]) (fun k => k ≤ W) (fun k => W - k) 0 (Nat.zero_le _) ?_ ?_
      · conv => whnf
        refine Retell.turn ⟨[0,1,2], 9, [], []⟩ (TurnOk.mk' _ _ [] [] (OutOk.lift _) rfl (by decide) zb trivial trivial rfl) zw zm
      · intro k hk
        rcases Nat.lt_or_ge k W with h5 | h5
        · have kk := kj k
          have kn := kl k
          have cw := fun h => kW (fx + (k : Nat)) (fy + (j : Nat)) h (by omega) (by omega)
          have hwv := hcs (fx + (k : Nat)) (fy + (j : Nat))
          rw [gof k j] at kk
          generalize wf (fx + (k : Nat)) (fy + (j : Nat)) = w at *
          obtain ⟨v, hv, hv3⟩ : ∃ v : Nat, w + 1 = (v : Int) ∧ v < 3 := ⟨(w + 1).toNat, by omega, by omega⟩
          rw [hv] at kk
          generalize G k = l at *
          have hx := cB_at (l := l) hv3
          have hcs2 := cB_step (l := l) hv3
          have hcl := List.count_le_length (a := (v : Int)) (l := l)
          generalize l.count (v : Int) = cn at *
          conv => whnf
          repeat' (first | ((first | refine zs1 ?_ | refine zs2 ?_ | refine zs3 ?_ | refine zs4 ?_ | refine zs5 ?_); conv => whnf) | ((first | apply zi1 | apply zi2 | apply zi3 | apply zi4 | apply zi5) <;> intro _ <;> first | (exfalso; omega) | contradiction | (conv => whnf)) | (refine VCall.intro (cw _) ?_; conv => whnf))
          refine VMem.app1 (l := l) (w + 1) Vm.encI_len rfl rfl rfl rfl rfl (by omega) ?_
          conv => whnf
          repeat' (first | ((first | refine zs1 ?_ | refine zs2 ?_ | refine zs3 ?_ | refine zs4 ?_ | refine zs5 ?_); conv => whnf) | ((first | apply zi1 | apply zi2 | apply zi3 | apply zi4 | apply zi5) <;> intro _ <;> first | (exfalso; omega) | contradiction | (conv => whnf)) | (refine VLd.recc Vm.encI_len v 0 rfl rfl rfl hx (by decide) rfl (by show 0 + (w + 1).toNat * 1 = v * 1 + 0; omega) ?_; conv => whnf) | (refine VMem.setRec Vm.encI_len v 0 ((cn : Int) + 1) rfl rfl rfl hx (by decide) rfl (by show 0 + (w + 1).toNat * 1 = v * 1 + 0; omega) ?_; conv => whnf))
          refine LEnd.intro (k + 1) (by omega) (by omega) ?_
          rw [kk, hcs2, hv]
          conv => whnf
          rw [List.length_append]
          refine Retell.turn ⟨[0,1,4], 9, [], []⟩ (TurnOk.mk' _ _ [] [] (OutOk.lift _) rfl (by decide) zb trivial trivial rfl) zw zm
        · obtain rfl : k = W := by omega
          conv => whnf
          repeat' (first | ((first | refine zs1 ?_ | refine zs2 ?_ | refine zs3 ?_ | refine zs4 ?_ | refine zs5 ?_); conv => whnf) | ((first | apply zi1 | apply zi2 | apply zi3 | apply zi4 | apply zi5) <;> intro _ <;> first | (exfalso; omega) | contradiction | (conv => whnf)))
          refine LEnd.intro (j + 1) (by omega) (by omega) ?_
          rw [ki]
          conv => whnf
          refine Retell.turn ⟨[0,1,2], 9, [], []⟩ (TurnOk.mk' _ _ [] [] (OutOk.lift _) rfl (by decide) zb trivial trivial rfl) zw zm
    · obtain rfl : H = j := by omega
      clear gst gsd gk0 gkl gd0 gof kW
      rw [em]
      generalize GD H = o at *
      have fo : (o.flatMap Vm.encI).length = o.length * 1 := flat_len Vm.encI_len _
      conv => whnf
      repeat' (first | ((first | refine zs1 ?_ | refine zs2 ?_ | refine zs3 ?_ | refine zs4 ?_ | refine zs5 ?_); conv => whnf) | ((first | apply zi1 | apply zi2 | apply zi3 | apply zi4 | apply zi5) <;> intro _ <;> first | (exfalso; omega) | contradiction | (conv => whnf)))
      refine VCut.at' (outer := h.lift) (marks := []) 99 [(4, .fp [.sl 3 2 [DI x0, DI y0, DI 0, DI x2, DI y1, DI 1], .sl 4 0 []]), (7, .fp [DI fx, DI (fx + ((W : Int) - 1)), DI fy, DI (fy + ((H : Int) - 1))]), (8, .fp [DI W, dints o]), (9, .fp [DI m0, DI m1, DI m2])] [] ?_ ?_
      · conv => whnf
        refine Retell.turn ⟨[], 9, [(2, o.flatMap Vm.encI), (0, [DI W, dints o]), (1, [DI m0, DI m1, DI m2])], []⟩ (TurnOk.mk' _ _ [(2, o.flatMap Vm.encI), (0, [DI W, dints o]), (1, [DI m0, DI m1, DI m2])] [] (OutOk.lift _) rfl (by decide) zb zr trivial rfl) zw zm
      conv => whnf
      repeat' (first | ((first | refine zs1 ?_ | refine zs2 ?_ | refine zs3 ?_ | refine zs4 ?_ | refine zs5 ?_); conv => whnf) | ((first | apply zi1 | apply zi2 | apply zi3 | apply zi4 | apply zi5) <;> intro _ <;> first | (exfalso; omega) | contradiction | (conv => whnf)) | (refine VCall.intro (kR _) ?_; conv => whnf) | (refine VCall.intro (kD _) ?_; conv => whnf) | (refine VCall.intro (kC _) ?_; conv => whnf))
      refine zs6 [] ?_
      conv => whnf
      repeat' (first | ((first | refine zs1 ?_ | refine zs2 ?_ | refine zs3 ?_ | refine zs4 ?_ | refine zs5 ?_); conv => whnf) | ((first | apply zi1 | apply zi2 | apply zi3 | apply zi4 | apply zi5) <;> intro _ <;> first | (exfalso; omega) | contradiction | (conv => whnf)) | (refine VAny.ix (l := [m0, m1, m2]) Vm.encI_len 0 rfl rfl rfl ?_; conv => whnf) | (refine VAny.ix (l := [m0, m1, m2]) Vm.encI_len 1 rfl rfl rfl ?_; conv => whnf) | (refine VAny.ix (l := [m0, m1, m2]) Vm.encI_len 2 rfl rfl rfl ?_; conv => whnf) | (refine VAny.ix (l := [m1, m2, s2, s3, s4]) Vm.encI_len 0 rfl rfl rfl ?_; conv => whnf) | (refine VAny.ix (l := [m1, m2, s2, s3, s4]) Vm.encI_len 1 rfl rfl rfl ?_; conv => whnf))
      refine VCode.lpC (outer := h.lift) (marks := []) 99 (fun k : Nat => [(8, .fp [DI W, dints o]), (16, ints (List.replicate mm 0)), (21, .ptr (.loc 0) 0), (205, ints R), (206, I R.length), (207, I k)]) (fun k => [.flat true ((rgA o R k).flatMap Vm.encI)]) (fun k => k ≤ R.length) (fun k => R.length - k) 0 (Nat.zero_le _) ?_ ?_
      · conv => whnf
        refine Retell.turn ⟨[0], 9, [], []⟩ (TurnOk.mk' _ _ [] [] (OutOk.lift _) rfl (by decide) zb trivial trivial rfl) zw zm
      · intro k hk
        rcases Nat.lt_or_ge k R.length with h5 | h5
        · have hxR := at0_get h5
          have hxo := at0_get (l := o) (n := k) (by omega)
          have hok := hov k (by omega)
          have hrk := hRv k (by omega)
          obtain ⟨v, hv, hv3⟩ : ∃ v : Nat, (at0 o k).toNat = v ∧ v < 3 := ⟨_, rfl, by omega⟩
          have hg : (rgA o R k)[v]? = some (at0 (rgA o R k) v) := at0_get (by rw [rgA_len]; exact hv3)
          have hst := rgA_step o R k
          rw [hv] at hst
          have hgf : 0 < at0 o k → 0 ≤ at0 (rgA o R k) v → at0 (rgA o R k) v = at0 R k := fun h1 h2 => by
            rcases rgA_at (o := o) (R := R) k v hv3 with h6 | ⟨p, h6, h7, h8⟩
            · omega
            · have hop := hov p (by omega)
              have e := hreg p k (by rw [Nat.mul_comm]; omega) (by rw [Nat.mul_comm]; omega) (by omega) (by omega)
              omega
          generalize at0 (rgA o R k) v = g at *
          generalize rgA o R k = L at *
          generalize at0 R k = r at *
          generalize at0 o k = ok at *
          clear hreg hov hRv
          by_cases h7 : 0 < ok
          · by_cases h8 : 0 ≤ g
            · have h9 := hgf h7 h8
              conv => whnf
              repeat' (first | ((first | refine zs1 ?_ | refine zs2 ?_ | refine zs3 ?_ | refine zs4 ?_ | refine zs5 ?_); conv => whnf) | ((first | apply zi1 | apply zi2 | apply zi3 | apply zi4 | apply zi5) <;> intro _ <;> first | (exfalso; omega) | contradiction | (conv => whnf)) | (refine VAny.ix Vm.encI_len k rfl rfl hxR ?_; conv => whnf) | (refine VAny.ix Vm.encI_len k rfl rfl hxo ?_; conv => whnf) | (refine VLd.recc Vm.encI_len v 0 rfl rfl rfl hg (by decide) rfl (by show 0 + ok.toNat * 1 = v * 1 + 0; omega) ?_; conv => whnf) | (refine VMem.setRec Vm.encI_len v 0 r rfl rfl rfl hg (by decide) rfl (by show 0 + ok.toNat * 1 = v * 1 + 0; omega) ?_; conv => whnf))
              refine LEnd.intro (k + 1) (by omega) (by omega) ?_
              rw [hst]
              conv => whnf
              refine Retell.turn ⟨[0], 9, [], []⟩ (TurnOk.mk' _ _ [] [] (OutOk.lift _) rfl (by decide) zb trivial trivial rfl) zw zm
            · conv => whnf
              repeat' (first | ((first | refine zs1 ?_ | refine zs2 ?_ | refine zs3 ?_ | refine zs4 ?_ | refine zs5 ?_); conv => whnf) | ((first | apply zi1 | apply zi2 | apply zi3 | apply zi4 | apply zi5) <;> intro _ <;> first | (exfalso; omega) | contradiction | (conv => whnf)) | (refine VAny.ix Vm.encI_len k rfl rfl hxR ?_; conv => whnf) | (refine VAny.ix Vm.encI_len k rfl rfl hxo ?_; conv => whnf) | (refine VLd.recc Vm.encI_len v 0 rfl rfl rfl hg (by decide) rfl (by show 0 + ok.toNat * 1 = v * 1 + 0; omega) ?_; conv => whnf) | (refine VMem.setRec Vm.encI_len v 0 r rfl rfl rfl hg (by decide) rfl (by show 0 + ok.toNat * 1 = v * 1 + 0; omega) ?_; conv => whnf))
              refine LEnd.intro (k + 1) (by omega) (by omega) ?_
              rw [hst]
              conv => whnf
              refine Retell.turn ⟨[0], 9, [], []⟩ (TurnOk.mk' _ _ [] [] (OutOk.lift _) rfl (by decide) zb trivial trivial rfl) zw zm
          · conv => whnf
            repeat' (first | ((first | refine zs1 ?_ | refine zs2 ?_ | refine zs3 ?_ | refine zs4 ?_ | refine zs5 ?_); conv => whnf) | ((first | apply zi1 | apply zi2 | apply zi3 | apply zi4 | apply zi5) <;> intro _ <;> first | (exfalso; omega) | contradiction | (conv => whnf)) | (refine VAny.ix Vm.encI_len k rfl rfl hxR ?_; conv => whnf) | (refine VAny.ix Vm.encI_len k rfl rfl hxo ?_; conv => whnf) | (refine VLd.recc Vm.encI_len v 0 rfl rfl rfl hg (by decide) rfl (by show 0 + ok.toNat * 1 = v * 1 + 0; omega) ?_; conv => whnf) | (refine VMem.setRec Vm.encI_len v 0 r rfl rfl rfl hg (by decide) rfl (by show 0 + ok.toNat * 1 = v * 1 + 0; omega) ?_; conv => whnf))
            refine LEnd.intro (k + 1) (by omega) (by omega) ?_
            rw [hst]
            conv => whnf
            refine Retell.turn ⟨[0], 9, [], []⟩ (TurnOk.mk' _ _ [] [] (OutOk.lift _) rfl (by decide) zb trivial trivial rfl) zw zm
        · obtain rfl : k = R.length := by omega
          clear hreg hov hRv
          have hD : ∀ k, k < mm → (List.replicate mm (0 : Int))[k]? = some 0 := fun k hk => by rw [List.getElem?_replicate, if_pos hk]
          have hDl : (List.replicate mm (0 : Int)).length = mm := List.length_replicate
          generalize List.replicate mm (0 : Int) = Dl at *
          conv => whnf
          repeat' (first | ((first | refine zs1 ?_ | refine zs2 ?_ | refine zs3 ?_ | refine zs4 ?_ | refine zs5 ?_); conv => whnf) | ((first | apply zi1 | apply zi2 | apply zi3 | apply zi4 | apply zi5) <;> intro _ <;> first | (exfalso; omega) | contradiction | (conv => whnf)))
          refine VCode.lpC (outer := h.lift) (marks := []) 99 (fun k : Nat => [(236, ints Dl), (237, I Dl.length), (238, I k)]) (fun k => []) (fun k => k ≤ Dl.length) (fun k => Dl.length - k) 0 (Nat.zero_le _) ?_ ?_
          · conv => whnf
            refine Retell.turn ⟨[], 9, [], []⟩ (TurnOk.mk' _ _ [] [] (OutOk.lift _) rfl (by decide) zb trivial trivial rfl) zw zm
          · intro k hk
            rcases Nat.lt_or_ge k Dl.length with h7 | h7
            · have hx := hD k (by omega)
              conv => whnf
              repeat' (first | ((first | refine zs1 ?_ | refine zs2 ?_ | refine zs3 ?_ | refine zs4 ?_ | refine zs5 ?_); conv => whnf) | ((first | apply zi1 | apply zi2 | apply zi3 | apply zi4 | apply zi5) <;> intro _ <;> first | (exfalso; omega) | contradiction | (conv => whnf)) | (refine VAny.ix Vm.encI_len k rfl rfl hx ?_; conv => whnf))
              refine LEnd.intro (k + 1) (by omega) (by omega) ?_
              conv => whnf
              refine Retell.turn ⟨[], 9, [], []⟩ (TurnOk.mk' _ _ [] [] (OutOk.lift _) rfl (by decide) zb trivial trivial rfl) zw zm
            · obtain rfl : k = Dl.length := by omega
              conv => whnf
              repeat' (first | ((first | refine zs1 ?_ | refine zs2 ?_ | refine zs3 ?_ | refine zs4 ?_ | refine zs5 ?_); conv => whnf) | ((first | apply zi1 | apply zi2 | apply zi3 | apply zi4 | apply zi5) <;> intro _ <;> first | (exfalso; omega) | contradiction | (conv => whnf)) | (refine VCall.intro (caw _) ?_; conv => whnf))
              exact VOut.same rfl
end Go.Proofs.YtajnkenbhmkjaaaGreat


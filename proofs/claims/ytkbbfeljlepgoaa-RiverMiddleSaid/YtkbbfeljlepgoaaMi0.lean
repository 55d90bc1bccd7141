/- Part 0 of the proof that the law of the middle of chapter 05 holds of the given program. No condition. -/
import Derived.Test.YtkbbfeljlepgoaaBb10
set_option linter.unusedVariables false
set_option linter.unusedSimpArgs false
open Go.Vm
open Riv
namespace Go.Proofs.Ytkbbfeljlepgoaa
set_option maxRecDepth 20000
set_option maxHeartbeats 4000000

def arr (F1 F2 : List Int) (s : Nat) : List D := [.nilslice, if 2 ≤ s then dints F1 else .nilslice, if 3 ≤ s then dints F2 else .nilslice]
theorem vc_RiverMiddle (bs : List Int) (h : Hp) : VC Try.prog 9 [bytes bs] h (B true) h := by
  obtain ⟨W, H, eW, eH, hWw, hHh, hW4, o, _, _⟩ := madeX_ok (dealt bs) (d := ((0 : Nat), (9 : Int))) (w := 9) (h := 7) (by decide) (by decide)
  have c0 := vc_Of bs
  have c1 := fun i h hd => vc_Made bs ((0 : Nat), (9 : Int)) 9 7 i h (by decide) (by decide) (by decide) hd
  unfold mdM at c1
  rw [eW, eH] at c1
  generalize (madeX (dNx bs) ((0 : Nat), (9 : Int)) 9 7).2 = c at *
  generalize (madeX (dNx bs) ((0 : Nat), (9 : Int)) 9 7).1 = dd at *
  clear eW eH
  have hm := MOk.le o
  have cO := kO o
  have cF1 := kF o (s := 1) (.inl rfl)
  have cF2 := kF o (s := 2) (.inr rfl)
  have hl1 := (bfsH o 1).len
  have hl2 := (bfsH o 2).len
  have hlO := owns_len c W
  have cH1 := kH o (s := 1) (.inl rfl) (bfs c W 1) hl1
  have cH2 := kH o (s := 2) (.inr rfl) (bfs c W 2) hl2
  rw [decide_eq_true rfl] at cH1 cH2
  have w71 := fun k hk h1 => kW7 o (s := 1) (.inl rfl) (k := k) hk h1
  have w72 := fun k hk h1 => kW7 o (s := 2) (.inr rfl) (k := k) hk h1
  have w01 := fun k hk h1 => kW0 o (s := 1) (.inl rfl) (k := k) hk h1
  have w02 := fun k hk h1 => kW0 o (s := 2) (.inr rfl) (k := k) hk h1
  have b1 := bfs_bd o 1
  have b2 := bfs_bd o 2
  have s1 := fun k hk h1 => far_own o (s := 2) (t := 1) (by decide) (.inl rfl) (k := k) hk h1
  have s2 := fun k hk h1 => far_own o (s := 1) (t := 2) (by decide) (.inr rfl) (k := k) hk h1
  have wt := fun k hk h0 => own_water o (k := k) hk h0
  have ow := fun k hk h0 => own_at o (k := k) hk h0
  have kd := o.kind
  have cA := vc_awake
  generalize bfs c W 1 = F1 at *
  generalize bfs c W 2 = F2 at *
  generalize owns c W = O at *
  clear o
  refine VC.bodyC 2 Try.func9 rfl Try.ntmps9 Try.call9 (h.grows_refl) rfl ?_
  conv => whnf
  repeat' (first | ((first | refine zs1 ?_ | refine zs2 ?_ | refine zs3 ?_ | refine zs4 ?_ | refine zs5 ?_); conv => whnf) | ((first | apply zi1 | apply zi2 | apply zi3 | apply zi4 | apply zi5) <;> intro _ <;> conv => whnf) | (refine VCall.intro (c0 _) ?_; conv => whnf) | (refine VCall.intro (c1 (.loc 0) _ rfl) ?_; conv => whnf))
  refine VCut.at' (outer := h.lift) (marks := []) 2 [(3, .fp [DI W, DI H, dints c])] [] ?_ ?_
  · conv => whnf
    refine Retell.turn ⟨[], 9, [(1, [DI W, DI H, dints c])], []⟩ (TurnOk.mk' _ _ [(1, [DI W, DI H, dints c])] [] (OutOk.lift _) rfl (by decide) zb zf trivial rfl) zw zm
  conv => whnf
  repeat' (first | ((first | refine zs1 ?_ | refine zs2 ?_ | refine zs3 ?_ | refine zs4 ?_ | refine zs5 ?_); conv => whnf) | ((first | apply zi1 | apply zi2 | apply zi3 | apply zi4 | apply zi5) <;> intro _ <;> first | (exfalso; omega) | contradiction | (conv => whnf)) | (refine VCall.intro (cO _) ?_; conv => whnf))
  refine VCut.at' (outer := h.lift) (marks := []) 99 [(3, .fp [DI W, DI H, dints c]), (4, ints O), (5, I 0)] [] ?_ ?_
  · conv => whnf
    refine Retell.turn ⟨[], 9, [], []⟩ (TurnOk.mk' _ _ [] [] (OutOk.lift _) rfl (by decide) zb trivial trivial rfl) zw zm
  conv => whnf
  repeat' (first | ((first | refine zs1 ?_ | refine zs2 ?_ | refine zs3 ?_ | refine zs4 ?_ | refine zs5 ?_); conv => whnf) | ((first | apply zi1 | apply zi2 | apply zi3 | apply zi4 | apply zi5) <;> intro _ <;> first | (exfalso; omega) | contradiction | (conv => whnf)))
  refine VCode.lpC (outer := h.lift) (marks := []) 99 (fun s : Nat => [(3, .fp [DI W, DI H, dints c]), (4, ints O), (5, I 0), (6, .ptr (.loc 0) 0), (7, I s)]) (fun s => [.flat true (arr F1 F2 s)]) (fun s => 1 ≤ s ∧ s ≤ 3) (fun s => 3 - s) 1 ⟨by omega, by omega⟩ ?_ ?_
  · show frSK _ _ _
    rw [show arr F1 F2 1 = [.nilslice, .nilslice, .nilslice] from rfl]
    conv => whnf
    refine Retell.turn ⟨[0], 9, [], []⟩ (TurnOk.mk' _ _ [] [] (OutOk.lift _) rfl (by decide) zb trivial trivial rfl) zw zm
  rintro s ⟨hs1, hs2⟩
  rcases (show s = 1 ∨ s = 2 ∨ s = 3 by omega) with rfl | rfl | rfl
  · rw [show arr F1 F2 1 = [.nilslice, .nilslice, .nilslice] from rfl]
    conv => whnf
    repeat' (first | ((first | refine zs1 ?_ | refine zs2 ?_ | refine zs3 ?_ | refine zs4 ?_ | refine zs5 ?_); conv => whnf) | ((first | apply zi1 | apply zi2 | apply zi3 | apply zi4 | apply zi5) <;> intro _ <;> first | (exfalso; omega) | contradiction | (conv => whnf)) | (refine VCall.intro (cF1 _) ?_; conv => whnf) | (refine VCall.intro (cH1 _) ?_; conv => whnf))
    refine LEnd.intro 2 (by omega) (by omega) ?_
    rw [show arr F1 F2 2 = [.nilslice, dints F1, .nilslice] from rfl]
    conv => whnf
    refine Retell.turn ⟨[0], 9, [], []⟩ (TurnOk.mk' _ _ [] [] (OutOk.lift _) rfl (by decide) zb trivial trivial rfl) zw zm
  · rw [show arr F1 F2 2 = [.nilslice, dints F1, .nilslice] from rfl]
    conv => whnf
    repeat' (first | ((first | refine zs1 ?_ | refine zs2 ?_ | refine zs3 ?_ | refine zs4 ?_ | refine zs5 ?_); conv => whnf) | ((first | apply zi1 | apply zi2 | apply zi3 | apply zi4 | apply zi5) <;> intro _ <;> first | (exfalso; omega) | contradiction | (conv => whnf)) | (refine VCall.intro (cF2 _) ?_; conv => whnf) | (refine VCall.intro (cH2 _) ?_; conv => whnf))
    refine LEnd.intro 3 (by omega) (by omega) ?_
    rw [show arr F1 F2 3 = [.nilslice, dints F1, dints F2] from rfl]
    conv => whnf
    refine Retell.turn ⟨[0], 9, [], []⟩ (TurnOk.mk' _ _ [] [] (OutOk.lift _) rfl (by decide) zb trivial trivial rfl) zw zm
  rw [show arr F1 F2 3 = [.nilslice, dints F1, dints F2] from rfl]
  conv => whnf
  repeat' (first | ((first | refine zs1 ?_ | refine zs2 ?_ | refine zs3 ?_ | refine zs4 ?_ | refine zs5 ?_); conv => whnf) | ((first | apply zi1 | apply zi2 | apply zi3 | apply zi4 | apply zi5) <;> intro _ <;> first | (exfalso; omega) | contradiction | (conv => whnf)))
  refine VCode.lpC (outer := h.lift) (marks := []) 99 (fun k : Nat => [(3, .fp [DI W, DI H, dints c]), (4, ints O), (6, .fp [.nilslice, dints F1, dints F2]), (84, ints c), (85, I c.length), (86, I k)]) (fun _ => []) (fun k => k ≤ c.length) (fun k => c.length - k) 0 (Nat.zero_le _) ?_ ?_
  · conv => whnf
    refine Retell.turn ⟨[], 9, [(0, [.nilslice, dints F1, dints F2])], []⟩ (TurnOk.mk' _ _ [(0, [.nilslice, dints F1, dints F2])] [] (OutOk.lift _) rfl (by decide) zb zf trivial rfl) zw zm
  rintro k hk
  rcases Nat.lt_or_ge k c.length with h3 | h3
  · have xc := at0_get (l := c) (n := k) h3
    have x1 := at0_get (l := F1) (n := k) (by omega)
    have x2 := at0_get (l := F2) (n := k) (by omega)
    have xo := at0_get (l := O) (n := k) (by omega)
    have b1 := b1 k
    have b2 := b2 k
    have s1 := s1 k h3
    have s2 := s2 k h3
    have wt := wt k h3
    have ow := ow k h3
    have kd := kd k h3
    have w71 := w71 k h3
    have w72 := w72 k h3
    have w01 := w01 k h3
    have w02 := w02 k h3
    generalize at0 c k = x at *
    generalize at0 F1 k = a at *
    generalize at0 F2 k = b at *
    generalize at0 O k = u at *
    clear cO cF1 cF2 cH1 cH2 c1 c0
    conv => whnf
    repeat' (first | ((first | refine zs1 ?_ | refine zs2 ?_ | refine zs3 ?_ | refine zs4 ?_ | refine zs5 ?_); conv => whnf) | ((first | apply zi1 | apply zi2 | apply zi3 | apply zi4 | apply zi5) <;> intro _ <;> first | (exfalso; omega) | contradiction | (conv => whnf)) | (refine VAny.ix Vm.encI_len k rfl rfl xc ?_; conv => whnf) | (refine VAny.ix Vm.encI_len k rfl (by omega) x1 ?_; conv => whnf) | (refine VAny.ix Vm.encI_len k rfl (by omega) x2 ?_; conv => whnf) | (refine VAny.ix Vm.encI_len k rfl (by omega) xo ?_; conv => whnf) | (refine VAny.intro (v := .fp [dints F1]) ⟨by omega, [dints F1], [dints F2], rfl, rfl⟩ ?_; conv => whnf) | (refine VAny.intro (v := .fp [dints F2]) ⟨by omega, [dints F2], [], rfl, rfl⟩ ?_; conv => whnf))
    refine VCode.lpC (outer := h.lift) (marks := []) 99 (fun s : Nat => [(3, .fp [DI W, DI H, dints c]), (4, ints O), (6, .fp [.nilslice, dints F1, dints F2]), (84, ints c), (85, I c.length), (86, I k), (12, I k), (13, I x), (14, I s)]) (fun _ => []) (fun s => 1 ≤ s ∧ s ≤ 3) (fun s => 3 - s) 1 ⟨by omega, by omega⟩ ?_ ?_
    · conv => whnf
      refine Retell.turn ⟨[], 9, [], []⟩ (TurnOk.mk' _ _ [] [] (OutOk.lift _) rfl (by decide) zb trivial trivial rfl) zw zm
    rintro s ⟨hs1, hs2⟩
    rcases (show s = 1 ∨ s = 2 ∨ s = 3 by omega) with rfl | rfl | rfl
    · by_cases ha : a < 1
      · have cW := w71 ha
        conv => whnf
        repeat' (first | ((first | refine zs1 ?_ | refine zs2 ?_ | refine zs3 ?_ | refine zs4 ?_ | refine zs5 ?_); conv => whnf) | ((first | apply zi1 | apply zi2 | apply zi3 | apply zi4 | apply zi5) <;> intro _ <;> first | (exfalso; omega) | contradiction | (conv => whnf)) | (refine VCall.intro (cW _) ?_; conv => whnf) | (refine VAny.ix Vm.encI_len k rfl rfl xc ?_; conv => whnf) | (refine VAny.ix Vm.encI_len k rfl (by omega) x1 ?_; conv => whnf) | (refine VAny.ix Vm.encI_len k rfl (by omega) x2 ?_; conv => whnf) | (refine VAny.ix Vm.encI_len k rfl (by omega) xo ?_; conv => whnf) | (refine VAny.intro (v := .fp [dints F1]) ⟨by omega, [dints F1], [dints F2], rfl, rfl⟩ ?_; conv => whnf) | (refine VAny.intro (v := .fp [dints F2]) ⟨by omega, [dints F2], [], rfl, rfl⟩ ?_; conv => whnf))
        refine LEnd.intro 2 (by omega) (by omega) ?_
        conv => whnf
        refine Retell.turn ⟨[], 9, [], []⟩ (TurnOk.mk' _ _ [] [] (OutOk.lift _) rfl (by decide) zb trivial trivial rfl) zw zm
      · obtain ⟨L, l1, cW, cL⟩ := w01 ha
        conv => whnf
        repeat' (first | ((first | refine zs1 ?_ | refine zs2 ?_ | refine zs3 ?_ | refine zs4 ?_ | refine zs5 ?_); conv => whnf) | ((first | apply zi1 | apply zi2 | apply zi3 | apply zi4 | apply zi5) <;> intro _ <;> first | (exfalso; omega) | contradiction | (conv => whnf)) | (refine VCall.intro (cW _) ?_; conv => whnf) | (refine VCall.intro (cL _) ?_; conv => whnf) | (refine VAny.ix Vm.encI_len k rfl rfl xc ?_; conv => whnf) | (refine VAny.ix Vm.encI_len k rfl (by omega) x1 ?_; conv => whnf) | (refine VAny.ix Vm.encI_len k rfl (by omega) x2 ?_; conv => whnf) | (refine VAny.ix Vm.encI_len k rfl (by omega) xo ?_; conv => whnf) | (refine VAny.intro (v := .fp [dints F1]) ⟨by omega, [dints F1], [dints F2], rfl, rfl⟩ ?_; conv => whnf) | (refine VAny.intro (v := .fp [dints F2]) ⟨by omega, [dints F2], [], rfl, rfl⟩ ?_; conv => whnf))
        refine LEnd.intro 2 (by omega) (by omega) ?_
        conv => whnf
        refine Retell.turn ⟨[], 9, [], []⟩ (TurnOk.mk' _ _ [] [] (OutOk.lift _) rfl (by decide) zb trivial trivial rfl) zw zm
    · by_cases ha : b < 1
      · have cW := w72 ha
        conv => whnf
        repeat' (first | ((first | refine zs1 ?_ | refine zs2 ?_ | refine zs3 ?_ | refine zs4 ?_ | refine zs5 ?_); conv => whnf) | ((first | apply zi1 | apply zi2 | apply zi3 | apply zi4 | apply zi5) <;> intro _ <;> first | (exfalso; omega) | contradiction | (conv => whnf)) | (refine VCall.intro (cW _) ?_; conv => whnf) | (refine VAny.ix Vm.encI_len k rfl rfl xc ?_; conv => whnf) | (refine VAny.ix Vm.encI_len k rfl (by omega) x1 ?_; conv => whnf) | (refine VAny.ix Vm.encI_len k rfl (by omega) x2 ?_; conv => whnf) | (refine VAny.ix Vm.encI_len k rfl (by omega) xo ?_; conv => whnf) | (refine VAny.intro (v := .fp [dints F1]) ⟨by omega, [dints F1], [dints F2], rfl, rfl⟩ ?_; conv => whnf) | (refine VAny.intro (v := .fp [dints F2]) ⟨by omega, [dints F2], [], rfl, rfl⟩ ?_; conv => whnf))
        refine LEnd.intro 3 (by omega) (by omega) ?_
        conv => whnf
        refine Retell.turn ⟨[], 9, [], []⟩ (TurnOk.mk' _ _ [] [] (OutOk.lift _) rfl (by decide) zb trivial trivial rfl) zw zm
      · obtain ⟨L, l1, cW, cL⟩ := w02 ha
        conv => whnf
        repeat' (first | ((first | refine zs1 ?_ | refine zs2 ?_ | refine zs3 ?_ | refine zs4 ?_ | refine zs5 ?_); conv => whnf) | ((first | apply zi1 | apply zi2 | apply zi3 | apply zi4 | apply zi5) <;> intro _ <;> first | (exfalso; omega) | contradiction | (conv => whnf)) | (refine VCall.intro (cW _) ?_; conv => whnf) | (refine VCall.intro (cL _) ?_; conv => whnf) | (refine VAny.ix Vm.encI_len k rfl rfl xc ?_; conv => whnf) | (refine VAny.ix Vm.encI_len k rfl (by omega) x1 ?_; conv => whnf) | (refine VAny.ix Vm.encI_len k rfl (by omega) x2 ?_; conv => whnf) | (refine VAny.ix Vm.encI_len k rfl (by omega) xo ?_; conv => whnf) | (refine VAny.intro (v := .fp [dints F1]) ⟨by omega, [dints F1], [dints F2], rfl, rfl⟩ ?_; conv => whnf) | (refine VAny.intro (v := .fp [dints F2]) ⟨by omega, [dints F2], [], rfl, rfl⟩ ?_; conv => whnf))
        refine LEnd.intro 3 (by omega) (by omega) ?_
        conv => whnf
        refine Retell.turn ⟨[], 9, [], []⟩ (TurnOk.mk' _ _ [] [] (OutOk.lift _) rfl (by decide) zb trivial trivial rfl) zw zm
    · clear w71 w72 w01 w02
      rcases (show x = 0 ∨ x = 1 ∨ x = 2 ∨ x = 3 by omega) with hx | hx | hx | hx
      · have wq := wt hx
        clear wt
        subst hx
        rcases wq with ⟨hu, ha, hb⟩ | ⟨hu, ha, hb⟩ | ⟨hu, ha, hb⟩ | ⟨hu, ha, hb⟩
        · subst hu
          conv => whnf
          repeat' (first | ((first | refine zs1 ?_ | refine zs2 ?_ | refine zs3 ?_ | refine zs4 ?_ | refine zs5 ?_); conv => whnf) | ((first | apply zi1 | apply zi2 | apply zi3 | apply zi4 | apply zi5) <;> intro _ <;> first | (exfalso; omega) | contradiction | (conv => whnf)))
          refine zs6 [] ?_
          conv => whnf
          repeat' (first | ((first | refine zs1 ?_ | refine zs2 ?_ | refine zs3 ?_ | refine zs4 ?_ | refine zs5 ?_); conv => whnf) | ((first | apply zi1 | apply zi2 | apply zi3 | apply zi4 | apply zi5) <;> intro _ <;> first | (exfalso; omega) | contradiction | (conv => whnf)) | (refine VAny.ix Vm.encI_len k rfl rfl xc ?_; conv => whnf) | (refine VAny.ix Vm.encI_len k rfl (by omega) x1 ?_; conv => whnf) | (refine VAny.ix Vm.encI_len k rfl (by omega) x2 ?_; conv => whnf) | (refine VAny.ix Vm.encI_len k rfl (by omega) xo ?_; conv => whnf) | (refine VAny.intro (v := .fp [dints F1]) ⟨by omega, [dints F1], [dints F2], rfl, rfl⟩ ?_; conv => whnf) | (refine VAny.intro (v := .fp [dints F2]) ⟨by omega, [dints F2], [], rfl, rfl⟩ ?_; conv => whnf))
          refine LEnd.intro (k + 1) (by omega) (by omega) ?_
          conv => whnf
          refine Retell.turn ⟨[], 9, [], []⟩ (TurnOk.mk' _ _ [] [] (OutOk.lift _) rfl (by decide) zb trivial trivial rfl) zw zm
        · subst hu
          conv => whnf
          repeat' (first | ((first | refine zs1 ?_ | refine zs2 ?_ | refine zs3 ?_ | refine zs4 ?_ | refine zs5 ?_); conv => whnf) | ((first | apply zi1 | apply zi2 | apply zi3 | apply zi4 | apply zi5) <;> intro _ <;> first | (exfalso; omega) | contradiction | (conv => whnf)))
          refine zs6 [] ?_
          conv => whnf
          repeat' (first | ((first | refine zs1 ?_ | refine zs2 ?_ | refine zs3 ?_ | refine zs4 ?_ | refine zs5 ?_); conv => whnf) | ((first | apply zi1 | apply zi2 | apply zi3 | apply zi4 | apply zi5) <;> intro _ <;> first | (exfalso; omega) | contradiction | (conv => whnf)) | (refine VAny.ix Vm.encI_len k rfl rfl xc ?_; conv => whnf) | (refine VAny.ix Vm.encI_len k rfl (by omega) x1 ?_; conv => whnf) | (refine VAny.ix Vm.encI_len k rfl (by omega) x2 ?_; conv => whnf) | (refine VAny.ix Vm.encI_len k rfl (by omega) xo ?_; conv => whnf) | (refine VAny.intro (v := .fp [dints F1]) ⟨by omega, [dints F1], [dints F2], rfl, rfl⟩ ?_; conv => whnf) | (refine VAny.intro (v := .fp [dints F2]) ⟨by omega, [dints F2], [], rfl, rfl⟩ ?_; conv => whnf))
          refine LEnd.intro (k + 1) (by omega) (by omega) ?_
          conv => whnf
          refine Retell.turn ⟨[], 9, [], []⟩ (TurnOk.mk' _ _ [] [] (OutOk.lift _) rfl (by decide) zb trivial trivial rfl) zw zm
        · subst hu
          rcases hb with hb | hb
          · subst hb
            conv => whnf
            repeat' (first | ((first | refine zs1 ?_ | refine zs2 ?_ | refine zs3 ?_ | refine zs4 ?_ | refine zs5 ?_); conv => whnf) | ((first | apply zi1 | apply zi2 | apply zi3 | apply zi4 | apply zi5) <;> intro _ <;> first | (exfalso; omega) | contradiction | (conv => whnf)))
            refine zs6 [] ?_
            conv => whnf
            repeat' (first | ((first | refine zs1 ?_ | refine zs2 ?_ | refine zs3 ?_ | refine zs4 ?_ | refine zs5 ?_); conv => whnf) | ((first | apply zi1 | apply zi2 | apply zi3 | apply zi4 | apply zi5) <;> intro _ <;> first | (exfalso; omega) | contradiction | (conv => whnf)) | (refine VAny.ix Vm.encI_len k rfl rfl xc ?_; conv => whnf) | (refine VAny.ix Vm.encI_len k rfl (by omega) x1 ?_; conv => whnf) | (refine VAny.ix Vm.encI_len k rfl (by omega) x2 ?_; conv => whnf) | (refine VAny.ix Vm.encI_len k rfl (by omega) xo ?_; conv => whnf) | (refine VAny.intro (v := .fp [dints F1]) ⟨by omega, [dints F1], [dints F2], rfl, rfl⟩ ?_; conv => whnf) | (refine VAny.intro (v := .fp [dints F2]) ⟨by omega, [dints F2], [], rfl, rfl⟩ ?_; conv => whnf))
            refine LEnd.intro (k + 1) (by omega) (by omega) ?_
            conv => whnf
            refine Retell.turn ⟨[], 9, [], []⟩ (TurnOk.mk' _ _ [] [] (OutOk.lift _) rfl (by decide) zb trivial trivial rfl) zw zm
          · subst_vars
            conv => whnf
            repeat' (first | ((first | refine zs1 ?_ | refine zs2 ?_ | refine zs3 ?_ | refine zs4 ?_ | refine zs5 ?_); conv => whnf) | ((first | apply zi1 | apply zi2 | apply zi3 | apply zi4 | apply zi5) <;> intro _ <;> first | (exfalso; omega) | contradiction | (conv => whnf)))
            refine zs6 [] ?_
            conv => whnf
            repeat' (first | ((first | refine zs1 ?_ | refine zs2 ?_ | refine zs3 ?_ | refine zs4 ?_ | refine zs5 ?_); conv => whnf) | ((first | apply zi1 | apply zi2 | apply zi3 | apply zi4 | apply zi5) <;> intro _ <;> first | (exfalso; omega) | contradiction | (conv => whnf)) | (refine VAny.ix Vm.encI_len k rfl rfl xc ?_; conv => whnf) | (refine VAny.ix Vm.encI_len k rfl (by omega) x1 ?_; conv => whnf) | (refine VAny.ix Vm.encI_len k rfl (by omega) x2 ?_; conv => whnf) | (refine VAny.ix Vm.encI_len k rfl (by omega) xo ?_; conv => whnf) | (refine VAny.intro (v := .fp [dints F1]) ⟨by omega, [dints F1], [dints F2], rfl, rfl⟩ ?_; conv => whnf) | (refine VAny.intro (v := .fp [dints F2]) ⟨by omega, [dints F2], [], rfl, rfl⟩ ?_; conv => whnf))
            refine LEnd.intro (k + 1) (by omega) (by omega) ?_
            conv => whnf
            refine Retell.turn ⟨[], 9, [], []⟩ (TurnOk.mk' _ _ [] [] (OutOk.lift _) rfl (by decide) zb trivial trivial rfl) zw zm
        · subst hu
          rcases hb with hb | hb
          · subst hb
            conv => whnf
            repeat' (first | ((first | refine zs1 ?_ | refine zs2 ?_ | refine zs3 ?_ | refine zs4 ?_ | refine zs5 ?_); conv => whnf) | ((first | apply zi1 | apply zi2 | apply zi3 | apply zi4 | apply zi5) <;> intro _ <;> first | (exfalso; omega) | contradiction | (conv => whnf)))
            refine zs6 [] ?_
            conv => whnf
            repeat' (first | ((first | refine zs1 ?_ | refine zs2 ?_ | refine zs3 ?_ | refine zs4 ?_ | refine zs5 ?_); conv => whnf) | ((first | apply zi1 | apply zi2 | apply zi3 | apply zi4 | apply zi5) <;> intro _ <;> first | (exfalso; omega) | contradiction | (conv => whnf)) | (refine VAny.ix Vm.encI_len k rfl rfl xc ?_; conv => whnf) | (refine VAny.ix Vm.encI_len k rfl (by omega) x1 ?_; conv => whnf) | (refine VAny.ix Vm.encI_len k rfl (by omega) x2 ?_; conv => whnf) | (refine VAny.ix Vm.encI_len k rfl (by omega) xo ?_; conv => whnf) | (refine VAny.intro (v := .fp [dints F1]) ⟨by omega, [dints F1], [dints F2], rfl, rfl⟩ ?_; conv => whnf) | (refine VAny.intro (v := .fp [dints F2]) ⟨by omega, [dints F2], [], rfl, rfl⟩ ?_; conv => whnf))
            refine LEnd.intro (k + 1) (by omega) (by omega) ?_
            conv => whnf
            refine Retell.turn ⟨[], 9, [], []⟩ (TurnOk.mk' _ _ [] [] (OutOk.lift _) rfl (by decide) zb trivial trivial rfl) zw zm
          · subst_vars
            conv => whnf
            repeat' (first | ((first | refine zs1 ?_ | refine zs2 ?_ | refine zs3 ?_ | refine zs4 ?_ | refine zs5 ?_); conv => whnf) | ((first | apply zi1 | apply zi2 | apply zi3 | apply zi4 | apply zi5) <;> intro _ <;> first | (exfalso; omega) | contradiction | (conv => whnf)))
            refine zs6 [] ?_
            conv => whnf
            repeat' (first | ((first | refine zs1 ?_ | refine zs2 ?_ | refine zs3 ?_ | refine zs4 ?_ | refine zs5 ?_); conv => whnf) | ((first | apply zi1 | apply zi2 | apply zi3 | apply zi4 | apply zi5) <;> intro _ <;> first | (exfalso; omega) | contradiction | (conv => whnf)) | (refine VAny.ix Vm.encI_len k rfl rfl xc ?_; conv => whnf) | (refine VAny.ix Vm.encI_len k rfl (by omega) x1 ?_; conv => whnf) | (refine VAny.ix Vm.encI_len k rfl (by omega) x2 ?_; conv => whnf) | (refine VAny.ix Vm.encI_len k rfl (by omega) xo ?_; conv => whnf) | (refine VAny.intro (v := .fp [dints F1]) ⟨by omega, [dints F1], [dints F2], rfl, rfl⟩ ?_; conv => whnf) | (refine VAny.intro (v := .fp [dints F2]) ⟨by omega, [dints F2], [], rfl, rfl⟩ ?_; conv => whnf))
            refine LEnd.intro (k + 1) (by omega) (by omega) ?_
            conv => whnf
            refine Retell.turn ⟨[], 9, [], []⟩ (TurnOk.mk' _ _ [] [] (OutOk.lift _) rfl (by decide) zb trivial trivial rfl) zw zm
      · have s1 := s1 hx
        have ow := ow (by omega)
        rw [if_neg (by omega)] at ow
        obtain ⟨ha, hb⟩ := s1
        subst hx ow ha hb
        conv => whnf
        repeat' (first | ((first | refine zs1 ?_ | refine zs2 ?_ | refine zs3 ?_ | refine zs4 ?_ | refine zs5 ?_); conv => whnf) | ((first | apply zi1 | apply zi2 | apply zi3 | apply zi4 | apply zi5) <;> intro _ <;> first | (exfalso; omega) | contradiction | (conv => whnf)))
        refine zs6 [] ?_
        conv => whnf
        repeat' (first | ((first | refine zs1 ?_ | refine zs2 ?_ | refine zs3 ?_ | refine zs4 ?_ | refine zs5 ?_); conv => whnf) | ((first | apply zi1 | apply zi2 | apply zi3 | apply zi4 | apply zi5) <;> intro _ <;> first | (exfalso; omega) | contradiction | (conv => whnf)) | (refine VAny.ix Vm.encI_len k rfl rfl xc ?_; conv => whnf) | (refine VAny.ix Vm.encI_len k rfl (by omega) x1 ?_; conv => whnf) | (refine VAny.ix Vm.encI_len k rfl (by omega) x2 ?_; conv => whnf) | (refine VAny.ix Vm.encI_len k rfl (by omega) xo ?_; conv => whnf) | (refine VAny.intro (v := .fp [dints F1]) ⟨by omega, [dints F1], [dints F2], rfl, rfl⟩ ?_; conv => whnf) | (refine VAny.intro (v := .fp [dints F2]) ⟨by omega, [dints F2], [], rfl, rfl⟩ ?_; conv => whnf))
        refine LEnd.intro (k + 1) (by omega) (by omega) ?_
        conv => whnf
        refine Retell.turn ⟨[], 9, [], []⟩ (TurnOk.mk' _ _ [] [] (OutOk.lift _) rfl (by decide) zb trivial trivial rfl) zw zm
      · have s2 := s2 hx
        have ow := ow (by omega)
        rw [if_neg (by omega)] at ow
        obtain ⟨ha, hb⟩ := s2
        subst hx ow ha hb
        conv => whnf
        repeat' (first | ((first | refine zs1 ?_ | refine zs2 ?_ | refine zs3 ?_ | refine zs4 ?_ | refine zs5 ?_); conv => whnf) | ((first | apply zi1 | apply zi2 | apply zi3 | apply zi4 | apply zi5) <;> intro _ <;> first | (exfalso; omega) | contradiction | (conv => whnf)))
        refine zs6 [] ?_
        conv => whnf
        repeat' (first | ((first | refine zs1 ?_ | refine zs2 ?_ | refine zs3 ?_ | refine zs4 ?_ | refine zs5 ?_); conv => whnf) | ((first | apply zi1 | apply zi2 | apply zi3 | apply zi4 | apply zi5) <;> intro _ <;> first | (exfalso; omega) | contradiction | (conv => whnf)) | (refine VAny.ix Vm.encI_len k rfl rfl xc ?_; conv => whnf) | (refine VAny.ix Vm.encI_len k rfl (by omega) x1 ?_; conv => whnf) | (refine VAny.ix Vm.encI_len k rfl (by omega) x2 ?_; conv => whnf) | (refine VAny.ix Vm.encI_len k rfl (by omega) xo ?_; conv => whnf) | (refine VAny.intro (v := .fp [dints F1]) ⟨by omega, [dints F1], [dints F2], rfl, rfl⟩ ?_; conv => whnf) | (refine VAny.intro (v := .fp [dints F2]) ⟨by omega, [dints F2], [], rfl, rfl⟩ ?_; conv => whnf))
        refine LEnd.intro (k + 1) (by omega) (by omega) ?_
        conv => whnf
        refine Retell.turn ⟨[], 9, [], []⟩ (TurnOk.mk' _ _ [] [] (OutOk.lift _) rfl (by decide) zb trivial trivial rfl) zw zm
      · subst hx
        conv => whnf
        repeat' (first | ((first | refine zs1 ?_ | refine zs2 ?_ | refine zs3 ?_ | refine zs4 ?_ | refine zs5 ?_); conv => whnf) | ((first | apply zi1 | apply zi2 | apply zi3 | apply zi4 | apply zi5) <;> intro _ <;> first | (exfalso; omega) | contradiction | (conv => whnf)))
        refine zs6 [] ?_
        conv => whnf
        repeat' (first | ((first | refine zs1 ?_ | refine zs2 ?_ | refine zs3 ?_ | refine zs4 ?_ | refine zs5 ?_); conv => whnf) | ((first | apply zi1 | apply zi2 | apply zi3 | apply zi4 | apply zi5) <;> intro _ <;> first | (exfalso; omega) | contradiction | (conv => whnf)) | (refine VAny.ix Vm.encI_len k rfl rfl xc ?_; conv => whnf) | (refine VAny.ix Vm.encI_len k rfl (by omega) x1 ?_; conv => whnf) | (refine VAny.ix Vm.encI_len k rfl (by omega) x2 ?_; conv => whnf) | (refine VAny.ix Vm.encI_len k rfl (by omega) xo ?_; conv => whnf) | (refine VAny.intro (v := .fp [dints F1]) ⟨by omega, [dints F1], [dints F2], rfl, rfl⟩ ?_; conv => whnf) | (refine VAny.intro (v := .fp [dints F2]) ⟨by omega, [dints F2], [], rfl, rfl⟩ ?_; conv => whnf))
        refine LEnd.intro (k + 1) (by omega) (by omega) ?_
        conv => whnf
        refine Retell.turn ⟨[], 9, [], []⟩ (TurnOk.mk' _ _ [] [] (OutOk.lift _) rfl (by decide) zb trivial trivial rfl) zw zm
  · obtain rfl : k = c.length := by omega
    conv => whnf
    repeat' (first | ((first | refine zs1 ?_ | refine zs2 ?_ | refine zs3 ?_ | refine zs4 ?_ | refine zs5 ?_); conv => whnf) | ((first | apply zi1 | apply zi2 | apply zi3 | apply zi4 | apply zi5) <;> intro _ <;> first | (exfalso; omega) | contradiction | (conv => whnf)) | (refine VCall.intro (cA _) ?_; conv => whnf))
    exact VOut.same rfl
end Go.Proofs.Ytkbbfeljlepgoaa

open Go.Vm
namespace Go.Proofs.Ytkbbfeljlepgoaa
open Go.ChangeShapes Go.WideShapes Go.ChangeAt Go.RowKit

theorem open9p : OpenAll Try.prog Try.f9.params.toList (fun x : List Int × Unit => [dU x.1]) := by
  rw [Try.params9]
  exact OpenAll.cons openU (OpenAll.nil)
set_option maxRecDepth 100000 in
theorem contract9 (H : Type) (enc : TypeId × Value → H) (W : World) (base : Nat) (args : Array Value) (ds gs : List (DataW H)) (before : List MemPlace)
    (hval : ∀ (j : Nat) t v, Try.f9.params[j]? = some t → args[j]? = some v → Value.okWide Try.prog W .any base t v)
    (hW : DataW.Whole enc Try.prog Try.f9.params.toList Rows.riverMiddleSpec.vars false W args.toList ds gs before) :
    Calls Try.prog 9 args W fun e W' => ∃ v, e = .returned v ∧ Rows.riverMiddleSpec.post enc Try.prog Try.f9 false true false false W args v W' := by
  refine contract_of_vc open9p (fun g => vc_RiverMiddle g.1 Hp.bare) laidOut ?_ (tb := 4) (by kernel_rfl) Try.underlying4 rfl ?_ hval hW
  · rw [Try.params9]
    intro t ht
    simp only [List.mem_cons, List.not_mem_nil, or_false] at ht
    rcases ht with rfl
    all_goals exact ⟨by kernel_rfl, of_decide_eq_true (by kernel_rfl)⟩
  · intro H dd hl
    rw [Try.params9] at hl
    match dd, hl with
    | [d0], _ => rfl
set_option maxRecDepth 100000 in
theorem lifted9 (os : Os) (started : os.Started) (H : Type) (enc : TypeId × Value → H) :
    ReturnsInHanded {} Try.checked os 9 .any (Rows.riverMiddleSpec.pre6 enc Try.prog Try.f9 Rows.riverMiddleRow.domain false) (Rows.riverMiddleSpec.post enc Try.prog Try.f9 false true false false) := by
  refine returnsInHanded_of_change (C := Try.checked) ownKn started (by kernel_rfl) Try.func9
    (ChangeSpec.witness6 (enc := enc) (C := Try.checked) false ⟨#[], #[.slice none 0 0], []⟩ 8 (by kernel_rfl) (by kernel_rfl) (by kernel_rfl) (by kernel_rfl)) ?_
  intro W base args ds gs before hval hW _ _
  exact contract9 H enc W base args ds gs before hval hW
theorem riverMiddle_said : Rows.RiverMiddleSaid :=
  OpenClaim.holds_of_wide 9 Try.f9 rfl rfl rfl rfl rfl rfl rfl ⟨rfl, rfl, rfl, rfl, rfl⟩ rfl rfl rfl rfl rfl (by kernel_rfl) Try.func9 (by kernel_rfl)
    (of_decide_eq_true (by kernel_rfl)) (by unfold Func.isWrapper; first | (rw [if_pos (by decide +kernel)]; kernel_rfl) | (rw [if_neg (by decide +kernel)]; exact ⟨rfl, rfl⟩))
    (fun os started H enc _ => lifted9 os started H enc)
end Go.Proofs.Ytkbbfeljlepgoaa


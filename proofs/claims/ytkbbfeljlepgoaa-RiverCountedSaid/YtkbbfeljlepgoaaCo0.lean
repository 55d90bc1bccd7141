/- Part 0 of the proof that islands that are given by count go to the shore that has fewer. No condition. -/
import Derived.Test.YtkbbfeljlepgoaaBc9
set_option linter.unusedVariables false
set_option linter.unusedSimpArgs false
open Go.Vm
open Riv
namespace Go.Proofs.Ytkbbfeljlepgoaa
set_option maxRecDepth 20000
set_option maxHeartbeats 4000000

structure Hold (R : Prop) : Prop where
  out : R
theorem suffices_ {R G : Prop} (main : Hold R → G) (rest : R) : G := main ⟨rest⟩
theorem bat_rep (n k : Nat) : bat (List.replicate n false) k = false := by
  unfold bat
  rw [List.getD_eq_getElem?_getD, List.getElem?_replicate]
  split <;> rfl
theorem vc_RiverCounted (bs : List Int) (h : Hp) : VC Try.prog 5 [bytes bs] h (B true) h := by
  obtain ⟨W, H, eW, eH, hWw, hHh, hW4, o, _, _⟩ := madeX_ok (dealt bs) (d := ((0 : Nat), (9 : Int))) (w := 10) (h := 6) (by decide) (by decide)
  have c0 := vc_Of bs
  have c1 := fun i h hd => vc_Made bs ((0 : Nat), (9 : Int)) 10 6 i h (by decide) (by decide) (by decide) hd
  unfold mdM at c1
  rw [eW, eH] at c1
  generalize (madeX (dNx bs) ((0 : Nat), (9 : Int)) 10 6).2 = c at *
  generalize (madeX (dNx bs) ((0 : Nat), (9 : Int)) 10 6).1 = dd at *
  clear eW eH
  have hm := MOk.le o
  have hw2 := o.few.2.1
  have h160 : c.length ≤ 160 := by omega
  have cI := kI o
  have cO := kO o
  have cF1 := kF o (s := 1) (.inl rfl)
  have cF2 := kF o (s := 2) (.inr rfl)
  have cN := fun a b h ha hb => vc_next (mp W H c) W a b h (by omega) rfl ha hb (by omega)
  have cA := vc_awake
  have bd1 := bfs_bd o 1
  have bd2 := bfs_bd o 2
  have lO := owns_len c W
  have l1 := (bfsH o 1).len
  have l2 := (bfsH o 2).len
  have lS := shr_length hw2 o.len h160
  have lN := firsts_len c W
  have fx : ∀ i, i < (firsts c W).length → ∃ (f : Nat) (w : Int) (r : Bool), (shr c W)[i]? = some ⟨(f : Int), w, r⟩ ∧ f < c.length ∧ at0 c f = 3 ∧ (∀ met, (∀ k, bat met k = true ↔ k ∈ oldL c W i) → bat met f = false) ∧ (∀ j, i = j + 1 → ∃ g, (shr c W)[j]? = some g ∧ g.f < f) ∧ (∀ k, Con (marks c) W f k → k < c.length ∧ at0 (owns c W) k = w ∧ f ≤ k) ∧ (∀ k, Con (marks c) W f k → k ∉ oldL c W i) ∧ (∀ done met, BQ c W f (oldL c W i) done [] met → ∀ k, bat met k = true ↔ k ∈ oldL c W (i + 1)) ∧ (∀ done, (∀ k, k ∈ done ↔ Con (marks c) W f k) →
      (w = 0 ∧ r = false ∧ loT (bfs c W 1) done = 1000 ∧ loT (bfs c W 2) done = 1000 ∧ nrT c W (i + 1) = nrT c W i ∧ gvT c W (i + 1) = gvT c W i) ∨
      (w = 1 ∧ r = true ∧ loT (bfs c W 1) done < loT (bfs c W 2) done ∧ nrT c W (i + 1) = nrT c W i - 1 ∧ gvT c W (i + 1) = gvT c W i) ∨
      (w = 2 ∧ r = true ∧ loT (bfs c W 2) done < loT (bfs c W 1) done ∧ nrT c W (i + 1) = nrT c W i + 1 ∧ gvT c W (i + 1) = gvT c W i) ∨
      ((w = 1 ∨ w = 2) ∧ r = false ∧ loT (bfs c W 1) done = loT (bfs c W 2) done ∧ loT (bfs c W 1) done ≠ 1000 ∧ nrT c W (i + 1) = nrT c W i ∧ gvT c W (i + 1) = gvT c W i + (2 * w - 3))) := by
    intro i hi
    obtain ⟨f, w, r, g⟩ := isl_facts hw2 o.len h160 (fun s k => bfs_bd o s k) (i := i) hi
    exact ⟨f, w, r, g.sh, g.lt, g.k3, g.new, g.up, g.own, g.old, g.nxt, g.low⟩
  have eN : nrT c W (firsts c W).length + gvT c W (firsts c W).length ≤ max (max (nrT c W (firsts c W).length) (-(nrT c W (firsts c W).length))) 1 ∧ -(nrT c W (firsts c W).length + gvT c W (firsts c W).length) ≤ max (max (nrT c W (firsts c W).length) (-(nrT c W (firsts c W).length))) 1 := nrT_end hw2 o.len h160
  have all3 := fun k hk h3 => old_all hw2 o.len h160 (k := k) hk h3
  have n0 : nrT c W 0 = 0 := rfl
  have g0 : gvT c W 0 = 0 := rfl
  have kd := o.kind
  generalize (firsts c W).length = N at *
  generalize shr c W = S at *
  generalize owns c W = O at *
  generalize bfs c W 1 = F1 at *
  generalize bfs c W 2 = F2 at *
  clear o
  refine VC.bodyC 2 Try.func5 rfl Try.ntmps5 Try.call5 (h.grows_refl) rfl ?_
  conv => whnf
  repeat' (first | ((first | refine zs1 ?_ | refine zs2 ?_ | refine zs3 ?_ | refine zs4 ?_ | refine zs5 ?_); conv => whnf) | ((first | apply zi1 | apply zi2 | apply zi3 | apply zi4 | apply zi5) <;> intro _ <;> conv => whnf) | (refine VCall.intro (c0 _) ?_; conv => whnf) | (refine VCall.intro (c1 (.loc 0) _ rfl) ?_; conv => whnf))
  refine VCut.at' (outer := h.lift) (marks := []) 7 [(3, .fp [DI W, DI H, dints c])] [] ?_ ?_
  · conv => whnf
    refine Retell.turn ⟨[], 9, [(1, [DI W, DI H, dints c])], []⟩ (TurnOk.mk' _ _ [(1, [DI W, DI H, dints c])] [] (OutOk.lift _) rfl (by decide) zb zf trivial rfl) zw zm
  conv => whnf
  repeat' (first | ((first | refine zs1 ?_ | refine zs2 ?_ | refine zs3 ?_ | refine zs4 ?_ | refine zs5 ?_); conv => whnf) | ((first | apply zi1 | apply zi2 | apply zi3 | apply zi4 | apply zi5) <;> intro _ <;> first | (exfalso; omega) | contradiction | (conv => whnf)) | (refine VCall.intro (cI _) ?_; conv => whnf) | (refine VCall.intro (cO _) ?_; conv => whnf) | (refine VCall.intro (cF1 _) ?_; conv => whnf) | (refine VCall.intro (cF2 _) ?_; conv => whnf) | (refine VMem.make false encB_len rfl rfl rfl rfl rfl rfl (by omega) ?_; conv => whnf))
  refine VCut.at' (outer := h.lift) (marks := []) 1 [(3, .fp [DI W, DI H, dints c]), (4, shs S), (6, ints O), (8, ints F1), (10, ints F2), (12, .gl (.loc 0) 1 c.length), (13, I 0), (14, I 0)] [.flat true ((List.replicate c.length false).flatMap encB)] ?_ ?_
  · conv => whnf
    refine Retell.turn ⟨[0], 9, [], []⟩ (TurnOk.mk' _ _ [] [] (OutOk.lift _) rfl (by decide) zb trivial trivial rfl) zw zm
  conv => whnf
  repeat' (first | ((first | refine zs1 ?_ | refine zs2 ?_ | refine zs3 ?_ | refine zs4 ?_ | refine zs5 ?_); conv => whnf) | ((first | apply zi1 | apply zi2 | apply zi3 | apply zi4 | apply zi5) <;> intro _ <;> first | (exfalso; omega) | contradiction | (conv => whnf)))
  refine VCode.lpC (outer := h.lift) (marks := []) 2 (fun y : Nat × List Bool => [(3, .fp [DI W, DI H, dints c]), (4, shs S), (6, ints O), (8, ints F1), (10, ints F2), (12, .gl (.loc 0) 1 y.2.length), (13, I (nrT c W y.1)), (14, I (gvT c W y.1)), (89, shs S), (90, I S.length), (91, I y.1)]) (fun y => [.flat true (y.2.flatMap encB)]) (fun y => y.1 ≤ N ∧ y.2.length = c.length ∧ (∀ k, bat y.2 k = true ↔ k ∈ oldL c W y.1) ∧ (-(y.1 : Int) ≤ nrT c W y.1 ∧ nrT c W y.1 ≤ y.1) ∧ (-(y.1 : Int) ≤ gvT c W y.1 ∧ gvT c W y.1 ≤ y.1)) (fun y => N - y.1) (0, List.replicate c.length false) ⟨Nat.zero_le _, List.length_replicate, fun k => ⟨fun e => ?_, fun e => ?_⟩, by dsimp only; rw [n0]; omega, by dsimp only; rw [g0]; omega⟩ ?_ ?_
  · dsimp only at e
    rw [bat_rep] at e
    cases e
  · dsimp only at e
    rw [show oldL c W 0 = [] from rfl] at e
    cases e
  · dsimp only
    rw [n0, g0, List.length_replicate]
    conv => whnf
    refine Retell.turn ⟨[0], 9, [], []⟩ (TurnOk.mk' _ _ [] [] (OutOk.lift _) rfl (by decide) zb trivial trivial rfl) zw zm
  rintro ⟨i, met⟩ ⟨hi, hml, hold, hb1, hb2⟩
  dsimp only at hi hml hold hb1 hb2 ⊢
  rcases Nat.lt_or_ge i N with h3 | h3
  · obtain ⟨f, w, r, x1, x2, x3, x4, x5, x6, x7, x8, x9⟩ := fx i h3
    have x4 := x4 met hold
    have hmf := bat_get (mk := met) (q := f) (by omega)
    rw [x4] at hmf
    have xc := at0_get (l := c) (n := f) x2
    rw [x3] at xc
    clear fx c0 c1 cI cO cF1 cF2 cA
    generalize hnr : nrT c W i = nr at *
    generalize hgv : gvT c W i = gv at *
    conv => whnf
    repeat' (first | ((first | refine zs1 ?_ | refine zs2 ?_ | refine zs3 ?_ | refine zs4 ?_ | refine zs5 ?_); conv => whnf) | ((first | apply zi1 | apply zi2 | apply zi3 | apply zi4 | apply zi5) <;> intro _ <;> first | (exfalso; omega) | contradiction | (conv => whnf)))
    refine VCut.block 1 ?_
    conv => whnf
    repeat' (first | ((first | refine zs1 ?_ | refine zs2 ?_ | refine zs3 ?_ | refine zs4 ?_ | refine zs5 ?_); conv => whnf) | ((first | apply zi1 | apply zi2 | apply zi3 | apply zi4 | apply zi5) <;> intro _ <;> first | (exfalso; omega) | contradiction | (conv => whnf)) | (refine VAny.ix encSh_len i rfl rfl x1 ?_; conv => whnf))
    apply suffices_
    · intro hrest
      refine VCut.at' (outer := h.lift) (marks := []) 1 [(3, .fp [DI W, DI H, dints c]), (4, shs S), (6, ints O), (8, ints F1), (10, ints F2), (12, .gl (.loc 0) 1 met.length), (13, I nr), (14, I gv), (89, shs S), (90, I S.length), (91, I i), (15, I i), (16, .fp [DI f, DI w, DB r])] [.flat true (met.flatMap encB)] ?_ ?_
      · conv => whnf
        refine Retell.turn ⟨[0], 9, [(1, [DI f, DI w, DB r])], []⟩ (TurnOk.mk' _ _ [(1, [DI f, DI w, DB r])] [] (OutOk.lift _) rfl (by decide) zb zf trivial rfl) zw zm
      rcases Nat.eq_zero_or_pos i with hz | hz
      · conv => whnf
        repeat' (first | ((first | refine zs1 ?_ | refine zs2 ?_ | refine zs3 ?_ | refine zs4 ?_ | refine zs5 ?_); conv => whnf) | ((first | apply zi1 | apply zi2 | apply zi3 | apply zi4 | apply zi5) <;> intro _ <;> first | (exfalso; omega) | contradiction | (conv => whnf)))
        refine zs6 [] ?_
        conv => whnf
        repeat' (first | ((first | refine zs1 ?_ | refine zs2 ?_ | refine zs3 ?_ | refine zs4 ?_ | refine zs5 ?_); conv => whnf) | ((first | apply zi1 | apply zi2 | apply zi3 | apply zi4 | apply zi5) <;> intro _ <;> first | (exfalso; omega) | contradiction | (conv => whnf)) | (refine VAny.ix Vm.encI_len f rfl rfl xc ?_; conv => whnf) | (refine VLd.recc encB_len f 0 rfl rfl rfl hmf (by decide) rfl (ofs _) ?_; conv => whnf))
        refine VCut.at' (outer := h.lift) (marks := []) 99 [(3, .fp [DI W, DI H, dints c]), (4, shs S), (6, ints O), (8, ints F1), (10, ints F2), (12, .gl (.loc 0) 1 met.length), (13, I nr), (14, I gv), (89, shs S), (90, I S.length), (91, I i), (15, I i), (16, .fp [DI f, DI w, DB r])] [.flat true (met.flatMap encB)] ?_ hrest.out
        conv => whnf
        refine Retell.turn ⟨[0], 9, [], []⟩ (TurnOk.mk' _ _ [] [] (OutOk.lift _) rfl (by decide) zb trivial trivial rfl) zw zm
      · obtain ⟨j, hj⟩ : ∃ j, i = j + 1 := ⟨i - 1, by omega⟩
        obtain ⟨g, xg, xl⟩ := x5 j hj
        conv => whnf
        repeat' (first | ((first | refine zs1 ?_ | refine zs2 ?_ | refine zs3 ?_ | refine zs4 ?_ | refine zs5 ?_); conv => whnf) | ((first | apply zi1 | apply zi2 | apply zi3 | apply zi4 | apply zi5) <;> intro _ <;> first | (exfalso; omega) | contradiction | (conv => whnf)))
        refine zs6 [] ?_
        conv => whnf
        repeat' (first | ((first | refine zs1 ?_ | refine zs2 ?_ | refine zs3 ?_ | refine zs4 ?_ | refine zs5 ?_); conv => whnf) | ((first | apply zi1 | apply zi2 | apply zi3 | apply zi4 | apply zi5) <;> intro _ <;> first | (exfalso; omega) | contradiction | (conv => whnf)) | (refine VAny.ix Vm.encI_len f rfl rfl xc ?_; conv => whnf) | (refine VLd.recc encB_len f 0 rfl rfl rfl hmf (by decide) rfl (ofs _) ?_; conv => whnf) | (refine VAny.ix encSh_len j (by omega) rfl xg ?_; conv => whnf))
        refine VCut.at' (outer := h.lift) (marks := []) 99 [(3, .fp [DI W, DI H, dints c]), (4, shs S), (6, ints O), (8, ints F1), (10, ints F2), (12, .gl (.loc 0) 1 met.length), (13, I nr), (14, I gv), (89, shs S), (90, I S.length), (91, I i), (15, I i), (16, .fp [DI f, DI w, DB r])] [.flat true (met.flatMap encB)] ?_ hrest.out
        conv => whnf
        refine Retell.turn ⟨[0], 9, [], []⟩ (TurnOk.mk' _ _ [] [] (OutOk.lift _) rfl (by decide) zb trivial trivial rfl) zw zm
    conv => whnf
    repeat' (first | ((first | refine zs1 ?_ | refine zs2 ?_ | refine zs3 ?_ | refine zs4 ?_ | refine zs5 ?_); conv => whnf) | ((first | apply zi1 | apply zi2 | apply zi3 | apply zi4 | apply zi5) <;> intro _ <;> first | (exfalso; omega) | contradiction | (conv => whnf)) | (refine VMem.setRec encB_len f 0 true rfl rfl rfl hmf (by decide) rfl (ofs _) ?_; conv => whnf))
    have hcnt : (met.set f true).count false ≤ 160 := by
      have := List.count_le_length (a := false) (l := met.set f true)
      rw [List.length_set] at this
      omega
    have hcnt2 : [f].length + (met.set f true).count false ≤ 200 := by
      rw [List.length_singleton]
      omega
    refine VCode.lpC (outer := h.lift) (marks := []) 1 (fun y : List Nat × List Nat × List Bool => [(3, .fp [DI W, DI H, dints c]), (4, shs S), (6, ints O), (8, ints F1), (10, ints F2), (12, .gl (.loc 0) 1 y.2.2.length), (13, I nr), (14, I gv), (89, shs S), (90, I S.length), (91, I i), (15, I i), (16, .fp [DI f, DI w, DB r]), (18, .gl (.loc 1) 1 (natI y.2.1).length), (17, .ptr (.loc 2) 0)]) (fun y => [.flat true (y.2.2.flatMap encB), .flat true ((natI y.2.1).flatMap Vm.encI), .flat true [DI 0, DI (loT F1 y.1), DI (loT F2 y.1)]]) (fun y => BQ c W f (oldL c W i) y.1 y.2.1 y.2.2 ∧ y.2.2.length = c.length ∧ y.2.1.length + y.2.2.count false ≤ 200) (fun y => y.2.1.length + y.2.2.count false) ([], [f], met.set f true) ⟨BQ.start (by omega) hold (by rw [bat_marks, x3]; rfl), by rw [List.length_set]; exact hml, hcnt2⟩ ?_ ?_
    · dsimp only
      rw [loT_nil, loT_nil, List.length_set]
      conv => whnf
      refine Retell.turn ⟨[0,2,1], 9, [], []⟩ (TurnOk.mk' _ _ [] [] (OutOk.lift _) rfl (by decide) zb trivial trivial rfl) zw zm
    rintro ⟨done, todo, mt⟩ ⟨hB, hml2, hc2⟩
    dsimp only at hB hml2 hc2 ⊢
    cases todo with
    | nil =>
      have hd := bq_end hB
      have hn := x8 done mt hB
      have hlow := x9 done hd
      generalize loT F1 done = a1 at *
      generalize loT F2 done = a2 at *
      clear hd x9 x8 x7 x6 x5 xc hmf
      rcases hlow with g | g | g | g
      · obtain ⟨g1, g2, g3, g4, g5, g6⟩ := g
        subst g1 g2
        conv => whnf
        repeat' (first | ((first | refine zs1 ?_ | refine zs2 ?_ | refine zs3 ?_ | refine zs4 ?_ | refine zs5 ?_); conv => whnf) | ((first | apply zi1 | apply zi2 | apply zi3 | apply zi4 | apply zi5) <;> intro _ <;> first | (exfalso; omega) | contradiction | (conv => whnf)))
        refine LEnd.intro (i + 1, mt) ⟨by dsimp only; omega, hml2, hn, by dsimp only; omega, by dsimp only; omega⟩ (by dsimp only; omega) ?_
        dsimp only
        rw [g5, g6]
        conv => whnf
        refine Retell.turn ⟨[0], 9, [], []⟩ (TurnOk.mk' _ _ [] [] (OutOk.lift _) rfl (by decide) zb trivial trivial rfl) zw zm
      · obtain ⟨g1, g2, g3, g5, g6⟩ := g
        subst g1 g2
        conv => whnf
        repeat' (first | ((first | refine zs1 ?_ | refine zs2 ?_ | refine zs3 ?_ | refine zs4 ?_ | refine zs5 ?_); conv => whnf) | ((first | apply zi1 | apply zi2 | apply zi3 | apply zi4 | apply zi5) <;> intro _ <;> first | (exfalso; omega) | contradiction | (conv => whnf)))
        refine zs6 [] ?_
        conv => whnf
        repeat' (first | ((first | refine zs1 ?_ | refine zs2 ?_ | refine zs3 ?_ | refine zs4 ?_ | refine zs5 ?_); conv => whnf) | ((first | apply zi1 | apply zi2 | apply zi3 | apply zi4 | apply zi5) <;> intro _ <;> first | (exfalso; omega) | contradiction | (conv => whnf)))
        refine LEnd.intro (i + 1, mt) ⟨by dsimp only; omega, hml2, hn, by dsimp only; omega, by dsimp only; omega⟩ (by dsimp only; omega) ?_
        dsimp only
        rw [g5, g6]
        conv => whnf
        refine Retell.turn ⟨[0], 9, [], []⟩ (TurnOk.mk' _ _ [] [] (OutOk.lift _) rfl (by decide) zb trivial trivial rfl) zw zm
      · obtain ⟨g1, g2, g3, g5, g6⟩ := g
        subst g1 g2
        conv => whnf
        repeat' (first | ((first | refine zs1 ?_ | refine zs2 ?_ | refine zs3 ?_ | refine zs4 ?_ | refine zs5 ?_); conv => whnf) | ((first | apply zi1 | apply zi2 | apply zi3 | apply zi4 | apply zi5) <;> intro _ <;> first | (exfalso; omega) | contradiction | (conv => whnf)))
        refine zs6 [] ?_
        conv => whnf
        repeat' (first | ((first | refine zs1 ?_ | refine zs2 ?_ | refine zs3 ?_ | refine zs4 ?_ | refine zs5 ?_); conv => whnf) | ((first | apply zi1 | apply zi2 | apply zi3 | apply zi4 | apply zi5) <;> intro _ <;> first | (exfalso; omega) | contradiction | (conv => whnf)))
        refine LEnd.intro (i + 1, mt) ⟨by dsimp only; omega, hml2, hn, by dsimp only; omega, by dsimp only; omega⟩ (by dsimp only; omega) ?_
        dsimp only
        rw [g5, g6]
        conv => whnf
        refine Retell.turn ⟨[0], 9, [], []⟩ (TurnOk.mk' _ _ [] [] (OutOk.lift _) rfl (by decide) zb trivial trivial rfl) zw zm
      · obtain ⟨g1, g2, g3, g4, g5, g6⟩ := g
        subst g2
        rcases g1 with g1 | g1
        · subst g1
          conv => whnf
          repeat' (first | ((first | refine zs1 ?_ | refine zs2 ?_ | refine zs3 ?_ | refine zs4 ?_ | refine zs5 ?_); conv => whnf) | ((first | apply zi1 | apply zi2 | apply zi3 | apply zi4 | apply zi5) <;> intro _ <;> first | (exfalso; omega) | contradiction | (conv => whnf)))
          refine LEnd.intro (i + 1, mt) ⟨by dsimp only; omega, hml2, hn, by dsimp only; omega, by dsimp only; omega⟩ (by dsimp only; omega) ?_
          dsimp only
          rw [g5, g6]
          conv => whnf
          refine Retell.turn ⟨[0], 9, [], []⟩ (TurnOk.mk' _ _ [] [] (OutOk.lift _) rfl (by decide) zb trivial trivial rfl) zw zm
        · subst g1
          conv => whnf
          repeat' (first | ((first | refine zs1 ?_ | refine zs2 ?_ | refine zs3 ?_ | refine zs4 ?_ | refine zs5 ?_); conv => whnf) | ((first | apply zi1 | apply zi2 | apply zi3 | apply zi4 | apply zi5) <;> intro _ <;> first | (exfalso; omega) | contradiction | (conv => whnf)))
          refine LEnd.intro (i + 1, mt) ⟨by dsimp only; omega, hml2, hn, by dsimp only; omega, by dsimp only; omega⟩ (by dsimp only; omega) ?_
          dsimp only
          rw [g5, g6]
          conv => whnf
          refine Retell.turn ⟨[0], 9, [], []⟩ (TurnOk.mk' _ _ [] [] (OutOk.lift _) rfl (by decide) zb trivial trivial rfl) zw zm
    | cons n t =>
      obtain ⟨y1, y2, y3⟩ := x6 n (hB.own n (.inr List.mem_cons_self))
      have xO := at0_get (l := O) (n := n) (by omega)
      have xF1 := at0_get (l := F1) (n := n) (by omega)
      have xF2 := at0_get (l := F2) (n := n) (by omega)
      rw [y2] at xO
      rw [List.length_cons] at hc2
      have hL1 := loT_snoc bd1 done n
      have hL2 := loT_snoc bd2 done n
      generalize loT F1 done = a1 at *
      generalize loT F2 done = a2 at *
      have hu1 := (bd1 n).1
      have hu2 := (bd2 n).1
      generalize at0 F1 n = u1 at *
      generalize at0 F2 n = u2 at *
      rw [show natI (n :: t) = (n : Int) :: natI t from rfl]
      have lt : (natI t).length = t.length := natI_len t
      have lt2 : ((n : Int) :: natI t).length = t.length + 1 := by rw [List.length_cons, lt]
      conv => whnf
      repeat' (first | ((first | refine zs1 ?_ | refine zs2 ?_ | refine zs3 ?_ | refine zs4 ?_ | refine zs5 ?_); conv => whnf) | ((first | apply zi1 | apply zi2 | apply zi3 | apply zi4 | apply zi5) <;> intro _ <;> first | (exfalso; omega) | contradiction | (conv => whnf)))
      refine VCut.blockE 2 ?_
      conv => whnf
      repeat' (first | ((first | refine zs1 ?_ | refine zs2 ?_ | refine zs3 ?_ | refine zs4 ?_ | refine zs5 ?_); conv => whnf) | ((first | apply zi1 | apply zi2 | apply zi3 | apply zi4 | apply zi5) <;> intro _ <;> first | (exfalso; omega) | contradiction | (conv => whnf)) | (refine VLd.recc (l := (n : Int) :: natI t) Vm.encI_len 0 0 rfl rfl rfl (a := (n : Int)) rfl (by decide) rfl rfl ?_; conv => whnf) | (refine VAny.intro (v := .slice (.loc 1) 1 1 (natI t).length none) ⟨by omega, (natI t).length, by omega, .inr ⟨by omega, rfl⟩⟩ ?_; conv => whnf))
      refine VCut.at' (outer := h.lift) (marks := []) 3 [(3, .fp [DI W, DI H, dints c]), (4, shs S), (6, ints O), (8, ints F1), (10, ints F2), (12, .gl (.loc 0) 1 mt.length), (13, I nr), (14, I gv), (89, shs S), (90, I S.length), (91, I i), (15, I i), (16, .fp [DI f, DI w, DB r]), (18, .gl (.loc 1) 1 (natI t).length), (17, .ptr (.loc 2) 0), (19, I n)] [.flat true (mt.flatMap encB), .flat true ((natI t).flatMap Vm.encI), .flat true [DI 0, DI a1, DI a2]] ?_ ?_
      · conv => whnf
        refine Retell.trans (Retell.tail 18 1 1 1 (natI t).length [DI n] ((natI t).flatMap Vm.encI) rfl rfl rfl) ?_
        conv => whnf
        refine Retell.turn ⟨[0,3,2], 9, [], []⟩ (TurnOk.mk' _ _ [] [] (OutOk.lift _) rfl (by decide) zb trivial trivial rfl) zw zm
      obtain ⟨b1, hb1e⟩ : ∃ b1, b1 = loT F1 (done ++ [n]) := ⟨_, rfl⟩
      obtain ⟨b2, hb2e⟩ : ∃ b2, b2 = loT F2 (done ++ [n]) := ⟨_, rfl⟩
      rw [← hb1e] at hL1
      rw [← hb2e] at hL2
      apply suffices_
      · intro hrest
        rcases Int.lt_or_eq_of_le (show -1 ≤ u1 from hu1) with k1 | k1
        · rw [if_neg (by omega)] at hL1
          rcases Int.lt_or_eq_of_le (show -1 ≤ u2 from hu2) with k2 | k2
          · rw [if_neg (by omega)] at hL2
            conv => whnf
            repeat' (first | ((first | refine zs1 ?_ | refine zs2 ?_ | refine zs3 ?_ | refine zs4 ?_ | refine zs5 ?_); conv => whnf) | ((first | apply zi1 | apply zi2 | apply zi3 | apply zi4 | apply zi5) <;> intro _ <;> first | (exfalso; omega) | contradiction | (conv => whnf)) | (refine VAny.ix Vm.encI_len n rfl (by omega) xO ?_; conv => whnf) | (refine VAny.ix Vm.encI_len n rfl (by omega) xF1 ?_; conv => whnf) | (refine VAny.ix Vm.encI_len n rfl (by omega) xF2 ?_; conv => whnf))
            refine zs6 [] ?_
            conv => whnf
            repeat' (first | ((first | refine zs1 ?_ | refine zs2 ?_ | refine zs3 ?_ | refine zs4 ?_ | refine zs5 ?_); conv => whnf) | ((first | apply zi1 | apply zi2 | apply zi3 | apply zi4 | apply zi5) <;> intro _ <;> first | (exfalso; omega) | contradiction | (conv => whnf)) | (refine VAny.ix Vm.encI_len n rfl (by omega) xO ?_; conv => whnf) | (refine VAny.ix Vm.encI_len n rfl (by omega) xF1 ?_; conv => whnf) | (refine VAny.ix Vm.encI_len n rfl (by omega) xF2 ?_; conv => whnf))
            refine zs6 [] ?_
            conv => whnf
            repeat' (first | ((first | refine zs1 ?_ | refine zs2 ?_ | refine zs3 ?_ | refine zs4 ?_ | refine zs5 ?_); conv => whnf) | ((first | apply zi1 | apply zi2 | apply zi3 | apply zi4 | apply zi5) <;> intro _ <;> first | (exfalso; omega) | contradiction | (conv => whnf)) | (refine VAny.ix Vm.encI_len n rfl (by omega) xO ?_; conv => whnf) | (refine VAny.ix Vm.encI_len n rfl (by omega) xF1 ?_; conv => whnf) | (refine VAny.ix Vm.encI_len n rfl (by omega) xF2 ?_; conv => whnf))
            refine zs6 [] ?_
            conv => whnf
            repeat' (first | ((first | refine zs1 ?_ | refine zs2 ?_ | refine zs3 ?_ | refine zs4 ?_ | refine zs5 ?_); conv => whnf) | ((first | apply zi1 | apply zi2 | apply zi3 | apply zi4 | apply zi5) <;> intro _ <;> first | (exfalso; omega) | contradiction | (conv => whnf)) | (refine VAny.ix Vm.encI_len n rfl (by omega) xO ?_; conv => whnf) | (refine VAny.ix Vm.encI_len n rfl (by omega) xF1 ?_; conv => whnf) | (refine VAny.ix Vm.encI_len n rfl (by omega) xF2 ?_; conv => whnf))
            refine VCut.at' (outer := h.lift) (marks := []) 99 [(3, .fp [DI W, DI H, dints c]), (4, shs S), (6, ints O), (8, ints F1), (10, ints F2), (12, .gl (.loc 0) 1 mt.length), (13, I nr), (14, I gv), (89, shs S), (90, I S.length), (91, I i), (15, I i), (16, .fp [DI f, DI w, DB r]), (18, .gl (.loc 1) 1 (natI t).length), (17, .ptr (.loc 2) 0), (19, I n)] [.flat true (mt.flatMap encB), .flat true ((natI t).flatMap Vm.encI), .flat true [DI 0, DI b1, DI b2]] ?_ hrest.out
            rw [hL1, hL2]
            conv => whnf
            refine Retell.turn ⟨[0,1,2], 9, [], []⟩ (TurnOk.mk' _ _ [] [] (OutOk.lift _) rfl (by decide) zb trivial trivial rfl) zw zm
          · rw [if_pos k2.symm] at hL2
            conv => whnf
            repeat' (first | ((first | refine zs1 ?_ | refine zs2 ?_ | refine zs3 ?_ | refine zs4 ?_ | refine zs5 ?_); conv => whnf) | ((first | apply zi1 | apply zi2 | apply zi3 | apply zi4 | apply zi5) <;> intro _ <;> first | (exfalso; omega) | contradiction | (conv => whnf)) | (refine VAny.ix Vm.encI_len n rfl (by omega) xO ?_; conv => whnf) | (refine VAny.ix Vm.encI_len n rfl (by omega) xF1 ?_; conv => whnf) | (refine VAny.ix Vm.encI_len n rfl (by omega) xF2 ?_; conv => whnf))
            refine zs6 [] ?_
            conv => whnf
            repeat' (first | ((first | refine zs1 ?_ | refine zs2 ?_ | refine zs3 ?_ | refine zs4 ?_ | refine zs5 ?_); conv => whnf) | ((first | apply zi1 | apply zi2 | apply zi3 | apply zi4 | apply zi5) <;> intro _ <;> first | (exfalso; omega) | contradiction | (conv => whnf)) | (refine VAny.ix Vm.encI_len n rfl (by omega) xO ?_; conv => whnf) | (refine VAny.ix Vm.encI_len n rfl (by omega) xF1 ?_; conv => whnf) | (refine VAny.ix Vm.encI_len n rfl (by omega) xF2 ?_; conv => whnf))
            refine zs6 [] ?_
            conv => whnf
            repeat' (first | ((first | refine zs1 ?_ | refine zs2 ?_ | refine zs3 ?_ | refine zs4 ?_ | refine zs5 ?_); conv => whnf) | ((first | apply zi1 | apply zi2 | apply zi3 | apply zi4 | apply zi5) <;> intro _ <;> first | (exfalso; omega) | contradiction | (conv => whnf)) | (refine VAny.ix Vm.encI_len n rfl (by omega) xO ?_; conv => whnf) | (refine VAny.ix Vm.encI_len n rfl (by omega) xF1 ?_; conv => whnf) | (refine VAny.ix Vm.encI_len n rfl (by omega) xF2 ?_; conv => whnf))
            refine VCut.at' (outer := h.lift) (marks := []) 99 [(3, .fp [DI W, DI H, dints c]), (4, shs S), (6, ints O), (8, ints F1), (10, ints F2), (12, .gl (.loc 0) 1 mt.length), (13, I nr), (14, I gv), (89, shs S), (90, I S.length), (91, I i), (15, I i), (16, .fp [DI f, DI w, DB r]), (18, .gl (.loc 1) 1 (natI t).length), (17, .ptr (.loc 2) 0), (19, I n)] [.flat true (mt.flatMap encB), .flat true ((natI t).flatMap Vm.encI), .flat true [DI 0, DI b1, DI b2]] ?_ hrest.out
            rw [hL1, hL2]
            conv => whnf
            refine Retell.turn ⟨[0,1,2], 9, [], []⟩ (TurnOk.mk' _ _ [] [] (OutOk.lift _) rfl (by decide) zb trivial trivial rfl) zw zm
        · rw [if_pos k1.symm] at hL1
          rcases Int.lt_or_eq_of_le (show -1 ≤ u2 from hu2) with k2 | k2
          · rw [if_neg (by omega)] at hL2
            conv => whnf
            repeat' (first | ((first | refine zs1 ?_ | refine zs2 ?_ | refine zs3 ?_ | refine zs4 ?_ | refine zs5 ?_); conv => whnf) | ((first | apply zi1 | apply zi2 | apply zi3 | apply zi4 | apply zi5) <;> intro _ <;> first | (exfalso; omega) | contradiction | (conv => whnf)) | (refine VAny.ix Vm.encI_len n rfl (by omega) xO ?_; conv => whnf) | (refine VAny.ix Vm.encI_len n rfl (by omega) xF1 ?_; conv => whnf) | (refine VAny.ix Vm.encI_len n rfl (by omega) xF2 ?_; conv => whnf))
            refine zs6 [] ?_
            conv => whnf
            repeat' (first | ((first | refine zs1 ?_ | refine zs2 ?_ | refine zs3 ?_ | refine zs4 ?_ | refine zs5 ?_); conv => whnf) | ((first | apply zi1 | apply zi2 | apply zi3 | apply zi4 | apply zi5) <;> intro _ <;> first | (exfalso; omega) | contradiction | (conv => whnf)) | (refine VAny.ix Vm.encI_len n rfl (by omega) xO ?_; conv => whnf) | (refine VAny.ix Vm.encI_len n rfl (by omega) xF1 ?_; conv => whnf) | (refine VAny.ix Vm.encI_len n rfl (by omega) xF2 ?_; conv => whnf))
            refine zs6 [] ?_
            conv => whnf
            repeat' (first | ((first | refine zs1 ?_ | refine zs2 ?_ | refine zs3 ?_ | refine zs4 ?_ | refine zs5 ?_); conv => whnf) | ((first | apply zi1 | apply zi2 | apply zi3 | apply zi4 | apply zi5) <;> intro _ <;> first | (exfalso; omega) | contradiction | (conv => whnf)) | (refine VAny.ix Vm.encI_len n rfl (by omega) xO ?_; conv => whnf) | (refine VAny.ix Vm.encI_len n rfl (by omega) xF1 ?_; conv => whnf) | (refine VAny.ix Vm.encI_len n rfl (by omega) xF2 ?_; conv => whnf))
            refine VCut.at' (outer := h.lift) (marks := []) 99 [(3, .fp [DI W, DI H, dints c]), (4, shs S), (6, ints O), (8, ints F1), (10, ints F2), (12, .gl (.loc 0) 1 mt.length), (13, I nr), (14, I gv), (89, shs S), (90, I S.length), (91, I i), (15, I i), (16, .fp [DI f, DI w, DB r]), (18, .gl (.loc 1) 1 (natI t).length), (17, .ptr (.loc 2) 0), (19, I n)] [.flat true (mt.flatMap encB), .flat true ((natI t).flatMap Vm.encI), .flat true [DI 0, DI b1, DI b2]] ?_ hrest.out
            rw [hL1, hL2]
            conv => whnf
            refine Retell.turn ⟨[0,1,2], 9, [], []⟩ (TurnOk.mk' _ _ [] [] (OutOk.lift _) rfl (by decide) zb trivial trivial rfl) zw zm
          · rw [if_pos k2.symm] at hL2
            conv => whnf
            repeat' (first | ((first | refine zs1 ?_ | refine zs2 ?_ | refine zs3 ?_ | refine zs4 ?_ | refine zs5 ?_); conv => whnf) | ((first | apply zi1 | apply zi2 | apply zi3 | apply zi4 | apply zi5) <;> intro _ <;> first | (exfalso; omega) | contradiction | (conv => whnf)) | (refine VAny.ix Vm.encI_len n rfl (by omega) xO ?_; conv => whnf) | (refine VAny.ix Vm.encI_len n rfl (by omega) xF1 ?_; conv => whnf) | (refine VAny.ix Vm.encI_len n rfl (by omega) xF2 ?_; conv => whnf))
            refine zs6 [] ?_
            conv => whnf
            repeat' (first | ((first | refine zs1 ?_ | refine zs2 ?_ | refine zs3 ?_ | refine zs4 ?_ | refine zs5 ?_); conv => whnf) | ((first | apply zi1 | apply zi2 | apply zi3 | apply zi4 | apply zi5) <;> intro _ <;> first | (exfalso; omega) | contradiction | (conv => whnf)) | (refine VAny.ix Vm.encI_len n rfl (by omega) xO ?_; conv => whnf) | (refine VAny.ix Vm.encI_len n rfl (by omega) xF1 ?_; conv => whnf) | (refine VAny.ix Vm.encI_len n rfl (by omega) xF2 ?_; conv => whnf))
            refine VCut.at' (outer := h.lift) (marks := []) 99 [(3, .fp [DI W, DI H, dints c]), (4, shs S), (6, ints O), (8, ints F1), (10, ints F2), (12, .gl (.loc 0) 1 mt.length), (13, I nr), (14, I gv), (89, shs S), (90, I S.length), (91, I i), (15, I i), (16, .fp [DI f, DI w, DB r]), (18, .gl (.loc 1) 1 (natI t).length), (17, .ptr (.loc 2) 0), (19, I n)] [.flat true (mt.flatMap encB), .flat true ((natI t).flatMap Vm.encI), .flat true [DI 0, DI b1, DI b2]] ?_ hrest.out
            rw [hL1, hL2]
            conv => whnf
            refine Retell.turn ⟨[0,1,2], 9, [], []⟩ (TurnOk.mk' _ _ [] [] (OutOk.lift _) rfl (by decide) zb trivial trivial rfl) zw zm
      clear hL1 hL2 xO xF1 xF2
      conv => whnf
      repeat' (first | ((first | refine zs1 ?_ | refine zs2 ?_ | refine zs3 ?_ | refine zs4 ?_ | refine zs5 ?_); conv => whnf) | ((first | apply zi1 | apply zi2 | apply zi3 | apply zi4 | apply zi5) <;> intro _ <;> first | (exfalso; omega) | contradiction | (conv => whnf)))
      refine VCode.lpC (outer := h.lift) (marks := []) 2 (fun y : Nat × List Nat × List Bool => [(3, .fp [DI W, DI H, dints c]), (4, shs S), (6, ints O), (8, ints F1), (10, ints F2), (12, .gl (.loc 0) 1 y.2.2.length), (13, I nr), (14, I gv), (89, shs S), (90, I S.length), (91, I i), (15, I i), (16, .fp [DI f, DI w, DB r]), (18, .gl (.loc 1) 1 (natI y.2.1).length), (17, .ptr (.loc 2) 0), (19, I n), (193, ints c), (194, I c.length), (195, I y.1)]) (fun y => [.flat true (y.2.2.flatMap encB), .flat true ((natI y.2.1).flatMap Vm.encI), .flat true [DI 0, DI b1, DI b2]]) (fun y => y.1 ≤ c.length ∧ QI c W n t mt y.1 y.2.1 y.2.2) (fun y => c.length - y.1) (0, t, mt) ⟨Nat.zero_le _, QI.zero hml2⟩ ?_ ?_
      · dsimp only
        conv => whnf
        refine Retell.turn ⟨[0,1,2], 9, [], []⟩ (TurnOk.mk' _ _ [] [] (OutOk.lift _) rfl (by decide) zb trivial trivial rfl) zw zm
      rintro ⟨k, td, mk⟩ ⟨hk, hQ⟩
      dsimp only at hk hQ ⊢
      have q1 := hQ.len
      have q2 := hQ.cnt
      have q3 : (natI td).length = td.length := natI_len td
      rcases Nat.lt_or_ge k c.length with h5 | h5
      · have xk := at0_get (l := c) (n := k) h5
        have xm := bat_get (mk := mk) (q := k) (by omega)
        have cNk := fun h => cN n k h (by omega) (by omega)
        by_cases e1 : at0 c k = 3
        · cases e2 : bat mk k
          · rw [e1] at xk
            rw [e2] at xm
            by_cases e3 : Nb W n k
            · have hQ2 := hQ.push e1 e2 e3 h5
              rw [decide_eq_true e3] at cNk
              conv => whnf
              repeat' (first | ((first | refine zs1 ?_ | refine zs2 ?_ | refine zs3 ?_ | refine zs4 ?_ | refine zs5 ?_); conv => whnf) | ((first | apply zi1 | apply zi2 | apply zi3 | apply zi4 | apply zi5) <;> intro _ <;> first | (exfalso; omega) | contradiction | (conv => whnf)))
              refine VCut.block 99 ?_
              conv => whnf
              repeat' (first | ((first | refine zs1 ?_ | refine zs2 ?_ | refine zs3 ?_ | refine zs4 ?_ | refine zs5 ?_); conv => whnf) | ((first | apply zi1 | apply zi2 | apply zi3 | apply zi4 | apply zi5) <;> intro _ <;> first | (exfalso; omega) | contradiction | (conv => whnf)) | (refine VAny.ix Vm.encI_len k rfl rfl xk ?_; conv => whnf) | (refine VLd.recc encB_len k 0 rfl rfl rfl xm (by decide) rfl (ofs _) ?_; conv => whnf) | (refine VCall.intro (cNk _) ?_; conv => whnf) | (refine VMem.setRec encB_len k 0 true rfl rfl rfl xm (by decide) rfl (ofs _) ?_; conv => whnf) | (refine VMem.app1 (l := natI td) (k : Int) Vm.encI_len rfl rfl rfl rfl rfl (by omega) ?_; conv => whnf))
              refine LEnd.intro (k + 1, td ++ [k], mk.set k true) ⟨by dsimp only; omega, hQ2⟩ (by dsimp only; omega) ?_
              dsimp only
              rw [show natI (td ++ [k]) = natI td ++ [(k : Int)] by simp [natI], List.length_set, List.length_append, List.length_singleton]
              conv => whnf
              refine Retell.turn ⟨[0,4,2], 9, [], []⟩ (TurnOk.mk' _ _ [] [] (OutOk.lift _) rfl (by decide) zb trivial trivial rfl) zw zm
            · have hQ2 := hQ.keep (fun e => e3 e.2.2) h5
              rw [decide_eq_false e3] at cNk
              conv => whnf
              repeat' (first | ((first | refine zs1 ?_ | refine zs2 ?_ | refine zs3 ?_ | refine zs4 ?_ | refine zs5 ?_); conv => whnf) | ((first | apply zi1 | apply zi2 | apply zi3 | apply zi4 | apply zi5) <;> intro _ <;> first | (exfalso; omega) | contradiction | (conv => whnf)))
              refine VCut.block 99 ?_
              conv => whnf
              repeat' (first | ((first | refine zs1 ?_ | refine zs2 ?_ | refine zs3 ?_ | refine zs4 ?_ | refine zs5 ?_); conv => whnf) | ((first | apply zi1 | apply zi2 | apply zi3 | apply zi4 | apply zi5) <;> intro _ <;> first | (exfalso; omega) | contradiction | (conv => whnf)) | (refine VAny.ix Vm.encI_len k rfl rfl xk ?_; conv => whnf) | (refine VLd.recc encB_len k 0 rfl rfl rfl xm (by decide) rfl (ofs _) ?_; conv => whnf) | (refine VCall.intro (cNk _) ?_; conv => whnf))
              refine LEnd.intro (k + 1, td, mk) ⟨by dsimp only; omega, hQ2⟩ (by dsimp only; omega) ?_
              dsimp only
              conv => whnf
              refine Retell.turn ⟨[0,1,2], 9, [], []⟩ (TurnOk.mk' _ _ [] [] (OutOk.lift _) rfl (by decide) zb trivial trivial rfl) zw zm
          · have hQ2 := hQ.keep (fun e => by rw [e2] at e; cases e.2.1) h5
            rw [e1] at xk
            rw [e2] at xm
            conv => whnf
            repeat' (first | ((first | refine zs1 ?_ | refine zs2 ?_ | refine zs3 ?_ | refine zs4 ?_ | refine zs5 ?_); conv => whnf) | ((first | apply zi1 | apply zi2 | apply zi3 | apply zi4 | apply zi5) <;> intro _ <;> first | (exfalso; omega) | contradiction | (conv => whnf)))
            refine VCut.block 99 ?_
            conv => whnf
            repeat' (first | ((first | refine zs1 ?_ | refine zs2 ?_ | refine zs3 ?_ | refine zs4 ?_ | refine zs5 ?_); conv => whnf) | ((first | apply zi1 | apply zi2 | apply zi3 | apply zi4 | apply zi5) <;> intro _ <;> first | (exfalso; omega) | contradiction | (conv => whnf)) | (refine VAny.ix Vm.encI_len k rfl rfl xk ?_; conv => whnf) | (refine VLd.recc encB_len k 0 rfl rfl rfl xm (by decide) rfl (ofs _) ?_; conv => whnf))
            refine LEnd.intro (k + 1, td, mk) ⟨by dsimp only; omega, hQ2⟩ (by dsimp only; omega) ?_
            dsimp only
            conv => whnf
            refine Retell.turn ⟨[0,1,2], 9, [], []⟩ (TurnOk.mk' _ _ [] [] (OutOk.lift _) rfl (by decide) zb trivial trivial rfl) zw zm
        · have hQ2 := hQ.keep (fun e => e1 e.1) h5
          generalize at0 c k = v at *
          conv => whnf
          repeat' (first | ((first | refine zs1 ?_ | refine zs2 ?_ | refine zs3 ?_ | refine zs4 ?_ | refine zs5 ?_); conv => whnf) | ((first | apply zi1 | apply zi2 | apply zi3 | apply zi4 | apply zi5) <;> intro _ <;> first | (exfalso; omega) | contradiction | (conv => whnf)))
          refine VCut.block 99 ?_
          conv => whnf
          repeat' (first | ((first | refine zs1 ?_ | refine zs2 ?_ | refine zs3 ?_ | refine zs4 ?_ | refine zs5 ?_); conv => whnf) | ((first | apply zi1 | apply zi2 | apply zi3 | apply zi4 | apply zi5) <;> intro _ <;> first | (exfalso; omega) | contradiction | (conv => whnf)) | (refine VAny.ix Vm.encI_len k rfl rfl xk ?_; conv => whnf) | (refine VLd.recc encB_len k 0 rfl rfl rfl xm (by decide) rfl (ofs _) ?_; conv => whnf))
          refine LEnd.intro (k + 1, td, mk) ⟨by dsimp only; omega, hQ2⟩ (by dsimp only; omega) ?_
          dsimp only
          conv => whnf
          refine Retell.turn ⟨[0,1,2], 9, [], []⟩ (TurnOk.mk' _ _ [] [] (OutOk.lift _) rfl (by decide) zb trivial trivial rfl) zw zm
      · obtain rfl : k = c.length := by omega
        have hB2 := hQ.done hml2 x7 hB
        conv => whnf
        repeat' (first | ((first | refine zs1 ?_ | refine zs2 ?_ | refine zs3 ?_ | refine zs4 ?_ | refine zs5 ?_); conv => whnf) | ((first | apply zi1 | apply zi2 | apply zi3 | apply zi4 | apply zi5) <;> intro _ <;> first | (exfalso; omega) | contradiction | (conv => whnf)))
        refine LEnd.intro (done ++ [n], td, mk) ⟨hB2, q1, by dsimp only; omega⟩ (by dsimp only; rw [List.length_cons]; omega) ?_
        dsimp only
        rw [← hb1e, ← hb2e]
        conv => whnf
        refine Retell.turn ⟨[0,1,2], 9, [], []⟩ (TurnOk.mk' _ _ [] [] (OutOk.lift _) rfl (by decide) zb trivial trivial rfl) zw zm
  · obtain rfl : i = N := by omega
    conv => whnf
    repeat' (first | ((first | refine zs1 ?_ | refine zs2 ?_ | refine zs3 ?_ | refine zs4 ?_ | refine zs5 ?_); conv => whnf) | ((first | apply zi1 | apply zi2 | apply zi3 | apply zi4 | apply zi5) <;> intro _ <;> first | (exfalso; omega) | contradiction | (conv => whnf)))
    refine VCut.at' (outer := h.lift) (marks := []) 99 [(3, .fp [DI W, DI H, dints c]), (12, .gl (.loc 0) 1 met.length), (13, I (nrT c W i)), (14, I (gvT c W i))] [.flat true (met.flatMap encB)] ?_ ?_
    · conv => whnf
      refine Retell.turn ⟨[0], 9, [], []⟩ (TurnOk.mk' _ _ [] [] (OutOk.lift _) rfl (by decide) zb trivial trivial rfl) zw zm
    conv => whnf
    repeat' (first | ((first | refine zs1 ?_ | refine zs2 ?_ | refine zs3 ?_ | refine zs4 ?_ | refine zs5 ?_); conv => whnf) | ((first | apply zi1 | apply zi2 | apply zi3 | apply zi4 | apply zi5) <;> intro _ <;> first | (exfalso; omega) | contradiction | (conv => whnf)))
    refine VCode.lpC (outer := h.lift) (marks := []) 2 (fun k : Nat => [(12, .gl (.loc 0) 1 met.length), (13, I (nrT c W i)), (14, I (gvT c W i)), (286, ints c), (287, I c.length), (288, I k)]) (fun _ => [.flat true (met.flatMap encB)]) (fun k => k ≤ c.length) (fun k => c.length - k) 0 (Nat.zero_le _) ?_ ?_
    · conv => whnf
      refine Retell.turn ⟨[0], 9, [], []⟩ (TurnOk.mk' _ _ [] [] (OutOk.lift _) rfl (by decide) zb trivial trivial rfl) zw zm
    rintro k hk
    generalize nrT c W i = nr at *
    generalize gvT c W i = gv at *
    rcases Nat.lt_or_ge k c.length with h5 | h5
    · have xk := at0_get (l := c) (n := k) h5
      have xm := bat_get (mk := met) (q := k) (by omega)
      by_cases e1 : at0 c k = 3
      · have e2 := (hold k).2 (all3 k h5 e1)
        rw [e1] at xk
        rw [e2] at xm
        conv => whnf
        repeat' (first | ((first | refine zs1 ?_ | refine zs2 ?_ | refine zs3 ?_ | refine zs4 ?_ | refine zs5 ?_); conv => whnf) | ((first | apply zi1 | apply zi2 | apply zi3 | apply zi4 | apply zi5) <;> intro _ <;> first | (exfalso; omega) | contradiction | (conv => whnf)))
        refine VCut.block 99 ?_
        conv => whnf
        repeat' (first | ((first | refine zs1 ?_ | refine zs2 ?_ | refine zs3 ?_ | refine zs4 ?_ | refine zs5 ?_); conv => whnf) | ((first | apply zi1 | apply zi2 | apply zi3 | apply zi4 | apply zi5) <;> intro _ <;> first | (exfalso; omega) | contradiction | (conv => whnf)) | (refine VAny.ix Vm.encI_len k rfl rfl xk ?_; conv => whnf) | (refine VLd.recc encB_len k 0 rfl rfl rfl xm (by decide) rfl (ofs _) ?_; conv => whnf))
        refine LEnd.intro (k + 1) (by omega) (by omega) ?_
        conv => whnf
        refine Retell.turn ⟨[0], 9, [], []⟩ (TurnOk.mk' _ _ [] [] (OutOk.lift _) rfl (by decide) zb trivial trivial rfl) zw zm
      · generalize at0 c k = v at *
        conv => whnf
        repeat' (first | ((first | refine zs1 ?_ | refine zs2 ?_ | refine zs3 ?_ | refine zs4 ?_ | refine zs5 ?_); conv => whnf) | ((first | apply zi1 | apply zi2 | apply zi3 | apply zi4 | apply zi5) <;> intro _ <;> first | (exfalso; omega) | contradiction | (conv => whnf)))
        refine VCut.block 99 ?_
        conv => whnf
        repeat' (first | ((first | refine zs1 ?_ | refine zs2 ?_ | refine zs3 ?_ | refine zs4 ?_ | refine zs5 ?_); conv => whnf) | ((first | apply zi1 | apply zi2 | apply zi3 | apply zi4 | apply zi5) <;> intro _ <;> first | (exfalso; omega) | contradiction | (conv => whnf)) | (refine VAny.ix Vm.encI_len k rfl rfl xk ?_; conv => whnf))
        refine LEnd.intro (k + 1) (by omega) (by omega) ?_
        conv => whnf
        refine Retell.turn ⟨[0], 9, [], []⟩ (TurnOk.mk' _ _ [] [] (OutOk.lift _) rfl (by decide) zb trivial trivial rfl) zw zm
    · obtain rfl : k = c.length := by omega
      conv => whnf
      repeat' (first | ((first | refine zs1 ?_ | refine zs2 ?_ | refine zs3 ?_ | refine zs4 ?_ | refine zs5 ?_); conv => whnf) | ((first | apply zi1 | apply zi2 | apply zi3 | apply zi4 | apply zi5) <;> intro _ <;> first | (exfalso; omega) | contradiction | (conv => whnf)) | (refine VCall.intro (cA _) ?_; conv => whnf))
      exact VOut.same rfl
end Go.Proofs.Ytkbbfeljlepgoaa

open Go.Vm
namespace Go.Proofs.Ytkbbfeljlepgoaa
open Go.ChangeShapes Go.WideShapes Go.ChangeAt Go.RowKit

theorem open5p : OpenAll Try.prog Try.f5.params.toList (fun x : List Int × Unit => [dU x.1]) := by
  rw [Try.params5]
  exact OpenAll.cons openU (OpenAll.nil)
set_option maxRecDepth 100000 in
theorem contract5 (H : Type) (enc : TypeId × Value → H) (W : World) (base : Nat) (args : Array Value) (ds gs : List (DataW H)) (before : List MemPlace)
    (hval : ∀ (j : Nat) t v, Try.f5.params[j]? = some t → args[j]? = some v → Value.okWide Try.prog W .any base t v)
    (hW : DataW.Whole enc Try.prog Try.f5.params.toList Rows.riverCountedSpec.vars false W args.toList ds gs before) :
    Calls Try.prog 5 args W fun e W' => ∃ v, e = .returned v ∧ Rows.riverCountedSpec.post enc Try.prog Try.f5 false true false false W args v W' := by
  refine contract_of_vc open5p (fun g => vc_RiverCounted g.1 Hp.bare) laidOut ?_ (tb := 4) (by kernel_rfl) Try.underlying4 rfl ?_ hval hW
  · rw [Try.params5]
    intro t ht
    simp only [List.mem_cons, List.not_mem_nil, or_false] at ht
    rcases ht with rfl
    all_goals exact ⟨by kernel_rfl, of_decide_eq_true (by kernel_rfl)⟩
  · intro H dd hl
    rw [Try.params5] at hl
    match dd, hl with
    | [d0], _ => rfl
set_option maxRecDepth 100000 in
theorem lifted5 (os : Os) (started : os.Started) (H : Type) (enc : TypeId × Value → H) :
    ReturnsInHanded {} Try.checked os 5 .any (Rows.riverCountedSpec.pre6 enc Try.prog Try.f5 Rows.riverCountedRow.domain false) (Rows.riverCountedSpec.post enc Try.prog Try.f5 false true false false) := by
  refine returnsInHanded_of_change (C := Try.checked) ownKn started (by kernel_rfl) Try.func5
    (ChangeSpec.witness6 (enc := enc) (C := Try.checked) false ⟨#[], #[.slice none 0 0], []⟩ 8 (by kernel_rfl) (by kernel_rfl) (by kernel_rfl) (by kernel_rfl)) ?_
  intro W base args ds gs before hval hW _ _
  exact contract5 H enc W base args ds gs before hval hW
theorem riverCounted_said : Rows.RiverCountedSaid :=
  OpenClaim.holds_of_wide 5 Try.f5 rfl rfl rfl rfl rfl rfl rfl ⟨rfl, rfl, rfl, rfl, rfl⟩ rfl rfl rfl rfl rfl (by kernel_rfl) Try.func5 (by kernel_rfl)
    (of_decide_eq_true (by kernel_rfl)) (by unfold Func.isWrapper; first | (rw [if_pos (by decide +kernel)]; kernel_rfl) | (rw [if_neg (by decide +kernel)]; exact ⟨rfl, rfl⟩))
    (fun os started H enc _ => lifted5 os started H enc)
end Go.Proofs.Ytkbbfeljlepgoaa


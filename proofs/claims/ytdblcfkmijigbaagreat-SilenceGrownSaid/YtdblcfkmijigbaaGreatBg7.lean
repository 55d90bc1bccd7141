/- Part 7 of the proof that whose a field is that a river left is as the given statement says. No condition. -/
import Derived.Test.YtdblcfkmijigbaaGreatBg6
set_option linter.unusedVariables false
set_option linter.unusedSimpArgs false
open Go.Vm
open Riv
namespace Go.Vm
theorem VCode.lpoH {P : Program} {ro : Option Nat} {c : Code} {n : Nat} {fr : Fr} {outer0 : Id → Option Blk} {loc0 : List Blk} {marks marks0 : List Id} {Q : X → St → Prop} {Y : Type} (m : Nat) (slots : Y → List (Nat × V)) (outer : Y → Id → Option Blk) (loc : Y → List Blk) (Inv : Y → Prop) (μ : Y → Nat) (x0 : Y)
    (h0 : Inv x0) (ho : outer0 = outer x0) (hst : frSK (slots x0) .leaf fun fr' => Retell isOut ⟨n, fr, ⟨outer x0, loc0⟩, marks0⟩ ⟨n, fr', ⟨outer x0, loc x0⟩, marks⟩)
    (hb : ∀ x, Inv x → frSK (slots x) .leaf fun fr' => vcut P ro isOut m c ⟨n, fr', ⟨outer x, loc x⟩, marks⟩ (fun e st' => match e with
      | .normal => LEndO n marks slots outer loc Inv μ x st'
      | .exit i => Q (.exit i) st'
      | .ret => Q .ret st')) : VCode P ro isOut (.loop c) ⟨n, fr, ⟨outer0, loc0⟩, marks0⟩ Q := by
  subst ho
  exact VCode.lpoC m slots outer loc Inv μ x0 h0 hst hb
end Go.Vm
namespace Go.Proofs.YtdblcfkmijigbaaGreat
set_option maxRecDepth 20000
set_option maxHeartbeats 4000000

theorem dealt (bs : List Int) : Dealt (dNx bs) :=
  ⟨fun d k => (dNx_bd bs d k).1, fun d k hk => by have := (dNx_bd bs d k).2.1; omega, fun d k => (dNx_bd bs d k).2.2⟩
def mdM (bs : List Int) (d : Dk) (w h : Int) : Mp := ⟨4 + (mdW (dNx bs) d w).1, 1 + (mdH (dNx bs) d w h).1, (madeX (dNx bs) d w h).2⟩
theorem tdiv3 (W : Nat) : (W : Int).tdiv 3 = ((W / 3 : Nat) : Int) := rfl
theorem vc_Made (bs : List Int) (d : Dk) (w hh : Int) (i : Vm.Id) (h : Hp) (hN : d.1 ≤ 900000) (hw : 4 ≤ w ∧ w ≤ 12) (hh1 : 1 ≤ hh ∧ hh ≤ 12) (hd : h.get i = some (deckB bs d)) :
    VC Tryz.prog 12 [.ptr i 0, I w, I hh] h (vM (mdM bs d w hh)) (h.set i (deckB bs (madeX (dNx bs) d w hh).1)) := by
  obtain ⟨W, H, eW, eH, hWw, hHh, hW4, hok, hdn, hX⟩ := madeX_ok (dealt bs) (d := d) hw hh1
  have n1 := (dealt bs).n d (w - 4 + 1)
  have c1 := fun (h2 : Hp) hg => vc_between bs d 4 w (.out i) h2 (by omega) (by omega) (by omega) hg
  rw [show dNx bs d (w - 4 + 1) = mdW (dNx bs) d w from rfl] at c1 n1
  have n2 := (dealt bs).n (mdW (dNx bs) d w).2 (hh - 1 + 1)
  have c2 := fun (h2 : Hp) hg => vc_between bs (mdW (dNx bs) d w).2 1 hh (.out i) h2 (by omega) (by omega) (by omega) hg
  rw [show dNx bs (mdW (dNx bs) d w).2 (hh - 1 + 1) = mdH (dNx bs) d w hh from rfl] at c2 n2
  have hres : mdM bs d w hh = ⟨W, H, (rowsM (dNx bs) W ((mdH (dNx bs) d w hh).2, []) H).2⟩ := by unfold mdM; rw [eW, eH, hX]
  rw [hres, hX]
  rw [eW] at c1
  rw [eH] at c2
  have hR := rowsM_ok (dealt bs) (W := W) hW4 (d := (mdH (dNx bs) d w hh).2)
  have hRs : ∀ y, rowsM (dNx bs) W ((mdH (dNx bs) d w hh).2, []) (y + 1) = rowM (dNx bs) W (rowsM (dNx bs) W ((mdH (dNx bs) d w hh).2, []) y) := fun y => rfl
  have hR0 : rowsM (dNx bs) W ((mdH (dNx bs) d w hh).2, []) 0 = ((mdH (dNx bs) d w hh).2, []) := rfl
  generalize (mdW (dNx bs) d w).2 = D1 at *
  generalize (mdH (dNx bs) d w hh).2 = D0 at *
  generalize rowsM (dNx bs) W (D0, []) = X at *
  clear hres hX hok hdn
  refine VC.bodyC 2 Tryz.func12 rfl Tryz.ntmps12 Tryz.call12 (h.grows_set _ _) rfl ?_
  conv => whnf
  repeat' (first | ((first | refine zs1 ?_ | refine zs2 ?_ | refine zs3 ?_ | refine zs4 ?_ | refine zs5 ?_); conv => whnf) | ((first | apply zi1 | apply zi2 | apply zi3 | apply zi4 | apply zi5) <;> intro _ <;> conv => whnf) | (refine VCall.intro (c1 _ (get_out hd _)) ?_; conv => whnf) | (refine VCall.intro (c2 _ (outW_get _ _ _ _)) ?_; conv => whnf))
  refine VCut.atO (marks := []) 99 [(0, .ptr (.out i) 0), (6, .ptr (.loc 0) 0), (7, .ptr (.loc 1) 0)] (outW h.lift i (deckB bs D0)) [.flat true [DI 0, DI 0, .nilslice], .cells true [I W, I H, .gl (.loc 2) 1 0], .flat true []] ?_ ?_ ?_
  · funext j; by_cases e : j = i <;> simp [outW, e, Hp.set]
  · conv => whnf
    refine Retell.turn ⟨[0,1,2], 2, [], []⟩ (TurnOk.mk' _ _ [] [] (OutOk.outW (OutOk.lift _) rfl) rfl (by decide) zb trivial trivial rfl) zw zm
  conv => whnf
  repeat' (first | ((first | refine zs1 ?_ | refine zs2 ?_ | refine zs3 ?_ | refine zs4 ?_ | refine zs5 ?_); conv => whnf) | ((first | apply zi1 | apply zi2 | apply zi3 | apply zi4 | apply zi5) <;> intro _ <;> conv => whnf))
  refine VCode.lpoH (marks := []) 99 (fun y : Nat => [(0, .ptr (.out i) 0), (6, .ptr (.loc 0) 0), (7, .ptr (.loc 1) 0), (19, I H), (20, I y)]) (fun y => outW h.lift i (deckB bs (X y).1)) (fun y => [.flat true [DI 0, DI 0, .nilslice], .cells true [I W, I H, .gl (.loc 2) 1 (X y).2.length], .flat true ((X y).2.flatMap Vm.encI)]) (fun y => y ≤ H) (fun y => H - y) 0 (Nat.zero_le _) (by rw [hR0]) ?_ ?_
  · rw [hR0]
    conv => whnf
    refine Retell.turn ⟨[0,1,2], 9, [], []⟩ (TurnOk.mk' _ _ [] [] (OutOk.outW (OutOk.lift _) rfl) rfl (by decide) zb trivial trivial rfl) zw zm
  rintro y hy
  rcases Nat.lt_or_ge y H with h4 | h4
  · have hRy := hR y
    have hRs := hRs y
    generalize X y = x at *
    have r1 := hRy.n
    have r2 := hRy.len
    have r3 : (2 + 3 * W) * y ≤ 38 * 12 := Nat.mul_le_mul (by omega) (by omega)
    have r4 : y * W ≤ 12 * 12 := Nat.mul_le_mul (by omega) (by omega)
    have a1 := (dealt bs).lo x.1 (max 1 ((W / 3 : Nat) : Int) - 1 + 1)
    have a2 := (dealt bs).hi x.1 (max 1 ((W / 3 : Nat) : Int) - 1 + 1) (by omega)
    have a3 := (dealt bs).n x.1 (max 1 ((W / 3 : Nat) : Int) - 1 + 1)
    have g1 := fun (h2 : Hp) hg => vc_between bs x.1 1 (max 1 ((W / 3 : Nat) : Int)) (.out i) h2 (by omega) (by omega) (by omega) hg
    rw [show dNx bs x.1 (max 1 ((W / 3 : Nat) : Int) - 1 + 1) = Riv.rowA (dNx bs) W x.1 from rfl] at a1 a2 a3 g1
    unfold rowM Riv.rowB at hRs
    generalize Riv.rowA (dNx bs) W x.1 = ra at *
    have b1 := (dealt bs).lo ra.2 ((W : Int) - 1 - max (1 + ra.1) ((W : Int) - 3) + 1)
    have b2 := (dealt bs).hi ra.2 ((W : Int) - 1 - max (1 + ra.1) ((W : Int) - 3) + 1) (by omega)
    have b3 := (dealt bs).n ra.2 ((W : Int) - 1 - max (1 + ra.1) ((W : Int) - 3) + 1)
    have g2 := fun (h2 : Hp) hg => vc_between bs ra.2 (max (1 + ra.1) ((W : Int) - 3)) ((W : Int) - 1) (.out i) h2 (by omega) (by omega) (by omega) hg
    generalize dNx bs ra.2 ((W : Int) - 1 - max (1 + ra.1) ((W : Int) - 3) + 1) = rb at *
    have hZ := cellsM_ok (dealt bs) (1 + ra.1) (max (1 + ra.1) ((W : Int) - 3) + rb.1) (rb.2, x.2)
    have hZs : ∀ k, cellsM (dNx bs) (1 + ra.1) (max (1 + ra.1) ((W : Int) - 3) + rb.1) (rb.2, x.2) (k + 1) = ((cellM (dNx bs) (1 + ra.1) (max (1 + ra.1) ((W : Int) - 3) + rb.1) (cellsM (dNx bs) (1 + ra.1) (max (1 + ra.1) ((W : Int) - 3) + rb.1) (rb.2, x.2) k).1 k).2, (cellsM (dNx bs) (1 + ra.1) (max (1 + ra.1) ((W : Int) - 3) + rb.1) (rb.2, x.2) k).2 ++ [(cellM (dNx bs) (1 + ra.1) (max (1 + ra.1) ((W : Int) - 3) + rb.1) (cellsM (dNx bs) (1 + ra.1) (max (1 + ra.1) ((W : Int) - 3) + rb.1) (rb.2, x.2) k).1 k).1]) := fun k => rfl
    have hZ0 : cellsM (dNx bs) (1 + ra.1) (max (1 + ra.1) ((W : Int) - 3) + rb.1) (rb.2, x.2) 0 = (rb.2, x.2) := rfl
    have ht : IntKind.i64.wrap ((W : Int).tdiv 3) = ((W / 3 : Nat) : Int) := by rw [tdiv3, wrap_i64 (by omega)]
    rw [← ht] at g1
    generalize max (1 + ra.1) ((W : Int) - 3) + rb.1 = B2 at *
    generalize hA2 : 1 + ra.1 = A2 at *
    generalize cellsM (dNx bs) A2 B2 (rb.2, x.2) = Z at *
    conv => whnf
    repeat' (first | ((first | refine zs1 ?_ | refine zs2 ?_ | refine zs3 ?_ | refine zs4 ?_ | refine zs5 ?_); conv => whnf) | ((first | apply zi1 | apply zi2 | apply zi3 | apply zi4 | apply zi5) <;> intro _ <;> conv => whnf) | (refine VCall.intro (g1 _ (outW_get _ _ _ _)) ?_; conv => whnf) | (refine VCall.intro (g2 _ (outW_get _ _ _ _)) ?_; conv => whnf))
    all_goals try (exfalso; omega)
    refine VCode.lpo (fun k : Nat => [(0, .ptr (.out i) 0), (6, .ptr (.loc 0) 0), (7, .ptr (.loc 1) 0), (8, I A2), (9, I B2), (19, I H), (20, I y), (39, I W), (40, I k)]) (fun k => outW h.lift i (deckB bs (Z k).1)) (fun k => [.flat true [DI 0, DI 0, .nilslice], .cells true [I W, I H, .gl (.loc 2) 1 (Z k).2.length], .flat true ((Z k).2.flatMap Vm.encI)]) (fun k => k ≤ W) (fun k => W - k) 0 (Nat.zero_le _) ?_ ?_ ?_
    · rw [hZ0]; funext j; by_cases e : j = i <;> simp [outW, e]
    · rw [hZ0]
      conv => whnf
      refine Retell.turn ⟨[0,1,2], 9, [], []⟩ (TurnOk.mk' _ _ [] [] (OutOk.outW (OutOk.lift _) rfl) rfl (by decide) zb trivial trivial rfl) zw zm
    rintro k hk
    rcases Nat.lt_or_ge k W with h5 | h5
    · have hZs := hZs k
      obtain ⟨z1, l, z2, z3, _, _⟩ := hZ k
      have z4 : (Z k).2.length = x.2.length + k := by rw [z2, List.length_append, z3]
      clear z2 z3
      dsimp only at z1
      generalize Z k = z at *
      unfold cellM at hZs
      have n7 := (dealt bs).n z.1 7
      have q7 := fun (h2 : Hp) hg => vc_coin bs z.1 7 (.out i) h2 (by omega) hg
      have n20 := (dealt bs).n (dNx bs z.1 7).2 20
      have q20 := fun (h2 : Hp) hg => vc_coin bs (dNx bs z.1 7).2 20 (.out i) h2 (by omega) hg
      have q2 := fun (h2 : Hp) hg => vc_between bs (dNx bs (dNx bs z.1 7).2 20).2 1 2 (.out i) h2 (by omega) (by omega) (by omega) hg
      rw [show (2 : Int) - 1 + 1 = 2 from rfl] at q2
      generalize dNx bs z.1 7 = w7 at *
      generalize dNx bs w7.2 20 = w20 at *
      generalize dNx bs w20.2 2 = w2 at *
      by_cases t1 : (k : Int) < A2
      · rw [if_pos t1] at hZs
        have hs1 : Z (k + 1) = (z.1, z.2 ++ [(1 : Int)]) := hZs
        conv => whnf
        repeat' (first | ((first | refine zs1 ?_ | refine zs2 ?_ | refine zs3 ?_ | refine zs4 ?_ | refine zs5 ?_); conv => whnf) | ((first | apply zi1 | apply zi2 | apply zi3 | apply zi4 | apply zi5) <;> intro _ <;> first | (exfalso; omega) | contradiction | (conv => whnf)))
        refine VMem.app1 (l := z.2) (1 : Int) Vm.encI_len rfl rfl rfl rfl rfl (by omega) ?_
        conv => whnf
        repeat' (first | ((first | refine zs1 ?_ | refine zs2 ?_ | refine zs3 ?_ | refine zs4 ?_ | refine zs5 ?_); conv => whnf) | ((first | apply zi1 | apply zi2 | apply zi3 | apply zi4 | apply zi5) <;> intro _ <;> first | (exfalso; omega) | contradiction | (conv => whnf)))
        refine LEndO.intro (k + 1) (by omega) (by omega) (by rw [hs1]; exact rfl) ?_
        have hl1 : z.2.length + 1 = (z.2 ++ [(1 : Int)]).length := by rw [List.length_append]; rfl
        rw [hs1, hl1]
        dsimp only
        conv => whnf
        refine Retell.turn ⟨[0,1,4], 9, [], []⟩ (TurnOk.mk' _ _ [] [] (OutOk.outW (OutOk.lift _) rfl) rfl (by decide) zb trivial trivial rfl) zw zm
      by_cases t2 : B2 ≤ (k : Int)
      · rw [if_neg t1, if_pos t2] at hZs
        have hs1 : Z (k + 1) = (z.1, z.2 ++ [(2 : Int)]) := hZs
        conv => whnf
        repeat' (first | ((first | refine zs1 ?_ | refine zs2 ?_ | refine zs3 ?_ | refine zs4 ?_ | refine zs5 ?_); conv => whnf) | ((first | apply zi1 | apply zi2 | apply zi3 | apply zi4 | apply zi5) <;> intro _ <;> first | (exfalso; omega) | contradiction | (conv => whnf)))
        refine VMem.app1 (l := z.2) (2 : Int) Vm.encI_len rfl rfl rfl rfl rfl (by omega) ?_
        conv => whnf
        repeat' (first | ((first | refine zs1 ?_ | refine zs2 ?_ | refine zs3 ?_ | refine zs4 ?_ | refine zs5 ?_); conv => whnf) | ((first | apply zi1 | apply zi2 | apply zi3 | apply zi4 | apply zi5) <;> intro _ <;> first | (exfalso; omega) | contradiction | (conv => whnf)))
        refine LEndO.intro (k + 1) (by omega) (by omega) (by rw [hs1]; exact rfl) ?_
        have hl1 : z.2.length + 1 = (z.2 ++ [(2 : Int)]).length := by rw [List.length_append]; rfl
        rw [hs1, hl1]
        dsimp only
        conv => whnf
        refine Retell.turn ⟨[0,1,4], 9, [], []⟩ (TurnOk.mk' _ _ [] [] (OutOk.outW (OutOk.lift _) rfl) rfl (by decide) zb trivial trivial rfl) zw zm
      by_cases t3 : w7.1 = 0
      · rw [if_neg t1, if_neg t2, if_pos t3] at hZs
        have hs1 : Z (k + 1) = (w7.2, z.2 ++ [(3 : Int)]) := hZs
        rw [show (w7.1 == 0) = true by rw [t3]; rfl] at q7
        conv => whnf
        repeat' (first | ((first | refine zs1 ?_ | refine zs2 ?_ | refine zs3 ?_ | refine zs4 ?_ | refine zs5 ?_); conv => whnf) | ((first | apply zi1 | apply zi2 | apply zi3 | apply zi4 | apply zi5) <;> intro _ <;> first | (exfalso; omega) | contradiction | (conv => whnf)) | (refine VCall.intro (q7 _ (outW_get _ _ _ _)) ?_; conv => whnf))
        refine VMem.app1 (l := z.2) (3 : Int) Vm.encI_len rfl rfl rfl rfl rfl (by omega) ?_
        conv => whnf
        repeat' (first | ((first | refine zs1 ?_ | refine zs2 ?_ | refine zs3 ?_ | refine zs4 ?_ | refine zs5 ?_); conv => whnf) | ((first | apply zi1 | apply zi2 | apply zi3 | apply zi4 | apply zi5) <;> intro _ <;> first | (exfalso; omega) | contradiction | (conv => whnf)))
        refine LEndO.intro (k + 1) (by omega) (by omega) (by rw [hs1]; exact (outW_same _ _ _ _)) ?_
        have hl1 : z.2.length + 1 = (z.2 ++ [(3 : Int)]).length := by rw [List.length_append]; rfl
        rw [hs1, hl1]
        dsimp only
        conv => whnf
        refine Retell.turn ⟨[0,1,4], 9, [], []⟩ (TurnOk.mk' _ _ [] [] (OutOk.outW (OutOk.lift _) rfl) rfl (by decide) zb trivial trivial rfl) zw zm
      rw [show (w7.1 == 0) = false by rw [beq_eq_false_iff_ne]; exact t3] at q7
      by_cases t4 : w20.1 = 0
      · rw [if_neg t1, if_neg t2, if_neg t3, if_pos t4] at hZs
        have hs1 : Z (k + 1) = (w2.2, z.2 ++ [1 + w2.1]) := hZs
        rw [show (w20.1 == 0) = true by rw [t4]; rfl] at q20
        conv => whnf
        repeat' (first | ((first | refine zs1 ?_ | refine zs2 ?_ | refine zs3 ?_ | refine zs4 ?_ | refine zs5 ?_); conv => whnf) | ((first | apply zi1 | apply zi2 | apply zi3 | apply zi4 | apply zi5) <;> intro _ <;> first | (exfalso; omega) | contradiction | (conv => whnf)) | (refine VCall.intro (q7 _ (outW_get _ _ _ _)) ?_; conv => whnf) | (refine VCall.intro (q20 _ (outW_get _ _ _ _)) ?_; conv => whnf))
        refine zs6 [(1, 3)] ?_
        conv => whnf
        repeat' (first | ((first | refine zs1 ?_ | refine zs2 ?_ | refine zs3 ?_ | refine zs4 ?_ | refine zs5 ?_); conv => whnf) | ((first | apply zi1 | apply zi2 | apply zi3 | apply zi4 | apply zi5) <;> intro _ <;> first | (exfalso; omega) | contradiction | (conv => whnf)) | (refine VCall.intro (q2 _ (outW_get _ _ _ _)) ?_; conv => whnf))
        refine VMem.app1 (l := z.2) (1 + w2.1 : Int) Vm.encI_len rfl rfl rfl rfl rfl (by omega) ?_
        conv => whnf
        repeat' (first | ((first | refine zs1 ?_ | refine zs2 ?_ | refine zs3 ?_ | refine zs4 ?_ | refine zs5 ?_); conv => whnf) | ((first | apply zi1 | apply zi2 | apply zi3 | apply zi4 | apply zi5) <;> intro _ <;> first | (exfalso; omega) | contradiction | (conv => whnf)))
        refine LEndO.intro (k + 1) (by omega) (by omega) (by rw [hs1]; exact ((outW_same _ _ _ _).trans ((outW_same _ _ _ _).trans (outW_same _ _ _ _)))) ?_
        have hl1 : z.2.length + 1 = (z.2 ++ [(1 + w2.1 : Int)]).length := by rw [List.length_append]; rfl
        rw [hs1, hl1]
        dsimp only
        conv => whnf
        refine Retell.turn ⟨[0,1,4], 9, [], []⟩ (TurnOk.mk' _ _ [] [] (OutOk.outW (OutOk.lift _) rfl) rfl (by decide) zb trivial trivial rfl) zw zm
      · rw [if_neg t1, if_neg t2, if_neg t3, if_neg t4] at hZs
        have hs1 : Z (k + 1) = (w20.2, z.2 ++ [(0 : Int)]) := hZs
        rw [show (w20.1 == 0) = false by rw [beq_eq_false_iff_ne]; exact t4] at q20
        conv => whnf
        repeat' (first | ((first | refine zs1 ?_ | refine zs2 ?_ | refine zs3 ?_ | refine zs4 ?_ | refine zs5 ?_); conv => whnf) | ((first | apply zi1 | apply zi2 | apply zi3 | apply zi4 | apply zi5) <;> intro _ <;> first | (exfalso; omega) | contradiction | (conv => whnf)) | (refine VCall.intro (q7 _ (outW_get _ _ _ _)) ?_; conv => whnf) | (refine VCall.intro (q20 _ (outW_get _ _ _ _)) ?_; conv => whnf))
        refine VMem.app1 (l := z.2) (0 : Int) Vm.encI_len rfl rfl rfl rfl rfl (by omega) ?_
        conv => whnf
        repeat' (first | ((first | refine zs1 ?_ | refine zs2 ?_ | refine zs3 ?_ | refine zs4 ?_ | refine zs5 ?_); conv => whnf) | ((first | apply zi1 | apply zi2 | apply zi3 | apply zi4 | apply zi5) <;> intro _ <;> first | (exfalso; omega) | contradiction | (conv => whnf)))
        refine LEndO.intro (k + 1) (by omega) (by omega) (by rw [hs1]; exact ((outW_same _ _ _ _).trans (outW_same _ _ _ _))) ?_
        have hl1 : z.2.length + 1 = (z.2 ++ [(0 : Int)]).length := by rw [List.length_append]; rfl
        rw [hs1, hl1]
        dsimp only
        conv => whnf
        refine Retell.turn ⟨[0,1,4], 9, [], []⟩ (TurnOk.mk' _ _ [] [] (OutOk.outW (OutOk.lift _) rfl) rfl (by decide) zb trivial trivial rfl) zw zm
    · obtain rfl : k = W := by omega
      rw [← hRs]
      conv => whnf
      repeat' (first | ((first | refine zs1 ?_ | refine zs2 ?_ | refine zs3 ?_ | refine zs4 ?_ | refine zs5 ?_); conv => whnf) | ((first | apply zi1 | apply zi2 | apply zi3 | apply zi4 | apply zi5) <;> intro _ <;> first | (exfalso; omega) | contradiction | (conv => whnf)))
      refine LEndO.intro (y + 1) (by omega) (by omega) rfl ?_
      conv => whnf
      refine Retell.turn ⟨[0,1,2], 9, [], []⟩ (TurnOk.mk' _ _ [] [] (OutOk.outW (OutOk.lift _) rfl) rfl (by decide) zb trivial trivial rfl) zw zm
  · obtain rfl : y = H := by omega
    generalize X y = x at *
    conv => whnf
    repeat' (first | ((first | refine zs1 ?_ | refine zs2 ?_ | refine zs3 ?_ | refine zs4 ?_ | refine zs5 ?_); conv => whnf) | ((first | apply zi1 | apply zi2 | apply zi3 | apply zi4 | apply zi5) <;> intro _ <;> first | (exfalso; omega) | contradiction | (conv => whnf)))
    have hfl : (x.2.flatMap Vm.encI).length = x.2.length * 1 := flat_len Vm.encI_len _
    refine VOut.turn ⟨[], 9, [(2, x.2.flatMap Vm.encI)], []⟩ (loc' := []) (r1' := vM ⟨W, y, x.2⟩) (TurnOk.mk' [] 9 [(2, x.2.flatMap Vm.encI)] [] (OutOk.outW (OutOk.lift _) rfl) rfl List.nodup_nil BTos.nil (FzAll.flat rfl FzAll.nil) trivial rfl) zw ?_
    exact VOut.setF (L := 0) rfl hd fun _ => rfl
end Go.Proofs.YtdblcfkmijigbaaGreat

open Go.Vm
open Riv
namespace Go.Proofs.YtdblcfkmijigbaaGreat
set_option maxRecDepth 20000
set_option maxHeartbeats 4000000
section
variable {W H : Nat} {c : List Int}
abbrev mp (W H : Nat) (c : List Int) : Mp := ⟨W, H, c⟩
end
end Go.Proofs.YtdblcfkmijigbaaGreat

open Go.Vm
open Riv
namespace Go.Proofs.YtdblcfkmijigbaaGreat
set_option maxRecDepth 20000
set_option maxHeartbeats 4000000
theorem VOut.ownM {h : Hp} {loc : List Blk} {p q : Int} {esz n : Nat} {ds : List Vm.D} (j L : Nat) (hL : Nat.ble loc.length L = true) (hj : loc[j]? = some (.flat true ds)) : VOut h ⟨h.lift, loc⟩ (.agg [I p, I q, .gl (.loc j) esz n]) (.agg [I p, I q, .gl h.fresh esz n]) (h.push (.flat true ds)) := by
  refine VOut.upd [] [.flat true ds] [j] L hL (by intro p hp; cases hp) (by simp) rfl ?_ ?_ rfl
  · intro k b hk
    cases k with
    | zero => rw [List.getElem?_cons_zero, Option.some.injEq] at hk; subst hk; exact ⟨j, rfl, hj⟩
    | succ k => simp at hk
  · intro σ x hx
    have : (V.agg [I p, I q, .gl h.fresh esz n]).ren (backR h.loc.length [j] L) = .agg [I p, I q, .gl (.loc j) esz n] := by simp [V.ren, V.rens, backR, Hp.fresh]
    rw [this]; exact hx
theorem vc_cloneIO (l : List Int) (h : Hp) (hl : l.length ≤ 4000000) : VC Tryz.prog 62 [ints l] h (.gl h.fresh 1 l.length) (h.push (.flat true (l.flatMap Vm.encI))) := by
  refine VC.body Tryz.func62 rfl Tryz.ntmps62 Tryz.call62 (h.grows_push _) rfl ?_
  conv => whnf
  repeat' (first | ((first | refine zs1 ?_ | refine zs2 ?_ | refine zs3 ?_ | refine zs4 ?_ | refine zs5 ?_); conv => whnf) | ((first | apply zi1 | apply zi2 | apply zi3 | apply zi4 | apply zi5) <;> intro _ <;> conv => whnf))
  refine VMem.appNil Vm.encI_len rfl rfl rfl (by omega) ?_
  conv => whnf
  repeat' (first | ((first | refine zs1 ?_ | refine zs2 ?_ | refine zs3 ?_ | refine zs4 ?_ | refine zs5 ?_); conv => whnf) | ((first | apply zi1 | apply zi2 | apply zi3 | apply zi4 | apply zi5) <;> intro _ <;> conv => whnf))
  exact VOut.own1 0 1 rfl rfl
theorem vc_CloneMapO (m : Mp) (h : Hp) (hn : m.c.length ≤ 4000000) : VC Tryz.prog 38 [vM m] h (.agg [I m.w, I m.h, .gl h.fresh 1 m.c.length]) (h.push (.flat true (m.c.flatMap Vm.encI))) := by
  have c := fun h => vc_cloneIO m.c h hn
  refine VC.body Tryz.func38 rfl Tryz.ntmps38 Tryz.call38 (h.grows_push _) rfl ?_; conv => whnf
  repeat' (first | ((first | refine zs1 ?_ | refine zs2 ?_ | refine zs3 ?_ | refine zs4 ?_ | refine zs5 ?_); conv => whnf) | ((first | apply zi1 | apply zi2 | apply zi3 | apply zi4 | apply zi5) <;> intro _ <;> conv => whnf))
  refine zs6 [(1, 6), (3, 6)] ?_
  conv => whnf
  repeat' (first | ((first | refine zs1 ?_ | refine zs2 ?_ | refine zs3 ?_ | refine zs4 ?_ | refine zs5 ?_); conv => whnf) | ((first | apply zi1 | apply zi2 | apply zi3 | apply zi4 | apply zi5) <;> intro _ <;> conv => whnf) | (refine VCall.intro (c _) ?_; conv => whnf))
  exact VOut.ownM (h := h) 2 3 rfl rfl
end Go.Proofs.YtdblcfkmijigbaaGreat

open Go.Vm
open Riv
namespace Go.Proofs.YtdblcfkmijigbaaGreat
set_option maxRecDepth 20000
set_option maxHeartbeats 4000000

structure HoldL (R : Prop) : Prop where
  out : R
theorem sufficesL {R G : Prop} (main : HoldL R → G) (rest : R) : G := main ⟨rest⟩
theorem vc_Later {W H : Nat} (bs : List Int) (d : Dk) (c : List Int) (i : Vm.Id) (h : Hp) (o : MOk W H c) (hN : d.1 ≤ 900000) (hd : h.get i = some (deckB bs d)) :
    VC Tryz.prog 14 [.ptr i 0, vM ⟨W, H, c⟩] h (vM ⟨W, H, (laterX (dNx bs) W d c).2⟩) (h.set i (deckB bs (laterX (dNx bs) W d c).1)) := by
  have hm := MOk.le o
  have hW := o.w
  have n1 := (dealt bs).n d 4
  have n2 := (dealt bs).lo d 4
  have n3 := (dealt bs).hi d 4 (by decide)
  have g1 := fun (h2 : Hp) hg => vc_draw bs d 4 (.out i) h2 (by omega) hg
  have hT := fun k => ltrs_ok (dealt bs) (x := ((dNx bs d 4).2, c)) o k
  have hTs : ∀ k, ltrs (dNx bs) W ((dNx bs d 4).2, c) (k + 1) = ltr (dNx bs) W (ltrs (dNx bs) W ((dNx bs d 4).2, c) k) := fun k => rfl
  have hT0 : ltrs (dNx bs) W ((dNx bs d 4).2, c) 0 = ((dNx bs d 4).2, c) := rfl
  have hX : laterX (dNx bs) W d c = ltrs (dNx bs) W ((dNx bs d 4).2, c) (dNx bs d 4).1.toNat := rfl
  rw [hX]
  have c2 : ∀ h : Hp, VC Tryz.prog 38 [.agg [I W, I H, ints c]] h (.agg [I W, I H, .gl h.fresh 1 c.length]) (h.push (.flat true (c.flatMap Vm.encI))) := fun h => vc_CloneMapO ⟨W, H, c⟩ h (by show c.length ≤ _; omega)
  dsimp only at hT
  generalize dNx bs d 4 = q1 at *
  obtain ⟨n, hn⟩ : ∃ n : Nat, q1.1 = n := ⟨q1.1.toNat, by omega⟩
  rw [hn] at g1 ⊢
  rw [Int.toNat_natCast]
  generalize ltrs (dNx bs) W (q1.2, c) = X at *
  show VC Tryz.prog 14 [.ptr i 0, .agg [I W, I H, ints c]] h _ _
  refine VC.bodyC 2 Tryz.func14 rfl Tryz.ntmps14 Tryz.call14 (h.grows_set _ _) rfl ?_
  conv => whnf
  repeat' (first | ((first | refine zs1 ?_ | refine zs2 ?_ | refine zs3 ?_ | refine zs4 ?_ | refine zs5 ?_); conv => whnf) | ((first | apply zi1 | apply zi2 | apply zi3 | apply zi4 | apply zi5) <;> intro _ <;> conv => whnf) | (refine VCall.intro (c2 _) ?_; conv => whnf))
  refine VCut.at' (outer := h.lift) (marks := []) 99 [(0, .ptr (.out i) 0), (3, .ptr (.loc 0) 0), (4, .ptr (.loc 2) 0)] [.cells true [I W, I H, .gl (.loc 1) 1 c.length], .flat true (c.flatMap Vm.encI), .flat true [DI 0, DI 0, .nilslice]] ?_ ?_
  · conv => whnf
    refine Retell.turn ⟨[0,2,1], 9, [], []⟩ (TurnOk.mk' _ _ [] [] (OutOk.lift _) rfl (by decide) zb trivial trivial rfl) zw zm
  conv => whnf
  repeat' (first | ((first | refine zs1 ?_ | refine zs2 ?_ | refine zs3 ?_ | refine zs4 ?_ | refine zs5 ?_); conv => whnf) | ((first | apply zi1 | apply zi2 | apply zi3 | apply zi4 | apply zi5) <;> intro _ <;> conv => whnf) | (refine VCall.intro (g1 _ (get_out hd _)) ?_; conv => whnf))
  refine VCode.lpoH (marks := []) 2 (fun y : Nat => [(0, .ptr (.out i) 0), (3, .ptr (.loc 0) 0), (4, .ptr (.loc 2) 0), (12, I n), (13, I y)]) (fun y => outW h.lift i (deckB bs (X y).1)) (fun y => [.cells true [I W, I H, .gl (.loc 1) 1 (X y).2.length], .flat true ((X y).2.flatMap Vm.encI), .flat true [DI 0, DI 0, .nilslice]]) (fun y => y ≤ n) (fun y => n - y) 0 (Nat.zero_le _) (by rw [hT0]; funext j; by_cases e : j = i <;> simp [outW, e, Hp.set]) ?_ ?_
  · rw [hT0]
    conv => whnf
    refine Retell.turn ⟨[0,1,2], 9, [], []⟩ (TurnOk.mk' _ _ [] [] (OutOk.outW (OutOk.lift _) rfl) rfl (by decide) zb trivial trivial rfl) zw zm
  rintro y hy
  rcases Nat.lt_or_ge y n with h4 | h4
  · obtain ⟨hY, hYn⟩ := hT y
    have hYs := hTs y
    generalize X y = x at *
    have r := ltr_ok (dealt bs) hY
    obtain ⟨r1, r2, r3, r4, r5, r6⟩ := r
    have rl := hY.len
    have rm := MOk.le hY
    have k1 := (dealt bs).n x.1 (x.2.length : Int)
    have f1 := fun (h2 : Hp) hg => vc_draw bs x.1 (x.2.length : Int) (.out i) h2 (by omega) hg
    rw [show dNx bs x.1 (x.2.length : Int) = la (dNx bs) x from rfl] at f1 k1
    have k2 := (dealt bs).n (la (dNx bs) x).2 4
    have f2 := fun (h2 : Hp) hg => vc_draw bs (la (dNx bs) x).2 4 (.out i) h2 (by omega) hg
    rw [show dNx bs (la (dNx bs) x).2 4 = lk (dNx bs) x from rfl] at f2 k2
    have f3 := fun (h2 : Hp) hg => vc_between bs (lk (dNx bs) x).2 1 4 (.out i) h2 (by omega) (by omega) (by omega) hg
    rw [show dNx bs (lk (dNx bs) x).2 (4 - 1 + 1) = lb (dNx bs) x from rfl] at f3
    unfold ltr at hYs r2
    dsimp only at r2
    generalize la (dNx bs) x = A at *
    generalize lk (dNx bs) x = K at *
    generalize lb (dNx bs) x = Bq at *
    obtain ⟨a, ha⟩ : ∃ a : Nat, A.1 = a := ⟨A.1.toNat, by omega⟩
    obtain ⟨m, hm2⟩ : ∃ m : Nat, 1 + Bq.1 = m := ⟨(1 + Bq.1).toNat, by omega⟩
    rw [hm2, ha, Int.toNat_natCast, Int.toNat_natCast] at hYs
    rw [ha] at f1
    rw [hm2] at f3
    have hZ := fun k => lputs_ok (a := a) hY (show 0 ≤ K.1 ∧ K.1 ≤ 3 from r4) k
    have hZs : ∀ k, (List.range (k + 1)).foldl (lput W a K.1) x.2 = lput W a K.1 ((List.range k).foldl (lput W a K.1) x.2) k := fun k => by rw [List.range_succ, List.foldl_append]; rfl
    have hZ0 : (List.range 0).foldl (lput W a K.1) x.2 = x.2 := rfl
    generalize hZe : (fun k => (List.range k).foldl (lput W a K.1) x.2) = Z at *
    have hZ : ∀ k, MOk W H (Z k) := fun k => by rw [← hZe]; exact hZ k
    have hZs : ∀ k, Z (k + 1) = lput W a K.1 (Z k) k := fun k => by rw [← hZe]; exact hZs k
    have hZ0 : Z 0 = x.2 := by rw [← hZe]; rfl
    have hYs : X (y + 1) = (Bq.2, Z m) := by rw [← hZe]; exact hYs
    clear hZe r1
    conv => whnf
    repeat' (first | ((first | refine zs1 ?_ | refine zs2 ?_ | refine zs3 ?_ | refine zs4 ?_ | refine zs5 ?_); conv => whnf) | ((first | apply zi1 | apply zi2 | apply zi3 | apply zi4 | apply zi5) <;> intro _ <;> first | (exfalso; omega) | contradiction | (conv => whnf)))
    refine VCut.block 1 ?_
    conv => whnf
    repeat' (first | ((first | refine zs1 ?_ | refine zs2 ?_ | refine zs3 ?_ | refine zs4 ?_ | refine zs5 ?_); conv => whnf) | ((first | apply zi1 | apply zi2 | apply zi3 | apply zi4 | apply zi5) <;> intro _ <;> first | (exfalso; omega) | contradiction | (conv => whnf)) | (refine VCall.intro (f1 _ (outW_get _ _ _ _)) ?_; conv => whnf) | (refine VCall.intro (f2 _ (outW_get _ _ _ _)) ?_; conv => whnf))
    refine VCut.atO (marks := []) 99 [(0, .ptr (.out i) 0), (3, .ptr (.loc 0) 0), (4, .ptr (.loc 2) 0), (12, I n), (13, I y), (5, I a), (6, I K.1)] (outW h.lift i (deckB bs K.2)) [.cells true [I W, I H, .gl (.loc 1) 1 x.2.length], .flat true (x.2.flatMap Vm.encI), .flat true [DI 0, DI 0, .nilslice]] ?_ ?_ ?_
    · funext j; by_cases e : j = i <;> simp [outW, e]
    · conv => whnf
      refine Retell.turn ⟨[0,1,2], 9, [], []⟩ (TurnOk.mk' _ _ [] [] (OutOk.outW (OutOk.lift _) rfl) rfl (by decide) zb trivial trivial rfl) zw zm
    conv => whnf
    repeat' (first | ((first | refine zs1 ?_ | refine zs2 ?_ | refine zs3 ?_ | refine zs4 ?_ | refine zs5 ?_); conv => whnf) | ((first | apply zi1 | apply zi2 | apply zi3 | apply zi4 | apply zi5) <;> intro _ <;> first | (exfalso; omega) | contradiction | (conv => whnf)) | (refine VCall.intro (f3 _ (outW_get _ _ _ _)) ?_; conv => whnf))
    refine VCode.lpoH (marks := []) 2 (fun k : Nat => [(0, .ptr (.out i) 0), (3, .ptr (.loc 0) 0), (4, .ptr (.loc 2) 0), (12, I n), (13, I y), (5, I a), (6, I K.1), (23, I m), (24, I k)]) (fun _ => outW h.lift i (deckB bs Bq.2)) (fun k => [.cells true [I W, I H, .gl (.loc 1) 1 (Z k).length], .flat true ((Z k).flatMap Vm.encI), .flat true [DI 0, DI 0, .nilslice]]) (fun k => k ≤ m) (fun k => m - k) 0 (Nat.zero_le _) (by funext j; by_cases e : j = i <;> simp [outW, e]) ?_ ?_
    · rw [hZ0]
      conv => whnf
      refine Retell.turn ⟨[0,1,2], 9, [], []⟩ (TurnOk.mk' _ _ [] [] (OutOk.outW (OutOk.lift _) rfl) rfl (by decide) zb trivial trivial rfl) zw zm
    rintro k hk
    rcases Nat.lt_or_ge k m with h5 | h5
    · have z1 := hZ k
      have z2 := hZs k
      generalize Z k = z at *
      have z3 := MOk.le z1
      have z4 := z1.len
      obtain ⟨t, ht⟩ : ∃ t : Nat, t = spot W a k := ⟨_, rfl⟩
      have e1 : (t : Int).tmod (W : Int) = ((t % W : Nat) : Int) := Int.ofNat_tmod t W
      have e2 : t % W < W := Nat.mod_lt t (by omega)
      have e3 : (W : Int) * ((k : Int) - 1) = if 1 < k then ((W * (k - 1) : Nat) : Int) else (W : Int) * ((k : Int) - 1) := by
        split
        · rw [Int.natCast_mul, show ((k - 1 : Nat) : Int) = (k : Int) - 1 by omega]
        · rfl
      have e4 : W * (k - 1) ≤ 12 * 4 := Nat.mul_le_mul (by omega) (by omega)
      unfold lput at z2
      rw [← ht] at z2
      have te : t ≤ 1000000 := by
        rw [ht]
        unfold spot
        split <;> omega
      unfold spot at ht
      generalize t % W = p at *
      apply sufficesL
      · intro hrest
        by_cases hk1 : 1 < k
        · rw [if_pos hk1] at e3 ht
          conv => whnf
          repeat' (first | ((first | refine zs1 ?_ | refine zs2 ?_ | refine zs3 ?_ | refine zs4 ?_ | refine zs5 ?_); conv => whnf) | ((first | apply zi1 | apply zi2 | apply zi3 | apply zi4 | apply zi5) <;> intro _ <;> first | (exfalso; omega) | contradiction | (conv => whnf)))
          refine VCut.block 3 ?_
          conv => whnf
          repeat' (first | ((first | refine zs1 ?_ | refine zs2 ?_ | refine zs3 ?_ | refine zs4 ?_ | refine zs5 ?_); conv => whnf) | ((first | apply zi1 | apply zi2 | apply zi3 | apply zi4 | apply zi5) <;> intro _ <;> first | (exfalso; omega) | contradiction | (conv => whnf)) | (rw [e3]; refine VArith.ok (by omega) ?_; conv => whnf))
          refine VCut.atO (marks := []) 99 [(0, .ptr (.out i) 0), (3, .ptr (.loc 0) 0), (4, .ptr (.loc 2) 0), (12, I n), (13, I y), (5, I a), (6, I K.1), (23, I m), (24, I k), (8, I t)] (outW h.lift i (deckB bs Bq.2)) [.cells true [I W, I H, .gl (.loc 1) 1 z.length], .flat true (z.flatMap Vm.encI), .flat true [DI 0, DI 0, .nilslice]] rfl ?_ hrest.out
          conv => whnf
          refine Retell.turn ⟨[0,1,2], 9, [], []⟩ (TurnOk.mk' _ _ [] [] (OutOk.outW (OutOk.lift _) rfl) rfl (by decide) zb trivial trivial rfl) zw zm
        · rw [if_neg hk1] at ht
          conv => whnf
          repeat' (first | ((first | refine zs1 ?_ | refine zs2 ?_ | refine zs3 ?_ | refine zs4 ?_ | refine zs5 ?_); conv => whnf) | ((first | apply zi1 | apply zi2 | apply zi3 | apply zi4 | apply zi5) <;> intro _ <;> first | (exfalso; omega) | contradiction | (conv => whnf)))
          refine VCut.block 3 ?_
          conv => whnf
          repeat' (first | ((first | refine zs1 ?_ | refine zs2 ?_ | refine zs3 ?_ | refine zs4 ?_ | refine zs5 ?_); conv => whnf) | ((first | apply zi1 | apply zi2 | apply zi3 | apply zi4 | apply zi5) <;> intro _ <;> first | (exfalso; omega) | contradiction | (conv => whnf)))
          refine VCut.atO (marks := []) 99 [(0, .ptr (.out i) 0), (3, .ptr (.loc 0) 0), (4, .ptr (.loc 2) 0), (12, I n), (13, I y), (5, I a), (6, I K.1), (23, I m), (24, I k), (8, I t)] (outW h.lift i (deckB bs Bq.2)) [.cells true [I W, I H, .gl (.loc 1) 1 z.length], .flat true (z.flatMap Vm.encI), .flat true [DI 0, DI 0, .nilslice]] rfl ?_ hrest.out
          conv => whnf
          refine Retell.turn ⟨[0,1,2], 9, [], []⟩ (TurnOk.mk' _ _ [] [] (OutOk.outW (OutOk.lift _) rfl) rfl (by decide) zb trivial trivial rfl) zw zm
      clear ht e3 e4
      have e5 : t ≤ 1000000 := te
      by_cases hc : t < z.length ∧ 0 < p ∧ p < W - 1
      · rw [if_pos hc] at z2
        have zt := at0_get (l := z) (n := t) hc.1
        have zl : (z.set t K.1).length = z.length := List.length_set
        conv => whnf
        repeat' (first | ((first | refine zs1 ?_ | refine zs2 ?_ | refine zs3 ?_ | refine zs4 ?_ | refine zs5 ?_); conv => whnf) | ((first | apply zi1 | apply zi2 | apply zi3 | apply zi4 | apply zi5) <;> intro _ <;> first | (exfalso; omega) | contradiction | (conv => whnf)))
        refine zs6 [] ?_
        conv => whnf
        repeat' (first | ((first | refine zs1 ?_ | refine zs2 ?_ | refine zs3 ?_ | refine zs4 ?_ | refine zs5 ?_); conv => whnf) | ((first | apply zi1 | apply zi2 | apply zi3 | apply zi4 | apply zi5) <;> intro _ <;> first | (exfalso; omega) | contradiction | (conv => whnf)) | (refine VMem.setRec Vm.encI_len t 0 K.1 rfl rfl rfl zt (by decide) rfl (ofs _) ?_; conv => whnf))
        refine LEndO.intro (k + 1) (by omega) (by omega) rfl ?_
        rw [z2, zl]
        conv => whnf
        refine Retell.turn ⟨[0,1,2], 9, [], []⟩ (TurnOk.mk' _ _ [] [] (OutOk.outW (OutOk.lift _) rfl) rfl (by decide) zb trivial trivial rfl) zw zm
      · rw [if_neg hc] at z2
        conv => whnf
        repeat' (first | ((first | refine zs1 ?_ | refine zs2 ?_ | refine zs3 ?_ | refine zs4 ?_ | refine zs5 ?_); conv => whnf) | ((first | apply zi1 | apply zi2 | apply zi3 | apply zi4 | apply zi5) <;> intro _ <;> first | (exfalso; omega) | contradiction | (conv => whnf)))
        refine zs6 [] ?_
        conv => whnf
        repeat' (first | ((first | refine zs1 ?_ | refine zs2 ?_ | refine zs3 ?_ | refine zs4 ?_ | refine zs5 ?_); conv => whnf) | ((first | apply zi1 | apply zi2 | apply zi3 | apply zi4 | apply zi5) <;> intro _ <;> first | (exfalso; omega) | contradiction | (conv => whnf)))
        all_goals (
          refine LEndO.intro (k + 1) (by omega) (by omega) rfl ?_
          rw [z2]
          conv => whnf
          refine Retell.turn ⟨[0,1,2], 9, [], []⟩ (TurnOk.mk' _ _ [] [] (OutOk.outW (OutOk.lift _) rfl) rfl (by decide) zb trivial trivial rfl) zw zm)
    · obtain rfl : k = m := by omega
      conv => whnf
      repeat' (first | ((first | refine zs1 ?_ | refine zs2 ?_ | refine zs3 ?_ | refine zs4 ?_ | refine zs5 ?_); conv => whnf) | ((first | apply zi1 | apply zi2 | apply zi3 | apply zi4 | apply zi5) <;> intro _ <;> first | (exfalso; omega) | contradiction | (conv => whnf)))
      refine LEndO.intro (y + 1) (by omega) (by omega) (by rw [hYs]) ?_
      rw [hYs]
      conv => whnf
      refine Retell.turn ⟨[0,1,2], 9, [], []⟩ (TurnOk.mk' _ _ [] [] (OutOk.outW (OutOk.lift _) rfl) rfl (by decide) zb trivial trivial rfl) zw zm
  · obtain rfl : y = n := by omega
    generalize X y = x at *
    conv => whnf
    repeat' (first | ((first | refine zs1 ?_ | refine zs2 ?_ | refine zs3 ?_ | refine zs4 ?_ | refine zs5 ?_); conv => whnf) | ((first | apply zi1 | apply zi2 | apply zi3 | apply zi4 | apply zi5) <;> intro _ <;> first | (exfalso; omega) | contradiction | (conv => whnf)))
    have hfl : (x.2.flatMap Vm.encI).length = x.2.length * 1 := flat_len Vm.encI_len _
    refine VOut.turn ⟨[], 9, [(1, x.2.flatMap Vm.encI)], []⟩ (loc' := []) (r1' := vM ⟨W, H, x.2⟩) (TurnOk.mk' [] 9 [(1, x.2.flatMap Vm.encI)] [] (OutOk.outW (OutOk.lift _) rfl) rfl List.nodup_nil BTos.nil (FzAll.flat rfl FzAll.nil) trivial rfl) zw ?_
    exact VOut.setF (L := 0) rfl hd fun _ => rfl
end Go.Proofs.YtdblcfkmijigbaaGreat

open Go.Vm
open Riv
namespace Go.Proofs.YtdblcfkmijigbaaGreat
set_option maxRecDepth 20000
set_option maxHeartbeats 4000000

abbrev mpl (W H : Nat) (L : List (List Int)) : List Mp := L.map (mp W H)
theorem getLast_at {L : List (List Int)} {k : Nat} (h : L.length = k + 1) : L[k]? = some (L.getLastD []) := by
  rw [List.getLastD_eq_getLast?, List.getLast?_eq_getElem?, h, Nat.add_sub_cancel, List.getElem?_eq_getElem (by omega)]; rfl
theorem vc_Aged (bs : List Int) (d : Dk) (w hh y : Int) (hN : d.1 ≤ 800000) (hw : 4 ≤ w ∧ w ≤ 12) (hh1 : 1 ≤ hh ∧ hh ≤ 12) (hy : 1 ≤ y ∧ y ≤ 10) : ∃ W H : Nat, (W : Int) ≤ w ∧ (H : Int) ≤ hh ∧ 4 ≤ W ∧ (∀ c ∈ (agedX (dNx bs) d w hh y).2, MOk W H c) ∧ (1 ≤ (agedX (dNx bs) d w hh y).2.length ∧ ((agedX (dNx bs) d w hh y).2.length : Int) ≤ y) ∧ (agedX (dNx bs) d w hh y).1.1 ≤ d.1 + 700 ∧
    ∀ (i : Vm.Id) (h : Hp), h.get i = some (deckB bs d) → VC Tryz.prog 4 [.ptr i 0, I w, I hh, I y] h (yrs (mpl W H (agedX (dNx bs) d w hh y).2)) (h.set i (deckB bs (agedX (dNx bs) d w hh y).1)) := by
  obtain ⟨W, H, e1, e2, e3, e4, e5, e6, e7, e8⟩ := madeX_ok (dealt bs) (d := d) hw hh1
  have a1 := (dealt bs).lo (madeX (dNx bs) d w hh).1 y
  have a2 := (dealt bs).hi (madeX (dNx bs) d w hh).1 y (by omega)
  have a3 := (dealt bs).n (madeX (dNx bs) d w hh).1 y
  have g1 := fun i (h2 : Hp) hg => vc_draw bs (madeX (dNx bs) d w hh).1 y i h2 (by omega) hg
  rw [show dNx bs (madeX (dNx bs) d w hh).1 y = ag0 (dNx bs) d w hh y from rfl] at a1 a2 a3 g1
  have hI := agI_ok (dealt bs) (W := W) (H := H) (N := (ag0 (dNx bs) d w hh y).2.1) (x := ((ag0 (dNx bs) d w hh y).2, [(madeX (dNx bs) d w hh).2])) ⟨Nat.le_refl _, rfl, fun c hc => by rw [List.mem_singleton.1 hc]; exact e6⟩
  have hX : agedX (dNx bs) d w hh y = agI (dNx bs) W ((ag0 (dNx bs) d w hh y).2, [(madeX (dNx bs) d w hh).2]) (ag0 (dNx bs) d w hh y).1.toNat := by
    unfold agedX
    rw [e1, Int.toNat_natCast]
  have hXs : ∀ k, agI (dNx bs) W ((ag0 (dNx bs) d w hh y).2, [(madeX (dNx bs) d w hh).2]) (k + 1) = agS (dNx bs) W (agI (dNx bs) W ((ag0 (dNx bs) d w hh y).2, [(madeX (dNx bs) d w hh).2]) k) := fun k => rfl
  have hX0 : agI (dNx bs) W ((ag0 (dNx bs) d w hh y).2, [(madeX (dNx bs) d w hh).2]) 0 = ((ag0 (dNx bs) d w hh y).2, [(madeX (dNx bs) d w hh).2]) := rfl
  have h2 := (hI (ag0 (dNx bs) d w hh y).1.toNat).len
  have h1 := (hI (ag0 (dNx bs) d w hh y).1.toNat).n
  refine ⟨W, H, e3, e4, e5, by rw [hX]; exact (hI _).ok, by rw [hX, h2]; omega, by rw [hX]; omega, fun i h hd => ?_⟩
  rw [hX]
  have c1 := fun (h2 : Hp) hg => vc_Made bs d w hh (.out i) h2 (by omega) hw hh1 hg
  unfold mdM at c1
  rw [e1, e2] at c1
  have g1 := g1 (.out i)
  generalize (madeX (dNx bs) d w hh).1 = D1 at *
  generalize (madeX (dNx bs) d w hh).2 = c at *
  generalize ag0 (dNx bs) d w hh y = q1 at *
  obtain ⟨n, hn⟩ : ∃ n : Nat, q1.1 = n := ⟨q1.1.toNat, by omega⟩
  rw [hn] at g1 ⊢
  rw [Int.toNat_natCast]
  generalize agI (dNx bs) W (q1.2, [c]) = X at *
  clear h1 h2 hX
  refine VC.bodyC 2 Tryz.func4 rfl Tryz.ntmps4 Tryz.call4 (h.grows_set _ _) rfl ?_
  conv => whnf
  repeat' (first | ((first | refine zs1 ?_ | refine zs2 ?_ | refine zs3 ?_ | refine zs4 ?_ | refine zs5 ?_); conv => whnf) | ((first | apply zi1 | apply zi2 | apply zi3 | apply zi4 | apply zi5) <;> intro _ <;> conv => whnf) | (refine VCall.intro (c1 _ (get_out hd _)) ?_; conv => whnf))
  refine VCut.atO (marks := []) 99 [(0, .ptr (.out i) 0), (3, I y), (9, .gl (.loc 0) 3 1)] (outW h.lift i (deckB bs D1)) [.flat true ((mpl W H [c]).flatMap encM)] ?_ ?_ ?_
  · funext j; by_cases e : j = i <;> simp [outW, e, Hp.set]
  · conv => whnf
    refine Retell.turn ⟨[0], 2, [], []⟩ (TurnOk.mk' _ _ [] [] (OutOk.outW (OutOk.lift _) rfl) rfl (by decide) zb trivial trivial rfl) zw zm
  conv => whnf
  repeat' (first | ((first | refine zs1 ?_ | refine zs2 ?_ | refine zs3 ?_ | refine zs4 ?_ | refine zs5 ?_); conv => whnf) | ((first | apply zi1 | apply zi2 | apply zi3 | apply zi4 | apply zi5) <;> intro _ <;> conv => whnf) | (refine VCall.intro (g1 _ (outW_get _ _ _ _)) ?_; conv => whnf))
  refine VCode.lpoH (marks := []) 2 (fun k : Nat => [(0, .ptr (.out i) 0), (9, .gl (.loc 0) 3 (mpl W H (X k).2).length), (17, I n), (18, I k)]) (fun k => outW h.lift i (deckB bs (X k).1)) (fun k => [.flat true ((mpl W H (X k).2).flatMap encM)]) (fun k => k ≤ n) (fun k => n - k) 0 (Nat.zero_le _) (by rw [hX0]; funext j; by_cases e : j = i <;> simp [outW, e]) ?_ ?_
  · rw [hX0]
    conv => whnf
    refine Retell.turn ⟨[0], 9, [], []⟩ (TurnOk.mk' _ _ [] [] (OutOk.outW (OutOk.lift _) rfl) rfl (by decide) zb trivial trivial rfl) zw zm
  rintro k hk
  rcases Nat.lt_or_ge k n with h4 | h4
  · obtain ⟨p1, p2, p3⟩ := hI k
    have hXs := hXs k
    have hl := getLast_at p2
    have hM : (X k).2.getLastD [] ∈ (X k).2 := List.mem_of_getElem? hl
    generalize X k = x at *
    try dsimp only at p1
    unfold agS at hXs
    have hLL : (mpl W H x.2).length = k + 1 := by rw [List.length_map, p2]
    have hlm : (mpl W H x.2)[k]? = some (mp W H (x.2.getLastD [])) := by rw [List.getElem?_map, hl]; rfl
    have hof : ((mpl W H x.2).length : Int) - 1 = k := by rw [hLL]; omega
    have f1 := fun (h2 : Hp) hg => vc_Later bs x.1 (x.2.getLastD []) (.out i) h2 (p3 _ hM) (by omega) hg
    generalize x.2.getLastD [] = lc at *
    generalize laterX (dNx bs) W x.1 lc = lx at *
    conv => whnf
    repeat' (first | ((first | refine zs1 ?_ | refine zs2 ?_ | refine zs3 ?_ | refine zs4 ?_ | refine zs5 ?_); conv => whnf) | ((first | apply zi1 | apply zi2 | apply zi3 | apply zi4 | apply zi5) <;> intro _ <;> first | (exfalso; omega) | contradiction | (conv => whnf)))
    refine VCut.block 99 ?_
    conv => whnf
    repeat' (first | ((first | refine zs1 ?_ | refine zs2 ?_ | refine zs3 ?_ | refine zs4 ?_ | refine zs5 ?_); conv => whnf) | ((first | apply zi1 | apply zi2 | apply zi3 | apply zi4 | apply zi5) <;> intro _ <;> first | (exfalso; omega) | contradiction | (conv => whnf)) | (refine VLd.recd encM_len k rfl rfl rfl rfl hlm (by rw [hof]; simp) ?_; conv => whnf) | (refine VCall.intro (f1 _ (outW_get _ _ _ _)) ?_; conv => whnf) | (refine VMem.app1 (l := mpl W H x.2) (mp W H lx.2) encM_len rfl rfl rfl rfl rfl (by omega) ?_; conv => whnf))
    refine LEndO.intro (k + 1) (by omega) (by omega) (by rw [hXs]; exact (outW_same _ _ _ _)) ?_
    have hmm : mpl W H (x.2 ++ [lx.2]) = mpl W H x.2 ++ [mp W H lx.2] := by rw [mpl, List.map_append]; rfl
    rw [hXs]
    dsimp only
    rw [hmm, List.length_append, List.length_singleton]
    conv => whnf
    refine Retell.turn ⟨[2], 9, [], []⟩ (TurnOk.mk' _ _ [] [] (OutOk.outW (OutOk.lift _) rfl) rfl (by decide) zb trivial trivial rfl) zw zm
  · obtain rfl : k = n := by omega
    generalize X k = x at *
    conv => whnf
    repeat' (first | ((first | refine zs1 ?_ | refine zs2 ?_ | refine zs3 ?_ | refine zs4 ?_ | refine zs5 ?_); conv => whnf) | ((first | apply zi1 | apply zi2 | apply zi3 | apply zi4 | apply zi5) <;> intro _ <;> first | (exfalso; omega) | contradiction | (conv => whnf)))
    have hfl : ((mpl W H x.2).flatMap encM).length = (mpl W H x.2).length * 3 := flat_len encM_len _
    refine VOut.turn ⟨[], 9, [(0, (mpl W H x.2).flatMap encM)], []⟩ (loc' := []) (r1' := yrs (mpl W H x.2)) (TurnOk.mk' [] 9 [(0, (mpl W H x.2).flatMap encM)] [] (OutOk.outW (OutOk.lift _) rfl) rfl List.nodup_nil BTos.nil (FzAll.flat rfl FzAll.nil) trivial rfl) zw ?_
    exact VOut.setF (L := 0) rfl hd fun _ => rfl
end Go.Proofs.YtdblcfkmijigbaaGreat

open Go.Vm
open Riv
namespace Go.Proofs.YtdblcfkmijigbaaGreat
set_option maxRecDepth 20000
set_option maxHeartbeats 4000000
section
variable {W H : Nat} {L : List (List Int)}
theorem mpl_len : (mpl W H L).length = L.length := List.length_map _
theorem mpl_at {y : Nat} (hy : y < L.length) : (mpl W H L)[y]? = some (mp W H (L.getD y [])) := by
  rw [List.getElem?_map, List.getD_eq_getElem?_getD, List.getElem?_eq_getElem hy]; rfl
theorem mpl_getD {y : Nat} (hy : y < L.length) : (mpl W H L).getD y mp0 = mp W H (L.getD y []) := by
  rw [List.getD_eq_getElem?_getD, mpl_at hy]; rfl
theorem mpl_ok (hL : ∀ c ∈ L, MOk W H c) : ∀ m ∈ mpl W H L, m.w = W ∧ m.h = H ∧ MOk W H m.c := fun m hm => by
  obtain ⟨c, hc, rfl⟩ := List.mem_map.1 hm
  exact ⟨rfl, rfl, hL c hc⟩
theorem mpl_few (hL : ∀ c ∈ L, MOk W H c) : ∀ m ∈ mpl W H L, m.c.length ≤ 4000000 := fun m hm => by
  have := MOk.le (mpl_ok hL m hm).2.2
  omega
theorem mpl_chk (hL : ∀ c ∈ L, MOk W H c) (hn : 1 ≤ L.length ∧ L.length ≤ 10) : chkY (mpl W H L) = 0 := chkY_of (by rw [mpl_len]; exact hn) (mpl_ok hL)
theorem cells_mpl : cellsY (mpl W H L) = L := by
  unfold cellsY
  rw [List.map_map]
  exact List.map_id' _
theorem wOf_mpl (hn : 1 ≤ L.length) : wOf (mpl W H L) = W := by
  cases L with
  | nil => simp at hn
  | cons c l => rfl
theorem lawL_at {y : Nat} {slow : Int} (hy : y < L.length) : (lawL W L slow)[y]? = some (lawAt W L slow y) := by
  unfold lawL; rw [List.getElem?_map, List.getElem?_range hy]; rfl
theorem lawL_len (slow : Int) : (lawL W L slow).length = L.length := by unfold lawL; rw [List.length_map, List.length_range]
theorem lawY_mpl (slow : Int) : lawY W (mpl W H L) slow = mpl W H (lawL W L slow) := by
  apply List.ext_getElem?
  intro y
  rcases Nat.lt_or_ge y L.length with h | h
  · rw [lawY_at (by rw [mpl_len]; exact h), mpl_getD h, cells_mpl, List.getElem?_map, lawL_at h]; rfl
  · rw [List.getElem?_eq_none (by rw [lawY_len, mpl_len]; exact h), List.getElem?_eq_none (by rw [mpl_len, lawL_len]; exact h)]
theorem kL (hL : ∀ c ∈ L, MOk W H c) (hn : 1 ≤ L.length ∧ L.length ≤ 10) {slow : Int} (hs : 0 ≤ slow ∧ slow ≤ 144) (h : Hp) : VC Tryz.prog 6 [yrs (mpl W H L), I slow] h (.tuple [yrs (mpl W H (lawL W L slow)), I 0]) h := by
  have := vc_Law (mpl W H L) slow h (by rw [mpl_len]; omega) (mpl_few hL)
  have e : rlE (mpl W H L) slow = 0 := by unfold rlE; rw [if_pos (mpl_chk hL hn), if_pos hs]
  unfold lwA at this
  rw [e, if_pos rfl, wOf_mpl hn.1, lawY_mpl] at this
  exact this
end
end Go.Proofs.YtdblcfkmijigbaaGreat

open Go.Vm
namespace Go.Proofs.YtdblcfkmijigbaaGreat.Sl
set_option maxRecDepth 20000
set_option maxHeartbeats 400000

structure Pap where
  side : Int
  lo : Int
  hi : Int
  deriving DecidableEq
def encP (p : Pap) : List D := [DI p.side, DI p.lo, DI p.hi]
theorem encP_len (p : Pap) : (encP p).length = 3 := rfl
structure Fil where
  Y : Int
  G : Int
  ps : List Pap
def paps (ps : List Pap) : V := .fs 3 ps.length (ps.flatMap encP)
def vF (f : Fil) : V := .agg [I f.Y, I f.G, paps f.ps]
def encF (f : Fil) : List D := [DI f.Y, DI f.G, .sl 3 f.ps.length (f.ps.flatMap encP)]
theorem vc_from (n a b : Int) (h : Hp) : VC Tryz.prog 31 [I n, I a, I b] h (B (decide (a ≤ n ∧ n ≤ b))) h := by
  refine VC.body Tryz.func31 rfl Tryz.ntmps31 Tryz.call31 (h.grows_refl) rfl ?_; conv => whnf
  repeat' (first | ((first | refine zs1 ?_ | refine zs2 ?_ | refine zs3 ?_ | refine zs4 ?_ | refine zs5 ?_ | refine zs6 [] ?_); conv => whnf) | ((first | apply zi1 | apply zi2 | apply zi3 | apply zi4 | apply zi5) <;> intro _ <;> conv => whnf))
  all_goals (refine VOut.same ?_; simp [V.ren]; try omega)
def badPap (p : Pap) : Prop := ¬ (p.side = 0 ∨ p.side = 1) ∨ ¬ (0 ≤ p.lo ∧ p.lo ≤ 3000) ∨ ¬ (p.lo ≤ p.hi ∧ p.hi ≤ min 3000 (p.lo + 3))
instance (p : Pap) : Decidable (badPap p) := by unfold badPap; infer_instance
def chkGo : List Pap → Int → Int
  | [], _ => 0
  | p :: r, last => if badPap p then 4 else if p.lo ≤ last then 5 else chkGo r p.hi
def chk (f : Fil) : Int :=
  if ¬ (1 ≤ f.Y ∧ f.Y ≤ 500) ∨ ¬ (1 ≤ f.G ∧ f.G ≤ 200) then 4 else if 16 < f.ps.length then 3 else chkGo f.ps (-1)
theorem chkGo_at {ps : List Pap} {k : Nat} {p : Pap} {last : Int} (h : ps[k]? = some p) : chkGo (ps.drop k) last = if badPap p then 4 else if p.lo ≤ last then 5 else chkGo (ps.drop (k + 1)) p.hi := by
  obtain ⟨hlt, rfl⟩ := List.getElem?_eq_some_iff.1 h
  rw [List.drop_eq_getElem_cons hlt, chkGo]
set_option maxHeartbeats 1000000 in
theorem vc_check (f : Fil) (h : Hp) (hn : f.ps.length ≤ 4000000) : VC Tryz.prog 30 [vF f] h (I (chk f)) h := by
  refine VC.body Tryz.func30 rfl Tryz.ntmps30 Tryz.call30 (h.grows_refl) rfl ?_; conv => whnf
  repeat' (first | ((first | refine zs1 ?_ | refine zs2 ?_ | refine zs3 ?_ | refine zs4 ?_ | refine zs5 ?_ | refine zs6 [] ?_); conv => whnf) | ((first | apply zi1 | apply zi2 | apply zi3 | apply zi4 | apply zi5) <;> intro _ <;> conv => whnf) | (refine VCall.intro (vc_from _ _ _ _) ?_; conv => whnf))
  · refine VOut.same ?_; simp [V.ren, chk]; omega
  · refine VOut.same ?_; simp [V.ren, chk]; omega
  · refine VOut.same ?_; simp [V.ren, chk]; omega
  · rename_i h1 h2 h3
    have hc : chk f = chkGo f.ps (-1) := by simp [chk]; omega
    refine VCode.lp (fun x : Nat × Int => [(1, .ptr (.loc 0) 0), (2, I 0), (3, I x.2), (23, paps f.ps), (24, I f.ps.length), (25, I x.1)]) (fun _ => [.flat true (encF f)]) (fun x => x.1 ≤ f.ps.length ∧ chkGo f.ps (-1) = chkGo (f.ps.drop x.1) x.2) (fun x => f.ps.length - x.1) (0, -1) (by simp) ?_ ?_
    · conv => whnf
      refine Retell.turn ⟨[0], 1, [], []⟩ (TurnOk.mk' _ _ [] [] (OutOk.lift _) rfl (by decide) zb trivial trivial rfl) zv zm
    · rintro ⟨k, last⟩ ⟨h4, h5⟩
      simp only at h4 h5
      conv => whnf
      refine VIte.dec (fun h6 => ?_) (fun h6 => ?_)
      · have hk : f.ps[k]? = some f.ps[k] := List.getElem?_eq_getElem (by omega)
        generalize f.ps[k] = p at hk
        rw [chkGo_at hk] at h5
        conv => whnf
        refine VAny.ix encP_len k rfl rfl hk ?_
        conv => whnf
        repeat' (first | ((first | refine zs1 ?_ | refine zs2 ?_ | refine zs3 ?_ | refine zs4 ?_ | refine zs5 ?_ | refine zs6 [] ?_); conv => whnf) | ((first | apply zi1 | apply zi2 | apply zi3 | apply zi4 | apply zi5) <;> intro _ <;> conv => whnf) | (refine VCall.intro (vc_from _ _ _ _) ?_; conv => whnf))
        all_goals first
          | (rw [if_pos (by unfold badPap; omega)] at h5; refine VOut.same ?_; simp [V.ren, hc, h5]; done)
          | (rw [if_neg (by unfold badPap; omega), if_pos (by omega)] at h5; refine VOut.same ?_; simp [V.ren, hc, h5]; done)
          | (rw [if_neg (by unfold badPap; omega), if_neg (by omega)] at h5
             refine LEnd.intro (k + 1, p.hi) ⟨by simp only; omega, h5⟩ (by simp only; omega) ?_
             conv => whnf
             refine Retell.turn ⟨[0], 2, [], []⟩ (TurnOk.mk' _ _ [] [] (OutOk.lift _) rfl (by decide) zb trivial trivial rfl) zv zm)
      · conv => whnf
        refine VOut.same ?_
        have : f.ps.length ≤ k := by omega
        rw [List.drop_of_length_le (by omega), chkGo] at h5
        simp [V.ren, hc, h5]
end Go.Proofs.YtdblcfkmijigbaaGreat.Sl

open Go.Vm
namespace Go.Proofs.YtdblcfkmijigbaaGreat.Sl
set_option maxRecDepth 20000
set_option maxHeartbeats 1000000

def holdsS : List Pap → List Int → Bool
  | p :: ps, y :: t => decide (p.lo ≤ y ∧ y ≤ p.hi) && holdsS ps t
  | _, _ => true
theorem vc_holds1 (f : Fil) (p : Pap) (i : Nat) (y : Int) (h : Hp) (hp : f.ps[i]? = some p) : VC Tryz.prog 73 [I i, I y, .fp (encF f)] h (B (decide (p.lo ≤ y ∧ y ≤ p.hi))) h := by
  refine VC.body Tryz.func73 rfl Tryz.ntmps73 Tryz.call73 (h.grows_refl) rfl ?_; conv => whnf
  repeat' (first | ((first | refine zs1 ?_ | refine zs2 ?_ | refine zs3 ?_ | refine zs4 ?_ | refine zs5 ?_ | refine zs6 [] ?_); conv => whnf) | ((first | apply zi1 | apply zi2 | apply zi3 | apply zi4 | apply zi5) <;> intro _ <;> conv => whnf) | (refine VAny.ix encP_len i rfl rfl hp ?_; conv => whnf) | (refine VCall.intro (vc_from _ _ _ _) ?_; conv => whnf))
  all_goals (refine VOut.same ?_; simp [V.ren]; try omega)
def eachS (p : Nat → Int → Bool) : Nat → List Int → Bool
  | _, [] => true
  | i, x :: l => p i x && eachS p (i + 1) l
theorem vc_each (l : List Int) (p : Nat → Int → Bool) (g : FuncId) (caps : List D) (hl : l.length ≤ 4000000) (hso : ∀ (i : Nat) (x : Int) (h : Hp), l[i]? = some x → VC Tryz.prog g ([I i, I x] ++ D.vs caps) h (B (p i x)) h) (h : Hp) :
    VC Tryz.prog 53 [ints l, .func (.func g) [] (D.vs caps)] h (B (eachS p 0 l)) h := by
  refine VC.body Tryz.func53 rfl Tryz.ntmps53 Tryz.call53 (h.grows_refl) rfl ?_; conv => whnf
  rw [rens_dvs]
  refine VCode.lp (fun k : Nat => [(1, .func (.func g) [] (D.vs caps)), (4, B false), (7, ints l), (8, I l.length), (9, I k)]) (fun _ => []) (fun k => k ≤ l.length ∧ eachS p 0 l = eachS p k (l.drop k)) (fun k => l.length - k) 0 (by simp) ?_ ?_
  · conv => whnf
    refine Retell.turn ⟨[], 0, [], []⟩ (TurnOk.mk' _ _ [] [] (OutOk.lift _) rfl (by decide) zb trivial trivial rfl) zv zm
  · rintro k ⟨h1, h2⟩
    conv => whnf
    refine VIte.dec (fun h3 => ?_) (fun h3 => ?_)
    · have hk : l[k]? = some l[k] := List.getElem?_eq_getElem (by omega)
      rw [List.drop_eq_getElem_cons (by omega)] at h2
      generalize l[k] = x at hk h2
      simp only [eachS] at h2
      conv => whnf
      refine VAny.ix encI_len k rfl rfl hk ?_
      conv => whnf
      repeat (first | ((first | refine zs1 ?_ | refine zs2 ?_ | refine zs3 ?_ | refine zs4 ?_ | refine zs5 ?_ | refine zs6 [] ?_); conv => whnf))
      refine VCall.intro (hso k x _ hk) ?_
      conv => whnf
      cases hp : p k x
      · conv => whnf
        refine VOut.same ?_
        simp [V.ren, h2, hp]
      · conv => whnf
        repeat (first | ((first | refine zs1 ?_ | refine zs2 ?_ | refine zs3 ?_ | refine zs4 ?_ | refine zs5 ?_ | refine zs6 [] ?_); conv => whnf))
        refine LEnd.intro (k + 1) ⟨by omega, by simpa [hp] using h2⟩ (by omega) ?_
        conv => whnf
        refine Retell.turn ⟨[], 0, [], []⟩ (TurnOk.mk' _ _ [] [] (OutOk.lift _) rfl (by decide) zb trivial trivial rfl) zv zm
    · conv => whnf
      refine VOut.same ?_
      rw [List.drop_of_length_le (by omega), eachS] at h2
      simp [V.ren, h2]
theorem eachS_holds (ps : List Pap) : ∀ (t : List Int) (k : Nat), k + t.length ≤ ps.length → eachS (fun i y => match ps[i]? with | some p => decide (p.lo ≤ y ∧ y ≤ p.hi) | none => false) k t = holdsS (ps.drop k) t
  | [], k, _ => by cases h : ps.drop k <;> simp [eachS, holdsS]
  | y :: t, k, hk => by
    have hlt : k < ps.length := by simp at hk; omega
    rw [List.drop_eq_getElem_cons hlt, eachS, holdsS, List.getElem?_eq_getElem hlt, eachS_holds ps t (k + 1) (by simp at hk; omega)]
theorem vc_holds (f : Fil) (t : List Int) (h : Hp) (hl : t.length ≤ 4000000) (ht : t.length ≤ f.ps.length) : VC Tryz.prog 49 [vF f, ints t] h (B (holdsS f.ps t)) h := by
  refine VC.body Tryz.func49 rfl Tryz.ntmps49 Tryz.call49 (h.grows_refl) rfl ?_; conv => whnf
  refine VCall.intro (VC.give (args' := [ints t, .func (.func 73) [] [.fp (encF f)]]) (loc' := [.dead]) [(0, encF f)] [] (OutOk.lift _) zb zf (by exact FmAll.nil) rfl zv (vc_each t (fun i y => match f.ps[i]? with | some p => decide (p.lo ≤ y ∧ y ≤ p.hi) | none => false) 73 [.pt (encF f)] hl ?_ _)) ?_
  · intro i x h hx
    obtain ⟨hlt, _⟩ := List.getElem?_eq_some_iff.1 hx
    have hp : f.ps[i]? = some f.ps[i] := List.getElem?_eq_getElem (by omega)
    rw [hp]
    exact vc_holds1 f _ i x h hp
  conv => whnf
  refine VOut.same ?_
  rw [eachS_holds _ _ 0 (by omega)]
  simp [V.ren]
end Go.Proofs.YtdblcfkmijigbaaGreat.Sl

open Go.Vm
namespace Go.Proofs.YtdblcfkmijigbaaGreat.Sl
set_option maxRecDepth 20000
set_option maxHeartbeats 1000000
def hldB (f : Fil) (t : List Int) : Bool := if chk f = 0 ∧ t.length = f.ps.length then holdsS f.ps t else false
def hldE (f : Fil) (t : List Int) : Int := if chk f ≠ 0 then chk f else if t.length ≠ f.ps.length then 3 else 0
def toldE (f : Fil) (t : List Int) : Int := if hldE f t = 0 ∧ hldB f t = false then 9 else hldE f t
def encDk (f : Fil) (t : List Int) : List D := [DI f.Y, DI f.G, .sl 3 f.ps.length (f.ps.flatMap encP), dints t]
theorem vc_begun (f : Fil) (t : List Int) (h : Hp) (hn : f.ps.length ≤ 4000000) (hl : t.length ≤ 4000000) : VC Tryz.prog 19 [vF f, ints t] h (.tuple [if toldE f t = 0 then .fp (encDk f t) else .nilptr, I (toldE f t)]) h := by
  refine VC.body Tryz.func19 rfl Tryz.ntmps19 Tryz.call19 (h.grows_refl) rfl ?_; conv => whnf
  repeat' (first | ((first | refine zs1 ?_ | refine zs2 ?_ | refine zs3 ?_ | refine zs4 ?_ | refine zs5 ?_ | refine zs6 [] ?_); conv => whnf) | ((first | apply zi1 | apply zi2 | apply zi3 | apply zi4 | apply zi5) <;> intro _ <;> conv => whnf) | (refine VCall.intro (vc_check _ _ hn) ?_; conv => whnf))
  · refine VOut.same ?_; simp_all [V.ren, V.rens, toldE, hldE]
  · refine VOut.same ?_
    have : ¬ t.length = f.ps.length := by omega
    simp_all [V.ren, V.rens, toldE, hldE]
  · refine VCall.intro (vc_holds f t _ hl (by omega)) ?_
    have : t.length = f.ps.length := by omega
    conv => whnf
    cases hb : holdsS f.ps t
    · conv => whnf
      refine VOut.same ?_
      simp_all [V.ren, V.rens, toldE, hldE, hldB]
    · conv => whnf
      have h0 : toldE f t = 0 := by simp_all [toldE, hldE, hldB]
      rw [h0, if_pos rfl]
      repeat (first | ((first | refine zs1 ?_ | refine zs2 ?_ | refine zs3 ?_ | refine zs4 ?_ | refine zs5 ?_ | refine zs6 [] ?_); conv => whnf))
      refine VOut.data 2 [(1, encDk f t)] [] rfl zf (by exact FmAll.nil) zv
theorem chkGo_zero : ∀ {ps : List Pap} {last : Int}, chkGo ps last = 0 → ∀ p ∈ ps, ¬ badPap p
  | [], _, _, p, hp => by cases hp
  | q :: ps, last, h, p, hp => by
    rw [chkGo] at h
    split at h
    · cases h
    · rename_i hb
      split at h
      · cases h
      · rcases List.mem_cons.1 hp with rfl | hp
        · exact hb
        · exact chkGo_zero h p hp
theorem chk_zero {f : Fil} (h : chk f = 0) : (1 ≤ f.Y ∧ f.Y ≤ 500) ∧ (1 ≤ f.G ∧ f.G ≤ 200) ∧ f.ps.length ≤ 16 ∧ chkGo f.ps (-1) = 0 := by
  unfold chk at h
  split at h
  · cases h
  · split at h
    · cases h
    · exact ⟨by omega, by omega, by omega, h⟩
theorem holdsS_get : ∀ {ps : List Pap} {t : List Int} {k : Nat} {p : Pap} {y : Int}, holdsS ps t = true → ps[k]? = some p → t[k]? = some y → p.lo ≤ y ∧ y ≤ p.hi
  | [], _, _, _, _, _, h, _ => by simp at h
  | _ :: _, [], _, _, _, _, _, h => by simp at h
  | q :: ps, x :: t, k, p, y, h, hp, hy => by
    simp only [holdsS, Bool.and_eq_true, decide_eq_true_eq] at h
    cases k with
    | zero => simp at hp hy; subst hp hy; exact h.1
    | succ k => exact holdsS_get h.2 (by simpa using hp) (by simpa using hy)
structure Okt (f : Fil) (t : List Int) : Prop where
  y : 1 ≤ f.Y ∧ f.Y ≤ 500
  g : 1 ≤ f.G ∧ f.G ≤ 200
  n : f.ps.length ≤ 16
  len : t.length = f.ps.length
  go : chkGo f.ps (-1) = 0
  hold : holdsS f.ps t = true
theorem told_ok {f : Fil} {t : List Int} (h : toldE f t = 0) : Okt f t := by
  have h1 : chk f = 0 := by
    by_cases hc : chk f = 0
    · exact hc
    · simp [toldE, hldE, hc] at h
  have h2 : t.length = f.ps.length := by
    by_cases hc : t.length = f.ps.length
    · exact hc
    · simp [toldE, hldE, h1, hc] at h
  obtain ⟨a, b, c, d⟩ := chk_zero h1
  refine ⟨a, b, c, h2, d, ?_⟩
  cases hb : holdsS f.ps t
  · simp [toldE, hldE, hldB, h1, h2, hb] at h
  · rfl
theorem Okt.yr {f : Fil} {t : List Int} (o : Okt f t) {k : Nat} {y : Int} (hy : t[k]? = some y) : 0 ≤ y ∧ y ≤ 3000 := by
  obtain ⟨hlt, _⟩ := List.getElem?_eq_some_iff.1 hy
  have hlt' : k < f.ps.length := by rw [← o.len]; exact hlt
  have hp : f.ps[k]? = some f.ps[k] := List.getElem?_eq_getElem hlt'
  have h1 := holdsS_get o.hold hp hy
  have h2 := chkGo_zero o.go _ (List.mem_of_getElem? hp)
  unfold badPap at h2
  omega
def sdAt (f : Fil) (i : Nat) : Int := match f.ps[i]? with
  | some p => p.side
  | none => 0
def tAt (t : List Int) (i : Nat) : Int := t.getD i 0
theorem tAt_eq {t : List Int} {i : Nat} {y : Int} (h : t[i]? = some y) : tAt t i = y := by simp [tAt, h]
theorem sdAt_eq {f : Fil} {i : Nat} {p : Pap} (h : f.ps[i]? = some p) : sdAt f i = p.side := by simp [sdAt, h]
theorem vc_goes (f : Fil) (i : Nat) (y a : Int) (h : Hp) (hi : i < f.ps.length) (hn : f.ps.length ≤ 4000000) (hy : -1000000 ≤ y ∧ y ≤ 1000000) (ha : -1000000 ≤ a ∧ a ≤ 1000000) :
    VC Tryz.prog 60 [vF f, I i, I y, I a] h (B (decide (0 < i ∧ sdAt f i = sdAt f (i - 1) ∧ y - a ≤ f.G))) h := by
  have hp : f.ps[i]? = some f.ps[i] := List.getElem?_eq_getElem hi
  have hq : f.ps[i - 1]? = some f.ps[i - 1] := List.getElem?_eq_getElem (by omega)
  rw [sdAt_eq hp, sdAt_eq hq]
  generalize f.ps[i] = p at hp
  generalize f.ps[i - 1] = q at hq
  refine VC.body Tryz.func60 rfl Tryz.ntmps60 Tryz.call60 (h.grows_refl) rfl ?_; conv => whnf
  repeat' (first | ((first | refine zs1 ?_ | refine zs2 ?_ | refine zs3 ?_ | refine zs4 ?_ | refine zs5 ?_ | refine zs6 [] ?_); conv => whnf) | ((first | apply zi1 | apply zi2 | apply zi3 | apply zi4 | apply zi5) <;> intro _ <;> conv => whnf) | (refine VAny.ix encP_len i rfl rfl hp ?_; conv => whnf) | (refine VAny.ix encP_len (i - 1) (by omega) rfl hq ?_; conv => whnf))
  all_goals (refine VOut.dec ?_; first | (simp only [decide_eq_true_eq]; omega) | (simp; omega) | (simp; done))
def bgB (f : Fil) (t : List Int) (i : Nat) : Bool := decide (i = 0 ∨ sdAt f i ≠ sdAt f (i - 1) ∨ f.G < tAt t i - tAt t (i - 1))
def fst (f : Fil) (t : List Int) : Nat → Nat
  | 0 => 0
  | i + 1 => if bgB f t (i + 1) then i + 1 else fst f t i
theorem fst_le (f : Fil) (t : List Int) : ∀ i, fst f t i ≤ i
  | 0 => Nat.le_refl _
  | i + 1 => by
    rw [fst]
    split
    · exact Nat.le_refl _
    · exact Nat.le_succ_of_le (fst_le f t i)
def arB (f : Fil) (t : List Int) (i : Nat) : Bool := decide (f.Y ≤ tAt t i - tAt t (fst f t i) ∧ tAt t (i - 1) - tAt t (fst f t i) < f.Y)
end Go.Proofs.YtdblcfkmijigbaaGreat.Sl

open Go.Vm
namespace Go.Proofs.YtdblcfkmijigbaaGreat.Sl
set_option maxRecDepth 20000
set_option maxHeartbeats 1000000

def chS (f : Fil) (t : List Int) : Nat → List Spn
  | 0 => []
  | k + 1 => if bgB f t k then chS f t k ++ [⟨k, k⟩] else match (chS f t k)[(chS f t k).length - 1]? with
    | some s => (chS f t k).set ((chS f t k).length - 1) ⟨s.lo, k⟩
    | none => []
theorem bg0 (f : Fil) (t : List Int) : bgB f t 0 = true := by simp [bgB]
theorem chS_len (f : Fil) (t : List Int) : ∀ k, 0 < (chS f t (k + 1)).length ∧ (chS f t (k + 1)).length ≤ k + 1
  | 0 => by simp [chS, bg0]
  | k + 1 => by
    have ih := chS_len f t k
    rw [chS]
    split
    · simp; omega
    · split
      · simp; omega
      · rename_i h; rw [List.getElem?_eq_none_iff] at h; omega
theorem chS_le (f : Fil) (t : List Int) (k : Nat) : (chS f t k).length ≤ k ∧ (0 < k → 0 < (chS f t k).length) := by
  cases k with
  | zero => simp [chS]
  | succ k => have := chS_len f t k; exact ⟨this.2, fun _ => this.1⟩
theorem vc_begin (l : List Spn) (i : Nat) (ib il : Vm.Id) (h : Hp) (hne : ib ≠ il) (hb : h.get ib = some (.cells true [.gl il 2 l.length])) (hl : h.get il = some (.flat true (l.flatMap encS))) (hn : l.length ≤ 4000000) :
    VC Tryz.prog 74 [I i, .ptr ib 0] h (.tuple []) ((h.sets [(il, .dead), (ib, .cells true [.gl h.fresh 2 (l.length + 1)])]).pushes [.flat true ((l ++ [Spn.mk i i]).flatMap encS)]) := by
  have hd : ∀ p ∈ [(il, Blk.dead), (ib, Blk.cells true [V.gl h.fresh 2 (l.length + 1)])], h.get p.1 ≠ none := by
    intro p hp
    simp only [List.mem_cons, List.not_mem_nil, or_false] at hp
    rcases hp with rfl | rfl
    · simp only; rw [hl]; simp
    · simp only; rw [hb]; simp
  refine VC.body Tryz.func74 rfl Tryz.ntmps74 Tryz.call74 (Hp.grows_sets hd) rfl ?_; conv => whnf
  refine VLd.cell rfl rfl (get_out hb _) rfl ?_
  conv => whnf
  refine VMem.app1 (Spn.mk i i) encS_len rfl (get_out hl _) rfl rfl rfl (by omega) ?_
  conv => whnf
  refine VMem.st1 rfl rfl rfl (b := .cells true [.gl (.out il) 2 l.length]) (by show (if ib = il then some Blk.dead else h.lift ib) = _; rw [if_neg hne]; exact get_out hb []) rfl ?_
  conv => whnf
  refine VOut.upd [(il, .dead), (ib, .cells true [.gl h.fresh 2 (l.length + 1)])] [.flat true ((l ++ [Spn.mk i i]).flatMap encS)] [1] 2 ?_ hd ?_ ?_ ?_ ?_ ?_
  · rfl
  · decide
  · rfl
  · intro k b hk
    cases k with
    | zero => rw [List.getElem?_cons_zero, Option.some.injEq] at hk; subst hk; exact ⟨1, rfl, rfl⟩
    | succ k => simp at hk
  · intro σ x hx; exact hx
  · have : (Blk.cells true [V.gl h.fresh 2 (l.length + 1)]).ren (backR h.loc.length [1] 2) = .cells true [.gl (.loc 1) 2 (l.length + 1)] := by simp [Blk.ren, V.ren, backR, Hp.fresh]
    simp only [List.map_cons, List.map_nil, this]
    rfl
theorem vc_chains (f : Fil) (t : List Int) (h : Hp) (o : Okt f t) : VC Tryz.prog 58 [.fp (encDk f t)] h (spans (chS f t t.length)) h := by
  have hn := o.n
  have hlen := o.len
  refine VC.body Tryz.func58 rfl Tryz.ntmps58 Tryz.call58 (h.grows_refl) rfl ?_; conv => whnf
  repeat (first | ((first | refine zs1 ?_ | refine zs2 ?_ | refine zs3 ?_ | refine zs4 ?_ | refine zs5 ?_ | refine zs6 [] ?_); conv => whnf))
  refine VCode.lp (fun k : Nat => [(0, .fp (encDk f t)), (3, .func (.func 60) [vF f] []), (4, .ptr (.loc 0) 0), (5, .func (.func 74) [] [.ptr (.loc 0) 0]), (17, ints t), (18, I t.length), (19, I k)])
    (fun k => [.cells true [.gl (.loc 1) 2 (chS f t k).length], .flat true ((chS f t k).flatMap encS)]) (fun k => k ≤ t.length) (fun k => t.length - k) 0 (Nat.zero_le _) ?_ ?_
  · conv => whnf
    refine Retell.turn ⟨[0,1], 1, [], []⟩ (TurnOk.mk' _ _ [] [] (OutOk.lift _) rfl (by decide) zb trivial trivial rfl) zv zm
  · intro k hk
    conv => whnf
    refine VIte.dec (fun h3 => ?_) (fun h3 => ?_)
    · have hy : t[k]? = some t[k] := List.getElem?_eq_getElem (by omega)
      have hz : t[k - 1]? = some t[k - 1] := List.getElem?_eq_getElem (by omega)
      have b1 := o.yr hy
      have b2 := o.yr hz
      have e1 := tAt_eq hy
      have e2 := tAt_eq hz
      have hcl := chS_le f t k
      generalize t[k] = y at hy b1 e1
      generalize t[k - 1] = z at hz b2 e2
      have hbg : bgB f t k = decide (k = 0 ∨ sdAt f k ≠ sdAt f (k - 1) ∨ f.G < y - z) := by rw [bgB, e1, e2]
      conv => whnf
      repeat' (first | ((first | refine zs1 ?_ | refine zs2 ?_ | refine zs3 ?_ | refine zs4 ?_ | refine zs5 ?_ | refine zs6 [] ?_); conv => whnf) | ((first | apply zi1 | apply zi2 | apply zi3 | apply zi4 | apply zi5) <;> intro _ <;> conv => whnf) | (refine VAny.ix encI_len k rfl rfl hy ?_; conv => whnf) | (refine VAny.ix encI_len (k - 1) (by omega) rfl hz ?_; conv => whnf) | (refine VCall.intro (vc_goes f k y z _ (by omega) (by omega) (by omega) (by omega)) ?_; conv => whnf))
      · rw [decide_eq_false (by omega)] at hbg
        have hs : (chS f t k)[(chS f t k).length - 1]? = some (chS f t k)[(chS f t k).length - 1] := List.getElem?_eq_getElem (by omega)
        generalize (chS f t k)[(chS f t k).length - 1] = s at hs
        have h9 : ((↑(chS f t k).length : Int) - 1).toNat = (chS f t k).length - 1 := by omega
        refine VMem.setRec encS_len ((chS f t k).length - 1) 1 (Spn.mk s.lo k) rfl rfl rfl hs (by decide) rfl (by rw [h9]) ?_
        conv => whnf
        repeat (first | ((first | refine zs1 ?_ | refine zs2 ?_ | refine zs3 ?_ | refine zs4 ?_ | refine zs5 ?_ | refine zs6 [] ?_); conv => whnf))
        have hc : chS f t (k + 1) = (chS f t k).set ((chS f t k).length - 1) ⟨s.lo, k⟩ := by rw [chS, hbg, hs]; rfl
        refine LEnd.intro (k + 1) (by omega) (by omega) ?_
        conv => whnf
        rw [hc, List.length_set]
        refine Retell.turn ⟨[0,1], 2, [], []⟩ (TurnOk.mk' _ _ [] [] (OutOk.lift _) rfl (by decide) zb trivial trivial rfl) zv zm
      all_goals (
        rw [decide_eq_true (by omega)] at hbg
        refine VCall.intro (vc_begin (chS f t k) k (.loc 0) (.loc 1) _ (by decide) rfl rfl (by omega)) ?_
        conv => whnf
        repeat (first | ((first | refine zs1 ?_ | refine zs2 ?_ | refine zs3 ?_ | refine zs4 ?_ | refine zs5 ?_ | refine zs6 [] ?_); conv => whnf))
        have hc : chS f t (k + 1) = chS f t k ++ [⟨k, k⟩] := by rw [chS, hbg]; rfl
        refine LEnd.intro (k + 1) (by omega) (by omega) ?_
        conv => whnf
        rw [hc, List.length_append]
        refine Retell.turn ⟨[0,2], 3, [], []⟩ (TurnOk.mk' _ _ [] [] (OutOk.lift _) rfl (by decide) zb trivial trivial rfl) zv zm)
    · conv => whnf
      have hk' : k = t.length := by omega
      subst hk'
      repeat (first | ((first | refine zs1 ?_ | refine zs2 ?_ | refine zs3 ?_ | refine zs4 ?_ | refine zs5 ?_ | refine zs6 [] ?_); conv => whnf))
      refine VOut.data 2 [(1, (chS f t t.length).flatMap encS)] [] rfl zf (by exact FmAll.nil) zv
def chkChain (Y : Int) (t : List Int) (z hi : Int) (p : Nat) : Nat → Nat → Option Bool
  | 0, _ => none
  | n + 1, i => if (i : Int) ≤ hi then (if Y ≤ tAt t i - z then some (decide (i = p)) else chkChain Y t z hi p n (i + 1)) else none
def chainS (Y : Int) (t : List Int) (p : Nat) : List Spn → Option Spn
  | [] => none
  | s :: r => bif chkChain Y t (tAt t s.lo.toNat) s.hi p (t.length + 1) s.lo.toNat == some true then some s else chainS Y t p r
theorem vc_chain (f : Fil) (t : List Int) (p : Nat) (h : Hp) (o : Okt f t) (hc : ∀ s ∈ chS f t t.length, 0 ≤ s.lo ∧ s.lo ≤ s.hi ∧ s.hi < t.length) : VC Tryz.prog 50 [.fp (encDk f t), I p] h (match chainS f.Y t p (chS f t t.length) with | some s => .tuple [.agg [I s.lo, I s.hi], B true] | none => .tuple [.agg [I 0, I 0], B false]) h := by
  have hn := o.n
  have hlen := o.len
  have hY := o.y
  have hcl := chS_le f t t.length
  generalize hL : chS f t t.length = L at hc hcl
  refine VC.body Tryz.func50 rfl Tryz.ntmps50 Tryz.call50 (h.grows_refl) rfl ?_; conv => whnf
  refine VCall.intro (vc_chains f t _ o) ?_
  rw [hL]
  conv => whnf
  refine VCode.lp (fun k : Nat => [(0, .fp (encDk f t)), (1, I p), (4, .ptr (.loc 0) 0), (5, B false), (10, spans L), (11, I L.length), (12, I k)]) (fun _ => [.flat true [DI 0, DI 0]]) (fun k => k ≤ L.length ∧ chainS f.Y t p L = chainS f.Y t p (L.drop k)) (fun k => L.length - k) 0 ⟨Nat.zero_le _, rfl⟩ ?_ ?_
  · conv => whnf
    refine Retell.turn ⟨[0], 1, [], []⟩ (TurnOk.mk' _ _ [] [] (OutOk.lift _) rfl (by decide) zb trivial trivial rfl) zv zm
  · rintro k ⟨h1, h2⟩
    conv => whnf
    refine VIte.dec (fun h3 => ?_) (fun h3 => ?_)
    · have hs : L[k]? = some L[k] := List.getElem?_eq_getElem (by omega)
      have hcs := hc L[k] (List.getElem_mem (by omega))
      rw [List.drop_eq_getElem_cons (by omega)] at h2
      generalize L[k] = s at hs hcs h2
      obtain ⟨lo, hi⟩ := s
      simp only at hcs
      obtain ⟨lo, rfl⟩ : ∃ m : Nat, lo = m := ⟨lo.toNat, by omega⟩
      obtain ⟨hi, rfl⟩ : ∃ m : Nat, hi = m := ⟨hi.toNat, by omega⟩
      conv => whnf
      repeat' (first | ((first | refine zs1 ?_ | refine zs2 ?_ | refine zs3 ?_ | refine zs4 ?_ | refine zs5 ?_ | refine zs6 [] ?_); conv => whnf) | ((first | apply zi1 | apply zi2 | apply zi3 | apply zi4 | apply zi5) <;> intro _ <;> conv => whnf) | (refine VAny.ix encS_len k rfl rfl hs ?_; conv => whnf))
      rw [chainS] at h2
      have hz : t[lo]? = some t[lo] := List.getElem?_eq_getElem (by omega)
      have b2 := o.yr hz
      have e2 := tAt_eq hz
      generalize t[lo] = z at hz b2 e2
      simp only [Int.toNat_natCast, e2] at h2
      obtain ⟨C, hC⟩ : ∃ C, C = chkChain f.Y t z hi p (t.length + 1) lo := ⟨_, rfl⟩
      rw [← hC] at h2
      refine VCode.lp (fun j : Nat => [(0, .fp (encDk f t)), (1, I p), (4, .ptr (.loc 0) 0), (5, B false), (7, .ptr (.loc 1) 0), (8, I j), (10, spans L), (11, I L.length), (12, I k)]) (fun _ => [.flat true [DI 0, DI 0], .flat true [DI lo, DI hi]])
        (fun j => lo ≤ j ∧ j ≤ hi + 1 ∧ C = chkChain f.Y t z hi p (t.length + 1 - (j - lo)) j) (fun j => hi + 1 - j) lo ⟨Nat.le_refl _, by omega, by rw [Nat.sub_self]; exact hC⟩ ?_ ?_
      · conv => whnf
        refine Retell.turn ⟨[0,1], 2, [], []⟩ (TurnOk.mk' _ _ [] [] (OutOk.lift _) rfl (by decide) zb trivial trivial rfl) zv zm
      · rintro j ⟨g1, g2, g3⟩
        obtain ⟨m, hm⟩ : ∃ m, t.length + 1 - (j - lo) = m + 1 := ⟨t.length - (j - lo), by omega⟩
        rw [hm, chkChain] at g3
        conv => whnf
        repeat (first | ((first | refine zs1 ?_ | refine zs2 ?_ | refine zs3 ?_ | refine zs4 ?_ | refine zs5 ?_ | refine zs6 [] ?_); conv => whnf))
        refine VIte.dec (fun h4 => ?_) (fun h4 => ?_)
        · have hy : t[j]? = some t[j] := List.getElem?_eq_getElem (by omega)
          have b1 := o.yr hy
          have e1 := tAt_eq hy
          rw [if_pos h4, e1] at g3
          generalize t[j] = y at hy b1 e1 g3
          conv => whnf
          repeat' (first | ((first | refine zs1 ?_ | refine zs2 ?_ | refine zs3 ?_ | refine zs4 ?_ | refine zs5 ?_ | refine zs6 [] ?_); conv => whnf) | ((first | apply zi1 | apply zi2 | apply zi3 | apply zi4 | apply zi5) <;> intro _ <;> conv => whnf) | (refine VAny.ix encI_len j rfl rfl hy ?_; conv => whnf) | (refine VAny.ix encI_len lo rfl rfl hz ?_; conv => whnf))
          · rw [if_pos (by omega), decide_eq_true (by omega)] at g3
            rw [g3, beq_self_eq_true, cond_true] at h2
            rw [h2]
            refine VOut.data 2 [] [] rfl zf (by exact FmAll.nil) zv
          · rw [if_pos (by omega), decide_eq_false (by omega)] at g3
            rw [g3] at h2
            change _ = chainS _ _ _ _ at h2
            refine LEnd.intro (k + 1) ⟨by omega, h2⟩ (by omega) ?_
            conv => whnf
            refine Retell.turn ⟨[0], 2, [], []⟩ (TurnOk.mk' _ _ [] [] (OutOk.lift _) rfl (by decide) zb trivial trivial rfl) zv zm
          · rw [if_neg (by omega)] at g3
            refine LEnd.intro (j + 1) ⟨by omega, by omega, by rw [g3]; congr 1; omega⟩ (by omega) ?_
            conv => whnf
            refine Retell.turn ⟨[0,1], 2, [], []⟩ (TurnOk.mk' _ _ [] [] (OutOk.lift _) rfl (by decide) zb trivial trivial rfl) zv zm
        · rw [if_neg h4] at g3
          rw [g3] at h2
          change _ = chainS _ _ _ _ at h2
          conv => whnf
          repeat (first | ((first | refine zs1 ?_ | refine zs2 ?_ | refine zs3 ?_ | refine zs4 ?_ | refine zs5 ?_ | refine zs6 [] ?_); conv => whnf))
          refine LEnd.intro (k + 1) ⟨by omega, h2⟩ (by omega) ?_
          conv => whnf
          refine Retell.turn ⟨[0], 2, [], []⟩ (TurnOk.mk' _ _ [] [] (OutOk.lift _) rfl (by decide) zb trivial trivial rfl) zv zm
    · conv => whnf
      rw [List.drop_of_length_le (by omega), chainS] at h2
      rw [h2]
      repeat (first | ((first | refine zs1 ?_ | refine zs2 ?_ | refine zs3 ?_ | refine zs4 ?_ | refine zs5 ?_ | refine zs6 [] ?_); conv => whnf))
      refine VOut.data 1 [] [] rfl zf (by exact FmAll.nil) zv
end Go.Proofs.YtdblcfkmijigbaaGreat.Sl

open Go.Vm
namespace Go.Proofs.YtdblcfkmijigbaaGreat.Sl
set_option maxRecDepth 20000
set_option maxHeartbeats 1000000

def chn (f : Fil) (t : List Int) (p : Nat) : Option Spn := chainS f.Y t p (chS f t t.length)
def Segs (f : Fil) (t : List Int) : List Spn → Nat → Nat → Prop
  | [], a, k => a = k
  | s :: r, a, k => ∃ hi : Nat, s = ⟨a, hi⟩ ∧ a ≤ hi ∧ hi < k ∧ bgB f t a = true ∧ (∀ j, a < j → j ≤ hi → bgB f t j = false) ∧ Segs f t r (hi + 1) k
theorem Segs.snoc {f : Fil} {t : List Int} : ∀ {L : List Spn} {a k : Nat}, Segs f t L a k → bgB f t k = true → Segs f t (L ++ [⟨k, k⟩]) a (k + 1)
  | [], a, k, h, hb => by
    simp only [Segs] at h; subst h
    exact ⟨a, rfl, Nat.le_refl _, Nat.lt_succ_self _, hb, fun j h1 h2 => by omega, rfl⟩
  | s :: r, a, k, h, hb => by
    obtain ⟨hi, h1, h2, h3, h4, h5, h6⟩ := h
    exact ⟨hi, h1, h2, by omega, h4, h5, Segs.snoc h6 hb⟩
theorem Segs.more {f : Fil} {t : List Int} : ∀ {L : List Spn} {a k : Nat} {s : Spn}, Segs f t L a k → bgB f t k = false → L[L.length - 1]? = some s → Segs f t (L.set (L.length - 1) ⟨s.lo, k⟩) a (k + 1)
  | [], a, k, s, h, hb, hs => by simp at hs
  | [x], a, k, s, h, hb, hs => by
    obtain ⟨hi, h1, h2, h3, h4, h5, h6⟩ := h
    simp only [Segs] at h6
    simp at hs; subst hs h1
    refine ⟨k, rfl, by omega, by omega, h4, fun j h7 h8 => ?_, rfl⟩
    rcases Nat.lt_or_ge hi j with h9 | h9
    · have : j = k := by omega
      subst this; exact hb
    · exact h5 j h7 h9
  | x :: y :: r, a, k, s, h, hb, hs => by
    obtain ⟨hi, h1, h2, h3, h4, h5, h6⟩ := h
    refine ⟨hi, h1, h2, by omega, h4, h5, ?_⟩
    have := Segs.more (s := s) h6 hb (by simpa using hs)
    simpa using this
theorem chS_segs (f : Fil) (t : List Int) : ∀ k, Segs f t (chS f t k) 0 k
  | 0 => rfl
  | k + 1 => by
    have ih := chS_segs f t k
    rw [chS]
    split
    · rename_i hb; exact ih.snoc hb
    · rename_i hb
      split
      · rename_i s hs; exact ih.more (by simpa using hb) hs
      · rename_i hs
        have := chS_le f t k
        rw [List.getElem?_eq_none_iff] at hs
        have h0 : k = 0 := by omega
        subst h0; simp [bg0] at hb
theorem Segs.bnd {f : Fil} {t : List Int} : ∀ {L : List Spn} {a k : Nat}, Segs f t L a k → ∀ s ∈ L, 0 ≤ s.lo ∧ s.lo ≤ s.hi ∧ s.hi < k
  | [], _, _, _, s, hs => by cases hs
  | x :: r, a, k, h, s, hs => by
    obtain ⟨hi, rfl, h2, h3, h4, h5, h6⟩ := h
    rcases List.mem_cons.1 hs with rfl | hs
    · simp only; omega
    · exact Segs.bnd h6 s hs
theorem Segs.begin {f : Fil} {t : List Int} : ∀ {L : List Spn} {a k : Nat}, Segs f t L a k → a < k → bgB f t a = true
  | [], a, k, h, hk => by simp only [Segs] at h; omega
  | s :: r, a, k, h, hk => by obtain ⟨hi, _, _, _, h4, _⟩ := h; exact h4
theorem chS_bnd (f : Fil) (t : List Int) : ∀ s ∈ chS f t t.length, 0 ≤ s.lo ∧ s.lo ≤ s.hi ∧ s.hi < t.length := (chS_segs f t t.length).bnd
theorem fst_seg {f : Fil} {t : List Int} {a hi : Nat} (hb : bgB f t a = true) (hn : ∀ j, a < j → j ≤ hi → bgB f t j = false) : ∀ j, a ≤ j → j ≤ hi → fst f t j = a
  | 0, h1, _ => by have : a = 0 := by omega
                   rw [fst]; exact this.symm
  | j + 1, h1, h2 => by
    rcases Nat.eq_or_lt_of_le h1 with h3 | h3
    · subst h3; rw [fst, hb]; rfl
    · rw [fst, hn (j + 1) h3 h2]
      exact fst_seg hb hn j (by omega) (by omega)
theorem Okt.next {f : Fil} {t : List Int} (o : Okt f t) {k : Nat} (hk : k + 1 < t.length) : tAt t k < tAt t (k + 1) := by
  have key : ∀ (ps : List Pap) (last : Int) (k : Nat) (p q : Pap), chkGo ps last = 0 → ps[k]? = some p → ps[k + 1]? = some q → p.hi < q.lo := by
    intro ps
    induction ps with
    | nil => intro last k p q _ h; simp at h
    | cons x r ih =>
      intro last k p q hc hp hq
      rw [chkGo] at hc
      split at hc
      · cases hc
      · split at hc
        · cases hc
        · cases k with
          | zero =>
            simp at hp hq; subst hp
            cases r with
            | nil => simp at hq
            | cons y r =>
              simp at hq; subst hq
              rw [chkGo] at hc
              split at hc
              · cases hc
              · split at hc
                · cases hc
                · omega
          | succ k => exact ih x.hi k p q hc (by simpa using hp) (by simpa using hq)
  have hlen := o.len
  have hp : f.ps[k]? = some f.ps[k] := List.getElem?_eq_getElem (by omega)
  have hq : f.ps[k + 1]? = some f.ps[k + 1] := List.getElem?_eq_getElem (by omega)
  have hy : t[k]? = some t[k] := List.getElem?_eq_getElem (by omega)
  have hz : t[k + 1]? = some t[k + 1] := List.getElem?_eq_getElem hk
  have h1 := key _ _ _ _ _ o.go hp hq
  have h2 := holdsS_get o.hold hp hy
  have h3 := holdsS_get o.hold hq hz
  rw [tAt_eq hy, tAt_eq hz]
  omega
theorem Okt.mono {f : Fil} {t : List Int} (o : Okt f t) {a : Nat} : ∀ {b : Nat}, a < b → b < t.length → tAt t a < tAt t b
  | 0, h, _ => by omega
  | b + 1, h, hb => by
    rcases Nat.lt_or_ge a b with h1 | h1
    · have := o.mono h1 (by omega); have := o.next hb; omega
    · have : a = b := by omega
      subst this; exact o.next hb
theorem chkChain_eq {f : Fil} {t : List Int} {z : Int} {hi p : Nat} : ∀ (n i : Nat), hi + 1 - i < n →
    ((chkChain f.Y t z hi p n i == some true) = true ↔ (i ≤ p ∧ p ≤ hi ∧ f.Y ≤ tAt t p - z ∧ (∀ j, i ≤ j → j < p → tAt t j - z < f.Y)))
  | 0, i, hn => by omega
  | n + 1, i, hn => by
    rw [chkChain]
    split
    · rename_i h1
      split
      · rename_i h2
        by_cases h3 : i = p
        · subst h3
          rw [decide_eq_true rfl]
          exact ⟨fun _ => ⟨Nat.le_refl _, by omega, h2, fun j h4 h5 => by omega⟩, fun _ => rfl⟩
        · rw [decide_eq_false h3]
          constructor
          · intro h; cases h
          · rintro ⟨h4, h5, h6, h7⟩
            have := h7 i (Nat.le_refl _) (by omega)
            omega
      · rename_i h2
        rw [chkChain_eq n (i + 1) (by omega)]
        constructor
        · rintro ⟨h4, h5, h6, h7⟩
          refine ⟨by omega, h5, h6, fun j h8 h9 => ?_⟩
          rcases Nat.eq_or_lt_of_le h8 with h10 | h10
          · subst h10; omega
          · exact h7 j h10 h9
        · rintro ⟨h4, h5, h6, h7⟩
          refine ⟨?_, h5, h6, fun j h8 h9 => h7 j (by omega) h9⟩
          rcases Nat.eq_or_lt_of_le h4 with h10 | h10
          · subst h10; omega
          · exact h10
    · rename_i h1
      constructor
      · intro h; cases h
      · rintro ⟨h4, h5, _⟩
        omega
theorem chk_seg {f : Fil} {t : List Int} (o : Okt f t) {a hi p : Nat} (hah : a ≤ hi) (hlt : hi < t.length) (hb : bgB f t a = true) (hn : ∀ j, a < j → j ≤ hi → bgB f t j = false) :
    (chkChain f.Y t (tAt t a) hi p (t.length + 1) a == some true) = (decide (a ≤ p ∧ p ≤ hi) && arB f t p) := by
  have hY := o.y
  have mono : p ≤ hi → ∀ j, a ≤ j → j < p → tAt t j ≤ tAt t (p - 1) := by
    intro hp j h1 h2
    rcases Nat.lt_or_ge j (p - 1) with h3 | h3
    · exact Int.le_of_lt (o.mono h3 (by omega))
    · have : j = p - 1 := by omega
      subst this; exact Int.le_refl _
  rw [Bool.eq_iff_iff, chkChain_eq (t.length + 1) a (by omega), Bool.and_eq_true, decide_eq_true_eq]
  have har : a ≤ p → p ≤ hi → (arB f t p = true ↔ (f.Y ≤ tAt t p - tAt t a ∧ tAt t (p - 1) - tAt t a < f.Y)) := by
    intro h1 h2
    rw [arB, fst_seg hb hn p h1 h2, decide_eq_true_eq]
  constructor
  · rintro ⟨h1, h2, h3, h4⟩
    refine ⟨⟨h1, h2⟩, (har h1 h2).2 ⟨h3, ?_⟩⟩
    rcases Nat.eq_or_lt_of_le h1 with h5 | h5
    · subst h5; omega
    · exact h4 (p - 1) (by omega) (by omega)
  · rintro ⟨⟨h1, h2⟩, h3⟩
    obtain ⟨h3, h4⟩ := (har h1 h2).1 h3
    refine ⟨h1, h2, h3, fun j h5 h6 => ?_⟩
    have := mono h2 j h5 h6
    omega
theorem chainS_eq {f : Fil} {t : List Int} (o : Okt f t) {p : Nat} : ∀ {L : List Spn} {a : Nat}, Segs f t L a t.length →
    (chainS f.Y t p L = none ∧ (arB f t p = false ∨ p < a ∨ t.length ≤ p)) ∨ ∃ hi : Nat, chainS f.Y t p L = some ⟨fst f t p, hi⟩ ∧ arB f t p = true ∧ a ≤ fst f t p ∧ p ≤ hi ∧ hi < t.length ∧ bgB f t (fst f t p) = true ∧ (∀ j, fst f t p < j → j ≤ hi → bgB f t j = false) ∧ (hi + 1 < t.length → bgB f t (hi + 1) = true)
  | [], a, h => by
    simp only [Segs] at h
    left; exact ⟨rfl, by omega⟩
  | s :: r, a, h => by
    obtain ⟨hi, rfl, h2, h3, h4, h5, h6⟩ := h
    have hc := chk_seg (p := p) o h2 h3 h4 h5
    rw [chainS]
    simp only [Int.toNat_natCast]
    rw [hc]
    by_cases hp : a ≤ p ∧ p ≤ hi
    · rw [decide_eq_true hp, Bool.true_and]
      cases ha : arB f t p
      · rw [cond_false]
        rcases chainS_eq o h6 with h7 | ⟨hi', h7, h8, _⟩
        · left; exact ⟨h7.1, .inl rfl⟩
        · rw [ha] at h8; cases h8
      · rw [cond_true]
        right
        have hf := fst_seg h4 h5 p hp.1 hp.2
        rw [hf]
        exact ⟨hi, rfl, rfl, Nat.le_refl _, hp.2, h3, h4, h5, h6.begin⟩
    · rw [decide_eq_false hp, Bool.false_and, cond_false]
      rcases chainS_eq o h6 with ⟨h7, h8⟩ | ⟨hi', h7, h8, h9, h10⟩
      · left
        refine ⟨h7, ?_⟩
        rcases h8 with h8 | h8 | h8
        · exact .inl h8
        · right; left; omega
        · right; right; exact h8
      · right; exact ⟨hi', h7, h8, by omega, h10⟩
theorem chn_none {f : Fil} {t : List Int} (o : Okt f t) {p : Nat} (hp : p < t.length) (ha : arB f t p = false) : chn f t p = none := by
  rcases chainS_eq o (p := p) (chS_segs f t t.length) with ⟨h, _⟩ | ⟨_, _, h, _⟩
  · exact h
  · rw [ha] at h; cases h
theorem chn_some {f : Fil} {t : List Int} (o : Okt f t) {p : Nat} (hp : p < t.length) (ha : arB f t p = true) : ∃ hi : Nat, chn f t p = some ⟨fst f t p, hi⟩ ∧ p ≤ hi ∧ hi < t.length ∧ bgB f t (fst f t p) = true ∧ (∀ j, fst f t p < j → j ≤ hi → bgB f t j = false) ∧ (hi + 1 < t.length → bgB f t (hi + 1) = true) := by
  rcases chainS_eq o (p := p) (chS_segs f t t.length) with ⟨_, h⟩ | ⟨hi, h1, _, _, h⟩
  · rw [ha] at h
    rcases h with h | h | h
    · cases h
    · omega
    · omega
  · exact ⟨hi, h1, h⟩
def chnR : Option Spn → V
  | some s => .tuple [.agg [I s.lo, I s.hi], B true]
  | none => .tuple [.agg [I 0, I 0], B false]
theorem vc_chn (f : Fil) (t : List Int) (p : Nat) (h : Hp) (o : Okt f t) : VC Tryz.prog 50 [.fp (encDk f t), I p] h (chnR (chn f t p)) h := by
  have := vc_chain f t p h o (chS_bnd f t)
  unfold chnR chn
  exact this
def selS (q : Nat → Bool) : Nat → List Int
  | 0 => []
  | k + 1 => if q k then selS q k ++ [(k : Int)] else selS q k
theorem selS_len (q : Nat → Bool) : ∀ k, (selS q k).length ≤ k
  | 0 => Nat.le_refl _
  | k + 1 => by
    have := selS_len q k
    rw [selS]; split <;> simp <;> omega
def arL (f : Fil) (t : List Int) : List Int := selS (arB f t) t.length
theorem vc_darises (f : Fil) (t : List Int) (h : Hp) (o : Okt f t) : VC Tryz.prog 20 [.fp (encDk f t)] h (ints (arL f t)) h := by
  have hn := o.n
  have hlen := o.len
  unfold arL
  refine VC.body Tryz.func20 rfl Tryz.ntmps20 Tryz.call20 (h.grows_refl) rfl ?_; conv => whnf
  repeat (first | ((first | refine zs1 ?_ | refine zs2 ?_ | refine zs3 ?_ | refine zs4 ?_ | refine zs5 ?_ | refine zs6 [] ?_); conv => whnf))
  refine VCode.lp (fun k : Nat => [(0, .fp (encDk f t)), (3, .gl (.loc 0) 1 (selS (arB f t) k).length), (11, I t.length), (12, I k)]) (fun k => [.flat true ((selS (arB f t) k).flatMap Vm.encI)]) (fun k => k ≤ t.length) (fun k => t.length - k) 0 (Nat.zero_le _) ?_ ?_
  · conv => whnf
    refine Retell.turn ⟨[0], 0, [], []⟩ (TurnOk.mk' _ _ [] [] (OutOk.lift _) rfl (by decide) zb trivial trivial rfl) zv zm
  · intro k hk
    have hsl := selS_len (arB f t) k
    conv => whnf
    refine VIte.dec (fun h3 => ?_) (fun h3 => ?_)
    · conv => whnf
      repeat (first | ((first | refine zs1 ?_ | refine zs2 ?_ | refine zs3 ?_ | refine zs4 ?_ | refine zs5 ?_ | refine zs6 [] ?_); conv => whnf))
      refine VCall.intro (vc_chn f t k _ o) ?_
      cases ha : arB f t k
      · rw [chn_none o (by omega) ha]
        conv => whnf
        repeat (first | ((first | refine zs1 ?_ | refine zs2 ?_ | refine zs3 ?_ | refine zs4 ?_ | refine zs5 ?_ | refine zs6 [] ?_); conv => whnf))
        refine LEnd.intro (k + 1) (by omega) (by omega) ?_
        conv => whnf
        rw [selS, ha, if_neg (by simp)]
        refine Retell.turn ⟨[0], 2, [], []⟩ (TurnOk.mk' _ _ [] [] (OutOk.lift _) rfl (by decide) zb trivial trivial rfl) zv zm
      · obtain ⟨hi, hc, _⟩ := chn_some o (by omega) ha
        rw [hc]
        conv => whnf
        repeat (first | ((first | refine zs1 ?_ | refine zs2 ?_ | refine zs3 ?_ | refine zs4 ?_ | refine zs5 ?_ | refine zs6 [] ?_); conv => whnf))
        refine VMem.app1 (k : Int) encI_len rfl rfl rfl rfl rfl (by omega) ?_
        conv => whnf
        repeat (first | ((first | refine zs1 ?_ | refine zs2 ?_ | refine zs3 ?_ | refine zs4 ?_ | refine zs5 ?_ | refine zs6 [] ?_); conv => whnf))
        refine LEnd.intro (k + 1) (by omega) (by omega) ?_
        conv => whnf
        rw [selS, ha, if_pos rfl, List.length_append]
        refine Retell.turn ⟨[3], 4, [], []⟩ (TurnOk.mk' _ _ [] [] (OutOk.lift _) rfl (by decide) zb trivial trivial rfl) zv zm
    · conv => whnf
      have hk' : k = t.length := by omega
      subst hk'
      repeat (first | ((first | refine zs1 ?_ | refine zs2 ?_ | refine zs3 ?_ | refine zs4 ?_ | refine zs5 ?_ | refine zs6 [] ?_); conv => whnf))
      refine VOut.data 1 [(0, (selS (arB f t) t.length).flatMap Vm.encI)] [] rfl zf (by exact FmAll.nil) zv
end Go.Proofs.YtdblcfkmijigbaaGreat.Sl

open Go.Vm
namespace Go.Proofs.YtdblcfkmijigbaaGreat.Sl
set_option maxRecDepth 20000
set_option maxHeartbeats 1000000

theorem vc_begun_no (f : Fil) (t : List Int) (h : Hp) (hn : f.ps.length ≤ 4000000) (hl : t.length ≤ 4000000) (h0 : toldE f t ≠ 0) : VC Tryz.prog 19 [vF f, ints t] h (.tuple [.nilptr, I (toldE f t)]) h := by
  have := vc_begun f t h hn hl
  rw [if_neg h0] at this; exact this
theorem vc_begun_ok (f : Fil) (t : List Int) (h : Hp) (hn : f.ps.length ≤ 4000000) (hl : t.length ≤ 4000000) (h0 : toldE f t = 0) : VC Tryz.prog 19 [vF f, ints t] h (.tuple [.fp (encDk f t), I 0]) h := by
  have := vc_begun f t h hn hl
  rw [if_pos h0, h0] at this; exact this
theorem vc_Chains (f : Fil) (t : List Int) (h : Hp) (hn : f.ps.length ≤ 4000000) (hl : t.length ≤ 4000000) : VC Tryz.prog 28 [vF f, ints t] h (.tuple [if toldE f t = 0 then spans (chS f t t.length) else .nilslice, I (toldE f t)]) h := by
  by_cases h0 : toldE f t = 0
  case neg =>
    rw [if_neg h0]
    refine VC.body Tryz.func28 rfl Tryz.ntmps28 Tryz.call28 (h.grows_refl) rfl ?_; conv => whnf
    repeat' (first | ((first | refine zs1 ?_ | refine zs2 ?_ | refine zs3 ?_ | refine zs4 ?_ | refine zs5 ?_ | refine zs6 [] ?_); conv => whnf) | ((first | apply zi1 | apply zi2 | apply zi3 | apply zi4 | apply zi5) <;> intro _ <;> conv => whnf) | (refine VCall.intro (vc_begun_no f t _ hn hl h0) ?_; conv => whnf))
    · exact VOut.same rfl
    · rename_i h1; exact absurd (by simpa using h1) h0
  case pos =>
    rw [h0, if_pos rfl]
    refine VC.body Tryz.func28 rfl Tryz.ntmps28 Tryz.call28 (h.grows_refl) rfl ?_; conv => whnf
    repeat' (first | ((first | refine zs1 ?_ | refine zs2 ?_ | refine zs3 ?_ | refine zs4 ?_ | refine zs5 ?_ | refine zs6 [] ?_); conv => whnf) | ((first | apply zi1 | apply zi2 | apply zi3 | apply zi4 | apply zi5) <;> intro _ <;> conv => whnf) | (refine VCall.intro (vc_begun_ok f t _ hn hl h0) ?_; conv => whnf))
    refine VCall.intro (vc_chains f t _ (told_ok h0)) ?_
    conv => whnf
    exact VOut.same rfl
def ownS (f : Fil) (t : List Int) : Nat → Int × Int
  | 0 => (2, 0)
  | k + 1 => if arB f t k then (sdAt f k, tAt t k) else ownS f t k
def own (f : Fil) (t : List Int) : Int × Int := ownS f t t.length
theorem ownS_sel (f : Fil) (t : List Int) : ∀ k, (selS (arB f t) k = [] ∧ ownS f t k = (2, 0)) ∨ ∃ (l : List Int) (j : Nat), selS (arB f t) k = l ++ [(j : Int)] ∧ j < k ∧ arB f t j = true ∧ ownS f t k = (sdAt f j, tAt t j)
  | 0 => .inl ⟨rfl, rfl⟩
  | k + 1 => by
    rw [selS, ownS]
    cases h : arB f t k
    · simp only [Bool.false_eq_true, if_false]
      rcases ownS_sel f t k with h1 | ⟨l, j, h1, h2, h3, h4⟩
      · exact .inl h1
      · exact .inr ⟨l, j, h1, by omega, h3, h4⟩
    · simp only [if_true]
      exact .inr ⟨_, k, rfl, by omega, h, rfl⟩
theorem vc_Owner (f : Fil) (t : List Int) (h : Hp) (hn : f.ps.length ≤ 4000000) (hl : t.length ≤ 4000000) : VC Tryz.prog 9 [vF f, ints t] h (.tuple [I (if toldE f t = 0 then (own f t).1 else 0), I (toldE f t)]) h := by
  by_cases h0 : toldE f t = 0
  case neg =>
    rw [if_neg h0]
    refine VC.body Tryz.func9 rfl Tryz.ntmps9 Tryz.call9 (h.grows_refl) rfl ?_; conv => whnf
    repeat' (first | ((first | refine zs1 ?_ | refine zs2 ?_ | refine zs3 ?_ | refine zs4 ?_ | refine zs5 ?_ | refine zs6 [] ?_); conv => whnf) | ((first | apply zi1 | apply zi2 | apply zi3 | apply zi4 | apply zi5) <;> intro _ <;> conv => whnf) | (refine VCall.intro (vc_begun_no f t _ hn hl h0) ?_; conv => whnf))
    · exact VOut.same rfl
    · rename_i h1; exact absurd (by simpa using h1) h0
  case pos =>
    have o := told_ok h0
    have hlen := o.len
    have hn' := o.n
    rw [h0, if_pos rfl]
    refine VC.body Tryz.func9 rfl Tryz.ntmps9 Tryz.call9 (h.grows_refl) rfl ?_; conv => whnf
    repeat' (first | ((first | refine zs1 ?_ | refine zs2 ?_ | refine zs3 ?_ | refine zs4 ?_ | refine zs5 ?_ | refine zs6 [] ?_); conv => whnf) | ((first | apply zi1 | apply zi2 | apply zi3 | apply zi4 | apply zi5) <;> intro _ <;> conv => whnf) | (refine VCall.intro (vc_begun_ok f t _ hn hl h0) ?_; conv => whnf))
    refine VCall.intro (vc_darises f t _ o) ?_
    rcases ownS_sel f t t.length with ⟨h2, h3⟩ | ⟨l, j, h2, h3, h4, h5⟩
    · rw [arL, h2, own, h3]
      conv => whnf
      exact VOut.same rfl
    · have hsl := selS_len (arB f t) t.length
      rw [arL, own, h5]
      rw [h2] at hsl ⊢
      have hi : (l ++ [(j : Int)])[l.length]? = some (j : Int) := by simp
      have hlen2 : (l ++ [(j : Int)]).length = l.length + 1 := by simp
      have hp : f.ps[j]? = some f.ps[j] := List.getElem?_eq_getElem (by omega)
      generalize f.ps[j] = p at hp
      rw [sdAt_eq hp]
      conv => whnf
      repeat' (first | ((first | refine zs1 ?_ | refine zs2 ?_ | refine zs3 ?_ | refine zs4 ?_ | refine zs5 ?_ | refine zs6 [] ?_); conv => whnf) | ((first | apply zi1 | apply zi2 | apply zi3 | apply zi4 | apply zi5) <;> intro _ <;> conv => whnf) | (refine VAny.ix encI_len l.length (by omega) rfl hi ?_; conv => whnf) | (refine VAny.ix encP_len j rfl rfl hp ?_; conv => whnf))
      · omega
      · exact VOut.same rfl
end Go.Proofs.YtdblcfkmijigbaaGreat.Sl

open Go.Vm
namespace Go.Proofs.YtdblcfkmijigbaaGreat.Sl
set_option maxRecDepth 20000
set_option maxHeartbeats 1000000

def showE (f : Fil) (t : List Int) (p : Int) : Int := if toldE f t ≠ 0 then toldE f t else if p < 0 ∨ (t.length : Int) - 1 < p then 2 else bif arB f t p.toNat then 0 else 7
structure Shw (f : Fil) (t : List Int) (p : Nat) : Prop extends Okt f t where
  lt : p < t.length
  ar : arB f t p = true
theorem show_ok {f : Fil} {t : List Int} {p : Int} (h : showE f t p = 0) : ∃ q : Nat, p = q ∧ Shw f t q := by
  unfold showE at h
  split at h
  · contradiction
  · rename_i h0
    split at h
    · cases h
    · rename_i h1
      cases h2 : arB f t p.toNat
      · rw [h2] at h; cases h
      · have o := told_ok (f := f) (t := t) (by simpa using h0)
        exact ⟨p.toNat, by omega, { o with lt := by omega, ar := h2 }⟩
theorem vc_shown_ok (f : Fil) (t : List Int) (p hi : Nat) (h : Hp) (hl : t.length ≤ 4000000) (o : Shw f t p) (h0 : toldE f t = 0) (hc : chn f t p = some ⟨fst f t p, hi⟩) : VC Tryz.prog 51 [vF f, ints t, I p] h (.tuple [.fp (encDk f t), .agg [I (fst f t p), I hi], I 0]) h := by
  have hlen := o.len
  have hn' := o.n
  have hlt := o.lt
  refine VC.body Tryz.func51 rfl Tryz.ntmps51 Tryz.call51 (h.grows_refl) rfl ?_; conv => whnf
  repeat' (first | ((first | refine zs1 ?_ | refine zs2 ?_ | refine zs3 ?_ | refine zs4 ?_ | refine zs5 ?_ | refine zs6 [] ?_); conv => whnf) | ((first | apply zi1 | apply zi2 | apply zi3 | apply zi4 | apply zi5) <;> intro _ <;> conv => whnf) | (refine VCall.intro (vc_begun_ok f t _ (by omega) hl h0) ?_; conv => whnf) | (refine VCall.intro (vc_from _ _ _ _) ?_; conv => whnf))
  · omega
  · refine VCall.intro (vc_chn f t p _ o.toOkt) ?_
    rw [hc]
    conv => whnf
    repeat (first | ((first | refine zs1 ?_ | refine zs2 ?_ | refine zs3 ?_ | refine zs4 ?_ | refine zs5 ?_ | refine zs6 [] ?_); conv => whnf))
    exact VOut.same rfl
end Go.Proofs.YtdblcfkmijigbaaGreat.Sl

open Go.Vm
namespace Go.Proofs.YtdblcfkmijigbaaGreat.Sl
set_option maxRecDepth 20000
set_option maxHeartbeats 1000000

structure Rvd (l : List Int) (k : Nat) (m : List Int) : Prop where
  len : m.length = l.length
  le : 2 * k ≤ l.length + 1
  at' : ∀ j, j < l.length → m[j]? = if j < k ∨ l.length - k ≤ j then l[l.length - 1 - j]? else l[j]?
theorem Rvd.step {l m : List Int} {k : Nat} {a b : Int} (h : Rvd l k m) (hk : 2 * k + 1 < l.length) (ha : m[k]? = some a) (hb : m[l.length - 1 - k]? = some b) : Rvd l (k + 1) ((m.set k b).set (l.length - 1 - k) a) where
  len := by simp [h.len]
  le := by omega
  at' := fun j hj => by
    have hl := h.len
    have e1 := h.at' k (by omega)
    have e2 := h.at' (l.length - 1 - k) (by omega)
    rw [ha, if_neg (by omega)] at e1
    rw [hb, if_neg (by omega)] at e2
    rw [List.getElem?_set, List.length_set]
    by_cases h1 : l.length - 1 - k = j
    · rw [if_pos h1, if_pos (by omega), if_pos (by omega), e1]
      congr 1; omega
    · rw [if_neg h1, List.getElem?_set]
      by_cases h2 : k = j
      · rw [if_pos h2, if_pos (by omega), if_pos (by omega), e2]
        subst h2; rfl
      · rw [if_neg h2, h.at' j hj]
        have : (j < k ∨ l.length - k ≤ j) ↔ (j < k + 1 ∨ l.length - (k + 1) ≤ j) := by omega
        simp only [this]
theorem Rvd.done {l m : List Int} {k : Nat} (h : Rvd l k m) (hk : l.length ≤ 2 * k + 1) : m = l.reverse := by
  apply List.ext_getElem?
  intro j
  have hl := h.len
  rcases Nat.lt_or_ge j l.length with h1 | h1
  · rw [h.at' j h1, List.getElem?_reverse h1]
    split
    · rfl
    · congr 1; omega
  · rw [List.getElem?_eq_none (by omega), List.getElem?_eq_none (by simpa using h1)]
theorem vc_reverse (l : List Int) (i : Vm.Id) (h : Hp) (hb : h.get i = some (.flat true (l.flatMap Vm.encI))) (hn : l.length ≤ 4000000) :
    VC Tryz.prog 52 [.gl i 1 l.length] h (.tuple []) (h.set i (.flat true (l.reverse.flatMap Vm.encI))) := by
  have hd : ∀ p ∈ [(i, Blk.flat true (l.reverse.flatMap Vm.encI))], h.get p.1 ≠ none := by
    intro p hp
    simp only [List.mem_cons, List.not_mem_nil, or_false] at hp
    subst hp; simp only; rw [hb]; simp
  have hgr : h.grows (h.set i (.flat true (l.reverse.flatMap Vm.encI))) := h.grows_set _ _
  refine VC.body Tryz.func52 rfl Tryz.ntmps52 Tryz.call52 hgr rfl ?_; conv => whnf
  repeat (first | ((first | refine zs1 ?_ | refine zs2 ?_ | refine zs3 ?_ | refine zs4 ?_ | refine zs5 ?_ | refine zs6 [] ?_); conv => whnf))
  have hlift : h.lift i = some (.flat true (l.flatMap Vm.encI)) := get_out hb []
  refine VCode.lpo (fun x : Nat × List Int => [(0, .gl (.out i) 1 l.length), (2, I x.1), (3, I ((l.length : Int) - 1 - x.1))]) (fun x => outW h.lift i (.flat true (x.2.flatMap Vm.encI))) (fun _ => []) (fun x => Rvd l x.1 x.2) (fun x => l.length - x.1) (0, l) ⟨rfl, by omega, fun j hj => ?_⟩ (outW_id hlift) ?_ ?_
  · rw [if_neg (by omega)]
  · conv => whnf
    refine Retell.turn ⟨[], 0, [], []⟩ (TurnOk.mk' _ _ [] [] (OutOk.outW (OutOk.lift _) rfl) rfl (by decide) zb trivial trivial rfl) zv zm
  · rintro ⟨k, m⟩ hr
    simp only at hr ⊢
    have hl := hr.len
    conv => whnf
    refine VIte.dec (fun h3 => ?_) (fun h3 => ?_)
    · have ha : m[k]? = some m[k] := List.getElem?_eq_getElem (by omega)
      have hc : m[l.length - 1 - k]? = some m[l.length - 1 - k] := List.getElem?_eq_getElem (by omega)
      generalize m[k] = a at ha
      generalize m[l.length - 1 - k] = c at hc
      have hst := hr.step (by omega) ha hc
      have hc2 : (m.set k c)[l.length - 1 - k]? = some c := by rw [List.getElem?_set, if_neg (by omega)]; exact hc
      conv => whnf
      repeat' (first | ((first | refine zs1 ?_ | refine zs2 ?_ | refine zs3 ?_ | refine zs4 ?_ | refine zs5 ?_ | refine zs6 [] ?_); conv => whnf) | ((first | apply zi1 | apply zi2 | apply zi3 | apply zi4 | apply zi5) <;> intro _ <;> conv => whnf) | (refine VLd.recc encI_len (l.length - 1 - k) 0 rfl rfl (outW_get _ _ _ _) hc (by decide) rfl (by simp only [Nat.zero_add, Nat.mul_one]; omega) ?_; conv => whnf) | (refine VLd.recc encI_len k 0 rfl rfl (outW_get _ _ _ _) ha (by decide) rfl (by simp only [Nat.zero_add, Nat.mul_one]; omega) ?_; conv => whnf))
      refine VMem.setRec encI_len k 0 c rfl rfl (outW_get _ _ _ _) ha (by decide) rfl (by simp only [Nat.zero_add, Nat.mul_one]; omega) ?_
      conv => whnf
      repeat (first | ((first | refine zs1 ?_ | refine zs2 ?_ | refine zs3 ?_ | refine zs4 ?_ | refine zs5 ?_ | refine zs6 [] ?_); conv => whnf))
      refine VMem.setRec encI_len (l.length - 1 - k) 0 a rfl rfl (outW_get _ _ _ _) hc2 (by decide) rfl (by simp only [Nat.zero_add, Nat.mul_one]; omega) ?_
      conv => whnf
      repeat (first | ((first | refine zs1 ?_ | refine zs2 ?_ | refine zs3 ?_ | refine zs4 ?_ | refine zs5 ?_ | refine zs6 [] ?_); conv => whnf))
      refine LEndO.intro (k + 1, (m.set k c).set (l.length - 1 - k) a) hst (by simp only; omega) ((outW_same (outW _ _ _) _ _ _).trans (outW_same _ _ _ _)) ?_
      conv => whnf
      refine Retell.turn ⟨[], 0, [], []⟩ (TurnOk.mk' _ _ [] [] (OutOk.outW (OutOk.lift _) rfl) rfl (by decide) zb trivial trivial rfl) zv zm
    · conv => whnf
      have hm := hr.done (by omega)
      subst hm
      have := VOut.upd (loc := []) (r1 := .tuple []) (r := .tuple []) [(i, .flat true (l.reverse.flatMap Vm.encI))] [] [] 0 rfl hd (by simp) rfl (by intro k b hk; simp at hk) (fun σ x hx => hx) (outer := outW h.lift i (.flat true (l.reverse.flatMap Vm.encI))) rfl
      have he : (h.sets [(i, Blk.flat true (l.reverse.flatMap Vm.encI))]).pushes [] = h.set i (.flat true (l.reverse.flatMap Vm.encI)) := by simp [Hp.sets, Hp.pushes]
      rw [he] at this
      exact this
end Go.Proofs.YtdblcfkmijigbaaGreat.Sl

open Go.Vm
namespace Go.Proofs.YtdblcfkmijigbaaGreat.Sl
set_option maxRecDepth 20000
set_option maxHeartbeats 1000000

def jmp (f : Fil) (t : List Int) (lo a : Nat) : Nat → Nat
  | 0 => 0
  | n + 1 => if lo < n + 1 ∧ tAt t a - tAt t n ≤ f.G then jmp f t lo a n else n + 1
theorem jmp_le (f : Fil) (t : List Int) (lo a : Nat) : ∀ n, jmp f t lo a n ≤ n
  | 0 => Nat.le_refl _
  | n + 1 => by
    rw [jmp]; split
    · exact Nat.le_succ_of_le (jmp_le f t lo a n)
    · exact Nat.le_refl _
theorem jmp_ge (f : Fil) (t : List Int) (lo a : Nat) : ∀ n, lo ≤ n → lo ≤ jmp f t lo a n
  | 0, h => h
  | n + 1, h => by
    rw [jmp]; split
    · exact jmp_ge f t lo a n (by omega)
    · exact h
def fewS (f : Fil) (t : List Int) (lo p : Nat) : Nat → Nat → List Int
  | 0, a => [(a : Int)]
  | n + 1, a => if tAt t p - tAt t a < f.Y then (a : Int) :: fewS f t lo p n (jmp f t lo a a) else [(a : Int)]
theorem fewS_len (f : Fil) (t : List Int) (lo p : Nat) : ∀ n a, (fewS f t lo p n a).length ≤ n + 1
  | 0, a => by simp [fewS]
  | n + 1, a => by
    rw [fewS]; split
    · have := fewS_len f t lo p n (jmp f t lo a a); simp; omega
    · simp
def few (f : Fil) (t : List Int) (p : Nat) : List Int := (fewS f t (fst f t p) p p p).reverse
structure InCh (f : Fil) (t : List Int) (p : Nat) (hi : Nat) : Prop where
  ph : p ≤ hi
  hl : hi < t.length
  hb : bgB f t (fst f t p) = true
  hn : ∀ j, fst f t p < j → j ≤ hi → bgB f t j = false
  hx : hi + 1 < t.length → bgB f t (hi + 1) = true
  hc : chn f t p = some ⟨fst f t p, hi⟩
theorem InCh.of {f : Fil} {t : List Int} {p : Nat} (o : Shw f t p) : ∃ hi, InCh f t p hi := by
  obtain ⟨hi, h1, h2, h3, h4, h5, h6⟩ := chn_some o.toOkt o.lt o.ar
  exact ⟨hi, h2, h3, h4, h5, h6, h1⟩
theorem InCh.gap {f : Fil} {t : List Int} {p hi : Nat} (c : InCh f t p hi) {a : Nat} (h1 : fst f t p < a) (h2 : a ≤ hi) : tAt t a - tAt t (a - 1) ≤ f.G := by
  have := c.hn a h1 h2
  rw [bgB, decide_eq_false_iff_not] at this
  omega
theorem InCh.jmp_lt {f : Fil} {t : List Int} {p hi : Nat} (c : InCh f t p hi) {a : Nat} (h1 : fst f t p < a) (h2 : a ≤ hi) : jmp f t (fst f t p) a a < a := by
  obtain ⟨b, rfl⟩ : ∃ b, a = b + 1 := ⟨a - 1, by omega⟩
  have := c.gap h1 h2
  simp only [Nat.add_sub_cancel] at this
  rw [jmp, if_pos ⟨h1, this⟩]
  exact Nat.lt_succ_of_le (jmp_le f t _ _ _)
theorem Shw.far {f : Fil} {t : List Int} {p : Nat} (o : Shw f t p) : f.Y ≤ tAt t p - tAt t (fst f t p) := by
  have := o.ar
  rw [arB, decide_eq_true_eq] at this
  exact this.1
end Go.Proofs.YtdblcfkmijigbaaGreat.Sl

open Go.Vm
namespace Go.Proofs.YtdblcfkmijigbaaGreat.Sl
set_option maxRecDepth 20000
set_option maxHeartbeats 1000000
theorem eachS_all (q : Int → Bool) : ∀ (l : List Int) (k : Nat), eachS (fun _ x => q x) k l = l.all q
  | [], _ => rfl
  | x :: l, k => by rw [eachS, eachS_all q l, List.all_cons]
def nx (f : Fil) (t l : List Int) (i : Nat) (x : Int) : Bool := decide (i = 0 ∨ (l.getD (i - 1) 0 < x ∧ tAt t x.toNat - tAt t (l.getD (i - 1) 0).toNat ≤ f.G))
end Go.Proofs.YtdblcfkmijigbaaGreat.Sl

open Go.Vm
namespace Go.Proofs.YtdblcfkmijigbaaGreat.Sl
set_option maxRecDepth 20000
set_option maxHeartbeats 1000000

def innS (f : Fil) (t : List Int) (i : Nat) (l : List Int) : Nat → Nat → Int → Int
  | 0, _, v => v
  | k + 1, j, v => innS f t i l k (j + 1) (if tAt t i - tAt t j ≤ f.G ∧ l.getD j 0 + 1 < v then l.getD j 0 + 1 else v)
def mn1 (f : Fil) (t : List Int) (p lo i : Nat) (l : List Int) : Int := innS f t i l (i - lo) lo (if f.Y ≤ tAt t p - tAt t i then 1 else 100)
def mnS (f : Fil) (t : List Int) (p lo : Nat) : Nat → Nat → List Int → List Int
  | 0, _, l => l
  | k + 1, i, l => mnS f t p lo k (i + 1) (l.set i (mn1 f t p lo i l))
def many (f : Fil) (t : List Int) (p : Nat) : Int := (mnS f t p (fst f t p) (p + 1 - fst f t p) (fst f t p) (List.replicate t.length 0)).getD p 0
end Go.Proofs.YtdblcfkmijigbaaGreat.Sl

open Go.Vm
namespace Go.Proofs.YtdblcfkmijigbaaGreat.Sl
set_option maxRecDepth 20000
set_option maxHeartbeats 1000000

def farS (f : Fil) (t : List Int) (p : Nat) : Nat → Nat → Nat
  | 0, i => i
  | n + 1, i => if f.Y ≤ tAt t p - tAt t (i + 1) then farS f t p n (i + 1) else i
def far (f : Fil) (t : List Int) (p : Nat) : Nat := farS f t p p (fst f t p)
theorem farS_ok {f : Fil} {t : List Int} {p : Nat} (hY : 1 ≤ f.Y) : ∀ n i, p ≤ i + n → i < p → f.Y ≤ tAt t p - tAt t i → i ≤ farS f t p n i ∧ farS f t p n i < p ∧ f.Y ≤ tAt t p - tAt t (farS f t p n i) ∧ tAt t p - tAt t (farS f t p n i + 1) < f.Y
  | 0, i, h1, h2, _ => by omega
  | n + 1, i, h1, h2, h3 => by
    rw [farS]
    split
    · rename_i h4
      have h5 : i + 1 < p := by
        rcases Nat.eq_or_lt_of_le (Nat.succ_le_of_lt h2) with h6 | h6
        · have h6 : i + 1 = p := h6
          rw [h6] at h4; omega
        · exact h6
      have := farS_ok hY n (i + 1) (by omega) h5 h4
      omega
    · exact ⟨Nat.le_refl _, h2, h3, by omega⟩
theorem far_ok {f : Fil} {t : List Int} {p : Nat} (o : Shw f t p) : fst f t p ≤ far f t p ∧ far f t p < p ∧ f.Y ≤ tAt t p - tAt t (far f t p) ∧ tAt t p - tAt t (far f t p + 1) < f.Y := by
  have h1 := o.far
  have h2 := o.y.1
  have h3 := fst_le f t p
  have h4 : fst f t p < p := by
    rcases Nat.eq_or_lt_of_le h3 with h5 | h5
    · rw [h5] at h1; omega
    · exact h5
  exact farS_ok h2 p _ (by omega) h4 h1
def asc (l : List Int) (i : Nat) (x : Int) : Bool := decide (i = 0 ∨ l.getD (i - 1) 0 < x)
def cntS (f : Fil) (y : Int) (l : List Int) : Nat → Nat
  | 0 => 0
  | k + 1 => cntS f y l k + (if l.getD k 0 + 1 ≤ y ∧ y ≤ l.getD k 0 + f.G then 1 else 0)
theorem cntS_le (f : Fil) (y : Int) (l : List Int) (k : Nat) : ∀ j, cntS f y l k ≤ cntS f y l (k + j)
  | 0 => Nat.le_refl _
  | j + 1 => Nat.le_trans (cntS_le f y l k j) (by rw [← Nat.add_assoc, cntS]; omega)
theorem cntS_bd (f : Fil) (y : Int) (l : List Int) : ∀ k, cntS f y l k ≤ k
  | 0 => Nat.le_refl _
  | k + 1 => by have := cntS_bd f y l k; rw [cntS]; split <;> omega
def badW (f : Fil) (t l : List Int) (p i : Nat) : Bool := decide (1 < cntS f (tAt t i) l l.length ∨ (0 < cntS f (tAt t i) l l.length ∧ i = p))
def okW (f : Fil) (t l : List Int) (p : Nat) : Nat → Nat → Bool
  | 0, _ => true
  | k + 1, i => bif badW f t l p i then false else okW f t l p k (i + 1)
def hiOf (f : Fil) (t : List Int) (p : Nat) : Nat := match chn f t p with
  | some s => s.hi.toNat
  | none => 0
def pvE (f : Fil) (t : List Int) (p : Nat) (l : List Int) : Int :=
  bif eachS (asc l) 0 l then
    bif l.all (fun x => decide (tAt t (far f t p) ≤ x ∧ x ≤ tAt t p - 1)) then
      bif okW f t l p (hiOf f t p + 1 - fst f t p) (fst f t p) then 0 else 9
    else 4
  else 5
def pvR (l : List Int) (e : Int) : V := .tuple [I (if e = 0 then l.length + 2 else 0), I e]
theorem vc_pr1 (l : List Int) (i : Nat) (x : Int) (h : Hp) (hl : l.length ≤ 4000000) (hx : l[i]? = some x) : VC Tryz.prog 54 [I i, I x, .fp [dints l]] h (B (asc l i x)) h := by
  have hil : i < l.length := by obtain ⟨h1, _⟩ := List.getElem?_eq_some_iff.1 hx; exact h1
  have hz : l[i - 1]? = some l[i - 1] := List.getElem?_eq_getElem (by omega)
  have e2 : l.getD (i - 1) 0 = l[i - 1] := by simp [hz]
  unfold asc
  rw [e2]
  generalize l[i - 1] = z at hz
  refine VC.body Tryz.func54 rfl Tryz.ntmps54 Tryz.call54 (h.grows_refl) rfl ?_; conv => whnf
  repeat' (first | ((first | refine zs1 ?_ | refine zs2 ?_ | refine zs3 ?_ | refine zs4 ?_ | refine zs5 ?_ | refine zs6 [] ?_); conv => whnf) | ((first | apply zi1 | apply zi2 | apply zi3 | apply zi4 | apply zi5) <;> intro _ <;> conv => whnf) | (refine VAny.ix encI_len (i - 1) (by omega) rfl hz ?_; conv => whnf))
  all_goals (refine VOut.dec ?_; first | (simp only [decide_eq_true_eq]; omega) | (simp; omega) | (simp; done))
theorem vc_pr2 (f : Fil) (t : List Int) (a p i : Nat) (x : Int) (h : Hp) (o : Okt f t) (ha : a < t.length) (hp : p < t.length) : VC Tryz.prog 55 [I i, I x, .fp [dints t], .fp [DI a], .fp [DI p]] h (B (decide (tAt t a ≤ x ∧ x ≤ tAt t p - 1))) h := by
  have hy : t[a]? = some t[a] := List.getElem?_eq_getElem (by omega)
  have hw : t[p]? = some t[p] := List.getElem?_eq_getElem (by omega)
  have b3 := o.yr hy
  have b4 := o.yr hw
  rw [tAt_eq hy, tAt_eq hw]
  generalize t[a] = y at hy b3
  generalize t[p] = w at hw b4
  refine VC.body Tryz.func55 rfl Tryz.ntmps55 Tryz.call55 (h.grows_refl) rfl ?_; conv => whnf
  repeat' (first | ((first | refine zs1 ?_ | refine zs2 ?_ | refine zs3 ?_ | refine zs4 ?_ | refine zs5 ?_ | refine zs6 [] ?_); conv => whnf) | ((first | apply zi1 | apply zi2 | apply zi3 | apply zi4 | apply zi5) <;> intro _ <;> conv => whnf) | (refine VAny.ix encI_len a (by omega) rfl hy ?_; conv => whnf) | (refine VAny.ix encI_len p (by omega) rfl hw ?_; conv => whnf) | (refine VCall.intro (vc_from _ _ _ _) ?_; conv => whnf))
  all_goals (refine VOut.dec ?_; first | (simp only [decide_eq_true_eq]; omega) | (simp; omega) | (simp; done))
theorem vc_Proves_ok (f : Fil) (t : List Int) (p : Nat) (l : List Int) (h : Hp) (hl : t.length ≤ 4000000) (hl2 : l.length ≤ 4000000) (h0 : toldE f t = 0) (o : Shw f t p) :
    VC Tryz.prog 24 [vF f, ints t, I p, ints l] h (pvR l (pvE f t p l)) h := by
  have hlen := o.len
  have hn' := o.n
  have hlt := o.lt
  obtain ⟨hi, c⟩ := InCh.of o
  have hfr := far_ok o
  refine VC.bodyC 1 Tryz.func24 rfl Tryz.ntmps24 Tryz.call24 (h.grows_refl) rfl ?_; conv => whnf
  refine VCut.into 4 ?_
  repeat' (first | ((first | refine zs1 ?_ | refine zs2 ?_ | refine zs3 ?_ | refine zs4 ?_ | refine zs5 ?_ | refine zs6 [] ?_); conv => whnf) | ((first | apply zi1 | apply zi2 | apply zi3 | apply zi4 | apply zi5) <;> intro _ <;> conv => whnf) | (refine VCall.intro (vc_shown_ok f t p hi _ hl o h0 c.hc) ?_; conv => whnf))
  obtain ⟨F, hF⟩ : ∃ F, F = far f t p := ⟨_, rfl⟩
  have hF2 : F = farS f t p p (fst f t p) := hF
  rw [← hF] at hfr
  obtain ⟨lo, hlo⟩ : ∃ lo, lo = fst f t p := ⟨_, rfl⟩
  rw [← hlo] at hfr hF2 ⊢
  have hhi : hiOf f t p = hi := by rw [hiOf, c.hc]; rfl
  obtain ⟨E, hE⟩ : ∃ E, E = pvE f t p l := ⟨_, rfl⟩
  have hE2 : E = bif eachS (asc l) 0 l then bif l.all (fun x => decide (tAt t F ≤ x ∧ x ≤ tAt t p - 1)) then bif okW f t l p (hi + 1 - lo) lo then 0 else 9 else 4 else 5 := by rw [hE, hF, hlo, ← hhi]; rfl
  rw [← hE]
  have hy : t[p]? = some t[p] := List.getElem?_eq_getElem (by omega)
  have b3 := o.yr hy
  have e3 := tAt_eq hy
  have hhp := c.ph
  have hhl := c.hl
  refine VCode.lp (fun k : Nat => [(1, ints t), (2, I p), (3, ints l), (4, .ptr (.loc 0) 0), (5, .ptr (.loc 1) 0), (6, .ptr (.loc 2) 0), (7, .ptr (.loc 3) 0), (8, I 0), (9, I 0), (10, .fp (encDk f t)), (11, .ptr (.loc 4) 0), (12, I 0), (13, .ptr (.loc 5) 0)])
    (fun k => [.flat true (encF f), .flat true [dints t], .flat true [DI p], .flat true [dints l], .flat true [DI lo, DI hi], .flat true [DI k]]) (fun k => lo ≤ k ∧ k ≤ F ∧ ∃ n, F = farS f t p n k ∧ p ≤ k + n) (fun k => p - k) lo ⟨Nat.le_refl _, hfr.1, p, hF2, by omega⟩ ?_ ?_
  · conv => whnf
    refine Retell.turn ⟨[0,1,2,3,4,5], 6, [], []⟩ (TurnOk.mk' _ _ [] [] (OutOk.lift _) rfl (by decide) zb trivial trivial rfl) zv zm
  · rintro k ⟨h1, h2, n, h3, h4⟩
    obtain ⟨n, rfl⟩ : ∃ m, n = m + 1 := ⟨n - 1, by omega⟩
    rw [farS] at h3
    have hw : t[k + 1]? = some t[k + 1] := List.getElem?_eq_getElem (by omega)
    have b4 := o.yr hw
    have e4 := tAt_eq hw
    generalize t[p] = y at hy b3 e3
    generalize t[k + 1] = w at hw b4 e4
    conv => whnf
    repeat' (first | ((first | refine zs1 ?_ | refine zs2 ?_ | refine zs3 ?_ | refine zs4 ?_ | refine zs5 ?_ | refine zs6 [] ?_); conv => whnf) | ((first | apply zi1 | apply zi2 | apply zi3 | apply zi4 | apply zi5) <;> intro _ <;> conv => whnf) | (refine VAny.ix encI_len p (by omega) rfl hy ?_; conv => whnf) | (refine VAny.ix encI_len (k + 1) (by omega) rfl hw ?_; conv => whnf))
    · rw [if_pos (by omega)] at h3
      have hk1 : k + 1 ≤ F := by
        rcases Nat.eq_or_lt_of_le h2 with h6 | h6
        · subst h6; omega
        · exact h6
      refine LEnd.intro (k + 1) ⟨by omega, hk1, n, h3, by omega⟩ (by omega) ?_
      conv => whnf
      refine Retell.turn ⟨[0,1,2,3,4,5], 6, [], []⟩ (TurnOk.mk' _ _ [] [] (OutOk.lift _) rfl (by decide) zb trivial trivial rfl) zv zm
    · rw [if_neg (by omega)] at h3
      subst h3
      refine VCut.at [(1, ints t), (2, I p), (3, ints l), (4, .fp (encF f)), (5, .fp [dints t]), (6, .fp [DI p]), (7, .fp [dints l]), (8, I 0), (9, I 0), (10, .fp (encDk f t)), (11, .fp [DI lo, DI hi]), (12, I 0), (13, .fp [DI F])] [] ?_ ?_
      · conv => whnf
        refine Retell.turn ⟨[], 6, [(0, encF f), (1, [dints t]), (2, [DI p]), (3, [dints l]), (4, [DI lo, DI hi]), (5, [DI F])], []⟩ (TurnOk.mk' _ _ [(0, encF f), (1, [dints t]), (2, [DI p]), (3, [dints l]), (4, [DI lo, DI hi]), (5, [DI F])] [] (OutOk.lift _) rfl (by decide) zb zf trivial rfl) zv zm
      have key1 : VC Tryz.prog 53 [ints l, .func (.func 54) [] (D.vs [.pt [dints l]])] ⟨h.lift, []⟩ (B (eachS (asc l) 0 l)) ⟨h.lift, []⟩ :=
        vc_each l (asc l) 54 [.pt [dints l]] hl2 (fun i x h hx => vc_pr1 l i x h hl2 hx) _
      have key2 : VC Tryz.prog 53 [ints l, .func (.func 55) [] (D.vs [.pt [dints t], .pt [DI F], .pt [DI p]])] ⟨h.lift, []⟩ (B (l.all fun x => decide (tAt t F ≤ x ∧ x ≤ tAt t p - 1))) ⟨h.lift, []⟩ := by
        rw [← eachS_all _ l 0]
        exact vc_each l (fun _ x => decide (tAt t F ≤ x ∧ x ≤ tAt t p - 1)) 55 [.pt [dints t], .pt [DI F], .pt [DI p]] hl2 (fun i x h hx => vc_pr2 f t F p i x h o.toOkt (by omega) (by omega)) _
      have hRR : ∀ e : Int, E = e → pvR l E = .tuple [I (if e = 0 then l.length + 2 else 0), I e] := fun e he => by rw [he]; rfl
      cases hA : eachS (asc l) 0 l
      · rw [hA] at hE2 key1
        rw [hRR 5 hE2]
        conv => whnf
        repeat' (first | ((first | refine zs1 ?_ | refine zs2 ?_ | refine zs3 ?_ | refine zs4 ?_ | refine zs5 ?_ | refine zs6 [] ?_); conv => whnf) | ((first | apply zi1 | apply zi2 | apply zi3 | apply zi4 | apply zi5) <;> intro _ <;> conv => whnf) | (refine VCall.intro key1 ?_; conv => whnf))
        exact VOut.same rfl
      · rw [hA] at hE2 key1
        simp only [cond_true] at hE2
        cases hB : l.all fun x => decide (tAt t F ≤ x ∧ x ≤ tAt t p - 1)
        · rw [hB] at hE2 key2
          rw [hRR 4 hE2]
          conv => whnf
          repeat' (first | ((first | refine zs1 ?_ | refine zs2 ?_ | refine zs3 ?_ | refine zs4 ?_ | refine zs5 ?_ | refine zs6 [] ?_); conv => whnf) | ((first | apply zi1 | apply zi2 | apply zi3 | apply zi4 | apply zi5) <;> intro _ <;> conv => whnf) | (refine VCall.intro key1 ?_; conv => whnf) | (refine VCall.intro key2 ?_; conv => whnf))
          exact VOut.same rfl
        · rw [hB] at hE2 key2
          simp only [cond_true] at hE2
          have hin : ∀ {i : Nat} {x : Int}, l[i]? = some x → 0 ≤ x ∧ x ≤ 3000 := fun {i x} hx => by
            have h9 := List.all_eq_true.1 hB x (List.mem_of_getElem? hx)
            rw [decide_eq_true_eq] at h9
            have hfy : t[F]? = some t[F] := List.getElem?_eq_getElem (by omega)
            have b9 := o.yr hfy
            rw [tAt_eq hfy] at h9
            omega
          have hG := o.g
          conv => whnf
          repeat' (first | ((first | refine zs1 ?_ | refine zs2 ?_ | refine zs3 ?_ | refine zs4 ?_ | refine zs5 ?_ | refine zs6 [] ?_); conv => whnf) | ((first | apply zi1 | apply zi2 | apply zi3 | apply zi4 | apply zi5) <;> intro _ <;> conv => whnf) | (refine VCall.intro key1 ?_; conv => whnf) | (refine VCall.intro key2 ?_; conv => whnf))
          refine VCode.lp (fun k : Nat => [(4, .fp (encF f)), (5, .fp [dints t]), (6, .fp [DI p]), (7, .fp [dints l]), (8, I 0), (9, I 0), (10, .fp (encDk f t)), (11, .fp [DI lo, DI hi]), (12, I 0), (13, .fp [DI F]), (14, B true), (15, I k)]) (fun _ => []) (fun k => lo ≤ k ∧ k ≤ hi + 1 ∧ okW f t l p (hi + 1 - lo) lo = okW f t l p (hi + 1 - k) k) (fun k => hi + 1 - k) lo ⟨Nat.le_refl _, by omega, rfl⟩ ?_ ?_
          · conv => whnf
            refine Retell.turn ⟨[], 0, [], []⟩ (TurnOk.mk' _ _ [] [] (OutOk.lift _) rfl (by decide) zb trivial trivial rfl) zv zm
          · rintro i ⟨g1, g2, g3⟩
            conv => whnf
            repeat (first | ((first | refine zs1 ?_ | refine zs2 ?_ | refine zs3 ?_ | refine zs4 ?_ | refine zs5 ?_ | refine zs6 [] ?_); conv => whnf))
            refine VIte.dec (fun g4 => ?_) (fun g4 => ?_)
            · have hx : t[i]? = some t[i] := List.getElem?_eq_getElem (by omega)
              have b5 := o.yr hx
              have e5 := tAt_eq hx
              have hbad : badW f t l p i = true ↔ (1 < cntS f t[i] l l.length ∨ (0 < cntS f t[i] l l.length ∧ i = p)) := by rw [badW, e5, decide_eq_true_eq]
              have g3b : (badW f t l p i = true → okW f t l p (hi + 1 - lo) lo = false) ∧ (badW f t l p i = false → okW f t l p (hi + 1 - lo) lo = okW f t l p (hi + 1 - (i + 1)) (i + 1)) := by
                obtain ⟨m, hm⟩ : ∃ m, hi + 1 - i = m + 1 := ⟨hi - i, by omega⟩
                rw [hm, okW] at g3
                rw [show hi + 1 - (i + 1) = m by omega, g3]
                exact ⟨fun hb => by rw [hb]; rfl, fun hb => by rw [hb]; rfl⟩
              generalize t[i] = x at hx b5 e5 hbad
              conv => whnf
              repeat (first | ((first | refine zs1 ?_ | refine zs2 ?_ | refine zs3 ?_ | refine zs4 ?_ | refine zs5 ?_ | refine zs6 [] ?_); conv => whnf))
              refine VCode.lp (fun k : Nat => [(4, .fp (encF f)), (5, .fp [dints t]), (6, .fp [DI p]), (7, .fp [dints l]), (8, I 0), (9, I 0), (10, .fp (encDk f t)), (11, .fp [DI lo, DI hi]), (12, I 0), (13, .fp [DI F]), (14, B true), (15, I i), (16, I (cntS f x l k)), (68, ints l), (69, I l.length), (70, I k)]) (fun _ => []) (fun k => k ≤ l.length ∧ ¬ (1 < cntS f x l k ∨ (0 < cntS f x l k ∧ i = p))) (fun k => l.length - k) 0 ⟨Nat.zero_le _, by simp [cntS]⟩ ?_ ?_
              · conv => whnf
                refine Retell.turn ⟨[], 0, [], []⟩ (TurnOk.mk' _ _ [] [] (OutOk.lift _) rfl (by decide) zb trivial trivial rfl) zv zm
              · rintro k ⟨k1, k2⟩
                have hcb := cntS_bd f x l k
                conv => whnf
                refine VIte.dec (fun k3 => ?_) (fun k3 => ?_)
                · have hv : l[k]? = some l[k] := List.getElem?_eq_getElem (by omega)
                  have bv := hin hv
                  have ev : l.getD k 0 = l[k] := by simp [hv]
                  have hc1 : (l[k] + 1 ≤ x ∧ x ≤ l[k] + f.G → cntS f x l (k + 1) = cntS f x l k + 1) ∧ (¬ (l[k] + 1 ≤ x ∧ x ≤ l[k] + f.G) → cntS f x l (k + 1) = cntS f x l k) := by
                    rw [cntS, ev]
                    exact ⟨fun hc => by rw [if_pos hc], fun hc => by rw [if_neg hc]; rfl⟩
                  have hmono := cntS_le f x l (k + 1) (l.length - (k + 1))
                  rw [show k + 1 + (l.length - (k + 1)) = l.length by omega] at hmono
                  generalize l[k] = v at hv bv ev hc1
                  obtain ⟨C, hC⟩ : ∃ C, C = cntS f x l k := ⟨_, rfl⟩
                  obtain ⟨C', hC'⟩ : ∃ C', C' = cntS f x l (k + 1) := ⟨_, rfl⟩
                  rw [← hC] at hc1 hcb k2 ⊢
                  rw [← hC'] at hc1 hmono
                  conv => whnf
                  repeat' (first | ((first | refine zs1 ?_ | refine zs2 ?_ | refine zs3 ?_ | refine zs4 ?_ | refine zs5 ?_ | refine zs6 [] ?_); conv => whnf) | ((first | apply zi1 | apply zi2 | apply zi3 | apply zi4 | apply zi5) <;> intro _ <;> conv => whnf) | (refine VAny.ix encI_len k (by omega) rfl hv ?_; conv => whnf) | (refine VAny.ix encI_len i (by omega) rfl hx ?_; conv => whnf) | (refine VCall.intro (vc_from _ _ _ _) ?_; conv => whnf))
                  all_goals first
                    | (have hb := hbad.2 (by omega)
                       rw [g3b.1 hb] at hE2
                       rw [hRR 9 hE2]
                       exact VOut.same rfl)
                    | (refine LEnd.intro (k + 1) ⟨by omega, by rw [← hC']; omega⟩ (by omega) ?_
                       conv => whnf
                       rw [← hC']
                       refine Retell.turn ⟨[], 0, [], []⟩ (TurnOk.mk' _ _ [] [] (OutOk.lift _) rfl (by decide) zb trivial trivial rfl) zv zm)
                · have hk : k = l.length := by omega
                  subst hk
                  have hb : badW f t l p i = false := Bool.eq_false_iff.2 fun hb => k2 (hbad.1 hb)
                  conv => whnf
                  repeat (first | ((first | refine zs1 ?_ | refine zs2 ?_ | refine zs3 ?_ | refine zs4 ?_ | refine zs5 ?_ | refine zs6 [] ?_); conv => whnf))
                  refine LEnd.intro (i + 1) ⟨by omega, by omega, g3b.2 hb⟩ (by omega) ?_
                  conv => whnf
                  refine Retell.turn ⟨[], 0, [], []⟩ (TurnOk.mk' _ _ [] [] (OutOk.lift _) rfl (by decide) zb trivial trivial rfl) zv zm
            · have hi2 : i = hi + 1 := by omega
              subst hi2
              rw [g3, Nat.sub_self, okW] at hE2
              rw [hRR 0 hE2]
              conv => whnf
              repeat (first | ((first | refine zs1 ?_ | refine zs2 ?_ | refine zs3 ?_ | refine zs4 ?_ | refine zs5 ?_ | refine zs6 [] ?_); conv => whnf))
              exact VOut.same rfl
end Go.Proofs.YtdblcfkmijigbaaGreat.Sl

open Go.Vm
namespace Go.Proofs.YtdblcfkmijigbaaGreat.Sl
set_option maxRecDepth 20000
set_option maxHeartbeats 1000000

theorem drop_eq_dec {α : Type} [DecidableEq α] {a b : List α} {k : Nat} {x y : α} (hx : a[k]? = some x) (hy : b[k]? = some y) : decide (a.drop k = b.drop k) = (decide (x = y) && decide (a.drop (k + 1) = b.drop (k + 1))) := by
  obtain ⟨h1, rfl⟩ := List.getElem?_eq_some_iff.1 hx
  obtain ⟨h2, rfl⟩ := List.getElem?_eq_some_iff.1 hy
  rw [List.drop_eq_getElem_cons h1, List.drop_eq_getElem_cons h2, Bool.eq_iff_iff, Bool.and_eq_true, decide_eq_true_eq, decide_eq_true_eq, decide_eq_true_eq, List.cons.injEq]
theorem ne_I {x y : Int} (h : ¬ x = y) : ¬ x = y := h
theorem eq_I {x y : Int} (h : x = y) : x = y := h
theorem ne_S {x y : Spn} (h : ¬ x = y) : ¬ x = y := h
theorem eq_S {x y : Spn} (h : ¬ ¬ x = y) : x = y := Decidable.not_not.1 h
theorem top43 : eqTop Tryz.prog 41 = some (Sh.cons 0 1 false Sh.int (Sh.cons 1 1 false Sh.int Sh.nil)) := by kernel_rfl
theorem vneqS (x y : Spn) : vaggeq Tryz.prog .neq 41 (.agg [I x.lo, I x.hi]) (.agg [I y.lo, I y.hi]) = some (B (decide (¬ x = y))) := by
  have : (!((x.lo == y.lo) && ((x.hi == y.hi) && true))) = decide (¬ x = y) := by cases x; cases y; rw [Bool.eq_iff_iff, decide_eq_true_eq]; simp [-not_and]; omega
  rw [← this]
  unfold vaggeq
  rw [top43]
  rfl
theorem vc_equalI (a b : List Int) (h : Hp) (ha : a.length ≤ 4000000) (hb : b.length ≤ 4000000) : VC Tryz.prog 25 [ints a, ints b] h (B (decide (a = b))) h := by
  obtain ⟨E, hE⟩ : ∃ E, E = decide (a = b) := ⟨_, rfl⟩
  rw [← hE]
  refine VC.body Tryz.func25 rfl Tryz.ntmps25 Tryz.call25 (h.grows_refl) rfl ?_; conv => whnf
  refine VCode.lp (fun k : Nat => [(0, ints a), (1, ints b), (4, B false), (7, I a.length), (8, I k)]) (fun _ => []) (fun k => k ≤ a.length ∧ k ≤ b.length ∧ E = decide (a.drop k = b.drop k)) (fun k => a.length - k) 0 ⟨Nat.zero_le _, Nat.zero_le _, hE⟩ ?_ ?_
  · conv => whnf
    refine Retell.turn ⟨[], 0, [], []⟩ (TurnOk.mk' _ _ [] [] (OutOk.lift _) rfl (by decide) zb trivial trivial rfl) zv zm
  · rintro k ⟨h1, h2, h3⟩
    conv => whnf
    refine VIte.dec (fun h4 => ?_) (fun h4 => ?_)
    · have hx : a[k]? = some a[k] := List.getElem?_eq_getElem (by omega)
      rcases Nat.eq_or_lt_of_le h2 with h5 | h5
      · have hF : E = false := by
          rw [h3, decide_eq_false_iff_not]
          intro hh
          have := congrArg List.length hh
          simp at this; omega
        rw [hF]
        conv => whnf
        repeat' (first | ((first | refine zs1 ?_ | refine zs2 ?_ | refine zs3 ?_ | refine zs4 ?_ | refine zs5 ?_ | refine zs6 [] ?_); conv => whnf) | ((first | apply zi1 | apply zi2 | apply zi3 | apply zi4 | apply zi5) <;> intro _ <;> conv => whnf))
        · exact VOut.same rfl
        all_goals omega
      · have hy : b[k]? = some b[k] := List.getElem?_eq_getElem h5
        rw [drop_eq_dec hx hy] at h3
        generalize a[k] = x at hx h3
        generalize b[k] = y at hy h3
        conv => whnf
        repeat' (first | ((first | refine zs1 ?_ | refine zs2 ?_ | refine zs3 ?_ | refine zs4 ?_ | refine zs5 ?_ | refine zs6 [] ?_); conv => whnf) | ((first | apply zi1 | apply zi2 | apply zi3 | apply zi4 | apply zi5) <;> intro _ <;> conv => whnf) | (refine VAny.ix encI_len k rfl rfl hx ?_; conv => whnf) | (refine VAny.ix encI_len k rfl rfl hy ?_; conv => whnf))
        all_goals (try omega)
        all_goals first
          | (rw [decide_eq_false (ne_I (by first | assumption | omega)), Bool.false_and] at h3; rw [h3]; exact VOut.same rfl)
          | (rw [decide_eq_true (eq_I (by first | assumption | omega)), Bool.true_and] at h3
             refine LEnd.intro (k + 1) ⟨by omega, by omega, h3⟩ (by omega) ?_
             conv => whnf
             refine Retell.turn ⟨[], 0, [], []⟩ (TurnOk.mk' _ _ [] [] (OutOk.lift _) rfl (by decide) zb trivial trivial rfl) zv zm)
    · have hk : k = a.length := by omega
      rw [h3, hk, List.drop_length]
      conv => whnf
      repeat' (first | ((first | refine zs1 ?_ | refine zs2 ?_ | refine zs3 ?_ | refine zs4 ?_ | refine zs5 ?_ | refine zs6 [] ?_); conv => whnf) | ((first | apply zi1 | apply zi2 | apply zi3 | apply zi4 | apply zi5) <;> intro _ <;> conv => whnf))
      refine VOut.same ?_
      have : ((a.length : Int) == b.length) = decide ([] = b.drop a.length) := by
        rw [Bool.eq_iff_iff, decide_eq_true_eq, beq_iff_eq]
        constructor
        · intro hh; rw [List.drop_of_length_le (by omega)]
        · intro hh
          have := congrArg List.length hh
          simp at this; omega
      simp only [V.ren, this]
theorem vc_equalS (a b : List Spn) (h : Hp) (ha : a.length ≤ 4000000) (hb : b.length ≤ 4000000) : VC Tryz.prog 29 [spans a, spans b] h (B (decide (a = b))) h := by
  obtain ⟨E, hE⟩ : ∃ E, E = decide (a = b) := ⟨_, rfl⟩
  rw [← hE]
  refine VC.body Tryz.func29 rfl Tryz.ntmps29 Tryz.call29 (h.grows_refl) rfl ?_; conv => whnf
  refine VCode.lp (fun k : Nat => [(0, spans a), (1, spans b), (4, B false), (7, I a.length), (8, I k)]) (fun _ => []) (fun k => k ≤ a.length ∧ k ≤ b.length ∧ E = decide (a.drop k = b.drop k)) (fun k => a.length - k) 0 ⟨Nat.zero_le _, Nat.zero_le _, hE⟩ ?_ ?_
  · conv => whnf
    refine Retell.turn ⟨[], 0, [], []⟩ (TurnOk.mk' _ _ [] [] (OutOk.lift _) rfl (by decide) zb trivial trivial rfl) zv zm
  · rintro k ⟨h1, h2, h3⟩
    conv => whnf
    refine VIte.dec (fun h4 => ?_) (fun h4 => ?_)
    · have hx : a[k]? = some a[k] := List.getElem?_eq_getElem (by omega)
      rcases Nat.eq_or_lt_of_le h2 with h5 | h5
      · have hF : E = false := by
          rw [h3, decide_eq_false_iff_not]
          intro hh
          have := congrArg List.length hh
          simp at this; omega
        rw [hF]
        conv => whnf
        repeat' (first | ((first | refine zs1 ?_ | refine zs2 ?_ | refine zs3 ?_ | refine zs4 ?_ | refine zs5 ?_ | refine zs6 [] ?_); conv => whnf) | ((first | apply zi1 | apply zi2 | apply zi3 | apply zi4 | apply zi5) <;> intro _ <;> conv => whnf))
        · exact VOut.same rfl
        all_goals omega
      · have hy : b[k]? = some b[k] := List.getElem?_eq_getElem h5
        rw [drop_eq_dec hx hy] at h3
        generalize a[k] = x at hx h3
        generalize b[k] = y at hy h3
        conv => whnf
        repeat' (first | ((first | refine zs1 ?_ | refine zs2 ?_ | refine zs3 ?_ | refine zs4 ?_ | refine zs5 ?_ | refine zs6 [] ?_); conv => whnf) | ((first | apply zi1 | apply zi2 | apply zi3 | apply zi4 | apply zi5) <;> intro _ <;> conv => whnf) | (refine VAny.ix encS_len k rfl rfl hx ?_; conv => whnf) | (refine VAny.ix encS_len k rfl rfl hy ?_; conv => whnf) | (refine VAgg.intro (vneqS _ _) ?_; conv => whnf))
        all_goals (try omega)
        all_goals first
          | (rw [decide_eq_false (ne_S (by first | assumption | omega)), Bool.false_and] at h3; rw [h3]; exact VOut.same rfl)
          | (rw [decide_eq_true (eq_S (by first | assumption | omega)), Bool.true_and] at h3
             refine LEnd.intro (k + 1) ⟨by omega, by omega, h3⟩ (by omega) ?_
             conv => whnf
             refine Retell.turn ⟨[], 0, [], []⟩ (TurnOk.mk' _ _ [] [] (OutOk.lift _) rfl (by decide) zb trivial trivial rfl) zv zm)
    · have hk : k = a.length := by omega
      rw [h3, hk, List.drop_length]
      conv => whnf
      repeat' (first | ((first | refine zs1 ?_ | refine zs2 ?_ | refine zs3 ?_ | refine zs4 ?_ | refine zs5 ?_ | refine zs6 [] ?_); conv => whnf) | ((first | apply zi1 | apply zi2 | apply zi3 | apply zi4 | apply zi5) <;> intro _ <;> conv => whnf))
      refine VOut.same ?_
      have : ((a.length : Int) == b.length) = decide ([] = b.drop a.length) := by
        rw [Bool.eq_iff_iff, decide_eq_true_eq, beq_iff_eq]
        constructor
        · intro hh; rw [List.drop_of_length_le (by omega)]
        · intro hh
          have := congrArg List.length hh
          simp at this; omega
      simp only [V.ren, this]
end Go.Proofs.YtdblcfkmijigbaaGreat.Sl

open Go.Vm
namespace Go.Proofs.YtdblcfkmijigbaaGreat.Sl
set_option maxRecDepth 20000
set_option maxHeartbeats 1000000
def datP (y : Int) : Pap := if y < 0 then ⟨1, -y, -y⟩ else ⟨0, y, y⟩
theorem vc_Dated (Y G : Int) (l : List Int) (h : Hp) (hl : l.length ≤ 4000000) (hb : ∀ y ∈ l, -100000 ≤ y ∧ y ≤ 100000) : VC Tryz.prog 21 [I Y, I G, ints l] h (vF ⟨Y, G, l.map datP⟩) h := by
  refine VC.body Tryz.func21 rfl Tryz.ntmps21 Tryz.call21 (h.grows_refl) rfl ?_; conv => whnf
  repeat (first | ((first | refine zs1 ?_ | refine zs2 ?_ | refine zs3 ?_ | refine zs4 ?_ | refine zs5 ?_ | refine zs6 [] ?_); conv => whnf))
  refine VCode.lp (fun k : Nat => [(6, .ptr (.loc 0) 0), (7, .ptr (.loc 1) 0), (14, ints l), (15, I l.length), (16, I k)])
    (fun k => [.flat true [DI 0, DI 0, .nilslice], .cells true [I Y, I G, .gl (.loc 2) 3 k], .flat true (((l.take k).map datP).flatMap encP)]) (fun k => k ≤ l.length) (fun k => l.length - k) 0 (Nat.zero_le _) ?_ ?_
  · conv => whnf
    refine Retell.turn ⟨[0,1,2], 2, [], []⟩ (TurnOk.mk' _ _ [] [] (OutOk.lift _) rfl (by decide) zb trivial trivial rfl) zv zm
  · intro k hk
    conv => whnf
    refine VIte.dec (fun h3 => ?_) (fun h3 => ?_)
    · have hp : l[k]? = some l[k] := List.getElem?_eq_getElem (by omega)
      have hts : l.take (k + 1) = l.take k ++ [l[k]] := by rw [List.take_add_one, hp]; rfl
      have hbk := hb l[k] (List.getElem_mem (by omega))
      generalize l[k] = y at hp hts hbk
      have hlk : ((l.take k).map datP).length = k := by simp; omega
      conv => whnf
      repeat' (first | ((first | refine zs1 ?_ | refine zs2 ?_ | refine zs3 ?_ | refine zs4 ?_ | refine zs5 ?_ | refine zs6 [] ?_); conv => whnf) | ((first | apply zi1 | apply zi2 | apply zi3 | apply zi4 | apply zi5) <;> intro _ <;> conv => whnf) | (refine VAny.ix encI_len k rfl rfl hp ?_; conv => whnf))
      · rename_i hy
        have hd : datP y = ⟨1, 0 - y, 0 - y⟩ := by rw [datP, if_pos hy]; simp
        refine VMem.app1 (l := (l.take k).map datP) (⟨1, 0 - y, 0 - y⟩ : Pap) encP_len rfl rfl rfl hlk.symm rfl (by omega) ?_
        conv => whnf
        repeat (first | ((first | refine zs1 ?_ | refine zs2 ?_ | refine zs3 ?_ | refine zs4 ?_ | refine zs5 ?_ | refine zs6 [] ?_); conv => whnf))
        refine LEnd.intro (k + 1) (by omega) (by omega) ?_
        conv => whnf
        rw [hts, List.map_append, List.map_cons, List.map_nil, hd]
        refine Retell.turn ⟨[0,1,5], 6, [], []⟩ (TurnOk.mk' _ _ [] [] (OutOk.lift _) rfl (by decide) zb trivial trivial rfl) zv zm
      · rename_i hy
        have hd : datP y = ⟨0, y, y⟩ := if_neg hy
        refine VMem.app1 (l := (l.take k).map datP) (⟨0, y, y⟩ : Pap) encP_len rfl rfl rfl hlk.symm rfl (by omega) ?_
        conv => whnf
        repeat (first | ((first | refine zs1 ?_ | refine zs2 ?_ | refine zs3 ?_ | refine zs4 ?_ | refine zs5 ?_ | refine zs6 [] ?_); conv => whnf))
        refine LEnd.intro (k + 1) (by omega) (by omega) ?_
        conv => whnf
        rw [hts, List.map_append, List.map_cons, List.map_nil, hd]
        refine Retell.turn ⟨[0,1,5], 6, [], []⟩ (TurnOk.mk' _ _ [] [] (OutOk.lift _) rfl (by decide) zb trivial trivial rfl) zv zm
    · have hk2 : k = l.length := by omega
      subst hk2
      rw [List.take_of_length_le (Nat.le_refl _)]
      rw [show vF ⟨Y, G, l.map datP⟩ = .agg [I Y, I G, .fs 3 l.length ((l.map datP).flatMap encP)] from by simp [vF, paps]]
      conv => whnf
      repeat (first | ((first | refine zs1 ?_ | refine zs2 ?_ | refine zs3 ?_ | refine zs4 ?_ | refine zs5 ?_ | refine zs6 [] ?_); conv => whnf))
      refine VOut.data 3 [(2, (l.map datP).flatMap encP)] [] rfl zf (by exact FmAll.nil) zv
end Go.Proofs.YtdblcfkmijigbaaGreat.Sl

open Go.Vm
namespace Go.Proofs.YtdblcfkmijigbaaGreat.Sl
set_option maxRecDepth 20000
set_option maxHeartbeats 1000000

theorem any_drop {α : Type} {q : α → Bool} {l : List α} {k : Nat} {x : α} (hx : l[k]? = some x) : (l.drop k).any q = (q x || (l.drop (k + 1)).any q) := by
  obtain ⟨h1, rfl⟩ := List.getElem?_eq_some_iff.1 hx
  rw [List.drop_eq_getElem_cons h1, List.any_cons]
end Go.Proofs.YtdblcfkmijigbaaGreat.Sl

open Go.Vm
namespace Go.Proofs.YtdblcfkmijigbaaGreat.Sl
set_option maxRecDepth 20000
set_option maxHeartbeats 1000000

def minL : List Int → Int
  | [] => 0
  | a :: r => r.foldl min a
def maxL : List Int → Int
  | [] => 0
  | a :: r => r.foldl max a
theorem fold_snoc (g : Int → Int → Int) {l : List Int} {k : Nat} {x : Int} (a : Int) (hx : l[k]? = some x) : (l.take (k + 1)).foldl g a = g ((l.take k).foldl g a) x := by
  rw [List.take_add_one, hx]; simp
theorem vc_Min (a : Int) (r : List Int) (h : Hp) (hl : r.length ≤ 200000000) : VC Tryz.prog 61 [ints (a :: r)] h (I (minL (a :: r))) h := by
  have h0 : (a :: r)[0]? = some a := rfl
  have hle : (a :: r).length = r.length + 1 := rfl
  rw [minL]
  refine VC.body Tryz.func61 rfl Tryz.ntmps61 Tryz.call61 (h.grows_refl) rfl ?_; conv => whnf
  repeat' (first | ((first | refine zs1 ?_ | refine zs2 ?_ | refine zs3 ?_ | refine zs4 ?_ | refine zs5 ?_ | refine zs6 [] ?_); conv => whnf) | ((first | apply zi1 | apply zi2 | apply zi3 | apply zi4 | apply zi5) <;> intro _ <;> conv => whnf) | (refine VAny.ix encI_len 0 (by omega) rfl h0 ?_; conv => whnf))
  refine VCode.lp (fun k : Nat => [(0, ints (a :: r)), (3, I ((r.take k).foldl min a)), (4, I (k + 1 : Nat))]) (fun _ => []) (fun k => k ≤ r.length) (fun k => r.length - k) 0 (Nat.zero_le _) ?_ ?_
  · conv => whnf
    refine Retell.turn ⟨[], 0, [], []⟩ (TurnOk.mk' _ _ [] [] (OutOk.lift _) rfl (by decide) zb trivial trivial rfl) zv zm
  · rintro k hk
    conv => whnf
    refine VIte.dec (fun h3 => ?_) (fun h3 => ?_)
    · have hx : r[k]? = some r[k] := List.getElem?_eq_getElem (by omega)
      have hf := fold_snoc min a hx
      generalize r[k] = x at hx hf
      have hx' : (a :: r)[k + 1]? = some x := hx
      conv => whnf
      repeat' (first | ((first | refine zs1 ?_ | refine zs2 ?_ | refine zs3 ?_ | refine zs4 ?_ | refine zs5 ?_ | refine zs6 [] ?_); conv => whnf) | ((first | apply zi1 | apply zi2 | apply zi3 | apply zi4 | apply zi5) <;> intro _ <;> conv => whnf) | (refine VAny.ix encI_len (k + 1) (by omega) rfl hx' ?_; conv => whnf))
      refine LEnd.intro (k + 1) (by omega) (by omega) ?_
      conv => whnf
      rw [hf]
      refine Retell.turn ⟨[], 0, [], []⟩ (TurnOk.mk' _ _ [] [] (OutOk.lift _) rfl (by decide) zb trivial trivial rfl) zv zm
    · conv => whnf
      repeat (first | ((first | refine zs1 ?_ | refine zs2 ?_ | refine zs3 ?_ | refine zs4 ?_ | refine zs5 ?_ | refine zs6 [] ?_); conv => whnf))
      rw [List.take_of_length_le (by omega)]
      exact VOut.same rfl
theorem vc_Max (a : Int) (r : List Int) (h : Hp) (hl : r.length ≤ 200000000) : VC Tryz.prog 35 [ints (a :: r)] h (I (maxL (a :: r))) h := by
  have h0 : (a :: r)[0]? = some a := rfl
  have hle : (a :: r).length = r.length + 1 := rfl
  rw [maxL]
  refine VC.body Tryz.func35 rfl Tryz.ntmps35 Tryz.call35 (h.grows_refl) rfl ?_; conv => whnf
  repeat' (first | ((first | refine zs1 ?_ | refine zs2 ?_ | refine zs3 ?_ | refine zs4 ?_ | refine zs5 ?_ | refine zs6 [] ?_); conv => whnf) | ((first | apply zi1 | apply zi2 | apply zi3 | apply zi4 | apply zi5) <;> intro _ <;> conv => whnf) | (refine VAny.ix encI_len 0 (by omega) rfl h0 ?_; conv => whnf))
  refine VCode.lp (fun k : Nat => [(0, ints (a :: r)), (3, I ((r.take k).foldl max a)), (4, I (k + 1 : Nat))]) (fun _ => []) (fun k => k ≤ r.length) (fun k => r.length - k) 0 (Nat.zero_le _) ?_ ?_
  · conv => whnf
    refine Retell.turn ⟨[], 0, [], []⟩ (TurnOk.mk' _ _ [] [] (OutOk.lift _) rfl (by decide) zb trivial trivial rfl) zv zm
  · rintro k hk
    conv => whnf
    refine VIte.dec (fun h3 => ?_) (fun h3 => ?_)
    · have hx : r[k]? = some r[k] := List.getElem?_eq_getElem (by omega)
      have hf := fold_snoc max a hx
      generalize r[k] = x at hx hf
      have hx' : (a :: r)[k + 1]? = some x := hx
      conv => whnf
      repeat' (first | ((first | refine zs1 ?_ | refine zs2 ?_ | refine zs3 ?_ | refine zs4 ?_ | refine zs5 ?_ | refine zs6 [] ?_); conv => whnf) | ((first | apply zi1 | apply zi2 | apply zi3 | apply zi4 | apply zi5) <;> intro _ <;> conv => whnf) | (refine VAny.ix encI_len (k + 1) (by omega) rfl hx' ?_; conv => whnf))
      refine LEnd.intro (k + 1) (by omega) (by omega) ?_
      conv => whnf
      rw [hf]
      refine Retell.turn ⟨[], 0, [], []⟩ (TurnOk.mk' _ _ [] [] (OutOk.lift _) rfl (by decide) zb trivial trivial rfl) zv zm
    · conv => whnf
      repeat (first | ((first | refine zs1 ?_ | refine zs2 ?_ | refine zs3 ?_ | refine zs4 ?_ | refine zs5 ?_ | refine zs6 [] ?_); conv => whnf))
      rw [List.take_of_length_le (by omega)]
      exact VOut.same rfl
theorem vc_least (l : List Int) (h : Hp) (hl : l.length ≤ 200000000) : VC Tryz.prog 33 [ints l] h (I (minL l)) h := by
  cases l with
  | nil =>
    refine VC.body Tryz.func33 rfl Tryz.ntmps33 Tryz.call33 (h.grows_refl) rfl ?_; conv => whnf
    repeat' (first | ((first | refine zs1 ?_ | refine zs2 ?_ | refine zs3 ?_ | refine zs4 ?_ | refine zs5 ?_ | refine zs6 [] ?_); conv => whnf) | ((first | apply zi1 | apply zi2 | apply zi3 | apply zi4 | apply zi5) <;> intro _ <;> conv => whnf))
    · exact VOut.same rfl
    all_goals (rename_i h1; exact absurd rfl h1)
  | cons a r =>
    have hle : (a :: r).length = r.length + 1 := rfl
    refine VC.body Tryz.func33 rfl Tryz.ntmps33 Tryz.call33 (h.grows_refl) rfl ?_; conv => whnf
    repeat' (first | ((first | refine zs1 ?_ | refine zs2 ?_ | refine zs3 ?_ | refine zs4 ?_ | refine zs5 ?_ | refine zs6 [] ?_); conv => whnf) | ((first | apply zi1 | apply zi2 | apply zi3 | apply zi4 | apply zi5) <;> intro _ <;> conv => whnf) | (refine VCall.intro (vc_Min a r _ (by omega)) ?_; conv => whnf))
    exact VOut.same rfl
theorem vc_most (a : Int) (r : List Int) (h : Hp) (hl : r.length ≤ 200000000) : VC Tryz.prog 34 [ints (a :: r)] h (I (maxL (a :: r))) h := by
  refine VC.body Tryz.func34 rfl Tryz.ntmps34 Tryz.call34 (h.grows_refl) rfl ?_; conv => whnf
  repeat' (first | ((first | refine zs1 ?_ | refine zs2 ?_ | refine zs3 ?_ | refine zs4 ?_ | refine zs5 ?_ | refine zs6 [] ?_); conv => whnf) | ((first | apply zi1 | apply zi2 | apply zi3 | apply zi4 | apply zi5) <;> intro _ <;> conv => whnf) | (refine VCall.intro (vc_Max a r _ (by omega)) ?_; conv => whnf))
  exact VOut.same rfl
structure End where
  i : Int
  year : Int
  first : Int
  side : Int
  since : Int
  deriving DecidableEq
def encE (e : End) : List D := [DI e.i, DI e.year, DI e.first, DI e.side, DI e.since]
theorem encE_len (e : End) : (encE e).length = 5 := rfl
def ends (l : List End) : V := .fs 5 l.length (l.flatMap encE)
def aggE (e : End) : V := .agg [I e.i, I e.year, I e.first, I e.side, I e.since]
def fidx (q : End → Bool) : List End → Int → Int
  | [], _ => -1
  | a :: r, i => bif q a then i else fidx q r (i + 1)
theorem fidx_at {q : End → Bool} {a : End} {l : List End} {k : Nat} (ha : l[k]? = some a) : fidx q (l.drop k) k = bif q a then (k : Int) else fidx q (l.drop (k + 1)) ((k + 1 : Nat) : Int) := by
  obtain ⟨h1, rfl⟩ := List.getElem?_eq_some_iff.1 ha
  rw [List.drop_eq_getElem_cons h1, fidx]; rfl
theorem vc_IndexFunc (l : List End) (q : End → Bool) (g : FuncId) (caps : List D) (hl : l.length ≤ 200000000) (hso : ∀ (e : End) (h : Hp), VC Tryz.prog g ([aggE e] ++ D.vs caps) h (B (q e)) h) (h : Hp) :
    VC Tryz.prog 56 [ends l, .func (.func g) [] (D.vs caps)] h (I (fidx q l 0)) h := by
  obtain ⟨E, hE⟩ : ∃ E, E = fidx q l 0 := ⟨_, rfl⟩
  rw [← hE]
  refine VC.body Tryz.func56 rfl Tryz.ntmps56 Tryz.call56 (h.grows_refl) rfl ?_; conv => whnf
  rw [rens_dvs]
  refine VCode.lp (fun k : Nat => [(0, ends l), (1, .func (.func g) [] (D.vs caps)), (7, I l.length), (8, I k)]) (fun _ => []) (fun k => k ≤ l.length ∧ E = fidx q (l.drop k) k) (fun k => l.length - k) 0 ⟨Nat.zero_le _, hE⟩ ?_ ?_
  · conv => whnf
    refine Retell.turn ⟨[], 0, [], []⟩ (TurnOk.mk' _ _ [] [] (OutOk.lift _) rfl (by decide) zb trivial trivial rfl) zv zm
  · rintro k ⟨h1, h2⟩
    conv => whnf
    refine VIte.dec (fun h3 => ?_) (fun h3 => ?_)
    · have ha : l[k]? = some l[k] := List.getElem?_eq_getElem (by omega)
      generalize l[k] = a at ha
      rw [fidx_at ha] at h2
      conv => whnf
      repeat' (first | ((first | refine zs1 ?_ | refine zs2 ?_ | refine zs3 ?_ | refine zs4 ?_ | refine zs5 ?_ | refine zs6 [] ?_); conv => whnf) | ((first | apply zi1 | apply zi2 | apply zi3 | apply zi4 | apply zi5) <;> intro _ <;> conv => whnf) | (refine VAny.ix encE_len k (by omega) rfl ha ?_; conv => whnf))
      refine VCall.intro (hso a _) ?_
      conv => whnf
      cases hq : q a
      · rw [hq] at h2
        conv => whnf
        repeat (first | ((first | refine zs1 ?_ | refine zs2 ?_ | refine zs3 ?_ | refine zs4 ?_ | refine zs5 ?_ | refine zs6 [] ?_); conv => whnf))
        refine LEnd.intro (k + 1) ⟨by omega, h2⟩ (by omega) ?_
        conv => whnf
        refine Retell.turn ⟨[], 0, [], []⟩ (TurnOk.mk' _ _ [] [] (OutOk.lift _) rfl (by decide) zb trivial trivial rfl) zv zm
      · rw [hq] at h2
        rw [h2]
        conv => whnf
        repeat (first | ((first | refine zs1 ?_ | refine zs2 ?_ | refine zs3 ?_ | refine zs4 ?_ | refine zs5 ?_ | refine zs6 [] ?_); conv => whnf))
        exact VOut.same rfl
    · rw [List.drop_of_length_le (by omega), fidx] at h2
      rw [h2]
      conv => whnf
      repeat (first | ((first | refine zs1 ?_ | refine zs2 ?_ | refine zs3 ?_ | refine zs4 ?_ | refine zs5 ?_ | refine zs6 [] ?_); conv => whnf))
      exact VOut.same rfl
theorem vc_Truth1 (s : Int) (e : End) (h : Hp) : VC Tryz.prog 57 [aggE e, .fp [DI s]] h (B (decide (e.side = s))) h := by
  refine VC.body Tryz.func57 rfl Tryz.ntmps57 Tryz.call57 (h.grows_refl) rfl ?_; conv => whnf
  repeat' (first | ((first | refine zs1 ?_ | refine zs2 ?_ | refine zs3 ?_ | refine zs4 ?_ | refine zs5 ?_ | refine zs6 [] ?_); conv => whnf) | ((first | apply zi1 | apply zi2 | apply zi3 | apply zi4 | apply zi5) <;> intro _ <;> conv => whnf))
  all_goals (refine VOut.dec ?_; first | (simp only [decide_eq_true_eq]; omega) | (simp; omega) | (simp; done))
end Go.Proofs.YtdblcfkmijigbaaGreat.Sl

open Go.Vm
namespace Go.Proofs.YtdblcfkmijigbaaGreat.Sl
set_option maxRecDepth 20000
set_option maxHeartbeats 1000000

def yrs (p : Pap) : List Int := (List.range (p.hi - p.lo + 1).toNat).map fun k : Nat => p.lo + (k : Int)
def ext1 (p : Pap) (ts : List (List Int)) : List (List Int) := ts.flatMap fun t => (yrs p).map fun y => t ++ [y]
def tru (ps : List Pap) : List (List Int) := ps.foldl (fun ts p => ext1 p ts) [[]]
theorem tru_snoc {ps : List Pap} {k : Nat} {p : Pap} (hp : ps[k]? = some p) : tru (ps.take (k + 1)) = ext1 p (tru (ps.take k)) := by
  rw [tru, List.take_add_one, hp]; simp [tru]
end Go.Proofs.YtdblcfkmijigbaaGreat.Sl

open Go.Vm
namespace Go.Proofs.YtdblcfkmijigbaaGreat.Sl
set_option maxRecDepth 20000
set_option maxHeartbeats 1000000

theorem holdsS_of : ∀ {ps : List Pap} {t : List Int}, (∀ (i : Nat) p y, ps[i]? = some p → t[i]? = some y → p.lo ≤ y ∧ y ≤ p.hi) → holdsS ps t = true
  | [], t, _ => by cases t <;> simp [holdsS]
  | p :: ps, [], _ => by simp [holdsS]
  | p :: ps, y :: t, h => by
    rw [holdsS, decide_eq_true (h 0 p y rfl rfl), Bool.true_and]
    exact holdsS_of fun i q z h1 h2 => h (i + 1) q z (by simpa using h1) (by simpa using h2)
theorem mem_yrs {p : Pap} {y : Int} : y ∈ yrs p ↔ p.lo ≤ y ∧ y ≤ p.hi := by
  unfold yrs
  rw [List.mem_map]
  constructor
  · rintro ⟨k, h1, rfl⟩
    rw [List.mem_range] at h1; omega
  · intro h
    exact ⟨(y - p.lo).toNat, by rw [List.mem_range]; omega, by omega⟩
theorem tru_take {ps : List Pap} : ∀ {k : Nat}, k ≤ ps.length → ∀ t, t ∈ tru (ps.take k) ↔ t.length = k ∧ ∀ (i : Nat) p y, ps[i]? = some p → t[i]? = some y → p.lo ≤ y ∧ y ≤ p.hi
  | 0, _, t => by
    have : tru (ps.take 0) = [[]] := rfl
    rw [this, List.mem_singleton]
    constructor
    · rintro rfl; exact ⟨rfl, fun i p y _ h => by simp at h⟩
    · rintro ⟨h, _⟩; exact List.length_eq_zero_iff.1 h
  | k + 1, hk, t => by
    have hp : ps[k]? = some ps[k] := List.getElem?_eq_getElem (by omega)
    rw [tru_snoc hp]
    generalize ps[k] = q at hp
    simp only [ext1, List.mem_flatMap, List.mem_map]
    constructor
    · rintro ⟨t0, h1, y, h2, rfl⟩
      obtain ⟨h3, h4⟩ := (tru_take (by omega) t0).1 h1
      refine ⟨by simp [h3], fun i p z hp2 hz => ?_⟩
      rcases Nat.lt_trichotomy i k with h5 | h5 | h5
      · rw [List.getElem?_append_left (by omega)] at hz; exact h4 i p z hp2 hz
      · subst h5
        rw [hp] at hp2; cases hp2
        rw [List.getElem?_append_right (by omega), h3] at hz
        simp at hz; subst hz
        exact mem_yrs.1 h2
      · rw [List.getElem?_eq_none (by simp; omega)] at hz; cases hz
    · rintro ⟨h1, h2⟩
      have hy : t[k]? = some t[k] := List.getElem?_eq_getElem (by omega)
      refine ⟨t.take k, (tru_take (by omega) _).2 ⟨by simp; omega, fun i p z hp2 hz => ?_⟩, t[k], mem_yrs.2 (h2 k q _ hp hy), ?_⟩
      · rw [List.getElem?_take] at hz
        split at hz
        · exact h2 i p z hp2 hz
        · cases hz
      · have e9 : t.take (k + 1) = t.take k ++ [t[k]] := by rw [List.take_add_one, hy]; rfl
        rw [← e9, List.take_of_length_le (by omega)]
theorem mem_tru {ps : List Pap} {t : List Int} : t ∈ tru ps ↔ t.length = ps.length ∧ holdsS ps t = true := by
  have := tru_take (ps := ps) (Nat.le_refl _) t
  rw [List.take_of_length_le (Nat.le_refl _)] at this
  rw [this]
  constructor
  · rintro ⟨h1, h2⟩; exact ⟨h1, holdsS_of h2⟩
  · rintro ⟨h1, h2⟩; exact ⟨h1, fun i p y hp hy => holdsS_get h2 hp hy⟩
theorem tru_okt {f : Fil} (h : chk f = 0) {t : List Int} (ht : t ∈ tru f.ps) : Okt f t := by
  obtain ⟨a, b, c, d⟩ := chk_zero h
  obtain ⟨h1, h2⟩ := mem_tru.1 ht
  exact ⟨a, b, c, h1, d, h2⟩
end Go.Proofs.YtdblcfkmijigbaaGreat.Sl

open Go.Vm
namespace Go.Proofs.YtdblcfkmijigbaaGreat.Sl
set_option maxRecDepth 20000
set_option maxHeartbeats 1000000

structure Sn where
  found : Bool
  lo : Int
  hi : Int
def snF (f : Fil) (x : Int) (s : Sn) (t : List Int) : Sn :=
  if (own f t).1 = x then ⟨true, if s.found = false ∨ (own f t).2 < s.lo then (own f t).2 else s.lo, if s.found = false ∨ s.hi < (own f t).2 then (own f t).2 else s.hi⟩ else s
def sn (f : Fil) (x : Int) : Sn := (tru f.ps).foldl (snF f x) ⟨false, 0, 0⟩
def sinceE (f : Fil) (x : Int) : Int := if chk f ≠ 0 then chk f else if x < 0 ∨ 1 < x then 4 else bif (sn f x).found then 0 else 7
def sinceR (f : Fil) (x : Int) : V := .tuple [bif decide (sinceE f x = 0) then .agg [I (sn f x).lo, I (sn f x).hi] else .agg [I 0, I 0], I (sinceE f x)]
end Go.Proofs.YtdblcfkmijigbaaGreat.Sl

open Go.Vm
namespace Go.Proofs.YtdblcfkmijigbaaGreat.Sl
set_option maxRecDepth 20000
set_option maxHeartbeats 1000000

def aggP (p : Pap) : V := .agg [I p.side, I p.lo, I p.hi]
theorem vc_years (p : Pap) (h : Hp) : VC Tryz.prog 59 [aggP p] h (.func (.func 75) [] [.fp (encP p)]) h := by
  refine VC.body Tryz.func59 rfl Tryz.ntmps59 Tryz.call59 (h.grows_refl) rfl ?_; conv => whnf
  repeat (first | ((first | refine zs1 ?_ | refine zs2 ?_ | refine zs3 ?_ | refine zs4 ?_ | refine zs5 ?_ | refine zs6 [] ?_); conv => whnf))
  refine VOut.data 1 [(0, encP p)] [] rfl zf (by exact FmAll.nil) zv
end Go.Proofs.YtdblcfkmijigbaaGreat.Sl

open Go.Vm
namespace Go.Proofs.YtdblcfkmijigbaaGreat.Sl
set_option maxRecDepth 20000
set_option maxHeartbeats 1000000

theorem vc_years1 (p : Pap) (hlo : -1000000 ≤ p.lo) (hhi : p.hi ≤ 1000000) : Iter Tryz.prog 75 [.fp (encP p)] (p.hi - p.lo + 1).toNat (fun j => I (p.lo + j)) := by
  intro h i J hs h0
  obtain ⟨g, g0, g1, g2⟩ := iter_seq hs h0
  obtain ⟨M, hM⟩ : ∃ M, M = (p.hi - p.lo + 1).toNat := ⟨_, rfl⟩
  rw [← hM] at g1 g2 ⊢
  have hgr : ∀ j, j ≤ M → h.grows (g j) := by
    intro j
    induction j with
    | zero => intro _; rw [g0]; exact h.grows_refl
    | succ j ih => intro hj; exact fun k hk => (g2 j (by omega)).1 k (ih (by omega) k hk)
  refine ⟨g M, ?_, g1 M (Nat.le_refl _)⟩
  refine VC.body Tryz.func75 rfl Tryz.ntmps75 Tryz.call75 (hgr M (Nat.le_refl _)) rfl ?_
  conv => whnf
  repeat (first | ((first | refine zs1 ?_ | refine zs2 ?_ | refine zs3 ?_ | refine zs4 ?_ | refine zs5 ?_ | refine zs6 [] ?_); conv => whnf))
  refine VCode.lpo (fun k : Nat => [(0, .yld (.out i)), (1, .fp (encP p)), (3, I (p.lo + k))]) (fun k => (g k).lift) (fun _ => []) (fun k => k ≤ M) (fun k => M - k) 0 (Nat.zero_le _) (by rw [g0]) ?_ ?_
  · conv => whnf
    refine Retell.turn ⟨[], 0, [], []⟩ (TurnOk.mk' _ _ [] [] (OutOk.lift _) rfl (by decide) zb trivial trivial rfl) zv zm
  · rintro k hk
    conv => whnf
    repeat' (first | ((first | refine zs1 ?_ | refine zs2 ?_ | refine zs3 ?_ | refine zs4 ?_ | refine zs5 ?_ | refine zs6 [] ?_); conv => whnf) | ((first | apply zi1 | apply zi2 | apply zi3 | apply zi4 | apply zi5) <;> intro _ <;> conv => whnf) | (refine VYield.intro (VY.lift [] (g2 k (by omega))) ?_; conv => whnf))
    · refine LEndO.intro (k + 1) (by omega) (by omega) rfl ?_
      conv => whnf
      refine Retell.turn ⟨[], 0, [], []⟩ (TurnOk.mk' _ _ [] [] (OutOk.lift _) rfl (by decide) zb trivial trivial rfl) zv zm
    · have hkM : k = M := by omega
      subst hkM
      exact VOut.lifted (r := .tuple []) (hgr k (Nat.le_refl _))
end Go.Proofs.YtdblcfkmijigbaaGreat.Sl

open Go.Vm
namespace Go.Proofs.YtdblcfkmijigbaaGreat.Sl
set_option maxRecDepth 20000
set_option maxHeartbeats 1000000

abbrev AL := List (End × End)
def hasK (a : AL) (e : End) : Bool := a.any fun x => decide (x.1 = e)
def alGet (a : AL) (e : End) : Option End := (a.find? fun x => decide (x.1 = e)).map (·.2)
def goesB (f : Fil) (i : Nat) (y a : Int) : Bool := decide (0 < i ∧ sdAt f i = sdAt f (i - 1) ∧ y - a ≤ f.G)
def isE (f : Fil) (i : Nat) (p : Pap) (was : End) (y : Int) : End :=
  bif decide (¬ (bif goesB f i y was.year then was.first else y) = -1 ∧ f.Y ≤ y - (bif goesB f i y was.year then was.first else y)) then ⟨i, y, -1, p.side, y⟩
  else ⟨i, y, bif goesB f i y was.year then was.first else y, was.side, was.since⟩
def gY (f : Fil) (i : Nat) (p : Pap) (was : End) (s : AL × List End) (y : Int) : AL × List End :=
  bif hasK s.1 (isE f i p was y) then s else (s.1 ++ [(isE f i p was y, was)], s.2 ++ [isE f i p was y])
def gYs (f : Fil) (i : Nat) (p : Pap) (was : End) (s : AL × List End) : Nat → AL × List End
  | 0 => s
  | k + 1 => gY f i p was (gYs f i p was s k) (p.lo + k)
def gW (f : Fil) (i : Nat) (p : Pap) (s : AL × List End) (was : End) : AL × List End := gYs f i p was s (p.hi - p.lo + 1).toNat
def gP (f : Fil) : List Pap → Nat → AL × List End → AL × List End
  | [], _, s => s
  | p :: r, i, s => gP f r (i + 1) (s.2.foldl (gW f i p) (s.1, []))
def beg : End := ⟨-1, 0, 0, 2, 0⟩
def gone (f : Fil) : AL × List End := gP f f.ps 0 ([], [beg])
theorem gP_at {f : Fil} {ps : List Pap} {k : Nat} {p : Pap} {s : AL × List End} (h : ps[k]? = some p) : gP f (ps.drop k) k s = gP f (ps.drop (k + 1)) (k + 1) (s.2.foldl (gW f k p) (s.1, [])) := by
  obtain ⟨hlt, rfl⟩ := List.getElem?_eq_some_iff.1 h
  rw [List.drop_eq_getElem_cons hlt, gP]
theorem gW_at {f : Fil} {i : Nat} {p : Pap} {now : List End} {j : Nat} {w : End} {s : AL × List End} (h : now[j]? = some w) : (now.drop j).foldl (gW f i p) s = (now.drop (j + 1)).foldl (gW f i p) (gW f i p s w) := by
  obtain ⟨hlt, rfl⟩ := List.getElem?_eq_some_iff.1 h
  rw [List.drop_eq_getElem_cons hlt, List.foldl_cons]
/-! ### How many there can be -/

theorem nodup_bd : ∀ (M : Nat) (l : List Nat), l.Nodup → (∀ x ∈ l, x < M) → l.length ≤ M
  | 0, l, _, h => by
    cases l with
    | nil => simp
    | cons a l => exact absurd (h a (by simp)) (by omega)
  | M + 1, l, hn, h => by
    have ih := nodup_bd M (l.erase M) (hn.erase M) (fun x hx => by
      have h1 := (List.Nodup.mem_erase_iff hn).1 hx
      have h2 := h x h1.2
      have h3 := h1.1
      omega)
    by_cases hm : M ∈ l
    · rw [List.length_erase_of_mem hm] at ih; omega
    · rw [List.erase_of_not_mem hm] at ih; omega
structure EOk (e : End) : Prop where
  year : 0 ≤ e.year ∧ e.year ≤ 3000
  first : -1 ≤ e.first ∧ e.first ≤ 3000
  side : 0 ≤ e.side ∧ e.side ≤ 2
  since : 0 ≤ e.since ∧ e.since ≤ 3000
structure GI (i : Int) (p : Pap) (s : AL × List End) : Prop where
  ok : ∀ e ∈ s.2, EOk e
  at_ : ∀ e ∈ s.2, e.i = i ∧ p.lo ≤ e.year ∧ e.year ≤ p.lo + 3
  nodup : s.2.Nodup
  has : ∀ e ∈ s.2, hasK s.1 e = true
theorem GI.len {i : Int} {p : Pap} {s : AL × List End} (g : GI i p s) : s.2.length ≤ 108108024 := by
  let c : End → Nat := fun e => (((e.year - p.lo).toNat * 3002 + (e.first + 1).toNat) * 3 + e.side.toNat) * 3001 + e.since.toNat
  have h1 : (s.2.map c).Nodup := by
    unfold List.Nodup
    rw [List.pairwise_map]
    refine List.Pairwise.imp_of_mem ?_ g.nodup
    intro a b ha hb hab hc
    apply hab
    obtain ⟨a1, a2, a3, a4⟩ := g.ok a ha
    obtain ⟨b1, b2, b3, b4⟩ := g.ok b hb
    obtain ⟨a5, a6, a7⟩ := g.at_ a ha
    obtain ⟨b5, b6, b7⟩ := g.at_ b hb
    obtain ⟨i1, y1, f1, s1, n1⟩ := a
    obtain ⟨i2, y2, f2, s2, n2⟩ := b
    simp only [c] at *
    have e1 : n1 = n2 := by omega
    have e2 : s1 = s2 := by omega
    have e3 : f1 = f2 := by omega
    have e4 : y1 = y2 := by omega
    rw [e1, e2, e3, e4, a5, b5]
  have h2 : ∀ x ∈ s.2.map c, x < 108108024 := by
    intro x hx
    obtain ⟨a, ha, rfl⟩ := List.mem_map.1 hx
    obtain ⟨a1, a2, a3, a4⟩ := g.ok a ha
    obtain ⟨a5, a6, a7⟩ := g.at_ a ha
    simp only [c]
    omega
  have := nodup_bd 108108024 _ h1 h2
  simpa using this
theorem isE_ok {f : Fil} {i : Nat} {p : Pap} {was : End} {y : Int} (hp : p.side = 0 ∨ p.side = 1) (hw : EOk was) (hy : 0 ≤ y ∧ y ≤ 3000) : EOk (isE f i p was y) ∧ (isE f i p was y).i = i ∧ (isE f i p was y).year = y := by
  obtain ⟨a1, a2, a3, a4⟩ := hw
  unfold isE
  obtain ⟨st, hst⟩ : ∃ st, st = (bif goesB f i y was.year then was.first else y) := ⟨_, rfl⟩
  have hb : -1 ≤ st ∧ st ≤ 3000 := by rw [hst]; cases goesB f i y was.year <;> simp only [cond_true, cond_false] <;> omega
  rw [← hst]
  cases decide (¬ st = -1 ∧ f.Y ≤ y - st) <;> simp only [cond_true, cond_false] <;> exact ⟨⟨by simp only; omega, by simp only; omega, by simp only; omega, by simp only; omega⟩, trivial, trivial⟩
theorem hasK_snoc (a : AL) (e v x : End) : hasK (a ++ [(e, v)]) x = (hasK a x || decide (e = x)) := by simp [hasK]
theorem GI.gY {f : Fil} {i : Nat} {p : Pap} {s : AL × List End} {was : End} {y : Int} (g : GI i p s) (hp : p.side = 0 ∨ p.side = 1) (hw : EOk was) (hy : 0 ≤ y ∧ y ≤ 3000) (hy2 : p.lo ≤ y ∧ y ≤ p.lo + 3) : GI i p (gY f i p was s y) := by
  obtain ⟨h1, h2, h3⟩ := isE_ok (f := f) (i := i) (y := y) hp hw hy
  unfold YtdblcfkmijigbaaGreat.Sl.gY
  generalize isE f i p was y = E at h1 h2 h3
  cases hk : hasK s.1 E
  · refine ⟨?_, ?_, ?_, ?_⟩
    · intro e he
      simp only [cond_false, List.mem_append, List.mem_singleton] at he
      rcases he with he | rfl
      · exact g.ok e he
      · exact h1
    · intro e he
      simp only [cond_false, List.mem_append, List.mem_singleton] at he
      rcases he with he | rfl
      · exact g.at_ e he
      · exact ⟨h2, by omega, by omega⟩
    · simp only [cond_false]
      rw [List.nodup_append]
      refine ⟨g.nodup, by simp, ?_⟩
      intro a ha b hb hab
      rw [List.mem_singleton] at hb
      have := g.has a ha
      rw [hab, hb, hk] at this; cases this
    · intro e he
      simp only [cond_false, List.mem_append, List.mem_singleton] at he ⊢
      rw [hasK_snoc]
      rcases he with he | rfl
      · rw [g.has e he]; rfl
      · simp
  · exact g
theorem GI.gYs {f : Fil} {i : Nat} {p : Pap} {s : AL × List End} {was : End} (g : GI i p s) (hp : p.side = 0 ∨ p.side = 1) (hw : EOk was) (h0 : 0 ≤ p.lo) (h1 : p.hi ≤ 3000) (h2 : p.hi ≤ p.lo + 3) : ∀ k, k ≤ (p.hi - p.lo + 1).toNat → GI i p (gYs f i p was s k)
  | 0, _ => g
  | k + 1, hk => by
    rw [YtdblcfkmijigbaaGreat.Sl.gYs]
    exact (GI.gYs g hp hw h0 h1 h2 k (by omega)).gY hp hw (by omega) (by omega)
structure POk (p : Pap) : Prop where
  side : p.side = 0 ∨ p.side = 1
  lo : 0 ≤ p.lo
  hi : p.hi ≤ 3000
  le : p.lo ≤ p.hi
  near : p.hi ≤ p.lo + 3
theorem chk_pok {f : Fil} (h : chk f = 0) : ∀ p ∈ f.ps, POk p := by
  obtain ⟨_, _, _, d⟩ := chk_zero h
  intro p hp
  have := chkGo_zero d p hp
  unfold badPap at this
  exact ⟨by omega, by omega, by omega, by omega, by omega⟩
theorem EOk.beg : EOk beg := by constructor <;> decide
end Go.Proofs.YtdblcfkmijigbaaGreat.Sl

open Go.Vm
namespace Go.Proofs.YtdblcfkmijigbaaGreat.Sl
set_option maxRecDepth 20000
set_option maxHeartbeats 2000000

def esE (a : AL) : List (V × V) := a.map fun x => (aggE x.1, aggE x.2)
def keysE (a : AL) : List D := a.map fun x => .agg (encE x.1)
def valsE (a : AL) : List D := a.map fun x => .agg (encE x.2)
theorem esE_fst (a : AL) : (esE a).map (·.1) = (keysE a).map D.v := by simp only [esE, keysE, List.map_map]; rfl
theorem esE_snd (a : AL) : (esE a).map (·.2) = (valsE a).map D.v := by simp only [esE, valsE, List.map_map]; rfl
theorem esE_zip (a : AL) : (D.vs (keysE a)).zip (D.vs (valsE a)) = esE a := by
  rw [D.vs_eq, D.vs_eq, ← esE_fst, ← esE_snd]
  induction a with
  | nil => rfl
  | cons x a ih => simpa [esE] using ih
theorem esE_ren (a : AL) (ρ : Vm.Id → Vm.Id) : (Blk.map (esE a)).ren ρ = .map (esE a) := by
  unfold Blk.ren
  congr 1
  simp only [esE, List.map_map]
  rfl
theorem BTos.esE {c : TCtx} {loc : List Blk} {pm : List Nat} {bs : List Blk} {j : Nat} {a : AL} (hj : Nat.blt j c.L = true) (hl : loc[j]? = some (.map (esE a))) (r : BTos c loc pm bs) : BTos c loc (j :: pm) (.map (esE a) :: bs) :=
  BTos.map hj hl (by rw [esE_fst]; exact RowTo.dv c _) (by rw [esE_snd]; exact RowTo.dv c _) r
theorem EsTo.esE {c : TCtx} (a : AL) : EsTo c (esE a) (keysE a) (valsE a) := ⟨by rw [esE_fst]; exact RowTo.dv c _, by rw [esE_snd]; exact RowTo.dv c _⟩
theorem top100 : ∃ sh, eqTop Tryz.prog 79 = some sh ∧ ∀ x y : End, veqSh sh (aggE x) (aggE y) = some (decide (x = y)) := by
  refine ⟨Sh.cons 0 1 false Sh.int (Sh.cons 1 1 false Sh.int (Sh.cons 2 1 false Sh.int (Sh.cons 3 1 false Sh.int (Sh.cons 4 1 false Sh.int Sh.nil)))), by kernel_rfl, fun x y => ?_⟩
  have : ((x.i == y.i) && ((x.year == y.year) && ((x.first == y.first) && ((x.side == y.side) && ((x.since == y.since) && true))))) = decide (x = y) := by
    cases x; cases y; rw [Bool.eq_iff_iff, decide_eq_true_eq]; simp
  rw [← this]
  rfl
theorem found_none {sh : Vm.Sh} (hs : ∀ x y : End, veqSh sh (aggE x) (aggE y) = some (decide (x = y))) {a : AL} {e : End} (h : hasK a e = false) : Vm.Found sh (aggE e) (esE a) none := by
  intro j p hp
  simp only [esE, List.getElem?_map, Option.map_eq_some_iff] at hp
  obtain ⟨x, hx, rfl⟩ := hp
  simp only [hs]
  have : x ∈ a := List.mem_of_getElem? hx
  unfold hasK at h
  rw [List.any_eq_false] at h
  have := h x this
  simp only [decide_eq_true_eq] at this
  rw [decide_eq_false (fun e1 => this e1.symm)]
theorem found_some {sh : Vm.Sh} (hs : ∀ x y : End, veqSh sh (aggE x) (aggE y) = some (decide (x = y))) : ∀ {a : AL} {e v : End}, alGet a e = some v → ∃ i, Vm.Found sh (aggE e) (esE a) (some (i, aggE v))
  | [], e, v, h => by simp [alGet] at h
  | x :: a, e, v, h => by
    by_cases hx : x.1 = e
    · simp only [alGet, List.find?_cons, hx, decide_true, Option.map_some, Option.some.injEq] at h
      refine ⟨0, aggE x.1, by simp [esE, h], by rw [hs]; simp [hx], fun j p hj => by omega⟩
    · have h' : alGet a e = some v := by simpa [alGet, List.find?_cons, hx] using h
      obtain ⟨i, k0, h1, h2, h3⟩ := found_some hs h'
      refine ⟨i + 1, k0, by simpa [esE] using h1, h2, fun j p hj hp => ?_⟩
      cases j with
      | zero =>
        simp only [esE, List.map_cons, List.getElem?_cons_zero, Option.some.injEq] at hp
        subst hp
        rw [hs, decide_eq_false (fun e1 => hx e1.symm)]
      | succ j => exact h3 j p (by omega) (by simpa [esE] using hp)
theorem hasK_get (a : AL) (e : End) : hasK a e = (alGet a e).isSome := by
  induction a with
  | nil => rfl
  | cons x a ih =>
    by_cases hx : x.1 = e
    · simp [hasK, alGet, hx]
    · simpa [hasK, alGet, hx] using ih
theorem look_esE (a : AL) (e : End) : Look Tryz.prog (tiOf Tryz.prog) 74 true (aggE e) (esE a) (match alGet a e with | some v => .tuple [aggE v, B true] | none => .tuple [aggE ⟨0, 0, 0, 0, 0⟩, B false]) := by
  obtain ⟨sh, h1, h2⟩ := top100
  cases hg : alGet a e with
  | none =>
    exact ⟨_, 79, 79, _, sh, true, none, rfl, rfl, h1, by rw [h2]; simp, found_none h2 (by rw [hasK_get, hg]; rfl), rfl⟩
  | some v =>
    obtain ⟨i, hi⟩ := found_some h2 hg
    exact ⟨_, 79, 79, _, sh, true, some (i, aggE v), rfl, rfl, h1, by rw [h2]; simp, hi, rfl⟩
theorem VMem.newE {a : AL} {e v : End} {h : Hp} {i : Vm.Id} {K : V → Hp → Prop} (hb : h.get i = some (.map (esE a))) (hf : hasK a e = false) (hK : K .undef (h.set i (.map (esE (a ++ [(e, v)]))))) : VMem Tryz.prog (opMapUpdate 74) [.map i, aggE e, aggE v] h K := by
  obtain ⟨sh, h1, h2⟩ := top100
  have : esE (a ++ [(e, v)]) = esE a ++ [(aggE e, aggE v)] := by simp [esE]
  rw [this] at hK
  exact VMem.intro (does_mapNew (tiOf_ok _) (t := 74) rfl rfl h1 (by rw [h2]) (found_none h2 hf) hb) hK
end Go.Proofs.YtdblcfkmijigbaaGreat.Sl


/- Part 6 of the proof that passageFerried: ferries take a herd as far as the cells are. No condition. -/
import Derived.Test.YtoeendggmalcpaaFe5
set_option linter.unusedVariables false
set_option linter.unusedSimpArgs false
open Go.Vm
open Riv
namespace Go.Vm
theorem VCode.lpoH {P : Program} {ro : Option Nat} {c : Code} {n : Nat} {fr : Fr} {outer0 : Id → Option Blk} {loc0 : List Blk} {marks marks0 : List Id} {Q : X → St → Prop} {Y : Type} (m : Nat) (slots : Y → List (Nat × V)) (outer : Y → Id → Option Blk) (loc : Y → List Blk) (Inv : Y → Prop) (μ : Y → Nat) (x0 : Y)
    (h0 : Inv x0) (ho : outer0 = outer x0) (hst : frSK (slots x0) .leaf fun fr' => Retell isOut ⟨n, fr, ⟨outer x0, loc0⟩, marks0⟩ ⟨n, fr', ⟨outer x0, loc x0⟩, marks⟩)
    (hb : ∀ x, Inv x → frSK (slots x) .leaf fun fr' => vcut P ro isOut m c ⟨n, fr', ⟨outer x, loc x⟩, marks⟩ (fun e st' => match e with
      | .normal => LEndO n marks slots outer loc Inv μ x st'
      | .exit i => Q (.exit i) st'
      | .ret => Q .ret st')) : VCode P ro isOut (.loop c) ⟨n, fr, ⟨outer0, loc0⟩, marks0⟩ Q := by
  subst ho
  exact VCode.lpoC m slots outer loc Inv μ x0 h0 hst hb
end Go.Vm
namespace Go.Proofs.Ytoeendggmalcpaa.Rv
set_option maxRecDepth 20000
set_option maxHeartbeats 4000000

theorem dealt (bs : List Int) : Dealt (dNx bs) :=
  ⟨fun d k => (dNx_bd bs d k).1, fun d k hk => by have := (dNx_bd bs d k).2.1; omega, fun d k => (dNx_bd bs d k).2.2⟩
def mdM (bs : List Int) (d : Dk) (w h : Int) : Mp := ⟨4 + (mdW (dNx bs) d w).1, 1 + (mdH (dNx bs) d w h).1, (madeX (dNx bs) d w h).2⟩
theorem tdiv3 (W : Nat) : (W : Int).tdiv 3 = ((W / 3 : Nat) : Int) := rfl
theorem vc_Made (bs : List Int) (d : Dk) (w hh : Int) (i : Vm.Id) (h : Hp) (hN : d.1 ≤ 900000) (hw : 4 ≤ w ∧ w ≤ 12) (hh1 : 1 ≤ hh ∧ hh ≤ 12) (hd : h.get i = some (deckB bs d)) :
    VC Try.prog 61 [.ptr i 0, I w, I hh] h (vM (mdM bs d w hh)) (h.set i (deckB bs (madeX (dNx bs) d w hh).1)) := by
  obtain ⟨W, H, eW, eH, hWw, hHh, hW4, hok, hdn, hX⟩ := madeX_ok (dealt bs) (d := d) hw hh1
  have n1 := (dealt bs).n d (w - 4 + 1)
  have c1 := fun (h2 : Hp) hg => vc_between bs d 4 w (.out i) h2 (by omega) (by omega) (by omega) hg
  rw [show dNx bs d (w - 4 + 1) = mdW (dNx bs) d w from rfl] at c1 n1
  have n2 := (dealt bs).n (mdW (dNx bs) d w).2 (hh - 1 + 1)
  have c2 := fun (h2 : Hp) hg => vc_between bs (mdW (dNx bs) d w).2 1 hh (.out i) h2 (by omega) (by omega) (by omega) hg
  rw [show dNx bs (mdW (dNx bs) d w).2 (hh - 1 + 1) = mdH (dNx bs) d w hh from rfl] at c2 n2
  have hres : mdM bs d w hh = ⟨W, H, (rowsM (dNx bs) W ((mdH (dNx bs) d w hh).2, []) H).2⟩ := by unfold mdM; rw [eW, eH, hX]
  rw [hres, hX]
  rw [eW] at c1
  rw [eH] at c2
  have hR := rowsM_ok (dealt bs) (W := W) hW4 (d := (mdH (dNx bs) d w hh).2)
  have hRs : ∀ y, rowsM (dNx bs) W ((mdH (dNx bs) d w hh).2, []) (y + 1) = rowM (dNx bs) W (rowsM (dNx bs) W ((mdH (dNx bs) d w hh).2, []) y) := fun y => rfl
  have hR0 : rowsM (dNx bs) W ((mdH (dNx bs) d w hh).2, []) 0 = ((mdH (dNx bs) d w hh).2, []) := rfl
  generalize (mdW (dNx bs) d w).2 = D1 at *
  generalize (mdH (dNx bs) d w hh).2 = D0 at *
  generalize rowsM (dNx bs) W (D0, []) = X at *
  clear hres hX hok hdn
  refine VC.bodyC 2 Try.func61 rfl Try.ntmps61 Try.call61 (h.grows_set _ _) rfl ?_
  conv => whnf
  repeat' (first | ((first | refine zs1 ?_ | refine zs2 ?_ | refine zs3 ?_ | refine zs4 ?_ | refine zs5 ?_); conv => whnf) | ((first | apply zi1 | apply zi2 | apply zi3 | apply zi4 | apply zi5) <;> intro _ <;> conv => whnf) | (refine VCall.intro (c1 _ (get_out hd _)) ?_; conv => whnf) | (refine VCall.intro (c2 _ (outW_get _ _ _ _)) ?_; conv => whnf))
  refine VCut.atO (marks := []) 99 [(0, .ptr (.out i) 0), (6, .ptr (.loc 0) 0), (7, .ptr (.loc 1) 0)] (outW h.lift i (deckB bs D0)) [.flat true [DI 0, DI 0, .nilslice], .cells true [I W, I H, .gl (.loc 2) 1 0], .flat true []] ?_ ?_ ?_
  · funext j; by_cases e : j = i <;> simp [outW, e, Hp.set]
  · conv => whnf
    refine Retell.turn ⟨[0,1,2], 2, [], []⟩ (TurnOk.mk' _ _ [] [] (OutOk.outW (OutOk.lift _) rfl) rfl (by decide) zb trivial trivial rfl) zw zm
  conv => whnf
  repeat' (first | ((first | refine zs1 ?_ | refine zs2 ?_ | refine zs3 ?_ | refine zs4 ?_ | refine zs5 ?_); conv => whnf) | ((first | apply zi1 | apply zi2 | apply zi3 | apply zi4 | apply zi5) <;> intro _ <;> conv => whnf))
  refine VCode.lpoH (marks := []) 99 (fun y : Nat => [(0, .ptr (.out i) 0), (6, .ptr (.loc 0) 0), (7, .ptr (.loc 1) 0), (19, I H), (20, I y)]) (fun y => outW h.lift i (deckB bs (X y).1)) (fun y => [.flat true [DI 0, DI 0, .nilslice], .cells true [I W, I H, .gl (.loc 2) 1 (X y).2.length], .flat true ((X y).2.flatMap Vm.encI)]) (fun y => y ≤ H) (fun y => H - y) 0 (Nat.zero_le _) (by rw [hR0]) ?_ ?_
  · rw [hR0]
    conv => whnf
    refine Retell.turn ⟨[0,1,2], 9, [], []⟩ (TurnOk.mk' _ _ [] [] (OutOk.outW (OutOk.lift _) rfl) rfl (by decide) zb trivial trivial rfl) zw zm
  rintro y hy
  rcases Nat.lt_or_ge y H with h4 | h4
  · have hRy := hR y
    have hRs := hRs y
    generalize X y = x at *
    have r1 := hRy.n
    have r2 := hRy.len
    have r3 : (2 + 3 * W) * y ≤ 38 * 12 := Nat.mul_le_mul (by omega) (by omega)
    have r4 : y * W ≤ 12 * 12 := Nat.mul_le_mul (by omega) (by omega)
    have a1 := (dealt bs).lo x.1 (max 1 ((W / 3 : Nat) : Int) - 1 + 1)
    have a2 := (dealt bs).hi x.1 (max 1 ((W / 3 : Nat) : Int) - 1 + 1) (by omega)
    have a3 := (dealt bs).n x.1 (max 1 ((W / 3 : Nat) : Int) - 1 + 1)
    have g1 := fun (h2 : Hp) hg => vc_between bs x.1 1 (max 1 ((W / 3 : Nat) : Int)) (.out i) h2 (by omega) (by omega) (by omega) hg
    rw [show dNx bs x.1 (max 1 ((W / 3 : Nat) : Int) - 1 + 1) = Riv.rowA (dNx bs) W x.1 from rfl] at a1 a2 a3 g1
    unfold rowM Riv.rowB at hRs
    generalize Riv.rowA (dNx bs) W x.1 = ra at *
    have b1 := (dealt bs).lo ra.2 ((W : Int) - 1 - max (1 + ra.1) ((W : Int) - 3) + 1)
    have b2 := (dealt bs).hi ra.2 ((W : Int) - 1 - max (1 + ra.1) ((W : Int) - 3) + 1) (by omega)
    have b3 := (dealt bs).n ra.2 ((W : Int) - 1 - max (1 + ra.1) ((W : Int) - 3) + 1)
    have g2 := fun (h2 : Hp) hg => vc_between bs ra.2 (max (1 + ra.1) ((W : Int) - 3)) ((W : Int) - 1) (.out i) h2 (by omega) (by omega) (by omega) hg
    generalize dNx bs ra.2 ((W : Int) - 1 - max (1 + ra.1) ((W : Int) - 3) + 1) = rb at *
    have hZ := cellsM_ok (dealt bs) (1 + ra.1) (max (1 + ra.1) ((W : Int) - 3) + rb.1) (rb.2, x.2)
    have hZs : ∀ k, cellsM (dNx bs) (1 + ra.1) (max (1 + ra.1) ((W : Int) - 3) + rb.1) (rb.2, x.2) (k + 1) = ((cellM (dNx bs) (1 + ra.1) (max (1 + ra.1) ((W : Int) - 3) + rb.1) (cellsM (dNx bs) (1 + ra.1) (max (1 + ra.1) ((W : Int) - 3) + rb.1) (rb.2, x.2) k).1 k).2, (cellsM (dNx bs) (1 + ra.1) (max (1 + ra.1) ((W : Int) - 3) + rb.1) (rb.2, x.2) k).2 ++ [(cellM (dNx bs) (1 + ra.1) (max (1 + ra.1) ((W : Int) - 3) + rb.1) (cellsM (dNx bs) (1 + ra.1) (max (1 + ra.1) ((W : Int) - 3) + rb.1) (rb.2, x.2) k).1 k).1]) := fun k => rfl
    have hZ0 : cellsM (dNx bs) (1 + ra.1) (max (1 + ra.1) ((W : Int) - 3) + rb.1) (rb.2, x.2) 0 = (rb.2, x.2) := rfl
    have ht : IntKind.i64.wrap ((W : Int).tdiv 3) = ((W / 3 : Nat) : Int) := by rw [tdiv3, wrap_i64 (by omega)]
    rw [← ht] at g1
    generalize max (1 + ra.1) ((W : Int) - 3) + rb.1 = B2 at *
    generalize hA2 : 1 + ra.1 = A2 at *
    generalize cellsM (dNx bs) A2 B2 (rb.2, x.2) = Z at *
    conv => whnf
    repeat' (first | ((first | refine zs1 ?_ | refine zs2 ?_ | refine zs3 ?_ | refine zs4 ?_ | refine zs5 ?_); conv => whnf) | ((first | apply zi1 | apply zi2 | apply zi3 | apply zi4 | apply zi5) <;> intro _ <;> conv => whnf) | (refine VCall.intro (g1 _ (outW_get _ _ _ _)) ?_; conv => whnf) | (refine VCall.intro (g2 _ (outW_get _ _ _ _)) ?_; conv => whnf))
    all_goals try (exfalso; omega)
    refine VCode.lpo (fun k : Nat => [(0, .ptr (.out i) 0), (6, .ptr (.loc 0) 0), (7, .ptr (.loc 1) 0), (8, I A2), (9, I B2), (19, I H), (20, I y), (39, I W), (40, I k)]) (fun k => outW h.lift i (deckB bs (Z k).1)) (fun k => [.flat true [DI 0, DI 0, .nilslice], .cells true [I W, I H, .gl (.loc 2) 1 (Z k).2.length], .flat true ((Z k).2.flatMap Vm.encI)]) (fun k => k ≤ W) (fun k => W - k) 0 (Nat.zero_le _) ?_ ?_ ?_
    · rw [hZ0]; funext j; by_cases e : j = i <;> simp [outW, e]
    · rw [hZ0]
      conv => whnf
      refine Retell.turn ⟨[0,1,2], 9, [], []⟩ (TurnOk.mk' _ _ [] [] (OutOk.outW (OutOk.lift _) rfl) rfl (by decide) zb trivial trivial rfl) zw zm
    rintro k hk
    rcases Nat.lt_or_ge k W with h5 | h5
    · have hZs := hZs k
      obtain ⟨z1, l, z2, z3, _, _⟩ := hZ k
      have z4 : (Z k).2.length = x.2.length + k := by rw [z2, List.length_append, z3]
      clear z2 z3
      dsimp only at z1
      generalize Z k = z at *
      unfold cellM at hZs
      have n7 := (dealt bs).n z.1 7
      have q7 := fun (h2 : Hp) hg => vc_coin bs z.1 7 (.out i) h2 (by omega) hg
      have n20 := (dealt bs).n (dNx bs z.1 7).2 20
      have q20 := fun (h2 : Hp) hg => vc_coin bs (dNx bs z.1 7).2 20 (.out i) h2 (by omega) hg
      have q2 := fun (h2 : Hp) hg => vc_between bs (dNx bs (dNx bs z.1 7).2 20).2 1 2 (.out i) h2 (by omega) (by omega) (by omega) hg
      rw [show (2 : Int) - 1 + 1 = 2 from rfl] at q2
      generalize dNx bs z.1 7 = w7 at *
      generalize dNx bs w7.2 20 = w20 at *
      generalize dNx bs w20.2 2 = w2 at *
      by_cases t1 : (k : Int) < A2
      · rw [if_pos t1] at hZs
        have hs1 : Z (k + 1) = (z.1, z.2 ++ [(1 : Int)]) := hZs
        conv => whnf
        repeat' (first | ((first | refine zs1 ?_ | refine zs2 ?_ | refine zs3 ?_ | refine zs4 ?_ | refine zs5 ?_); conv => whnf) | ((first | apply zi1 | apply zi2 | apply zi3 | apply zi4 | apply zi5) <;> intro _ <;> first | (exfalso; omega) | contradiction | (conv => whnf)))
        refine VMem.app1 (l := z.2) (1 : Int) Vm.encI_len rfl rfl rfl rfl rfl (by omega) ?_
        conv => whnf
        repeat' (first | ((first | refine zs1 ?_ | refine zs2 ?_ | refine zs3 ?_ | refine zs4 ?_ | refine zs5 ?_); conv => whnf) | ((first | apply zi1 | apply zi2 | apply zi3 | apply zi4 | apply zi5) <;> intro _ <;> first | (exfalso; omega) | contradiction | (conv => whnf)))
        refine LEndO.intro (k + 1) (by omega) (by omega) (by rw [hs1]; exact rfl) ?_
        have hl1 : z.2.length + 1 = (z.2 ++ [(1 : Int)]).length := by rw [List.length_append]; rfl
        rw [hs1, hl1]
        dsimp only
        conv => whnf
        refine Retell.turn ⟨[0,1,4], 9, [], []⟩ (TurnOk.mk' _ _ [] [] (OutOk.outW (OutOk.lift _) rfl) rfl (by decide) zb trivial trivial rfl) zw zm
      by_cases t2 : B2 ≤ (k : Int)
      · rw [if_neg t1, if_pos t2] at hZs
        have hs1 : Z (k + 1) = (z.1, z.2 ++ [(2 : Int)]) := hZs
        conv => whnf
        repeat' (first | ((first | refine zs1 ?_ | refine zs2 ?_ | refine zs3 ?_ | refine zs4 ?_ | refine zs5 ?_); conv => whnf) | ((first | apply zi1 | apply zi2 | apply zi3 | apply zi4 | apply zi5) <;> intro _ <;> first | (exfalso; omega) | contradiction | (conv => whnf)))
        refine VMem.app1 (l := z.2) (2 : Int) Vm.encI_len rfl rfl rfl rfl rfl (by omega) ?_
        conv => whnf
        repeat' (first | ((first | refine zs1 ?_ | refine zs2 ?_ | refine zs3 ?_ | refine zs4 ?_ | refine zs5 ?_); conv => whnf) | ((first | apply zi1 | apply zi2 | apply zi3 | apply zi4 | apply zi5) <;> intro _ <;> first | (exfalso; omega) | contradiction | (conv => whnf)))
        refine LEndO.intro (k + 1) (by omega) (by omega) (by rw [hs1]; exact rfl) ?_
        have hl1 : z.2.length + 1 = (z.2 ++ [(2 : Int)]).length := by rw [List.length_append]; rfl
        rw [hs1, hl1]
        dsimp only
        conv => whnf
        refine Retell.turn ⟨[0,1,4], 9, [], []⟩ (TurnOk.mk' _ _ [] [] (OutOk.outW (OutOk.lift _) rfl) rfl (by decide) zb trivial trivial rfl) zw zm
      by_cases t3 : w7.1 = 0
      · rw [if_neg t1, if_neg t2, if_pos t3] at hZs
        have hs1 : Z (k + 1) = (w7.2, z.2 ++ [(3 : Int)]) := hZs
        rw [show (w7.1 == 0) = true by rw [t3]; rfl] at q7
        conv => whnf
        repeat' (first | ((first | refine zs1 ?_ | refine zs2 ?_ | refine zs3 ?_ | refine zs4 ?_ | refine zs5 ?_); conv => whnf) | ((first | apply zi1 | apply zi2 | apply zi3 | apply zi4 | apply zi5) <;> intro _ <;> first | (exfalso; omega) | contradiction | (conv => whnf)) | (refine VCall.intro (q7 _ (outW_get _ _ _ _)) ?_; conv => whnf))
        refine VMem.app1 (l := z.2) (3 : Int) Vm.encI_len rfl rfl rfl rfl rfl (by omega) ?_
        conv => whnf
        repeat' (first | ((first | refine zs1 ?_ | refine zs2 ?_ | refine zs3 ?_ | refine zs4 ?_ | refine zs5 ?_); conv => whnf) | ((first | apply zi1 | apply zi2 | apply zi3 | apply zi4 | apply zi5) <;> intro _ <;> first | (exfalso; omega) | contradiction | (conv => whnf)))
        refine LEndO.intro (k + 1) (by omega) (by omega) (by rw [hs1]; exact (outW_same _ _ _ _)) ?_
        have hl1 : z.2.length + 1 = (z.2 ++ [(3 : Int)]).length := by rw [List.length_append]; rfl
        rw [hs1, hl1]
        dsimp only
        conv => whnf
        refine Retell.turn ⟨[0,1,4], 9, [], []⟩ (TurnOk.mk' _ _ [] [] (OutOk.outW (OutOk.lift _) rfl) rfl (by decide) zb trivial trivial rfl) zw zm
      rw [show (w7.1 == 0) = false by rw [beq_eq_false_iff_ne]; exact t3] at q7
      by_cases t4 : w20.1 = 0
      · rw [if_neg t1, if_neg t2, if_neg t3, if_pos t4] at hZs
        have hs1 : Z (k + 1) = (w2.2, z.2 ++ [1 + w2.1]) := hZs
        rw [show (w20.1 == 0) = true by rw [t4]; rfl] at q20
        conv => whnf
        repeat' (first | ((first | refine zs1 ?_ | refine zs2 ?_ | refine zs3 ?_ | refine zs4 ?_ | refine zs5 ?_); conv => whnf) | ((first | apply zi1 | apply zi2 | apply zi3 | apply zi4 | apply zi5) <;> intro _ <;> first | (exfalso; omega) | contradiction | (conv => whnf)) | (refine VCall.intro (q7 _ (outW_get _ _ _ _)) ?_; conv => whnf) | (refine VCall.intro (q20 _ (outW_get _ _ _ _)) ?_; conv => whnf))
        refine zs6 [(1, 3)] ?_
        conv => whnf
        repeat' (first | ((first | refine zs1 ?_ | refine zs2 ?_ | refine zs3 ?_ | refine zs4 ?_ | refine zs5 ?_); conv => whnf) | ((first | apply zi1 | apply zi2 | apply zi3 | apply zi4 | apply zi5) <;> intro _ <;> first | (exfalso; omega) | contradiction | (conv => whnf)) | (refine VCall.intro (q2 _ (outW_get _ _ _ _)) ?_; conv => whnf))
        refine VMem.app1 (l := z.2) (1 + w2.1 : Int) Vm.encI_len rfl rfl rfl rfl rfl (by omega) ?_
        conv => whnf
        repeat' (first | ((first | refine zs1 ?_ | refine zs2 ?_ | refine zs3 ?_ | refine zs4 ?_ | refine zs5 ?_); conv => whnf) | ((first | apply zi1 | apply zi2 | apply zi3 | apply zi4 | apply zi5) <;> intro _ <;> first | (exfalso; omega) | contradiction | (conv => whnf)))
        refine LEndO.intro (k + 1) (by omega) (by omega) (by rw [hs1]; exact ((outW_same _ _ _ _).trans ((outW_same _ _ _ _).trans (outW_same _ _ _ _)))) ?_
        have hl1 : z.2.length + 1 = (z.2 ++ [(1 + w2.1 : Int)]).length := by rw [List.length_append]; rfl
        rw [hs1, hl1]
        dsimp only
        conv => whnf
        refine Retell.turn ⟨[0,1,4], 9, [], []⟩ (TurnOk.mk' _ _ [] [] (OutOk.outW (OutOk.lift _) rfl) rfl (by decide) zb trivial trivial rfl) zw zm
      · rw [if_neg t1, if_neg t2, if_neg t3, if_neg t4] at hZs
        have hs1 : Z (k + 1) = (w20.2, z.2 ++ [(0 : Int)]) := hZs
        rw [show (w20.1 == 0) = false by rw [beq_eq_false_iff_ne]; exact t4] at q20
        conv => whnf
        repeat' (first | ((first | refine zs1 ?_ | refine zs2 ?_ | refine zs3 ?_ | refine zs4 ?_ | refine zs5 ?_); conv => whnf) | ((first | apply zi1 | apply zi2 | apply zi3 | apply zi4 | apply zi5) <;> intro _ <;> first | (exfalso; omega) | contradiction | (conv => whnf)) | (refine VCall.intro (q7 _ (outW_get _ _ _ _)) ?_; conv => whnf) | (refine VCall.intro (q20 _ (outW_get _ _ _ _)) ?_; conv => whnf))
        refine VMem.app1 (l := z.2) (0 : Int) Vm.encI_len rfl rfl rfl rfl rfl (by omega) ?_
        conv => whnf
        repeat' (first | ((first | refine zs1 ?_ | refine zs2 ?_ | refine zs3 ?_ | refine zs4 ?_ | refine zs5 ?_); conv => whnf) | ((first | apply zi1 | apply zi2 | apply zi3 | apply zi4 | apply zi5) <;> intro _ <;> first | (exfalso; omega) | contradiction | (conv => whnf)))
        refine LEndO.intro (k + 1) (by omega) (by omega) (by rw [hs1]; exact ((outW_same _ _ _ _).trans (outW_same _ _ _ _))) ?_
        have hl1 : z.2.length + 1 = (z.2 ++ [(0 : Int)]).length := by rw [List.length_append]; rfl
        rw [hs1, hl1]
        dsimp only
        conv => whnf
        refine Retell.turn ⟨[0,1,4], 9, [], []⟩ (TurnOk.mk' _ _ [] [] (OutOk.outW (OutOk.lift _) rfl) rfl (by decide) zb trivial trivial rfl) zw zm
    · obtain rfl : k = W := by omega
      rw [← hRs]
      conv => whnf
      repeat' (first | ((first | refine zs1 ?_ | refine zs2 ?_ | refine zs3 ?_ | refine zs4 ?_ | refine zs5 ?_); conv => whnf) | ((first | apply zi1 | apply zi2 | apply zi3 | apply zi4 | apply zi5) <;> intro _ <;> first | (exfalso; omega) | contradiction | (conv => whnf)))
      refine LEndO.intro (y + 1) (by omega) (by omega) rfl ?_
      conv => whnf
      refine Retell.turn ⟨[0,1,2], 9, [], []⟩ (TurnOk.mk' _ _ [] [] (OutOk.outW (OutOk.lift _) rfl) rfl (by decide) zb trivial trivial rfl) zw zm
  · obtain rfl : y = H := by omega
    generalize X y = x at *
    conv => whnf
    repeat' (first | ((first | refine zs1 ?_ | refine zs2 ?_ | refine zs3 ?_ | refine zs4 ?_ | refine zs5 ?_); conv => whnf) | ((first | apply zi1 | apply zi2 | apply zi3 | apply zi4 | apply zi5) <;> intro _ <;> first | (exfalso; omega) | contradiction | (conv => whnf)))
    have hfl : (x.2.flatMap Vm.encI).length = x.2.length * 1 := flat_len Vm.encI_len _
    refine VOut.turn ⟨[], 9, [(2, x.2.flatMap Vm.encI)], []⟩ (loc' := []) (r1' := vM ⟨W, y, x.2⟩) (TurnOk.mk' [] 9 [(2, x.2.flatMap Vm.encI)] [] (OutOk.outW (OutOk.lift _) rfl) rfl List.nodup_nil BTos.nil (FzAll.flat rfl FzAll.nil) trivial rfl) zw ?_
    exact VOut.setF (L := 0) rfl hd fun _ => rfl
end Go.Proofs.Ytoeendggmalcpaa.Rv

open Go.Vm
open Riv
namespace Go.Proofs.Ytoeendggmalcpaa.Rv
set_option maxRecDepth 20000
set_option maxHeartbeats 4000000
section
variable {W H : Nat} {c : List Int}
abbrev mp (W H : Nat) (c : List Int) : Mp := ⟨W, H, c⟩
theorem lk0 (o : MOk W H c) {s : Int} (hs : s = 1 ∨ s = 2) : lkE (mp W H c) s = 0 := by
  unfold lkE; rw [if_pos (chkM_of o), if_pos hs]
theorem fr0 (o : MOk W H c) {s : Int} (hs : s = 1 ∨ s = 2) : frL (mp W H c) s = bfs c W s := by
  unfold frL; rw [if_pos (lk0 o hs)]; rfl
theorem bfsH (o : MOk W H c) (s : Int) : Hld c W s (bfs c W s) := bfs_hld (H := H) (by have := o.w; omega) o.len
theorem bfs_bd (o : MOk W H c) (s : Int) (k : Nat) : -1 ≤ at0 (bfs c W s) k ∧ at0 (bfs c W s) k ≤ 144 := by
  have h1 := (bfsH o s).low k
  have h2 := bfs_lt (c := c) (W := W) (H := H) (s := s) (by have := o.w; omega) o.len k
  have h3 := MOk.le o
  omega
theorem kF (o : MOk W H c) {s : Int} (hs : s = 1 ∨ s = 2) (h : Hp) : VC Try.prog 62 [vM (mp W H c), I s] h (.tuple [ints (bfs c W s), I 0]) h := by
  have := vc_Far (mp W H c) s h (by have := MOk.le o; show c.length ≤ _; omega)
  rw [fr0 o hs, lk0 o hs] at this
  exact this
end
end Go.Proofs.Ytoeendggmalcpaa.Rv

open Go.Vm
open Riv Psg Fer
namespace Go.Proofs.Ytoeendggmalcpaa
set_option maxRecDepth 20000
set_option maxHeartbeats 8000000

structure HoldF (R : Prop) : Prop where
  out : R
theorem sufficesF {R G : Prop} (main : HoldF R → G) (rest : R) : G := main ⟨rest⟩
theorem div_next {W b : Nat} (hW : 2 ≤ W) : (b + 1) / W = b / W ↔ (b + 1) % W ≠ 0 := by
  have h1 := Nat.div_add_mod b W
  have h2 := Nat.div_add_mod (b + 1) W
  have h3 := mod_succ (n := b) hW
  have h4 := Nat.mod_lt b (show 0 < W by omega)
  have h5 := Nat.mod_lt (b + 1) (show 0 < W by omega)
  constructor
  · intro h e
    rw [h, e] at h2
    omega
  · intro h
    split at h3
    · omega
    · rw [h3] at h2
      have : W * ((b + 1) / W) = W * (b / W) := by omega
      exact Nat.eq_of_mul_eq_mul_left (by omega) this
theorem nb_div {W a b : Nat} (hW : 2 ≤ W) : Nb W a b ↔ a = b + W ∨ b = a + W ∨ (a / W = b / W ∧ (a = b + 1 ∨ b = a + 1)) := by
  unfold Nb
  constructor
  · rintro (h | h | ⟨h, h2⟩ | ⟨h, h2⟩)
    · exact .inl h
    · exact .inr (.inl h)
    · subst h; exact .inr (.inr ⟨(div_next hW).2 h2, .inl rfl⟩)
    · subst h; exact .inr (.inr ⟨((div_next hW).2 h2).symm, .inr rfl⟩)
  · rintro (h | h | ⟨h, h2 | h2⟩)
    · exact .inl h
    · exact .inr (.inl h)
    · subst h2; exact .inr (.inr (.inl ⟨rfl, (div_next hW).1 h⟩))
    · subst h2; exact .inr (.inr (.inr ⟨rfl, (div_next hW).1 h.symm⟩))
theorem at0_at {l : List Int} {k : Nat} (h : k < l.length) : l[k]? = some (at0 l k) := by
  unfold at0
  rw [List.getD_eq_getElem?_getD, List.getElem?_eq_getElem h]; rfl
theorem vc_PassageFerried (ns : List Int) (x1 : Int) (hx1 : 0 ≤ x1 ∧ x1 ≤ 255) (h : Hp) : VC Try.prog 13 [bytes ns, .s (.int .u8 x1)] h (B true) h := by
  obtain ⟨W, H, e1, e2, e3, e4, e5, o, _⟩ := madeX_ok (Rv.dealt ns) (d := ((0 : Nat), (9 : Int))) (w := 5) (h := 2) (by decide) (by decide)
  have c1 := fun (i : Vm.Id) (h : Hp) hd => Rv.vc_Made ns ((0 : Nat), (9 : Int)) 5 2 i h (by decide) (by decide) (by decide) hd
  unfold Rv.mdM at c1
  rw [e1, e2] at c1
  generalize (madeX (Rv.dNx ns) ((0 : Nat), (9 : Int)) 5 2).2 = c at *
  generalize (madeX (Rv.dNx ns) ((0 : Nat), (9 : Int)) 5 2).1 = dd at *
  have ht1 : x1.tmod 2 = x1 % 2 := Int.tmod_eq_emod_of_nonneg hx1.1
  obtain ⟨s, hs⟩ : ∃ s, s = 1 + x1.tmod 2 := ⟨_, rfl⟩
  have hs12 : s = 1 ∨ s = 2 := by omega
  have c2 := fun h => Rv.kF o hs12 h
  have hT := Rv.bfsH o s
  have hTb := Rv.bfs_bd o s
  generalize bfs c W s = T at *
  have hTl := hT.len
  have hcl := o.len
  have h10 : W * H ≤ 5 * 2 := Nat.mul_le_mul (by omega) (by omega)
  have hpos : 4 * 1 ≤ W * H := Nat.mul_le_mul e5 (by have := o.h.1; omega)
  obtain ⟨L, hLe⟩ : ∃ L, c.length = L := ⟨_, rfl⟩
  have hL10 : 4 ≤ L ∧ L ≤ 10 := by omega
  have hWc : W ≤ c.length := by rw [hcl]; exact Nat.le_mul_of_pos_right W (by have := o.h.1; omega)
  have hst0 : (stK c s c.length).2 ≠ 0 := fun e => by
    have h1 := stK_none e 0 (by omega)
    have h2 := stK_none e (W - 1) (by omega)
    have h3 := o.side 0 (by have := o.h.1; omega)
    rw [Nat.zero_mul, Nat.zero_add] at h3
    rcases hs12 with h | h
    · exact h1 (by rw [h]; exact h3.1)
    · exact h2 (by rw [h]; exact h3.2)
  have hstb := stK_le c s
  have hsts := fun {k} => stK_some (c := c) (s := s) (k := k)
  have hfr := frA_ok (c := c) (W := W) (s := s) c.length (Nat.le_refl _)
  have hfl := fun k hk => (frA_ok (c := c) (W := W) (s := s) k hk).len
  have hlaw := fun (D : Tb) hD (p : Nat) hp hp0 => fer_law (D := D) (p := p) hcl e5 (by omega) (by omega) hT hTb hst0 hD hp hp0
  have hN : NOk L ⟨(L : Int), frA c W s c.length⟩ := ⟨rfl, by omega, hfr.len, fun w hw => by
    obtain ⟨a, b, rfl, ha, hb, _⟩ := hfr.mem w hw
    exact fW_ok (by omega) (by omega), fun w hw => by
    obtain ⟨a, b, rfl, ha, hb, hnb, _⟩ := hfr.mem w hw
    have := nb_ne (by omega) hnb
    show (a : Int) ≠ (b : Int)
    omega⟩
  have hSt := hsts hst0
  have hx : HOk L ⟨((stK c s c.length).1 : Int), 0, 0⟩ := ⟨by dsimp only; omega, by dsimp only; omega, pp0⟩
  have h0 := hN.hrd hx
  have c5 := fun h => vc_Earliest ⟨(L : Int), frA c W s c.length⟩ ⟨((stK c s c.length).1 : Int), 0, 0⟩ h (by have := hfr.len; dsimp only; omega)
  unfold eaL at c5
  rw [if_pos h0, nok_nat hN, h0] at c5
  have hF : ∀ k, k < L → ((List.range L).map (dyP ⟨(L : Int), frA c W s c.length⟩ ⟨((stK c s c.length).1 : Int), 0, 0⟩))[k]? = some (dyP ⟨(L : Int), frA c W s c.length⟩ ⟨((stK c s c.length).1 : Int), 0, 0⟩ k) := fun k hk => by rw [List.getElem?_map, List.getElem?_range hk]; rfl
  have hFl : ((List.range L).map (dyP ⟨(L : Int), frA c W s c.length⟩ ⟨((stK c s c.length).1 : Int), 0, 0⟩)).length = L := by simp
  generalize (List.range L).map (dyP ⟨(L : Int), frA c W s c.length⟩ ⟨((stK c s c.length).1 : Int), 0, 0⟩) = DL at c5 hF hFl
  have hLst := bgn_lst (n := c.length) (by omega) (by rw [hLe]; exact hN.ws) (by rw [hLe]; exact hx)
  have hlw := fun (p : Nat) (hp : p < c.length) hp0 => hlaw _ hLst p hp hp0
  clear hlaw hLst hN hx h0 e1 e2
  have hco := fun {k : Nat} (hk : k < c.length) => at0_at hk
  have hTo := fun {k : Nat} (hk : k < T.length) => at0_at hk
  have hkd := o.kind
  refine VC.bodyC 3 Try.func13 rfl Try.ntmps13 Try.call13 (h.grows_refl) rfl ?_
  conv => whnf
  repeat' (first | ((first | refine zs1 ?_ | refine zs2 ?_ | refine zs3 ?_ | refine zs4 ?_ | refine zs5 ?_); conv => whnf) | ((first | apply zi1 | apply zi2 | apply zi3 | apply zi4 | apply zi5) <;> intro _ <;> conv => whnf) | (refine VCall.intro (vc_Of _ _) ?_; conv => whnf) | (refine VCall.intro (c1 (.loc 0) _ rfl) ?_; conv => whnf))
  refine VCut.at' (outer := h.lift) (marks := []) 1 [(5, .fp ([DI W, DI H, .sl 1 c.length (c.flatMap Vm.encI)])), (6, I s)] [] ?_ ?_
  · rw [hs]
    conv => whnf
    refine Retell.turn ⟨[], 9, [(1, [DI W, DI H, .sl 1 c.length (c.flatMap Vm.encI)])], []⟩ (TurnOk.mk' _ _ [(1, [DI W, DI H, .sl 1 c.length (c.flatMap Vm.encI)])] [] (OutOk.lift _) rfl (by decide) zb zf trivial rfl) zw zm
  clear c1 hs ht1
  conv => whnf
  repeat' (first | ((first | refine zs1 ?_ | refine zs2 ?_ | refine zs3 ?_ | refine zs4 ?_ | refine zs5 ?_); conv => whnf) | ((first | apply zi1 | apply zi2 | apply zi3 | apply zi4 | apply zi5) <;> intro _ <;> first | (exfalso; omega) | contradiction | (conv => whnf)) | (refine VCall.intro (c2 _) ?_; conv => whnf))
  refine VCut.at' (outer := h.lift) (marks := []) 1 [(5, .fp ([DI W, DI H, .sl 1 c.length (c.flatMap Vm.encI)])), (6, I s), (7, ints T), (8, I 0)] [] ?_ ?_
  · conv => whnf
    refine Retell.turn ⟨[], 9, [], []⟩ (TurnOk.mk' _ _ [] [] (OutOk.lift _) rfl (by decide) zb trivial trivial rfl) zw zm
  clear c2
  conv => whnf
  repeat' (first | ((first | refine zs1 ?_ | refine zs2 ?_ | refine zs3 ?_ | refine zs4 ?_ | refine zs5 ?_); conv => whnf) | ((first | apply zi1 | apply zi2 | apply zi3 | apply zi4 | apply zi5) <;> intro _ <;> first | (exfalso; omega) | contradiction | (conv => whnf)))
  refine VCut.at' (outer := h.lift) (marks := []) 2 [(5, .fp ([DI W, DI H, .sl 1 c.length (c.flatMap Vm.encI)])), (6, I s), (7, ints T)] [] ?_ ?_
  · conv => whnf
    refine Retell.turn ⟨[], 9, [], []⟩ (TurnOk.mk' _ _ [] [] (OutOk.lift _) rfl (by decide) zb trivial trivial rfl) zw zm
  conv => whnf
  repeat' (first | ((first | refine zs1 ?_ | refine zs2 ?_ | refine zs3 ?_ | refine zs4 ?_ | refine zs5 ?_); conv => whnf) | ((first | apply zi1 | apply zi2 | apply zi3 | apply zi4 | apply zi5) <;> intro _ <;> first | (exfalso; omega) | contradiction | (conv => whnf)))
  refine VCut.at' (outer := h.lift) (marks := []) 1 [(5, .fp ([DI W, DI H, .sl 1 c.length (c.flatMap Vm.encI)])), (6, I s), (7, ints T), (9, .ptr (.loc 0) 0), (10, I 0), (11, I 0)] [.cells true [I c.length, .gl (.loc 1) 8 0], .flat true []] ?_ ?_
  · conv => whnf
    refine Retell.turn ⟨[0,1], 1, [], []⟩ (TurnOk.mk' _ _ [] [] (OutOk.lift _) rfl (by decide) zb trivial trivial rfl) zw zm
  conv => whnf
  repeat' (first | ((first | refine zs1 ?_ | refine zs2 ?_ | refine zs3 ?_ | refine zs4 ?_ | refine zs5 ?_); conv => whnf) | ((first | apply zi1 | apply zi2 | apply zi3 | apply zi4 | apply zi5) <;> intro _ <;> first | (exfalso; omega) | contradiction | (conv => whnf)))
  refine VCode.lpoH (marks := []) 2 (fun a : Nat => [(5, .fp ([DI W, DI H, .sl 1 c.length (c.flatMap Vm.encI)])), (6, I s), (7, ints T), (9, .ptr (.loc 0) 0), (10, I (stK c s a).1), (11, I (stK c s a).2), (48, ints c), (49, I c.length), (50, I a)]) (fun _ => h.lift) (fun a => [.cells true [I c.length, .gl (.loc 1) 8 (frA c W s a).length], .flat true ((frA c W s a).flatMap encWy)]) (fun a => a ≤ c.length) (fun a => c.length - a) 0 (Nat.zero_le _) rfl ?_ ?_
  · rw [show frA c W s 0 = [] from rfl, show stK c s 0 = (0, 0) from rfl]
    conv => whnf
    refine Retell.turn ⟨[0,1], 9, [], []⟩ (TurnOk.mk' _ _ [] [] (OutOk.lift _) rfl (by decide) zb trivial trivial rfl) zw zm
  intro a ha
  rcases Nat.lt_or_ge a c.length with h3 | h3
  · have hfs : frA c W s (a + 1) = frK c W s a (frA c W s a) c.length := rfl
    have hss : stK c s (a + 1) = if at0 c a = s then (a, (stK c s a).2 + 1) else stK c s a := rfl
    have hsb := hstb a
    have hsb2 := hstb (a + 1)
    have hok := fun b hb => (frK_ok (by omega) (frA_ok (c := c) (W := W) (s := s) a ha) b hb).len
    have hca := hco h3
    have hka := hkd a h3
    generalize hG : frA c W s (a + 1) = G at hfs
    generalize hS : stK c s (a + 1) = S at hss
    have hfK : ∀ b, frK c W s a (frA c W s a) (b + 1) = frS c W s (frK c W s a (frA c W s a) b) a b := fun b => rfl
    have hfK0 : frK c W s a (frA c W s a) 0 = frA c W s a := rfl
    generalize frA c W s a = F at *
    generalize stK c s a = P at *
    generalize hK : frK c W s a F = K at *
    generalize hka2 : at0 c a = ka at *
    apply sufficesF
    · intro hrest
      by_cases hks : ka = s
      · rw [if_pos hks] at hss
        conv => whnf
        repeat' (first | ((first | refine zs1 ?_ | refine zs2 ?_ | refine zs3 ?_ | refine zs4 ?_ | refine zs5 ?_); conv => whnf) | ((first | apply zi1 | apply zi2 | apply zi3 | apply zi4 | apply zi5) <;> intro _ <;> first | (exfalso; omega) | contradiction | (conv => whnf)))
        refine VCut.block 2 ?_
        conv => whnf
        repeat' (first | ((first | refine zs1 ?_ | refine zs2 ?_ | refine zs3 ?_ | refine zs4 ?_ | refine zs5 ?_); conv => whnf) | ((first | apply zi1 | apply zi2 | apply zi3 | apply zi4 | apply zi5) <;> intro _ <;> first | (exfalso; omega) | contradiction | (conv => whnf)) | (refine VAny.ix Vm.encI_len a rfl rfl hca ?_; conv => whnf))
        refine VCut.at' (outer := h.lift) (marks := []) 99 [(5, .fp ([DI W, DI H, .sl 1 c.length (c.flatMap Vm.encI)])), (6, I s), (7, ints T), (9, .ptr (.loc 0) 0), (10, I S.1), (11, I S.2), (12, I a), (13, I ka), (48, ints c), (49, I c.length), (50, I a)] [.cells true [I c.length, .gl (.loc 1) 8 F.length], .flat true (F.flatMap encWy)] ?_ hrest.out
        rw [hss]
        conv => whnf
        refine Retell.turn ⟨[0,1], 9, [], []⟩ (TurnOk.mk' _ _ [] [] (OutOk.lift _) rfl (by decide) zb trivial trivial rfl) zw zm
      · rw [if_neg hks] at hss
        conv => whnf
        repeat' (first | ((first | refine zs1 ?_ | refine zs2 ?_ | refine zs3 ?_ | refine zs4 ?_ | refine zs5 ?_); conv => whnf) | ((first | apply zi1 | apply zi2 | apply zi3 | apply zi4 | apply zi5) <;> intro _ <;> first | (exfalso; omega) | contradiction | (conv => whnf)))
        refine VCut.block 2 ?_
        conv => whnf
        repeat' (first | ((first | refine zs1 ?_ | refine zs2 ?_ | refine zs3 ?_ | refine zs4 ?_ | refine zs5 ?_); conv => whnf) | ((first | apply zi1 | apply zi2 | apply zi3 | apply zi4 | apply zi5) <;> intro _ <;> first | (exfalso; omega) | contradiction | (conv => whnf)) | (refine VAny.ix Vm.encI_len a rfl rfl hca ?_; conv => whnf))
        refine VCut.at' (outer := h.lift) (marks := []) 99 [(5, .fp ([DI W, DI H, .sl 1 c.length (c.flatMap Vm.encI)])), (6, I s), (7, ints T), (9, .ptr (.loc 0) 0), (10, I S.1), (11, I S.2), (12, I a), (13, I ka), (48, ints c), (49, I c.length), (50, I a)] [.cells true [I c.length, .gl (.loc 1) 8 F.length], .flat true (F.flatMap encWy)] ?_ hrest.out
        rw [hss]
        conv => whnf
        refine Retell.turn ⟨[0,1], 9, [], []⟩ (TurnOk.mk' _ _ [] [] (OutOk.lift _) rfl (by decide) zb trivial trivial rfl) zw zm
    conv => whnf
    repeat' (first | ((first | refine zs1 ?_ | refine zs2 ?_ | refine zs3 ?_ | refine zs4 ?_ | refine zs5 ?_); conv => whnf) | ((first | apply zi1 | apply zi2 | apply zi3 | apply zi4 | apply zi5) <;> intro _ <;> first | (exfalso; omega) | contradiction | (conv => whnf)))
    refine VCode.lpoH (marks := []) 2 (fun b : Nat => [(5, .fp ([DI W, DI H, .sl 1 c.length (c.flatMap Vm.encI)])), (6, I s), (7, ints T), (9, .ptr (.loc 0) 0), (10, I S.1), (11, I S.2), (12, I a), (13, I ka), (48, ints c), (49, I c.length), (50, I a), (62, ints c), (63, I c.length), (64, I b)]) (fun _ => h.lift) (fun b => [.cells true [I c.length, .gl (.loc 1) 8 (K b).length], .flat true ((K b).flatMap encWy)]) (fun b => b ≤ c.length) (fun b => c.length - b) 0 (Nat.zero_le _) rfl ?_ ?_
    · rw [hfK0]
      conv => whnf
      refine Retell.turn ⟨[0,1], 9, [], []⟩ (TurnOk.mk' _ _ [] [] (OutOk.lift _) rfl (by decide) zb trivial trivial rfl) zw zm
    intro b hb
    rcases Nat.lt_or_ge b c.length with h4 | h4
    · have hKs := hfK b
      have hKl := hok b hb
      generalize hK2 : K (b + 1) = K2 at hKs
      generalize K b = ws at *
      have hcb := hco h4
      have hkb := hkd b h4
      have hnb := nb_div (W := W) (a := a) (b := b) (by omega)
      have ga := Nat.div_le_self a W
      have gb := Nat.div_le_self b W
      have ea : IntKind.i64.wrap ((a : Int).tdiv (W : Int)) = ((a / W : Nat) : Int) := by rw [show (a : Int).tdiv (W : Int) = ((a / W : Nat) : Int) from rfl]; generalize a / W = z at *; exact wrap_i64 (by omega)
      have eb : IntKind.i64.wrap ((b : Int).tdiv (W : Int)) = ((b / W : Nat) : Int) := by rw [show (b : Int).tdiv (W : Int) = ((b / W : Nat) : Int) from rfl]; generalize b / W = z at *; exact wrap_i64 (by omega)
      have hfp : Nb W a b → (ka = 0 ∨ ka = s) → at0 c b = 0 → ws.length < 24 → K2 = ws ++ [fW a b] := fun g1 g2 g3 g4 => by rw [hKs]; unfold Fer.frS; rw [if_pos ⟨⟨g1, by rw [hka2]; exact g2, g3⟩, g4⟩]
      have hfn : ¬ (Nb W a b ∧ (ka = 0 ∨ ka = s) ∧ at0 c b = 0 ∧ ws.length < 24) → K2 = ws := fun g => by
        rw [hKs]; unfold Fer.frS; rw [if_neg (fun e => g ⟨e.1.1, by have := e.1.2.1; rw [hka2] at this; exact this, e.1.2.2, e.2⟩)]
      clear hKs
      generalize at0 c b = kb at *
      generalize a / W = q1 at *
      generalize b / W = q2 at *
      apply sufficesF
      · intro hrest
        by_cases hn : Nb W a b
        · have hn2 := hnb.1 hn
          conv => whnf
          repeat' (first | ((first | refine zs1 ?_ | refine zs2 ?_ | refine zs3 ?_ | refine zs4 ?_ | refine zs5 ?_); conv => whnf) | ((first | apply zi1 | apply zi2 | apply zi3 | apply zi4 | apply zi5) <;> intro _ <;> first | (exfalso; omega) | contradiction | (conv => whnf)))
          refine VCut.block 2 ?_
          conv => whnf
          repeat' (first | ((first | refine zs1 ?_ | refine zs2 ?_ | refine zs3 ?_ | refine zs4 ?_ | refine zs5 ?_); conv => whnf) | ((first | apply zi1 | apply zi2 | apply zi3 | apply zi4 | apply zi5) <;> intro _ <;> first | (exfalso; omega) | contradiction | (conv => whnf)) | (refine VAny.ix Vm.encI_len b rfl rfl hcb ?_; conv => whnf) | (refine zs6 [] ?_; conv => whnf))
          all_goals try (exfalso; omega)
          all_goals (
            refine VCut.at' (outer := h.lift) (marks := []) 99 [(5, .fp ([DI W, DI H, .sl 1 c.length (c.flatMap Vm.encI)])), (6, I s), (7, ints T), (9, .ptr (.loc 0) 0), (10, I S.1), (11, I S.2), (12, I a), (13, I ka), (14, I b), (15, I kb), (16, B (decide (Nb W a b))), (48, ints c), (49, I c.length), (50, I a), (62, ints c), (63, I c.length), (64, I b)] [.cells true [I c.length, .gl (.loc 1) 8 ws.length], .flat true (ws.flatMap encWy)] ?_ hrest.out
            rw [decide_eq_true hn]
            conv => whnf
            refine Retell.turn ⟨[0,1], 9, [], []⟩ (TurnOk.mk' _ _ [] [] (OutOk.lift _) rfl (by decide) zb trivial trivial rfl) zw zm)
        · have hn2 : ¬ (a = b + W ∨ b = a + W ∨ (q1 = q2 ∧ (a = b + 1 ∨ b = a + 1))) := fun e => hn (hnb.2 e)
          conv => whnf
          repeat' (first | ((first | refine zs1 ?_ | refine zs2 ?_ | refine zs3 ?_ | refine zs4 ?_ | refine zs5 ?_); conv => whnf) | ((first | apply zi1 | apply zi2 | apply zi3 | apply zi4 | apply zi5) <;> intro _ <;> first | (exfalso; omega) | contradiction | (conv => whnf)))
          refine VCut.block 2 ?_
          conv => whnf
          repeat' (first | ((first | refine zs1 ?_ | refine zs2 ?_ | refine zs3 ?_ | refine zs4 ?_ | refine zs5 ?_); conv => whnf) | ((first | apply zi1 | apply zi2 | apply zi3 | apply zi4 | apply zi5) <;> intro _ <;> first | (exfalso; omega) | contradiction | (conv => whnf)) | (refine VAny.ix Vm.encI_len b rfl rfl hcb ?_; conv => whnf) | (refine zs6 [] ?_; conv => whnf))
          all_goals try (exfalso; omega)
          all_goals (
            refine VCut.at' (outer := h.lift) (marks := []) 99 [(5, .fp ([DI W, DI H, .sl 1 c.length (c.flatMap Vm.encI)])), (6, I s), (7, ints T), (9, .ptr (.loc 0) 0), (10, I S.1), (11, I S.2), (12, I a), (13, I ka), (14, I b), (15, I kb), (16, B (decide (Nb W a b))), (48, ints c), (49, I c.length), (50, I a), (62, ints c), (63, I c.length), (64, I b)] [.cells true [I c.length, .gl (.loc 1) 8 ws.length], .flat true (ws.flatMap encWy)] ?_ hrest.out
            rw [decide_eq_false hn]
            conv => whnf
            refine Retell.turn ⟨[0,1], 9, [], []⟩ (TurnOk.mk' _ _ [] [] (OutOk.lift _) rfl (by decide) zb trivial trivial rfl) zw zm)
      by_cases hn : Nb W a b
      · rw [decide_eq_true hn]
        by_cases hc : (ka = 0 ∨ ka = s) ∧ kb = 0 ∧ ws.length < 24
        · have hKs := hfp hn hc.1 hc.2.1 hc.2.2
          have cl := fun h => vc_Led a b 1 1 0 0 0 1000 h
          conv => whnf
          repeat' (first | ((first | refine zs1 ?_ | refine zs2 ?_ | refine zs3 ?_ | refine zs4 ?_ | refine zs5 ?_); conv => whnf) | ((first | apply zi1 | apply zi2 | apply zi3 | apply zi4 | apply zi5) <;> intro _ <;> first | (exfalso; omega) | contradiction | (conv => whnf)) | (refine zs6 [(1, 4)] ?_; conv => whnf) | (refine VCall.intro (cl _) ?_; conv => whnf) | (refine VMem.app1 (l := ws) (fW a b) encWy_len rfl rfl rfl rfl rfl (by omega) ?_; conv => whnf))
          all_goals (
            refine LEndO.intro (b + 1) (by omega) (by omega) rfl ?_
            rw [hK2, hKs, List.length_append, List.length_singleton]
            conv => whnf
            refine Retell.turn ⟨[0,3], 9, [], []⟩ (TurnOk.mk' _ _ [] [] (OutOk.lift _) rfl (by decide) zb trivial trivial rfl) zw zm)
        · have hKs := hfn (fun e => hc e.2)
          conv => whnf
          repeat' (first | ((first | refine zs1 ?_ | refine zs2 ?_ | refine zs3 ?_ | refine zs4 ?_ | refine zs5 ?_); conv => whnf) | ((first | apply zi1 | apply zi2 | apply zi3 | apply zi4 | apply zi5) <;> intro _ <;> first | (exfalso; omega) | contradiction | (conv => whnf)))
          all_goals try (exfalso; omega)
          all_goals (
            refine LEndO.intro (b + 1) (by omega) (by omega) rfl ?_
            rw [hK2, hKs]
            conv => whnf
            refine Retell.turn ⟨[0,1], 9, [], []⟩ (TurnOk.mk' _ _ [] [] (OutOk.lift _) rfl (by decide) zb trivial trivial rfl) zw zm)
      · rw [decide_eq_false hn]
        have hKs := hfn (fun e => hn e.1)
        conv => whnf
        repeat' (first | ((first | refine zs1 ?_ | refine zs2 ?_ | refine zs3 ?_ | refine zs4 ?_ | refine zs5 ?_); conv => whnf) | ((first | apply zi1 | apply zi2 | apply zi3 | apply zi4 | apply zi5) <;> intro _ <;> first | (exfalso; omega) | contradiction | (conv => whnf)))
        all_goals (
          refine LEndO.intro (b + 1) (by omega) (by omega) rfl ?_
          rw [hK2, hKs]
          conv => whnf
          refine Retell.turn ⟨[0,1], 9, [], []⟩ (TurnOk.mk' _ _ [] [] (OutOk.lift _) rfl (by decide) zb trivial trivial rfl) zw zm)
    · have hbe : b = c.length := by omega
      subst hbe
      conv => whnf
      repeat' (first | ((first | refine zs1 ?_ | refine zs2 ?_ | refine zs3 ?_ | refine zs4 ?_ | refine zs5 ?_); conv => whnf) | ((first | apply zi1 | apply zi2 | apply zi3 | apply zi4 | apply zi5) <;> intro _ <;> first | (exfalso; omega) | contradiction | (conv => whnf)))
      refine LEndO.intro (a + 1) (by omega) (by omega) rfl ?_
      rw [hG, hS, hfs]
      conv => whnf
      refine Retell.turn ⟨[0,1], 9, [], []⟩ (TurnOk.mk' _ _ [] [] (OutOk.lift _) rfl (by decide) zb trivial trivial rfl) zw zm
  · have hae : a = c.length := by omega
    subst hae
    have hnl := hfr.len
    have hwl := flat_len encWy_len (frA c W s c.length)
    clear hfr hfl hpos h10
    generalize hWS : frA c W s c.length = ws at *
    generalize hSS : stK c s c.length = S at *
    conv => whnf
    repeat' (first | ((first | refine zs1 ?_ | refine zs2 ?_ | refine zs3 ?_ | refine zs4 ?_ | refine zs5 ?_); conv => whnf) | ((first | apply zi1 | apply zi2 | apply zi3 | apply zi4 | apply zi5) <;> intro _ <;> first | (exfalso; omega) | contradiction | (conv => whnf)))
    refine VCut.at' (outer := h.lift) (marks := []) 1 [(5, .fp ([DI W, DI H, .sl 1 c.length (c.flatMap Vm.encI)])), (6, I s), (7, ints T), (9, .fp ([DI c.length, .sl 8 ws.length (ws.flatMap encWy)])), (10, I S.1), (11, I S.2)] [] ?_ ?_
    · conv => whnf
      refine Retell.turn ⟨[], 9, [(1, ws.flatMap encWy), (0, [DI c.length, .sl 8 ws.length (ws.flatMap encWy)])], []⟩ (TurnOk.mk' _ _ [(1, ws.flatMap encWy), (0, [DI c.length, .sl 8 ws.length (ws.flatMap encWy)])] [] (OutOk.lift _) rfl (by decide) zb zr trivial rfl) zw zm
    subst hLe
    conv => whnf
    repeat' (first | ((first | refine zs1 ?_ | refine zs2 ?_ | refine zs3 ?_ | refine zs4 ?_ | refine zs5 ?_); conv => whnf) | ((first | apply zi1 | apply zi2 | apply zi3 | apply zi4 | apply zi5) <;> intro _ <;> first | (exfalso; omega) | contradiction | (conv => whnf)) | (refine VCall.intro (c5 _) ?_; conv => whnf))
    refine VCut.at' (outer := h.lift) (marks := []) 1 [(5, .fp ([DI W, DI H, .sl 1 c.length (c.flatMap Vm.encI)])), (6, I s), (7, ints T), (9, .fp ([DI c.length, .sl 8 ws.length (ws.flatMap encWy)])), (10, I S.1), (11, I S.2), (17, ints DL), (8, I 0)] [] ?_ ?_
    · conv => whnf
      refine Retell.turn ⟨[], 9, [], []⟩ (TurnOk.mk' _ _ [] [] (OutOk.lift _) rfl (by decide) zb trivial trivial rfl) zw zm
    clear c5
    conv => whnf
    repeat' (first | ((first | refine zs1 ?_ | refine zs2 ?_ | refine zs3 ?_ | refine zs4 ?_ | refine zs5 ?_); conv => whnf) | ((first | apply zi1 | apply zi2 | apply zi3 | apply zi4 | apply zi5) <;> intro _ <;> first | (exfalso; omega) | contradiction | (conv => whnf)))
    refine VCut.at' (outer := h.lift) (marks := []) 99 [(5, .fp ([DI W, DI H, .sl 1 c.length (c.flatMap Vm.encI)])), (7, ints T), (9, .fp ([DI c.length, .sl 8 ws.length (ws.flatMap encWy)])), (11, I S.2), (17, ints DL)] [] ?_ ?_
    · conv => whnf
      refine Retell.turn ⟨[], 9, [], []⟩ (TurnOk.mk' _ _ [] [] (OutOk.lift _) rfl (by decide) zb trivial trivial rfl) zw zm
    have hF2 := hF
    have hLst2 := hTl
    clear h3 ha hF
    conv => whnf
    repeat' (first | ((first | refine zs1 ?_ | refine zs2 ?_ | refine zs3 ?_ | refine zs4 ?_ | refine zs5 ?_); conv => whnf) | ((first | apply zi1 | apply zi2 | apply zi3 | apply zi4 | apply zi5) <;> intro _ <;> first | (exfalso; omega) | contradiction | (conv => whnf)))
    refine VCode.lpoH (marks := []) 2 (fun k : Nat => [(5, .fp ([DI W, DI H, .sl 1 c.length (c.flatMap Vm.encI)])), (7, ints T), (9, .fp ([DI c.length, .sl 8 ws.length (ws.flatMap encWy)])), (11, I S.2), (17, ints DL), (159, .fs 1 c.length (c.flatMap Vm.encI)), (160, I c.length), (161, I k)]) (fun _ => h.lift) (fun _ => []) (fun k => k ≤ c.length) (fun k => c.length - k) 0 (Nat.zero_le _) rfl ?_ ?_
    · conv => whnf
      refine Retell.turn ⟨[], 9, [], []⟩ (TurnOk.mk' _ _ [] [] (OutOk.lift _) rfl (by decide) zb trivial trivial rfl) zw zm
    intro k hk
    rcases Nat.lt_or_ge k c.length with q1 | q1
    · have hL1 := hF2 k q1
      have hT1 := hTo (k := k) (by omega)
      have hC1 := hco (k := k) q1
      have hw1 := hlw k q1
      by_cases hk0 : at0 c k = 0
      · obtain ⟨w1, w2⟩ := hw1 hk0
        rw [show tell (dayOf (atD (bgn ws ⟨(S.1 : Int), 0, 0⟩).D) k) = dyP ⟨(c.length : Int), ws⟩ ⟨(S.1 : Int), 0, 0⟩ k from rfl] at w1 w2
        generalize dyP ⟨(c.length : Int), ws⟩ ⟨(S.1 : Int), 0, 0⟩ k = dy at *
        generalize at0 T k = tk at *
        generalize at0 c k = kc at *
        subst hk0
        clear hw1 hlw hF2 hTo hco hT hTb hLst2 hkd
        by_cases hd : dy = -1
        · conv => whnf
          repeat' (first | ((first | refine zs1 ?_ | refine zs2 ?_ | refine zs3 ?_ | refine zs4 ?_ | refine zs5 ?_); conv => whnf) | ((first | apply zi1 | apply zi2 | apply zi3 | apply zi4 | apply zi5) <;> intro _ <;> first | (exfalso; omega) | contradiction | (conv => whnf)))
          refine VCut.block 99 ?_
          conv => whnf
          repeat' (first | ((first | refine zs1 ?_ | refine zs2 ?_ | refine zs3 ?_ | refine zs4 ?_ | refine zs5 ?_); conv => whnf) | ((first | apply zi1 | apply zi2 | apply zi3 | apply zi4 | apply zi5) <;> intro _ <;> first | (exfalso; omega) | contradiction | (conv => whnf)) | (refine VAny.ix Vm.encI_len k rfl rfl hC1 ?_; conv => whnf) | (refine zs6 [] ?_; conv => whnf) | (refine VAny.ix Vm.encI_len k rfl rfl hL1 ?_; conv => whnf) | (refine VAny.ix Vm.encI_len k rfl rfl hT1 ?_; conv => whnf))
          all_goals try (exfalso; omega)
          all_goals (
            refine LEndO.intro (k + 1) (by omega) (by omega) rfl ?_
            conv => whnf
            refine Retell.turn ⟨[], 9, [], []⟩ (TurnOk.mk' _ _ [] [] (OutOk.lift _) rfl (by decide) zb trivial trivial rfl) zw zm)
        · obtain ⟨w3, w4⟩ := w1 hd
          conv => whnf
          repeat' (first | ((first | refine zs1 ?_ | refine zs2 ?_ | refine zs3 ?_ | refine zs4 ?_ | refine zs5 ?_); conv => whnf) | ((first | apply zi1 | apply zi2 | apply zi3 | apply zi4 | apply zi5) <;> intro _ <;> first | (exfalso; omega) | contradiction | (conv => whnf)))
          refine VCut.block 99 ?_
          conv => whnf
          repeat' (first | ((first | refine zs1 ?_ | refine zs2 ?_ | refine zs3 ?_ | refine zs4 ?_ | refine zs5 ?_); conv => whnf) | ((first | apply zi1 | apply zi2 | apply zi3 | apply zi4 | apply zi5) <;> intro _ <;> first | (exfalso; omega) | contradiction | (conv => whnf)) | (refine VAny.ix Vm.encI_len k rfl rfl hC1 ?_; conv => whnf) | (refine zs6 [] ?_; conv => whnf) | (refine VAny.ix Vm.encI_len k rfl rfl hL1 ?_; conv => whnf) | (refine VAny.ix Vm.encI_len k rfl rfl hT1 ?_; conv => whnf))
          all_goals try (exfalso; omega)
          all_goals (
            refine LEndO.intro (k + 1) (by omega) (by omega) rfl ?_
            conv => whnf
            refine Retell.turn ⟨[], 9, [], []⟩ (TurnOk.mk' _ _ [] [] (OutOk.lift _) rfl (by decide) zb trivial trivial rfl) zw zm)
      · generalize at0 c k = kc at *
        clear hw1 hlw hF2 hTo hco hT hTb hLst2 hkd
        conv => whnf
        repeat' (first | ((first | refine zs1 ?_ | refine zs2 ?_ | refine zs3 ?_ | refine zs4 ?_ | refine zs5 ?_); conv => whnf) | ((first | apply zi1 | apply zi2 | apply zi3 | apply zi4 | apply zi5) <;> intro _ <;> first | (exfalso; omega) | contradiction | (conv => whnf)))
        refine VCut.block 99 ?_
        conv => whnf
        repeat' (first | ((first | refine zs1 ?_ | refine zs2 ?_ | refine zs3 ?_ | refine zs4 ?_ | refine zs5 ?_); conv => whnf) | ((first | apply zi1 | apply zi2 | apply zi3 | apply zi4 | apply zi5) <;> intro _ <;> first | (exfalso; omega) | contradiction | (conv => whnf)) | (refine VAny.ix Vm.encI_len k rfl rfl hC1 ?_; conv => whnf))
        all_goals try (exfalso; omega)
        all_goals (
          refine LEndO.intro (k + 1) (by omega) (by omega) rfl ?_
          conv => whnf
          refine Retell.turn ⟨[], 9, [], []⟩ (TurnOk.mk' _ _ [] [] (OutOk.lift _) rfl (by decide) zb trivial trivial rfl) zw zm)
    · have hke : k = c.length := by omega
      subst hke
      conv => whnf
      repeat' (first | ((first | refine zs1 ?_ | refine zs2 ?_ | refine zs3 ?_ | refine zs4 ?_ | refine zs5 ?_); conv => whnf) | ((first | apply zi1 | apply zi2 | apply zi3 | apply zi4 | apply zi5) <;> intro _ <;> first | (exfalso; omega) | contradiction | (conv => whnf)) | (refine VCall.intro (vc_awake _) ?_; conv => whnf))
      all_goals exact VOut.same rfl
end Go.Proofs.Ytoeendggmalcpaa


/- Part 8 of the proof that what a river gave and took is exchanged back as the given statement says. No condition. -/
import Derived.Test.YtlgdkljiilbooaaGreatBh7
set_option linter.unusedVariables false
set_option linter.unusedSimpArgs false
open Go.Vm
open Riv
namespace Go.Proofs.YtlgdkljiilbooaaGreat
set_option maxRecDepth 20000
set_option maxHeartbeats 8000000

theorem VOut.setF {h : Hp} {loc : List Blk} {i : Vm.Id} {b0 : Blk} {l : List D} {rw : Bool} {r : V} {L : Nat} (hL : Nat.ble loc.length L = true) (hb : h.get i = some b0) (hr : ∀ ρ, r.ren ρ = r) : VOut h ⟨outW h.lift i (.flat rw l), loc⟩ r r (h.set i (.flat rw l)) := by
  have hd : ∀ p ∈ [(i, Blk.flat rw l)], h.get p.1 ≠ none := by
    intro p hp
    simp only [List.mem_cons, List.not_mem_nil, or_false] at hp
    subst hp; simp only; rw [hb]; simp
  have := VOut.upd (loc := loc) (r1 := r) (r := r) [(i, .flat rw l)] [] [] L hL hd (by simp) rfl (by intro k b hk; simp at hk) (fun σ x hx => by rw [hr]; exact hx) (outer := outW h.lift i (.flat rw l)) rfl
  have he : (h.sets [(i, Blk.flat rw l)]).pushes [] = h.set i (.flat rw l) := by simp [Hp.sets, Hp.pushes]
  rw [he] at this
  exact this
theorem nat3 : ∀ {r : Nat}, r < 3 → ([0, 1, 2] : List Int)[r]? = some (r : Int)
  | 0, _ => rfl
  | 1, _ => rfl
  | 2, _ => rfl
  | r + 3, h => absurd h (by omega)
theorem vc_rivers (bs : List Int) (d : Dk) (hN : d.1 ≤ 800000) {W H : Nat} (hW : (5 + (rvW (dNx bs) d).1).toNat = W) (hH : (2 + (rvH (dNx bs) d).1).toNat = H) (i : Vm.Id) (h : Hp) (hd : h.get i = some (deckB bs d)) :
    VC Tryz.prog 11 [.ptr i 0] h (yrs (mpl W H (rvX (dNx bs) d).2)) (h.set i (deckB bs (rvX (dNx bs) d).1)) := by
  have hd0 := hd
  have a1 := (dealt bs).lo d 4
  have a2 := (dealt bs).hi d 4 (by decide)
  have a3 := (dealt bs).n d 4
  have c1 := fun (h2 : Hp) hg => vc_between bs d 5 8 (.out i) h2 (by omega) (by omega) (by omega) hg
  rw [show dNx bs d (8 - 5 + 1) = rvW (dNx bs) d from rfl] at c1
  rw [show dNx bs d 4 = rvW (dNx bs) d from rfl] at a1 a2 a3
  have b1 := (dealt bs).lo (rvW (dNx bs) d).2 4
  have b2 := (dealt bs).hi (rvW (dNx bs) d).2 4 (by decide)
  have b3 := (dealt bs).n (rvW (dNx bs) d).2 4
  have c2 := fun (h2 : Hp) hg => vc_between bs (rvW (dNx bs) d).2 2 5 (.out i) h2 (by omega) (by omega) (by omega) hg
  rw [show dNx bs (rvW (dNx bs) d).2 (5 - 2 + 1) = rvH (dNx bs) d from rfl] at c2
  rw [show dNx bs (rvW (dNx bs) d).2 4 = rvH (dNx bs) d from rfl] at b1 b2 b3
  have e1 := (dealt bs).lo (rvH (dNx bs) d).2 4
  have e2 := (dealt bs).hi (rvH (dNx bs) d).2 4 (by decide)
  have e3 := (dealt bs).n (rvH (dNx bs) d).2 4
  have c3 := fun (h2 : Hp) hg => vc_between bs (rvH (dNx bs) d).2 1 4 (.out i) h2 (by omega) (by omega) (by omega) hg
  rw [show dNx bs (rvH (dNx bs) d).2 (4 - 1 + 1) = rvN (dNx bs) d from rfl] at c3
  rw [show dNx bs (rvH (dNx bs) d).2 4 = rvN (dNx bs) d from rfl] at e1 e2 e3
  have hW2 : 5 ≤ W ∧ W ≤ 8 := by omega
  have hH2 : 2 ≤ H ∧ H ≤ 5 := by omega
  have hWe : 5 + (rvW (dNx bs) d).1 = (W : Int) := by omega
  have hHe : 2 + (rvH (dNx bs) d).1 = (H : Int) := by omega
  obtain ⟨n, hn⟩ : ∃ n : Nat, 1 + (rvN (dNx bs) d).1 = (n : Int) := ⟨(1 + (rvN (dNx bs) d).1).toNat, by omega⟩
  have hn4 : 1 ≤ n ∧ n ≤ 4 := by omega
  have hC : rvC (dNx bs) d = rvb W (W * H) := by unfold rvC; rw [hW, hH]
  have hX : rvX (dNx bs) d = rvL (dNx bs) W ((rvN (dNx bs) d).2, [rvb W (W * H)]) n := by
    unfold rvX
    rw [hW, hC, hn, Int.toNat_natCast]
  have hI := fun k => rvL_ok (dealt bs) (x := ((rvN (dNx bs) d).2, [rvb W (W * H)])) (m := d.1 + 3) (W := W) (H := H) ⟨fun c hc => by
    rw [List.mem_singleton.1 hc]
    exact rvb_mok hW2 hH2, by simp, by dsimp only; omega⟩ k
  have hXs : ∀ k, rvL (dNx bs) W ((rvN (dNx bs) d).2, [rvb W (W * H)]) (k + 1) = ((rvY (dNx bs) W ((rvL (dNx bs) W ((rvN (dNx bs) d).2, [rvb W (W * H)]) k).1, (rvL (dNx bs) W ((rvN (dNx bs) d).2, [rvb W (W * H)]) k).2.getLastD [])).1, (rvL (dNx bs) W ((rvN (dNx bs) d).2, [rvb W (W * H)]) k).2 ++ [(rvY (dNx bs) W ((rvL (dNx bs) W ((rvN (dNx bs) d).2, [rvb W (W * H)]) k).1, (rvL (dNx bs) W ((rvN (dNx bs) d).2, [rvb W (W * H)]) k).2.getLastD [])).2]) := fun k => rfl
  have hX0 : rvL (dNx bs) W ((rvN (dNx bs) d).2, [rvb W (W * H)]) 0 = ((rvN (dNx bs) d).2, [rvb W (W * H)]) := rfl
  rw [hX]
  rw [hWe] at c1
  rw [hHe] at c2
  rw [hn] at c3
  generalize (rvN (dNx bs) d).2 = D3 at *
  generalize (rvH (dNx bs) d).2 = D2 at *
  generalize (rvW (dNx bs) d).2 = D1 at *
  generalize rvL (dNx bs) W (D3, [rvb W (W * H)]) = X at *
  have hm40 : W * H ≤ 8 * 5 := Nat.mul_le_mul hW2.2 hH2.2
  obtain ⟨N, hNe⟩ : ∃ N : Nat, W * H = N := ⟨_, rfl⟩
  have wN : (W : Int) * (H : Int) = (N : Int) := by rw [← hNe]; exact (Int.natCast_mul W H).symm
  clear hX hC a1 a2 a3 b1 b2 b3 e1 e2 e3 hWe hHe hW hH hn
  refine VC.bodyC 2 Tryz.func11 rfl Tryz.ntmps11 Tryz.call11 (h.grows_set _ _) rfl ?_
  conv => whnf
  repeat' (first | ((first | refine zs1 ?_ | refine zs2 ?_ | refine zs3 ?_ | refine zs4 ?_ | refine zs5 ?_); conv => whnf) | ((first | apply zi1 | apply zi2 | apply zi3 | apply zi4 | apply zi5) <;> intro _ <;> conv => whnf) | (refine VCall.intro (c1 _ (get_out hd _)) ?_; conv => whnf) | (refine VCall.intro (c2 _ (outW_get _ _ _ _)) ?_; conv => whnf))
  refine VCut.atO (marks := []) 99 [(0, .ptr (.out i) 0), (3, .ptr (.loc 0) 0)] (outW h.lift i (deckB bs D2)) [.cells true [I W, I H, .gl (.loc 1) 1 0], .flat true []] ?_ ?_ ?_
  · funext j; by_cases e : j = i <;> simp [outW, e, Hp.set]
  · conv => whnf
    refine Retell.turn ⟨[0,1], 1, [], []⟩ (TurnOk.mk' _ _ [] [] (OutOk.outW (OutOk.lift _) rfl) rfl (by decide) zb trivial trivial rfl) zw zm
  conv => whnf
  repeat' (first | ((first | refine zs1 ?_ | refine zs2 ?_ | refine zs3 ?_ | refine zs4 ?_ | refine zs5 ?_); conv => whnf) | ((first | apply zi1 | apply zi2 | apply zi3 | apply zi4 | apply zi5) <;> intro _ <;> conv => whnf) | (rw [wN]; conv => whnf))
  refine VCode.lpoH (marks := []) 2 (fun k : Nat => [(0, .ptr (.out i) 0), (3, .ptr (.loc 0) 0), (19, I N), (20, I k)]) (fun _ => outW h.lift i (deckB bs D2)) (fun k => [.cells true [I W, I H, .gl (.loc 1) 1 (rvb W k).length], .flat true ((rvb W k).flatMap Vm.encI)]) (fun k => k ≤ N) (fun k => N - k) 0 (Nat.zero_le _) rfl ?_ ?_
  · rw [show rvb W 0 = [] from rfl]
    conv => whnf
    refine Retell.turn ⟨[0,1], 9, [], []⟩ (TurnOk.mk' _ _ [] [] (OutOk.outW (OutOk.lift _) rfl) rfl (by decide) zb trivial trivial rfl) zw zm
  · rintro k hk
    rcases Nat.lt_or_ge k N with h4 | h4
    · have hs := rvb_succ W k
      have hl := rvb_len W k
      have hmo : (k : Int).tmod (W : Int) = ((k % W : Nat) : Int) := Int.ofNat_tmod k W
      generalize rvb W k = z at *
      have hpW : k % W < W := Nat.mod_lt k (by omega)
      obtain ⟨p, hp⟩ : ∃ p, p = k % W := ⟨_, rfl⟩
      rw [← hp] at hs hmo hpW
      clear hp
      by_cases hp0 : p = 0
      · rw [if_pos hp0] at hs
        conv => whnf
        repeat' (first | ((first | refine zs1 ?_ | refine zs2 ?_ | refine zs3 ?_ | refine zs4 ?_ | refine zs5 ?_); conv => whnf) | ((first | apply zi1 | apply zi2 | apply zi3 | apply zi4 | apply zi5) <;> intro _ <;> first | (exfalso; omega) | contradiction | (conv => whnf)) | (rw [hmo]; conv => whnf))
        all_goals try (refine VCut.block 99 ?_; conv => whnf)
        repeat' (first | ((first | refine zs1 ?_ | refine zs2 ?_ | refine zs3 ?_ | refine zs4 ?_ | refine zs5 ?_); conv => whnf) | ((first | apply zi1 | apply zi2 | apply zi3 | apply zi4 | apply zi5) <;> intro _ <;> first | (exfalso; omega) | contradiction | (conv => whnf)) | (rw [hmo]; conv => whnf) | (refine VMem.app1 (l := z) 1 Vm.encI_len rfl rfl rfl rfl rfl (by omega) ?_; conv => whnf))
        refine LEndO.intro (k + 1) (by omega) (by omega) rfl ?_
        rw [hs, List.length_append, List.length_singleton]
        conv => whnf
        refine Retell.turn ⟨[0,3], 9, [], []⟩ (TurnOk.mk' _ _ [] [] (OutOk.outW (OutOk.lift _) rfl) rfl (by decide) zb trivial trivial rfl) zw zm
      · rw [if_neg hp0] at hs
        by_cases hp1 : p = W - 1
        · rw [if_pos hp1] at hs
          conv => whnf
          repeat' (first | ((first | refine zs1 ?_ | refine zs2 ?_ | refine zs3 ?_ | refine zs4 ?_ | refine zs5 ?_); conv => whnf) | ((first | apply zi1 | apply zi2 | apply zi3 | apply zi4 | apply zi5) <;> intro _ <;> first | (exfalso; omega) | contradiction | (conv => whnf)) | (rw [hmo]; conv => whnf))
          all_goals try (refine VCut.block 99 ?_; conv => whnf)
          repeat' (first | ((first | refine zs1 ?_ | refine zs2 ?_ | refine zs3 ?_ | refine zs4 ?_ | refine zs5 ?_); conv => whnf) | ((first | apply zi1 | apply zi2 | apply zi3 | apply zi4 | apply zi5) <;> intro _ <;> first | (exfalso; omega) | contradiction | (conv => whnf)) | (rw [hmo]; conv => whnf) | (refine VMem.app1 (l := z) 2 Vm.encI_len rfl rfl rfl rfl rfl (by omega) ?_; conv => whnf))
          refine LEndO.intro (k + 1) (by omega) (by omega) rfl ?_
          rw [hs, List.length_append, List.length_singleton]
          conv => whnf
          refine Retell.turn ⟨[0,3], 9, [], []⟩ (TurnOk.mk' _ _ [] [] (OutOk.outW (OutOk.lift _) rfl) rfl (by decide) zb trivial trivial rfl) zw zm
        · rw [if_neg hp1] at hs
          conv => whnf
          repeat' (first | ((first | refine zs1 ?_ | refine zs2 ?_ | refine zs3 ?_ | refine zs4 ?_ | refine zs5 ?_); conv => whnf) | ((first | apply zi1 | apply zi2 | apply zi3 | apply zi4 | apply zi5) <;> intro _ <;> first | (exfalso; omega) | contradiction | (conv => whnf)) | (rw [hmo]; conv => whnf))
          all_goals try (refine VCut.block 99 ?_; conv => whnf)
          repeat' (first | ((first | refine zs1 ?_ | refine zs2 ?_ | refine zs3 ?_ | refine zs4 ?_ | refine zs5 ?_); conv => whnf) | ((first | apply zi1 | apply zi2 | apply zi3 | apply zi4 | apply zi5) <;> intro _ <;> first | (exfalso; omega) | contradiction | (conv => whnf)) | (rw [hmo]; conv => whnf) | (refine VMem.app1 (l := z) 0 Vm.encI_len rfl rfl rfl rfl rfl (by omega) ?_; conv => whnf))
          refine LEndO.intro (k + 1) (by omega) (by omega) rfl ?_
          rw [hs, List.length_append, List.length_singleton]
          conv => whnf
          refine Retell.turn ⟨[0,3], 9, [], []⟩ (TurnOk.mk' _ _ [] [] (OutOk.outW (OutOk.lift _) rfl) rfl (by decide) zb trivial trivial rfl) zw zm
    · have hkN : k = W * H := by omega
      rw [hkN]
      have zX : (X 0).2 = [rvb W (W * H)] := by rw [hX0]
      have hcl := rvb_len W (W * H)
      generalize rvb W (W * H) = cc at *
      conv => whnf
      repeat' (first | ((first | refine zs1 ?_ | refine zs2 ?_ | refine zs3 ?_ | refine zs4 ?_ | refine zs5 ?_); conv => whnf) | ((first | apply zi1 | apply zi2 | apply zi3 | apply zi4 | apply zi5) <;> intro _ <;> first | (exfalso; omega) | contradiction | (conv => whnf)) | (refine VCall.intro (c3 _ (outW_get _ _ _ _)) ?_; conv => whnf))
      refine VCode.lpoH (marks := []) 2 (fun y : Nat => [(0, .ptr (.out i) 0), (3, .fp [DI W, DI H, .sl 1 cc.length (cc.flatMap Vm.encI)]), (7, .gl (.loc 0) 3 (mpl W H (X y).2).length), (46, I n), (47, I y)]) (fun y => outW h.lift i (deckB bs (X y).1)) (fun y => [.flat true ((mpl W H (X y).2).flatMap encM)]) (fun y => y ≤ n) (fun y => n - y) 0 (Nat.zero_le _) (by rw [hX0]; exact outW_same _ _ _ _) ?_ ?_
      · rw [zX]
        conv => whnf
        refine Retell.turn ⟨[2], 9, [(1, cc.flatMap Vm.encI), (0, [DI W, DI H, .sl 1 cc.length (cc.flatMap Vm.encI)])], []⟩ (TurnOk.mk' _ _ [(1, cc.flatMap Vm.encI), (0, [DI W, DI H, .sl 1 cc.length (cc.flatMap Vm.encI)])] [] (OutOk.outW (OutOk.lift _) rfl) rfl (by decide) (BTos.row rfl rfl rfl (RowTo.vtos zw) BTos.nil) zr trivial rfl) zw zm
      clear zX hX0 c1 c2 c3 hd wN hkN hk h4
      rintro y hy
      rcases Nat.lt_or_ge y n with h4 | h4
      · obtain ⟨p1, p2⟩ := hI y
        have hXs := hXs y
        have p2 : (X y).2.length = y + 1 := by rw [p2]; simp; omega
        have hl := getLast_at p2
        have hM : (X y).2.getLastD [] ∈ (X y).2 := List.mem_of_getElem? hl
        generalize X y = x at *
        have hLL : (mpl W H x.2).length = y + 1 := by rw [List.length_map, p2]
        have hlm : (mpl W H x.2)[y]? = some (mp W H (x.2.getLastD [])) := by rw [List.getElem?_map, hl]; rfl
        have hof : ((mpl W H x.2).length : Int) - 1 = y := by rw [hLL]; omega
        have hlo := p1.ok _ hM
        generalize x.2.getLastD [] = lc at *
        have hn1 := p1.n
        have hlen : lc.length = N := by have := hlo.len; omega
        have hlpos : 0 < lc.length := by
          rw [hlen, ← hNe]
          exact Nat.mul_pos (by omega) (by omega)
        have c4 := fun h2 : Hp => vc_cloneI lc h2 hlpos (by omega)
        have f1 := fun (h2 : Hp) hg => vc_between bs x.1 1 6 (.out i) h2 (by omega) (by omega) (by omega) hg
        rw [show dNx bs x.1 (6 - 1 + 1) = dNx bs x.1 6 from rfl] at f1
        have q1 := (dealt bs).lo x.1 6
        have q2 := (dealt bs).hi x.1 6 (by decide)
        have q3 := (dealt bs).n x.1 6
        obtain ⟨m, hm⟩ : ∃ m : Nat, 1 + (dNx bs x.1 6).1 = (m : Int) := ⟨(1 + (dNx bs x.1 6).1).toNat, by omega⟩
        have hZ := fun j => rvK_ok (dealt bs) (x := ((dNx bs x.1 6).2, lc)) (W := W) (H := H) (m := 800100) ⟨hlo, by dsimp only; omega⟩ j
        have hZs : ∀ j, rvK (dNx bs) W ((dNx bs x.1 6).2, lc) (j + 1) = rvS (dNx bs) W (rvK (dNx bs) W ((dNx bs x.1 6).2, lc) j) := fun j => rfl
        have hZ0 : rvK (dNx bs) W ((dNx bs x.1 6).2, lc) 0 = ((dNx bs x.1 6).2, lc) := rfl
        have hXs : X (y + 1) = ((rvK (dNx bs) W ((dNx bs x.1 6).2, lc) m).1, x.2 ++ [(rvK (dNx bs) W ((dNx bs x.1 6).2, lc) m).2]) := by
          rw [hXs]
          unfold rvY
          rw [hm, Int.toNat_natCast]
        rw [hm] at f1
        generalize (dNx bs x.1 6).2 = Q at *
        generalize rvK (dNx bs) W (Q, lc) = Z at *
        have hm6 : m ≤ 6 := by omega
        clear q1 q2 q3 hm hl hM
        conv => whnf
        repeat' (first | ((first | refine zs1 ?_ | refine zs2 ?_ | refine zs3 ?_ | refine zs4 ?_ | refine zs5 ?_); conv => whnf) | ((first | apply zi1 | apply zi2 | apply zi3 | apply zi4 | apply zi5) <;> intro _ <;> first | (exfalso; omega) | contradiction | (conv => whnf)))
        refine VCut.block 1 ?_
        conv => whnf
        refine zs6 [(1, 11), (3, 11)] ?_
        conv => whnf
        repeat' (first | ((first | refine zs1 ?_ | refine zs2 ?_ | refine zs3 ?_ | refine zs4 ?_ | refine zs5 ?_); conv => whnf) | ((first | apply zi1 | apply zi2 | apply zi3 | apply zi4 | apply zi5) <;> intro _ <;> first | (exfalso; omega) | contradiction | (conv => whnf)) | (refine VLd.recc encM_len y 2 rfl rfl rfl hlm (by decide) rfl (by rw [hof]; simp) ?_; conv => whnf) | (refine VCall.intro (c4 _) ?_; conv => whnf))
        refine VCut.atO (marks := []) 1 [(0, .ptr (.out i) 0), (3, .fp [DI W, DI H, .sl 1 cc.length (cc.flatMap Vm.encI)]), (7, .gl (.loc 0) 3 (mpl W H x.2).length), (8, .ptr (.loc 1) 0), (46, I n), (47, I y)] (outW h.lift i (deckB bs x.1)) [.flat true ((mpl W H x.2).flatMap encM), .cells true [I W, I H, .gl (.loc 2) 1 lc.length], .flat true (lc.flatMap Vm.encI)] rfl ?_ ?_
        · conv => whnf
          refine Retell.turn ⟨[0,2,1], 9, [], []⟩ (TurnOk.mk' _ _ [] [] (OutOk.outW (OutOk.lift _) rfl) rfl (by decide) zb trivial trivial rfl) zw zm
        conv => whnf
        repeat' (first | ((first | refine zs1 ?_ | refine zs2 ?_ | refine zs3 ?_ | refine zs4 ?_ | refine zs5 ?_); conv => whnf) | ((first | apply zi1 | apply zi2 | apply zi3 | apply zi4 | apply zi5) <;> intro _ <;> first | (exfalso; omega) | contradiction | (conv => whnf)) | (refine VCall.intro (f1 _ (outW_get _ _ _ _)) ?_; conv => whnf))
        refine VCode.lpoH (marks := []) 2 (fun j : Nat => [(0, .ptr (.out i) 0), (3, .fp [DI W, DI H, .sl 1 cc.length (cc.flatMap Vm.encI)]), (7, .gl (.loc 0) 3 (mpl W H x.2).length), (8, .ptr (.loc 1) 0), (46, I n), (47, I y), (63, I m), (64, I j)]) (fun j => outW h.lift i (deckB bs (Z j).1)) (fun j => [.flat true ((mpl W H x.2).flatMap encM), .cells true [I W, I H, .gl (.loc 2) 1 (Z j).2.length], .flat true ((Z j).2.flatMap Vm.encI)]) (fun j => j ≤ m) (fun j => m - j) 0 (Nat.zero_le _) (by rw [hZ0]; exact outW_same _ _ _ _) ?_ ?_
        · rw [hZ0]
          conv => whnf
          refine Retell.turn ⟨[0,1,2], 9, [], []⟩ (TurnOk.mk' _ _ [] [] (OutOk.outW (OutOk.lift _) rfl) rfl (by decide) zb trivial trivial rfl) zw zm
        rintro j hj
        rcases Nat.lt_or_ge j m with h5 | h5
        · have hz := hZ j
          have hZs := hZs j
          generalize Z j = z at *
          have hzo := hz.ok
          have hzn := hz.n
          have zl : z.2.length = N := by have := hzo.len; omega
          have f2 := fun (h2 : Hp) hg => vc_draw bs z.1 (z.2.length : Int) (.out i) h2 (by omega) hg
          have r1 := (dealt bs).lo z.1 (z.2.length : Int)
          have r2 := (dealt bs).hi z.1 (z.2.length : Int) (by omega)
          have r3 := (dealt bs).n z.1 (z.2.length : Int)
          unfold rvS at hZs
          generalize dNx bs z.1 (z.2.length : Int) = A at *
          have f3 := fun (h2 : Hp) hg => vc_draw bs A.2 3 (.out i) h2 (by omega) hg
          have s1 := (dealt bs).lo A.2 3
          have s2 := (dealt bs).hi A.2 3 (by decide)
          generalize dNx bs A.2 3 = B2 at *
          obtain ⟨a, ha⟩ : ∃ a : Nat, A.1 = a := ⟨A.1.toNat, by omega⟩
          obtain ⟨r, hr⟩ : ∃ r : Nat, B2.1 = r := ⟨B2.1.toNat, by omega⟩
          rw [ha, Int.toNat_natCast] at hZs
          rw [ha] at f2
          rw [hr] at f3 hZs
          have hr3 := nat3 (r := r) (by omega)
          have hmo : (a : Int).tmod (W : Int) = ((a % W : Nat) : Int) := Int.ofNat_tmod a W
          have hpW : a % W < W := Nat.mod_lt a (by omega)
          have hal : a < z.2.length := by omega
          generalize a % W = p at *
          have hrlt : (r : Int) < 3 := by omega
          clear r1 r2 r3 s1 s2
          by_cases hc : 0 < p ∧ p < W - 1
          · rw [if_pos hc] at hZs
            have zt := at0_get (l := z.2) (n := a) hal
            have zl2 : (z.2.set a (r : Int)).length = z.2.length := List.length_set
            conv => whnf
            repeat' (first | ((first | refine zs1 ?_ | refine zs2 ?_ | refine zs3 ?_ | refine zs4 ?_ | refine zs5 ?_); conv => whnf) | ((first | apply zi1 | apply zi2 | apply zi3 | apply zi4 | apply zi5) <;> intro _ <;> first | (exfalso; omega) | contradiction | (conv => whnf)))
            refine VCut.block 99 ?_
            conv => whnf
            repeat' (first | ((first | refine zs1 ?_ | refine zs2 ?_ | refine zs3 ?_ | refine zs4 ?_ | refine zs5 ?_); conv => whnf) | ((first | apply zi1 | apply zi2 | apply zi3 | apply zi4 | apply zi5) <;> intro _ <;> first | (exfalso; omega) | contradiction | (conv => whnf)) | (refine VCall.intro (f2 _ (outW_get _ _ _ _)) ?_; conv => whnf) | (refine zs6 [(1, 5), (3, 5)] ?_; conv => whnf) | (refine zs6 [] ?_; conv => whnf) | (rw [hmo]; conv => whnf) | (refine VCall.intro (f3 _ (outW_get _ _ _ _)) ?_; conv => whnf) | (refine VLd.recc (l := [0, 1, 2]) Vm.encI_len r 0 rfl rfl rfl hr3 (by decide) rfl (by simp; try omega) ?_; conv => whnf) | (refine VMem.setRec Vm.encI_len a 0 (r : Int) rfl rfl rfl zt (by decide) rfl (ofs _) ?_; conv => whnf))
            refine LEndO.intro (j + 1) (by omega) (by omega) (by rw [hZs]; funext jj; by_cases e : jj = i <;> simp [outW, e]) ?_
            rw [hZs]
            dsimp only
            rw [zl2]
            conv => whnf
            refine Retell.turn ⟨[0,1,2], 9, [], []⟩ (TurnOk.mk' _ _ [] [] (OutOk.outW (OutOk.lift _) rfl) rfl (by decide) zb trivial trivial rfl) zw zm
          · rw [if_neg hc] at hZs
            conv => whnf
            repeat' (first | ((first | refine zs1 ?_ | refine zs2 ?_ | refine zs3 ?_ | refine zs4 ?_ | refine zs5 ?_); conv => whnf) | ((first | apply zi1 | apply zi2 | apply zi3 | apply zi4 | apply zi5) <;> intro _ <;> first | (exfalso; omega) | contradiction | (conv => whnf)))
            refine VCut.block 99 ?_
            conv => whnf
            repeat' (first | ((first | refine zs1 ?_ | refine zs2 ?_ | refine zs3 ?_ | refine zs4 ?_ | refine zs5 ?_); conv => whnf) | ((first | apply zi1 | apply zi2 | apply zi3 | apply zi4 | apply zi5) <;> intro _ <;> first | (exfalso; omega) | contradiction | (conv => whnf)) | (refine VCall.intro (f2 _ (outW_get _ _ _ _)) ?_; conv => whnf) | (refine zs6 [] ?_; conv => whnf) | (rw [hmo]; conv => whnf))
            all_goals (
              refine LEndO.intro (j + 1) (by omega) (by omega) (by rw [hZs]; funext jj; by_cases e : jj = i <;> simp [outW, e]) ?_
              rw [hZs]
              dsimp only
              conv => whnf
              refine Retell.turn ⟨[0,1,2], 9, [], []⟩ (TurnOk.mk' _ _ [] [] (OutOk.outW (OutOk.lift _) rfl) rfl (by decide) zb trivial trivial rfl) zw zm)
        · obtain rfl : j = m := by omega
          generalize Z j = z at *
          conv => whnf
          repeat' (first | ((first | refine zs1 ?_ | refine zs2 ?_ | refine zs3 ?_ | refine zs4 ?_ | refine zs5 ?_); conv => whnf) | ((first | apply zi1 | apply zi2 | apply zi3 | apply zi4 | apply zi5) <;> intro _ <;> first | (exfalso; omega) | contradiction | (conv => whnf)))
          refine VCut.atO (marks := []) 99 [(0, .ptr (.out i) 0), (3, .fp [DI W, DI H, .sl 1 cc.length (cc.flatMap Vm.encI)]), (7, .gl (.loc 0) 3 (mpl W H x.2).length), (8, .fp [DI W, DI H, .sl 1 z.2.length (z.2.flatMap Vm.encI)]), (46, I n), (47, I y)] (outW h.lift i (deckB bs z.1)) [.flat true ((mpl W H x.2).flatMap encM)] rfl ?_ ?_
          · conv => whnf
            refine Retell.turn ⟨[0], 9, [(2, z.2.flatMap Vm.encI), (1, [DI W, DI H, .sl 1 z.2.length (z.2.flatMap Vm.encI)])], []⟩ (TurnOk.mk' _ _ [(2, z.2.flatMap Vm.encI), (1, [DI W, DI H, .sl 1 z.2.length (z.2.flatMap Vm.encI)])] [] (OutOk.outW (OutOk.lift _) rfl) rfl (by decide) zb zr trivial rfl) zw zm
          conv => whnf
          repeat' (first | ((first | refine zs1 ?_ | refine zs2 ?_ | refine zs3 ?_ | refine zs4 ?_ | refine zs5 ?_); conv => whnf) | ((first | apply zi1 | apply zi2 | apply zi3 | apply zi4 | apply zi5) <;> intro _ <;> first | (exfalso; omega) | contradiction | (conv => whnf)) | (refine VMem.app1 (l := mpl W H x.2) (mp W H z.2) encM_len rfl rfl rfl rfl rfl (by omega) ?_; conv => whnf))
          refine LEndO.intro (y + 1) (by omega) (by omega) (by rw [hXs]; rfl) ?_
          have hmm : mpl W H (x.2 ++ [z.2]) = mpl W H x.2 ++ [mp W H z.2] := by rw [mpl, List.map_append]; rfl
          rw [hXs]
          dsimp only
          rw [hmm, List.length_append, List.length_singleton]
          conv => whnf
          refine Retell.turn ⟨[2], 9, [], []⟩ (TurnOk.mk' _ _ [] [] (OutOk.outW (OutOk.lift _) rfl) rfl (by decide) zb trivial trivial rfl) zw zm
      · obtain rfl : y = n := by omega
        generalize X y = x at *
        conv => whnf
        repeat' (first | ((first | refine zs1 ?_ | refine zs2 ?_ | refine zs3 ?_ | refine zs4 ?_ | refine zs5 ?_); conv => whnf) | ((first | apply zi1 | apply zi2 | apply zi3 | apply zi4 | apply zi5) <;> intro _ <;> first | (exfalso; omega) | contradiction | (conv => whnf)))
        have hfl : ((mpl W H x.2).flatMap encM).length = (mpl W H x.2).length * 3 := flat_len encM_len _
        refine VOut.turn ⟨[], 9, [(0, (mpl W H x.2).flatMap encM)], []⟩ (loc' := []) (r1' := yrs (mpl W H x.2)) (TurnOk.mk' [] 9 [(0, (mpl W H x.2).flatMap encM)] [] (OutOk.outW (OutOk.lift _) rfl) rfl List.nodup_nil BTos.nil (FzAll.flat rfl FzAll.nil) trivial rfl) zw ?_
        exact VOut.setF (L := 0) rfl hd0 fun _ => rfl
end Go.Proofs.YtlgdkljiilbooaaGreat

open Go.Vm
open Riv
namespace Go.Proofs.YtlgdkljiilbooaaGreat
set_option maxRecDepth 20000
set_option maxHeartbeats 8000000

theorem vc_grown (bs : List Int) (s dr : Int) (hs : 0 ≤ s ∧ s ≤ 144) (hdr : 1 ≤ dr ∧ dr ≤ 5) : ∃ (l : Bt.Lnd) (dd : Dk), (l = ⟨[], []⟩ ∨ ∃ e w : Int, (1 ≤ e ∧ e ≤ 144) ∧ (1 ≤ w ∧ w ≤ 144) ∧ l = Bt.gl e w dr) ∧
    ∀ (i : Vm.Id) (h : Hp), h.get i = some (deckB bs ((0 : Nat), (9 : Int))) → VC Tryz.prog 4 [.ptr i 0, I s, I dr] h (.tuple [Bt.vL l, B true]) (h.set i (deckB bs dd)) := by
  have o := rvX_ok (dealt bs) (((0 : Nat), (9 : Int)) : Dk)
  obtain ⟨W, hW⟩ : ∃ W, (5 + (rvW (dNx bs) ((0 : Nat), (9 : Int))).1).toNat = W := ⟨_, rfl⟩
  obtain ⟨H, hH⟩ : ∃ H, (2 + (rvH (dNx bs) ((0 : Nat), (9 : Int))).1).toNat = H := ⟨_, rfl⟩
  have c1 := fun i h hd => vc_rivers bs ((0 : Nat), (9 : Int)) (by decide) hW hH i h hd
  rw [hW, hH] at o
  generalize (rvX (dNx bs) ((0 : Nat), (9 : Int))) = LL at *
  have oW := o.w
  have oH := o.h
  have oL := o.len
  have oK := o.ok
  generalize LL.2 = L at *
  generalize LL.1 = dd at *
  have cG := fun h => kG oK ⟨by omega, by omega⟩ hs h
  have gB := gnK_bd (owns (lawAt W L s 0) W) (owns (lawAt W L s (L.length - 1)) W) (W * H)
  have gL := gnK_len (owns (lawAt W L s 0) W) (owns (lawAt W L s (L.length - 1)) W) (W * H)
  have hm40 : W * H ≤ 8 * 5 := Nat.mul_le_mul oW.2 oH.2
  generalize gnK (owns (lawAt W L s 0) W) (owns (lawAt W L s (L.length - 1)) W) (W * H) = G at *
  match G, gL with
  | [g0, g1, g2, g3, g4, g5, g6, g7, g8, g9, g10, g11, g12, g13, g14, g15], _ =>
  have e1 : 0 ≤ g9 ∧ g9 ≤ 40 := by
    have := gB 9 (by decide)
    rw [show at0 [g0, g1, g2, g3, g4, g5, g6, g7, g8, g9, g10, g11, g12, g13, g14, g15] 9 = g9 from rfl] at this
    omega
  have e2 : 0 ≤ g6 ∧ g6 ≤ 40 := by
    have := gB 6 (by decide)
    rw [show at0 [g0, g1, g2, g3, g4, g5, g6, g7, g8, g9, g10, g11, g12, g13, g14, g15] 6 = g6 from rfl] at this
    omega
  have cG : ∀ h, VC Tryz.prog 12 [yrs (mpl W H L), I s] h (.tuple [.agg [I g0, I g1, I g2, I g3, I g4, I g5, I g6, I g7, I g8, I g9, I g10, I g11, I g12, I g13, I g14, I g15], I 0]) h := cG
  clear gB o hm40
  by_cases hp : 0 < g9 ∧ 0 < g6
  · refine ⟨Bt.gl g9 g6 dr, dd, .inr ⟨g9, g6, by omega, by omega, rfl⟩, fun i h hd => ?_⟩
    refine VC.bodyC 2 Tryz.func4 rfl Tryz.ntmps4 Tryz.call4 (h.grows_set _ _) rfl ?_
    conv => whnf
    repeat' (first | ((first | refine zs1 ?_ | refine zs2 ?_ | refine zs3 ?_ | refine zs4 ?_ | refine zs5 ?_); conv => whnf) | ((first | apply zi1 | apply zi2 | apply zi3 | apply zi4 | apply zi5) <;> intro _ <;> conv => whnf) | (refine VCall.intro (c1 _ _ (get_out hd _)) ?_; conv => whnf))
    refine VCut.atO (marks := []) 2 [(1, I s), (2, I dr), (6, .ptr (.loc 0) 0), (8, yrs (mpl W H L))] (outW h.lift i (deckB bs dd)) [.cells true [.nilslice, .nilslice]] ?_ ?_ ?_
    · funext j; by_cases e : j = i <;> simp [outW, e, Hp.set]
    · conv => whnf
      refine Retell.turn ⟨[0], 9, [], []⟩ (TurnOk.mk' _ _ [] [] (OutOk.outW (OutOk.lift _) rfl) rfl (by decide) zb trivial trivial rfl) zw zm
    conv => whnf
    repeat' (first | ((first | refine zs1 ?_ | refine zs2 ?_ | refine zs3 ?_ | refine zs4 ?_ | refine zs5 ?_); conv => whnf) | ((first | apply zi1 | apply zi2 | apply zi3 | apply zi4 | apply zi5) <;> intro _ <;> first | (exfalso; omega) | contradiction | (conv => whnf)) | (refine VCall.intro (cG _) ?_; conv => whnf))
    refine VCut.atO (marks := []) 2 [(2, I dr), (6, .ptr (.loc 0) 0), (9, .ptr (.loc 1) 0)] (outW h.lift i (deckB bs dd)) [.cells true [.nilslice, .nilslice], .flat true [DI g0, DI g1, DI g2, DI g3, DI g4, DI g5, DI g6, DI g7, DI g8, DI g9, DI g10, DI g11, DI g12, DI g13, DI g14, DI g15]] rfl ?_ ?_
    · conv => whnf
      refine Retell.turn ⟨[0,1], 9, [], []⟩ (TurnOk.mk' _ _ [] [] (OutOk.outW (OutOk.lift _) rfl) rfl (by decide) zb trivial trivial rfl) zw zm
    conv => whnf
    repeat' (first | ((first | refine zs1 ?_ | refine zs2 ?_ | refine zs3 ?_ | refine zs4 ?_ | refine zs5 ?_); conv => whnf) | ((first | apply zi1 | apply zi2 | apply zi3 | apply zi4 | apply zi5) <;> intro _ <;> first | (exfalso; omega) | contradiction | (conv => whnf)))
    refine zs6 [] ?_
    conv => whnf
    repeat' (first | ((first | refine zs1 ?_ | refine zs2 ?_ | refine zs3 ?_ | refine zs4 ?_ | refine zs5 ?_); conv => whnf) | ((first | apply zi1 | apply zi2 | apply zi3 | apply zi4 | apply zi5) <;> intro _ <;> first | (exfalso; omega) | contradiction | (conv => whnf)))
    refine VCut.atO (marks := []) 2 [(2, I dr), (6, .ptr (.loc 0) 0), (11, .ptr (.loc 1) 0), (12, I g9), (13, I g6)] (outW h.lift i (deckB bs dd)) [.cells true [.nilslice, .nilslice], .cells true [.nilslice, .nilslice]] rfl ?_ ?_
    · conv => whnf
      refine Retell.turn ⟨[0,2], 9, [], []⟩ (TurnOk.mk' _ _ [] [] (OutOk.outW (OutOk.lift _) rfl) rfl (by decide) zb trivial trivial rfl) zw zm
    conv => whnf
    repeat' (first | ((first | refine zs1 ?_ | refine zs2 ?_ | refine zs3 ?_ | refine zs4 ?_ | refine zs5 ?_); conv => whnf) | ((first | apply zi1 | apply zi2 | apply zi3 | apply zi4 | apply zi5) <;> intro _ <;> first | (exfalso; omega) | contradiction | (conv => whnf)))
    refine VCut.atO (marks := []) 99 [(6, .ptr (.loc 0) 0), (11, .ptr (.loc 1) 0)] (outW h.lift i (deckB bs dd)) [.cells true [.nilslice, .nilslice], .cells true [.gl (.loc 2) 4 2, .nilslice], .flat true ((Bt.gl g9 g6 dr).ss.flatMap Bt.encT)] rfl ?_ ?_
    · conv => whnf
      refine Retell.turn ⟨[0,1,2], 9, [], []⟩ (TurnOk.mk' _ _ [] [] (OutOk.outW (OutOk.lift _) rfl) rfl (by decide) zb trivial trivial rfl) zw zm
    conv => whnf
    repeat' (first | ((first | refine zs1 ?_ | refine zs2 ?_ | refine zs3 ?_ | refine zs4 ?_ | refine zs5 ?_); conv => whnf) | ((first | apply zi1 | apply zi2 | apply zi3 | apply zi4 | apply zi5) <;> intro _ <;> first | (exfalso; omega) | contradiction | (conv => whnf)))
    refine VOut.turn ⟨[], 9, [(2, (Bt.gl g9 g6 dr).ss.flatMap Bt.encT)], []⟩ (loc' := []) (r1' := .tuple [Bt.vL (Bt.gl g9 g6 dr), B true]) (TurnOk.mk' [] 9 [(2, (Bt.gl g9 g6 dr).ss.flatMap Bt.encT)] [] (OutOk.outW (OutOk.lift _) rfl) rfl List.nodup_nil BTos.nil (FzAll.flat rfl FzAll.nil) trivial rfl) zw ?_
    exact VOut.setF (L := 0) rfl hd fun _ => rfl
  · refine ⟨⟨[], []⟩, dd, .inl rfl, fun i h hd => ?_⟩
    refine VC.bodyC 2 Tryz.func4 rfl Tryz.ntmps4 Tryz.call4 (h.grows_set _ _) rfl ?_
    conv => whnf
    repeat' (first | ((first | refine zs1 ?_ | refine zs2 ?_ | refine zs3 ?_ | refine zs4 ?_ | refine zs5 ?_); conv => whnf) | ((first | apply zi1 | apply zi2 | apply zi3 | apply zi4 | apply zi5) <;> intro _ <;> conv => whnf) | (refine VCall.intro (c1 _ _ (get_out hd _)) ?_; conv => whnf))
    refine VCut.atO (marks := []) 2 [(1, I s), (2, I dr), (6, .ptr (.loc 0) 0), (8, yrs (mpl W H L))] (outW h.lift i (deckB bs dd)) [.flat true [.nilslice, .nilslice]] ?_ ?_ ?_
    · funext j; by_cases e : j = i <;> simp [outW, e, Hp.set]
    · conv => whnf
      refine Retell.turn ⟨[0], 9, [], []⟩ (TurnOk.mk' _ _ [] [] (OutOk.outW (OutOk.lift _) rfl) rfl (by decide) zb trivial trivial rfl) zw zm
    conv => whnf
    repeat' (first | ((first | refine zs1 ?_ | refine zs2 ?_ | refine zs3 ?_ | refine zs4 ?_ | refine zs5 ?_); conv => whnf) | ((first | apply zi1 | apply zi2 | apply zi3 | apply zi4 | apply zi5) <;> intro _ <;> first | (exfalso; omega) | contradiction | (conv => whnf)) | (refine VCall.intro (cG _) ?_; conv => whnf))
    refine VCut.atO (marks := []) 2 [(2, I dr), (6, .ptr (.loc 0) 0), (9, .ptr (.loc 1) 0)] (outW h.lift i (deckB bs dd)) [.flat true [.nilslice, .nilslice], .flat true [DI g0, DI g1, DI g2, DI g3, DI g4, DI g5, DI g6, DI g7, DI g8, DI g9, DI g10, DI g11, DI g12, DI g13, DI g14, DI g15]] rfl ?_ ?_
    · conv => whnf
      refine Retell.turn ⟨[0,1], 9, [], []⟩ (TurnOk.mk' _ _ [] [] (OutOk.outW (OutOk.lift _) rfl) rfl (by decide) zb trivial trivial rfl) zw zm
    conv => whnf
    repeat' (first | ((first | refine zs1 ?_ | refine zs2 ?_ | refine zs3 ?_ | refine zs4 ?_ | refine zs5 ?_); conv => whnf) | ((first | apply zi1 | apply zi2 | apply zi3 | apply zi4 | apply zi5) <;> intro _ <;> first | (exfalso; omega) | contradiction | (conv => whnf)))
    refine zs6 [] ?_
    conv => whnf
    repeat' (first | ((first | refine zs1 ?_ | refine zs2 ?_ | refine zs3 ?_ | refine zs4 ?_ | refine zs5 ?_); conv => whnf) | ((first | apply zi1 | apply zi2 | apply zi3 | apply zi4 | apply zi5) <;> intro _ <;> first | (exfalso; omega) | contradiction | (conv => whnf)))
    refine VCut.atO (marks := []) 99 [(2, I dr), (6, .ptr (.loc 0) 0), (11, .ptr (.loc 1) 0), (12, I g9), (13, I g6)] (outW h.lift i (deckB bs dd)) [.flat true [.nilslice, .nilslice], .flat true [.nilslice, .nilslice]] rfl ?_ ?_
    · conv => whnf
      refine Retell.turn ⟨[0,2], 9, [], []⟩ (TurnOk.mk' _ _ [] [] (OutOk.outW (OutOk.lift _) rfl) rfl (by decide) zb trivial trivial rfl) zw zm
    conv => whnf
    repeat' (first | ((first | refine zs1 ?_ | refine zs2 ?_ | refine zs3 ?_ | refine zs4 ?_ | refine zs5 ?_); conv => whnf) | ((first | apply zi1 | apply zi2 | apply zi3 | apply zi4 | apply zi5) <;> intro _ <;> first | (exfalso; omega) | contradiction | (conv => whnf)))
    all_goals (
      refine VOut.turn ⟨[], 9, [], []⟩ (loc' := []) (r1' := .tuple [Bt.vL ⟨[], []⟩, B true]) (TurnOk.mk' [] 9 [] [] (OutOk.outW (OutOk.lift _) rfl) rfl List.nodup_nil BTos.nil FzAll.nil trivial rfl) zw ?_
      exact VOut.setF (L := 0) rfl hd fun _ => rfl)
end Go.Proofs.YtlgdkljiilbooaaGreat

open Go.Vm
open Riv
namespace Go.Proofs.YtlgdkljiilbooaaGreat
set_option maxRecDepth 20000
set_option maxHeartbeats 8000000

theorem vc_BarterGrown (bs : List Int) (x1 : Int) (hx1 : 0 ≤ x1 ∧ x1 ≤ 255) (x2 : Int) (hx2 : 0 ≤ x2 ∧ x2 ≤ 255) (h : Hp) : VC Tryz.prog 3 [bytes bs, .s (.int .u8 x1), .s (.int .u8 x2)] h (B true) h := by
  have c0 := vc_Of bs
  have ht1 : x1.tmod 20 = x1 % 20 := Int.tmod_eq_emod_of_nonneg hx1.1
  have ht2 : x2.tmod 5 = x2 % 5 := Int.tmod_eq_emod_of_nonneg hx2.1
  have hb2 : 0 ≤ x2.tmod 5 ∧ x2.tmod 5 ≤ 4 := by rw [ht2]; omega
  have hdr : 1 ≤ 1 + x2.tmod 5 ∧ 1 + x2.tmod 5 ≤ 5 := by omega
  obtain ⟨l, dd, hl, c4⟩ := vc_grown bs (x1.tmod 20) (1 + x2.tmod 5) (by rw [ht1]; omega) hdr
  have cA := Bt.vc_awake
  refine VC.bodyC 2 Tryz.func3 rfl Tryz.ntmps3 Tryz.call3 (h.grows_refl) rfl ?_
  conv => whnf
  repeat' (first | ((first | refine zs1 ?_ | refine zs2 ?_ | refine zs3 ?_ | refine zs4 ?_ | refine zs5 ?_); conv => whnf) | ((first | apply zi1 | apply zi2 | apply zi3 | apply zi4 | apply zi5) <;> intro _ <;> conv => whnf) | (refine VCall.intro (c0 _) ?_; conv => whnf) | (refine VCall.intro (c4 (.loc 0) _ rfl) ?_; conv => whnf))
  refine VCut.at' (outer := h.lift) (marks := []) 2 [(7, .fp (Bt.encN l)), (8, B true)] [] ?_ ?_
  · conv => whnf
    refine Retell.turn ⟨[], 9, [(1, Bt.encN l)], []⟩ (TurnOk.mk' _ _ [(1, Bt.encN l)] [] (OutOk.lift _) rfl (by decide) zb zf trivial rfl) zw zm
  clear c4 c0 ht1 ht2
  rcases hl with rfl | ⟨e, w, he, hw, rfl⟩
  · conv => whnf
    repeat' (first | ((first | refine zs1 ?_ | refine zs2 ?_ | refine zs3 ?_ | refine zs4 ?_ | refine zs5 ?_); conv => whnf) | ((first | apply zi1 | apply zi2 | apply zi3 | apply zi4 | apply zi5) <;> intro _ <;> first | (exfalso; omega) | contradiction | (conv => whnf)) | (refine VCall.intro (cA _) ?_; conv => whnf))
    exact VOut.same rfl
  · generalize 1 + x2.tmod 5 = dr at *
    obtain ⟨g1, g2, g3, hx⟩ := Bt.gl_law he hw hdr
    have ho := Bt.gl_ok he hw hdr
    have hb := Bt.bk_ok e w dr
    have c7 := fun h => Bt.vc_Even_ok _ h ho
    have c8 := fun h => Bt.vc_Gains_ok _ _ h ho hx
    have c8b := fun h => Bt.vc_Gains_ok _ _ h ho hb
    have c9 := fun h => Bt.vc_Best_ok _ _ h ho hb
    have c10 := fun h => Bt.vc_Fair_ok _ _ h ho hb
    rw [Bt.bk_best he.1 hw.1 hdr.1] at c9
    rw [Bt.bk_fr] at c10
    have n1 := Bt.gn_b ho hx
    have n2 := Bt.gn_b ho hb
    have hxw := hx.w
    have hl2 : (Bt.gl e w dr).ss.length = 2 := rfl
    generalize Bt.gl e w dr = l at *
    clear ho hb hx he hw hdr
    generalize Bt.gnN l (Bt.evX l) = n at *
    generalize Bt.gnS l (Bt.evX l) = n' at *
    generalize Bt.gnN l Bt.bkX = p at *
    generalize Bt.gnS l Bt.bkX = q at *
    generalize Bt.evX l = X at *
    subst g1
    have hmul : -64000000000 ≤ min p q * X.w ∧ min p q * X.w ≤ 64000000000 := by
      have k1 : -32000000 ≤ min p q := by omega
      have k2 : min p q ≤ 32000000 := by omega
      have k3 := Int.mul_le_mul_of_nonneg_right k1 (show (0 : Int) ≤ X.w by omega)
      have k4 := Int.mul_le_mul_of_nonneg_right k2 (show (0 : Int) ≤ X.w by omega)
      omega
    conv => whnf
    repeat' (first | ((first | refine zs1 ?_ | refine zs2 ?_ | refine zs3 ?_ | refine zs4 ?_ | refine zs5 ?_); conv => whnf) | ((first | apply zi1 | apply zi2 | apply zi3 | apply zi4 | apply zi5) <;> intro _ <;> first | (exfalso; omega) | contradiction | (conv => whnf)))
    refine VCut.at' (outer := h.lift) (marks := []) 1 [(7, .fp (Bt.encN l)), (8, B true)] [] ?_ ?_
    · conv => whnf
      refine Retell.turn ⟨[], 9, [], []⟩ (TurnOk.mk' _ _ [] [] (OutOk.lift _) rfl (by decide) zb trivial trivial rfl) zw zm
    conv => whnf
    repeat' (first | ((first | refine zs1 ?_ | refine zs2 ?_ | refine zs3 ?_ | refine zs4 ?_ | refine zs5 ?_); conv => whnf) | ((first | apply zi1 | apply zi2 | apply zi3 | apply zi4 | apply zi5) <;> intro _ <;> first | (exfalso; omega) | contradiction | (conv => whnf)) | (refine VCall.intro (c7 _) ?_; conv => whnf))
    refine VCut.at' (outer := h.lift) (marks := []) 2 [(7, .fp (Bt.encN l)), (9, .fp (Bt.encX X)), (10, I 0)] [] ?_ ?_
    · conv => whnf
      refine Retell.turn ⟨[], 9, [(0, Bt.encX X)], []⟩ (TurnOk.mk' _ _ [(0, Bt.encX X)] [] (OutOk.lift _) rfl (by decide) zb zf trivial rfl) zw zm
    conv => whnf
    repeat' (first | ((first | refine zs1 ?_ | refine zs2 ?_ | refine zs3 ?_ | refine zs4 ?_ | refine zs5 ?_); conv => whnf) | ((first | apply zi1 | apply zi2 | apply zi3 | apply zi4 | apply zi5) <;> intro _ <;> first | (exfalso; omega) | contradiction | (conv => whnf)) | (refine VCall.intro (c8 _) ?_; conv => whnf))
    refine VCut.at' (outer := h.lift) (marks := []) 2 [(7, .fp (Bt.encN l)), (9, .fp (Bt.encX X)), (10, I 0), (11, I n), (12, I n), (13, I 0), (14, .fp (Bt.encX Bt.bkX))] [] ?_ ?_
    · conv => whnf
      refine Retell.turn ⟨[], 9, [(0, [DI 0, DI 1]), (1, Bt.encX Bt.bkX)], []⟩ (TurnOk.mk' _ _ [(0, [DI 0, DI 1]), (1, Bt.encX Bt.bkX)] [] (OutOk.lift _) rfl (by decide) zb zr trivial rfl) zw zm
    conv => whnf
    repeat' (first | ((first | refine zs1 ?_ | refine zs2 ?_ | refine zs3 ?_ | refine zs4 ?_ | refine zs5 ?_); conv => whnf) | ((first | apply zi1 | apply zi2 | apply zi3 | apply zi4 | apply zi5) <;> intro _ <;> first | (exfalso; omega) | contradiction | (conv => whnf)) | (refine VCall.intro (c9 _) ?_; conv => whnf) | (refine VCall.intro (c10 _) ?_; conv => whnf))
    refine VCut.at' (outer := h.lift) (marks := []) 1 [(7, .fp (Bt.encN l)), (9, .fp (Bt.encX X)), (10, I 0), (11, I n), (12, I n), (13, I 0), (14, .fp (Bt.encX Bt.bkX)), (15, B true), (16, I 0), (17, B (decide (0 ≤ p ∧ 0 ≤ q))), (18, I 0)] [] ?_ ?_
    · conv => whnf
      refine Retell.turn ⟨[], 9, [], []⟩ (TurnOk.mk' _ _ [] [] (OutOk.lift _) rfl (by decide) zb trivial trivial rfl) zw zm
    conv => whnf
    repeat' (first | ((first | refine zs1 ?_ | refine zs2 ?_ | refine zs3 ?_ | refine zs4 ?_ | refine zs5 ?_); conv => whnf) | ((first | apply zi1 | apply zi2 | apply zi3 | apply zi4 | apply zi5) <;> intro _ <;> first | (exfalso; omega) | contradiction | (conv => whnf)))
    refine VCut.at' (outer := h.lift) (marks := []) 99 [(7, .fp (Bt.encN l)), (9, .fp (Bt.encX X)), (11, I n), (14, .fp (Bt.encX Bt.bkX)), (17, B (decide (0 ≤ p ∧ 0 ≤ q)))] [] ?_ ?_
    · conv => whnf
      refine Retell.turn ⟨[], 9, [], []⟩ (TurnOk.mk' _ _ [] [] (OutOk.lift _) rfl (by decide) zb trivial trivial rfl) zw zm
    conv => whnf
    repeat' (first | ((first | refine zs1 ?_ | refine zs2 ?_ | refine zs3 ?_ | refine zs4 ?_ | refine zs5 ?_); conv => whnf) | ((first | apply zi1 | apply zi2 | apply zi3 | apply zi4 | apply zi5) <;> intro _ <;> first | (exfalso; omega) | contradiction | (conv => whnf)) | (refine VCall.intro (c8b _) ?_; conv => whnf) | (refine VCall.intro (cA _) ?_; conv => whnf))
    all_goals first | contradiction | exact VOut.same rfl | (exfalso; omega) | (rename_i hq hh; exact absurd (decide_eq_decide.2 (by omega)) hh) | (rename_i hq hh; exact absurd (decide_eq_false (by omega)) hh)
end Go.Proofs.YtlgdkljiilbooaaGreat


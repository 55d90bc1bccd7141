/- Part 0 of the proof that PassageCarried holds: as many heads pass as a cut bars, and no more. No condition. -/
import Derived.Test.YtoeendggmalcpaaBa8
set_option linter.unusedVariables false
set_option linter.unusedSimpArgs false
open Go.Vm
open Psg
namespace Go.Proofs.Ytoeendggmalcpaa
set_option maxRecDepth 20000
set_option maxHeartbeats 4000000
theorem vc_kcloneO (l : List Int) (h : Hp) (hl : l.length ≤ 4000000) : VC Try.prog 29 [ints l] h (.gl h.fresh 1 l.length) (h.push (.flat true (l.flatMap Vm.encI))) := by
  refine VC.body Try.func29 rfl Try.ntmps29 Try.call29 (h.grows_push _) rfl ?_; conv => whnf
  repeat' (first | ((first | refine zs1 ?_ | refine zs2 ?_ | refine zs3 ?_ | refine zs4 ?_ | refine zs5 ?_); conv => whnf) | ((first | apply zi1 | apply zi2 | apply zi3 | apply zi4 | apply zi5) <;> intro _ <;> conv => whnf))
  refine VMem.appNil encI_len rfl rfl rfl (by omega) ?_
  conv => whnf
  repeat' (first | ((first | refine zs1 ?_ | refine zs2 ?_ | refine zs3 ?_ | refine zs4 ?_ | refine zs5 ?_); conv => whnf) | ((first | apply zi1 | apply zi2 | apply zi3 | apply zi4 | apply zi5) <;> intro _ <;> conv => whnf))
  exact VOut.own1 (h := h) (loc := [.flat true (l.flatMap Vm.encI)]) (ds := l.flatMap Vm.encI) 0 1 rfl rfl
structure CtI (a b : List Int) (p : Nat) (S : List Int) : Prop where
  lt : S.Pairwise (· < ·)
  rg : ∀ q ∈ S, 0 ≤ q ∧ q < p
  src : ∀ q ∈ a, 0 ≤ q → q < p → q ∈ S
  gls : ∀ q ∈ S, q ∉ b
  len : S.length ≤ p
theorem CtI.zero (a b : List Int) : CtI a b 0 [] := ⟨List.Pairwise.nil, fun q h => absurd h (by simp), fun q _ h0 h1 => by omega, fun q h => absurd h (by simp), Nat.le_refl _⟩
theorem CtI.add {a b : List Int} {p : Nat} {S : List Int} (h : CtI a b p S) (hp : (p : Int) ∉ b) : CtI a b (p + 1) (S ++ [(p : Int)]) := by
  refine ⟨List.pairwise_append.2 ⟨h.lt, by simp, fun x hx y hy => ?_⟩, fun q hq => ?_, fun q hq h0 h1 => ?_, fun q hq => ?_, ?_⟩
  · rw [List.mem_singleton.1 hy]; exact (h.rg x hx).2
  · rcases List.mem_append.1 hq with hq | hq
    · have := h.rg q hq; omega
    · rw [List.mem_singleton.1 hq]; omega
  · rw [List.mem_append]
    by_cases e : q = p
    · exact .inr (by simp [e])
    · exact .inl (h.src q hq h0 (by omega))
  · rcases List.mem_append.1 hq with hq | hq
    · exact h.gls q hq
    · rw [List.mem_singleton.1 hq]; exact hp
  · rw [List.length_append]; have := h.len; simp; omega
theorem CtI.skip {a b : List Int} {p : Nat} {S : List Int} (h : CtI a b p S) (hp : (p : Int) ∉ a) : CtI a b (p + 1) S :=
  ⟨h.lt, fun q hq => by have := h.rg q hq; omega, fun q hq h0 h1 => by
    by_cases e : q = p
    · subst e; exact absurd hq hp
    · exact h.src q hq h0 (by omega), h.gls, by have := h.len; omega⟩
theorem CtI.cut {n : Nat} {ws : List Wy} {a b S : List Int} (h : CtI a b n S) (hP : Ps n ws a b) : Cu a b (fun q => decide (q ∈ S)) := by
  refine ⟨fun q hq => ?_, fun q hq => ?_⟩
  · have := hP.smt.inN q hq
    exact decide_eq_true (h.src q hq this.1 this.2)
  · exact decide_eq_false fun hm => h.gls q hm hq
theorem brg_try {n : Nat} {N : Nt} {a b hs : List Int} (hN : NOk n N) (hp : pas N a b = 0) (hP : Ps n N.ws a b) (hb : Bnd N.ws hs) : brgN N a b hs = (0, 9) ∨ ∃ v, v ≤ (dvP N a b).2.1 ∧ brgN N a b hs = (v, 0) := by
  by_cases hc : conB n N.ws a b hs = true
  · right
    have hd : Dr n N.ws a b hs := by
      refine ⟨hb, fun p h1 h2 h3 => ?_⟩
      rcases conB_iff.1 hc p h1 with h | h | h
      · exact absurd h h2
      · exact absurd h h3
      · exact h
    have hD := dvP_ok hN hP
    refine ⟨val n N.ws a hs, ?_, brg_of hN hp hd⟩
    rw [← hD.br]
    exact val_le hP.inN hd hD.cut
  · left
    unfold brgN
    rw [if_pos hp, if_pos hb.len, if_pos ((bndA_iff hb.len).2 hb), nok_nat hN, if_neg hc]
set_option maxHeartbeats 8000000 in
theorem vc_Carried (ns ts : List Int) (h : Hp) : VC Try.prog 8 [bytes ns, bytes ts] h (B true) h := by
  have cM := fun (i : Vm.Id) (h : Hp) hd => vc_Made ns (0, 9) 10 24 i h (by decide) (by decide) (by decide) hd
  obtain ⟨n, hN, hn2, _, hd1, _⟩ := mdN_ok ns (0, 9) (p := 10) (w := 24) (by decide) (by decide)
  generalize (mdS ns (0, 9) 10 24).1 = D1 at *
  generalize mdN ns (0, 9) 10 24 = N at *
  have cP := fun (i : Vm.Id) (h : Hp) hd => vc_Pastures ns D1 N i h hN hn2 (by dsimp only at hd1; omega) hd
  obtain ⟨hO, _⟩ := past_ok ns D1 hN hn2
  generalize (paX ns D1 n).1 = D2 at *
  generalize paF ns D1 n = a at *
  generalize paT ns D1 n = b at *
  have hpn := hN.p
  have hn1 := hN.n1
  have hwl := hN.len
  have al := hO.al
  have bl := hO.bl
  have hP := hO.ps
  have h0 := hO.pas
  have hD := dvP_ok hN hP
  have hbo := drv_both hN h0 hP
  have hl1 := hD.dr.bnd.len
  have hl2 := hD.mt.len
  have hlow := hD.low
  have c5 := fun h => vc_Drive N a b h (by omega) (by omega) (by omega)
  unfold drvV at c5
  rw [if_pos h0] at c5
  have c6 := fun h => vc_Brings N a b (dvP N a b).1 h (by omega) (by omega) (by omega) (by omega)
  rw [hbo.1] at c6
  have c7 := fun h => vc_Cut N a b h (by omega) (by omega) (by omega)
  unfold cutV at c7
  rw [if_pos h0] at c7
  have c8 := fun h => vc_Bars N a b (dvP N a b).2.2 h (by omega) (by omega) (by omega) (by omega)
  rw [hbo.2] at c8
  have hTry := fun (hs : List Int) hb => brg_try (hs := hs) hN h0 hP hb
  have hCut := fun (S : List Int) (hc : Cu a b (fun q => decide (q ∈ S))) => val_le hP.inN hD.dr hc
  rw [hD.vl] at hCut
  have hBnd := hD.dr.bnd
  generalize dvP N a b = W at *
  obtain ⟨hs, m, ct⟩ := W
  dsimp only at *
  refine VC.bodyC 5 Try.func8 rfl Try.ntmps8 Try.call8 (h.grows_refl) rfl ?_; conv => whnf
  repeat' (first | ((first | refine zs1 ?_ | refine zs2 ?_ | refine zs3 ?_ | refine zs4 ?_ | refine zs5 ?_); conv => whnf) | ((first | apply zi1 | apply zi2 | apply zi3 | apply zi4 | apply zi5) <;> intro _ <;> conv => whnf) | (refine VCall.intro (vc_Of _ _) ?_; conv => whnf) | (refine VCall.intro (cM _ _ rfl) ?_; conv => whnf) | (refine VCall.intro (cP _ _ rfl) ?_; conv => whnf))
  refine VCut.at' (outer := h.lift) (marks := []) 99 [(6, .fp (encN N)), (7, ints a), (8, ints b), (9, .ptr (.loc 0) 0)] [deckB ts (0, 9)] ?_ ?_
  · conv => whnf
    refine Retell.turn ⟨[2], 3, [(1, encN N)], []⟩ (TurnOk.mk' _ _ [(1, encN N)] [] (OutOk.lift _) rfl (by decide) zb zf trivial rfl) zw zm
  conv => whnf
  repeat' (first | ((first | refine zs1 ?_ | refine zs2 ?_ | refine zs3 ?_ | refine zs4 ?_ | refine zs5 ?_); conv => whnf) | ((first | apply zi1 | apply zi2 | apply zi3 | apply zi4 | apply zi5) <;> intro _ <;> conv => whnf) | (refine VCall.intro (c5 _) ?_; conv => whnf) | (refine VCall.intro (c6 _) ?_; conv => whnf) | (refine VCall.intro (c7 _) ?_; conv => whnf) | (refine VCall.intro (c8 _) ?_; conv => whnf))
  all_goals try contradiction
  all_goals try (exfalso; omega)
  refine VCode.lp (outer := h.lift) (marks := []) (fun y : Nat × DS => [(6, .fp (encN N)), (7, ints a), (8, ints b), (9, .ptr (.loc 0) 0), (10, ints hs), (11, I m), (106, I y.1)]) (fun y => [deckB ts y.2]) (fun y => y.1 ≤ 6 ∧ y.2.1 ≤ 100 * y.1) (fun y => 6 - y.1) (0, (0, 9)) ⟨Nat.zero_le _, Nat.zero_le _⟩ ?_ ?_
  · conv => whnf
    refine Retell.turn ⟨[0], 1, [], []⟩ (TurnOk.mk' _ _ [] [] (OutOk.lift _) rfl (by decide) zb trivial trivial rfl) zw zm
  · rintro ⟨r, e⟩ ⟨r1, r2⟩
    dsimp only at r1 r2
    rcases Nat.lt_or_ge r 6 with q1 | q1
    · conv => whnf
      repeat' (first | ((first | refine zs1 ?_ | refine zs2 ?_ | refine zs3 ?_ | refine zs4 ?_ | refine zs5 ?_); conv => whnf) | ((first | apply zi1 | apply zi2 | apply zi3 | apply zi4 | apply zi5) <;> intro _ <;> conv => whnf))
      all_goals try (exfalso; omega)
      refine VCode.lp (outer := h.lift) (marks := []) (fun y : Nat × DS × List Int => [(6, .fp (encN N)), (7, ints a), (8, ints b), (9, .ptr (.loc 0) 0), (10, ints hs), (11, I m), (19, .gl (.loc 1) 1 y.2.2.length), (106, I r), (109, I N.p), (110, I y.1)]) (fun y => [deckB ts y.2.1, .flat true (y.2.2.flatMap Vm.encI)]) (fun y => y.1 ≤ n ∧ y.2.1.1 ≤ 100 * r + y.1 ∧ CtI a b y.1 y.2.2) (fun y => n - y.1) (0, e, []) ⟨Nat.zero_le _, r2, CtI.zero _ _⟩ ?_ ?_
      · conv => whnf
        refine Retell.turn ⟨[0,1], 1, [], []⟩ (TurnOk.mk' _ _ [] [] (OutOk.lift _) rfl (by decide) zb trivial trivial rfl) zw zm
      · rintro ⟨p, f, S⟩ ⟨p1, p2, p3⟩
        dsimp only at p1 p2 p3
        have hSl := p3.len
        rcases Nat.lt_or_ge p n with q2 | q2
        · have cA := fun h => vc_ContI a (p : Int) h (by omega)
          have cB := fun h => vc_ContI b (p : Int) h (by omega)
          have cC := fun (h2 : Hp) hh => vc_coin ts f 2 (.loc 0) h2 (by omega) hh
          have zbd := dNx_bd ts f 2
          generalize dNx ts f 2 = z at cC zbd
          by_cases ha : (p : Int) ∈ a
          · rw [decide_eq_true ha] at cA
            conv => whnf
            repeat' (first | ((first | refine zs1 ?_ | refine zs2 ?_ | refine zs3 ?_ | refine zs4 ?_ | refine zs5 ?_); conv => whnf) | ((first | apply zi1 | apply zi2 | apply zi3 | apply zi4 | apply zi5) <;> intro _ <;> conv => whnf) | (refine VCall.intro (cA _) ?_; conv => whnf))
            all_goals try (exfalso; omega)
            refine VMem.app1 (l := S) (p : Int) encI_len rfl rfl rfl rfl rfl (by omega) ?_
            conv => whnf
            repeat' (first | ((first | refine zs1 ?_ | refine zs2 ?_ | refine zs3 ?_ | refine zs4 ?_ | refine zs5 ?_); conv => whnf) | ((first | apply zi1 | apply zi2 | apply zi3 | apply zi4 | apply zi5) <;> intro _ <;> conv => whnf))
            refine LEnd.intro (p + 1, f, S ++ [(p : Int)]) ⟨by dsimp only; omega, by dsimp only; omega, p3.add (hP.dis _ ha)⟩ (by dsimp only; omega) ?_
            dsimp only
            rw [List.length_append]
            conv => whnf
            refine Retell.turn ⟨[0,3], 4, [], []⟩ (TurnOk.mk' _ _ [] [] (OutOk.lift _) rfl (by decide) zb trivial trivial rfl) zw zm
          · rw [decide_eq_false ha] at cA
            by_cases hb : (p : Int) ∈ b
            · rw [decide_eq_true hb] at cB
              conv => whnf
              repeat' (first | ((first | refine zs1 ?_ | refine zs2 ?_ | refine zs3 ?_ | refine zs4 ?_ | refine zs5 ?_); conv => whnf) | ((first | apply zi1 | apply zi2 | apply zi3 | apply zi4 | apply zi5) <;> intro _ <;> conv => whnf) | (refine VCall.intro (cA _) ?_; conv => whnf) | (refine VCall.intro (cB _) ?_; conv => whnf))
              all_goals try (exfalso; omega)
              refine LEnd.intro (p + 1, f, S) ⟨by dsimp only; omega, by dsimp only; omega, p3.skip ha⟩ (by dsimp only; omega) ?_
              conv => whnf
              refine Retell.turn ⟨[0,1], 2, [], []⟩ (TurnOk.mk' _ _ [] [] (OutOk.lift _) rfl (by decide) zb trivial trivial rfl) zw zm
            · rw [decide_eq_false hb] at cB
              by_cases hz : z.1 = 0
              · rw [show (z.1 == 0) = true by rw [hz]; rfl] at cC
                conv => whnf
                repeat' (first | ((first | refine zs1 ?_ | refine zs2 ?_ | refine zs3 ?_ | refine zs4 ?_ | refine zs5 ?_); conv => whnf) | ((first | apply zi1 | apply zi2 | apply zi3 | apply zi4 | apply zi5) <;> intro _ <;> conv => whnf) | (refine VCall.intro (cA _) ?_; conv => whnf) | (refine VCall.intro (cB _) ?_; conv => whnf) | (refine VCall.intro (cC _ rfl) ?_; conv => whnf))
                all_goals try (exfalso; omega)
                refine VMem.app1 (l := S) (p : Int) encI_len rfl rfl rfl rfl rfl (by omega) ?_
                conv => whnf
                repeat' (first | ((first | refine zs1 ?_ | refine zs2 ?_ | refine zs3 ?_ | refine zs4 ?_ | refine zs5 ?_); conv => whnf) | ((first | apply zi1 | apply zi2 | apply zi3 | apply zi4 | apply zi5) <;> intro _ <;> conv => whnf))
                refine LEnd.intro (p + 1, z.2, S ++ [(p : Int)]) ⟨by dsimp only; omega, by dsimp only; omega, p3.add hb⟩ (by dsimp only; omega) ?_
                dsimp only
                rw [List.length_append]
                conv => whnf
                refine Retell.turn ⟨[0,3], 4, [], []⟩ (TurnOk.mk' _ _ [] [] (OutOk.lift _) rfl (by decide) zb trivial trivial rfl) zw zm
              · rw [show (z.1 == 0) = false by rw [beq_eq_false_iff_ne]; exact hz] at cC
                conv => whnf
                repeat' (first | ((first | refine zs1 ?_ | refine zs2 ?_ | refine zs3 ?_ | refine zs4 ?_ | refine zs5 ?_); conv => whnf) | ((first | apply zi1 | apply zi2 | apply zi3 | apply zi4 | apply zi5) <;> intro _ <;> conv => whnf) | (refine VCall.intro (cA _) ?_; conv => whnf) | (refine VCall.intro (cB _) ?_; conv => whnf) | (refine VCall.intro (cC _ rfl) ?_; conv => whnf))
                all_goals try (exfalso; omega)
                refine LEnd.intro (p + 1, z.2, S) ⟨by dsimp only; omega, by dsimp only; omega, p3.skip ha⟩ (by dsimp only; omega) ?_
                conv => whnf
                refine Retell.turn ⟨[0,1], 2, [], []⟩ (TurnOk.mk' _ _ [] [] (OutOk.lift _) rfl (by decide) zb trivial trivial rfl) zw zm
        · obtain rfl : p = n := by omega
          have hC := p3.cut hP
          have hbr := brs_of hN h0 p3.lt p3.rg hC
          have hge := hCut S hC
          have cB := fun h => vc_Bars N a b S h (by omega) (by omega) (by omega) (by omega)
          rw [hbr] at cB
          generalize bar (fun q => decide (q ∈ S)) N.ws = v at cB hge
          by_cases hz : hs.length = 0
          · conv => whnf
            repeat' (first | ((first | refine zs1 ?_ | refine zs2 ?_ | refine zs3 ?_ | refine zs4 ?_ | refine zs5 ?_); conv => whnf) | ((first | apply zi1 | apply zi2 | apply zi3 | apply zi4 | apply zi5) <;> intro _ <;> conv => whnf))
            all_goals try (exfalso; omega)
            refine VCall.intro (VC.give (args' := [vN N, ints a, ints b, ints S]) (loc' := [deckB ts f, .dead]) [(1, S.flatMap Vm.encI)] [] (OutOk.lift _) zb zf (by exact FmAll.nil) rfl zv (cB _)) ?_
            conv => whnf
            repeat' (first | ((first | refine zs1 ?_ | refine zs2 ?_ | refine zs3 ?_ | refine zs4 ?_ | refine zs5 ?_); conv => whnf) | ((first | apply zi1 | apply zi2 | apply zi3 | apply zi4 | apply zi5) <;> intro _ <;> conv => whnf))
            all_goals try contradiction
            all_goals try (exfalso; omega)
            refine LEnd.intro (r + 1, f) ⟨by dsimp only; omega, by dsimp only; omega⟩ (by dsimp only; omega) ?_
            conv => whnf
            refine Retell.turn ⟨[0], 2, [], []⟩ (TurnOk.mk' _ _ [] [] (OutOk.lift _) rfl (by decide) zb trivial trivial rfl) zw zm
          · have cO := fun h => vc_kcloneO hs h (by omega)
            have y1 := dNx_bd ts f (hs.length : Int)
            have g1 := fun (h2 : Hp) hh => vc_draw ts f (hs.length : Int) (.loc 0) h2 (by omega) hh
            generalize dNx ts f (hs.length : Int) = z at y1 g1
            obtain ⟨z1, f2⟩ := z
            dsimp only at y1 g1
            obtain ⟨j, rfl⟩ : ∃ j : Nat, z1 = j := ⟨z1.toNat, by omega⟩
            have hw : N.ws[j]? = some (N.ws[j]'(by omega)) := List.getElem?_eq_getElem _
            have hx : hs[j]? = some (hs[j]'(by omega)) := List.getElem?_eq_getElem _
            have hwo := hN.ws _ (List.mem_of_getElem? hw)
            generalize N.ws[j]'(by omega) = w at hw hwo
            generalize hs[j]'(by omega) = x at hx
            have hwh := hwo.h
            have y2 := dNx_bd ts f2 (w.h + 1)
            have g2 := fun (h2 : Hp) hh => vc_draw ts f2 (w.h + 1) (.loc 0) h2 (by omega) hh
            generalize dNx ts f2 (w.h + 1) = z at y2 g2
            obtain ⟨v2, f3⟩ := z
            dsimp only at y2 g2
            have hB2 := hTry (hs.set j v2) (hBnd.set hw y2.1 (by omega))
            have hsl : (hs.set j v2).length = hs.length := List.length_set
            have cR : ∀ h, VC Try.prog 46 [vN N, ints a, ints b, .fs 1 hs.length ((hs.set j v2).flatMap Vm.encI)] h (.tuple [I (brgN N a b (hs.set j v2)).1, I (brgN N a b (hs.set j v2)).2]) h := fun h => by
              have := vc_Brings N a b (hs.set j v2) h (by omega) (by omega) (by omega) (by omega)
              unfold ints at this ⊢
              rw [hsl] at this
              exact this
            have hfl : ((hs.set j v2).flatMap Vm.encI).length = hs.length * 1 := by rw [flat_len encI_len, hsl]
            rcases hB2 with hB2 | ⟨v3, hv3, hB2⟩
            all_goals (
              rw [hB2] at cR
              conv => whnf
              repeat' (first | ((first | refine zs1 ?_ | refine zs2 ?_ | refine zs3 ?_ | refine zs4 ?_ | refine zs5 ?_); conv => whnf) | ((first | apply zi1 | apply zi2 | apply zi3 | apply zi4 | apply zi5) <;> intro _ <;> conv => whnf))
              all_goals try (exfalso; omega)
              refine VCall.intro (VC.give (args' := [vN N, ints a, ints b, ints S]) (loc' := [deckB ts f, .dead]) [(1, S.flatMap Vm.encI)] [] (OutOk.lift _) zb zf (by exact FmAll.nil) rfl zv (cB _)) ?_
              conv => whnf
              repeat' (first | ((first | refine zs1 ?_ | refine zs2 ?_ | refine zs3 ?_ | refine zs4 ?_ | refine zs5 ?_); conv => whnf) | ((first | apply zi1 | apply zi2 | apply zi3 | apply zi4 | apply zi5) <;> intro _ <;> conv => whnf) | (refine VCall.intro (cO _) ?_; conv => whnf) | (refine VCall.intro (g1 _ rfl) ?_; conv => whnf) | (refine VAny.ix encWy_len j rfl rfl hw ?_; conv => whnf) | (refine VCall.intro (g2 _ rfl) ?_; conv => whnf) | (refine VMem.setRec encI_len j 0 v2 rfl rfl rfl hx (by decide) rfl (by show (j : Int).toNat * 1 = j * 1 + 0; omega) ?_; conv => whnf))
              all_goals try contradiction
              all_goals try (exfalso; omega)
              refine VCall.intro (VC.give (args' := [vN N, ints a, ints b, .fs 1 hs.length ((hs.set j v2).flatMap Vm.encI)]) (loc' := [deckB ts f3, .dead, .dead]) [(2, (hs.set j v2).flatMap Vm.encI)] [] (OutOk.lift _) zb zf (by exact FmAll.nil) rfl zv (cR _)) ?_
              conv => whnf
              repeat' (first | ((first | refine zs1 ?_ | refine zs2 ?_ | refine zs3 ?_ | refine zs4 ?_ | refine zs5 ?_); conv => whnf) | ((first | apply zi1 | apply zi2 | apply zi3 | apply zi4 | apply zi5) <;> intro _ <;> conv => whnf))
              all_goals try contradiction
              all_goals try (exfalso; omega)
              refine LEnd.intro (r + 1, f3) ⟨by dsimp only; omega, by dsimp only; omega⟩ (by dsimp only; omega) ?_
              conv => whnf
              refine Retell.turn ⟨[0], 3, [], []⟩ (TurnOk.mk' _ _ [] [] (OutOk.lift _) rfl (by decide) zb trivial trivial rfl) zw zm)
    · obtain rfl : r = 6 := by omega
      conv => whnf
      repeat' (first | ((first | refine zs1 ?_ | refine zs2 ?_ | refine zs3 ?_ | refine zs4 ?_ | refine zs5 ?_); conv => whnf) | ((first | apply zi1 | apply zi2 | apply zi3 | apply zi4 | apply zi5) <;> intro _ <;> conv => whnf) | (refine VCall.intro (vc_awake _) ?_; conv => whnf))
      all_goals try (exfalso; omega)
      exact VOut.same rfl
end Go.Proofs.Ytoeendggmalcpaa

open Go.Vm
namespace Go.Proofs.Ytoeendggmalcpaa
open Go.ChangeShapes Go.WideShapes Go.ChangeAt Go.RowKit

theorem open8p : OpenAll Try.prog Try.f8.params.toList (fun x : List Int × List Int × Unit => [dU x.1, dU x.2.1]) := by
  rw [Try.params8]
  exact OpenAll.cons openU (OpenAll.cons openU (OpenAll.nil))
set_option maxRecDepth 100000 in
theorem contract8 (H : Type) (enc : TypeId × Value → H) (W : World) (base : Nat) (args : Array Value) (ds gs : List (DataW H)) (before : List MemPlace)
    (hval : ∀ (j : Nat) t v, Try.f8.params[j]? = some t → args[j]? = some v → Value.okWide Try.prog W .any base t v)
    (hW : DataW.Whole enc Try.prog Try.f8.params.toList Rows.passageCarriedSpec.vars false W args.toList ds gs before) :
    Calls Try.prog 8 args W fun e W' => ∃ v, e = .returned v ∧ Rows.passageCarriedSpec.post enc Try.prog Try.f8 false true false false W args v W' := by
  refine contract_of_vc open8p (fun g => vc_Carried g.1 g.2.1 Hp.bare) laidOut ?_ (tb := 4) (by kernel_rfl) Try.underlying4 rfl ?_ hval hW
  · rw [Try.params8]
    intro t ht
    simp only [List.mem_cons, List.not_mem_nil, or_false] at ht
    rcases ht with rfl | rfl
    all_goals exact ⟨by kernel_rfl, of_decide_eq_true (by kernel_rfl)⟩
  · intro H dd hl
    rw [Try.params8] at hl
    match dd, hl with
    | [d0, d1], _ => rfl
set_option maxRecDepth 100000 in
theorem lifted8 (os : Os) (started : os.Started) (H : Type) (enc : TypeId × Value → H) :
    ReturnsInHanded {} Try.checked os 8 .any (Rows.passageCarriedSpec.pre6 enc Try.prog Try.f8 Rows.passageCarriedRow.domain false) (Rows.passageCarriedSpec.post enc Try.prog Try.f8 false true false false) := by
  refine returnsInHanded_of_change (C := Try.checked) ownKn started (by kernel_rfl) Try.func8
    (ChangeSpec.witness6 (enc := enc) (C := Try.checked) false ⟨#[], #[.slice none 0 0, .slice none 0 0], []⟩ 8 (by kernel_rfl) (by kernel_rfl) (by kernel_rfl) (by kernel_rfl)) ?_
  intro W base args ds gs before hval hW _ _
  exact contract8 H enc W base args ds gs before hval hW
theorem passageCarried_said : Rows.PassageCarriedSaid :=
  OpenClaim.holds_of_wide 8 Try.f8 rfl rfl rfl rfl rfl rfl rfl ⟨rfl, rfl, rfl, rfl, rfl⟩ rfl rfl rfl rfl rfl (by kernel_rfl) Try.func8 (by kernel_rfl)
    (of_decide_eq_true (by kernel_rfl)) (by unfold Func.isWrapper; first | (rw [if_pos (by decide +kernel)]; kernel_rfl) | (rw [if_neg (by decide +kernel)]; exact ⟨rfl, rfl⟩))
    (fun os started H enc _ => lifted8 os started H enc)
end Go.Proofs.Ytoeendggmalcpaa


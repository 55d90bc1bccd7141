/- Part 1 of the proof that PassageDrives holds: what drives bring, the most, what cuts bar and which ways are narrow are as the reference says. No condition. -/
import Derived.Test.YtoeendggmalcpaaDv0
set_option linter.unusedVariables false
set_option linter.unusedSimpArgs false
open Go.Vm
open Psg
namespace Psg
theorem flux_bd (S : Int → Bool) {ws : List Wy} {xs : List Int} (hh : ∀ w ∈ ws, 0 ≤ w.h ∧ w.h ≤ 1000) (hb : Bnd ws xs) : ∀ k : Nat, k ≤ ws.length → -(1000 * (k : Int)) ≤ flux S (ws.take k) (xs.take k) ∧ flux S (ws.take k) (xs.take k) ≤ 1000 * (k : Int)
  | 0, _ => by simp [flux]
  | k + 1, hk => by
    have ih := flux_bd S hh hb k (by omega)
    have hl := hb.len
    have hw : ws[k]? = some ws[k] := List.getElem?_eq_getElem (by omega)
    have hx : xs[k]? = some xs[k] := List.getElem?_eq_getElem (by omega)
    have h1 := hb.at hw hx
    have h2 := hh _ (List.mem_of_getElem? hw)
    rw [flux_take S hw hx]
    generalize ws[k] = w at *
    generalize xs[k] = x at *
    cases S w.f <;> cases S w.t <;> simp only [Psg.one_t, Psg.one_f] <;> push_cast <;> omega
theorem sumTo_bd (u : Nat → Int) (c : Int) (h : ∀ i, -c ≤ u i ∧ u i ≤ c) : ∀ k : Nat, -(c * (k : Int)) ≤ sumTo k u ∧ sumTo k u ≤ c * (k : Int)
  | 0 => by simp [sumTo]
  | k + 1 => by
    have ih := sumTo_bd u c h k
    have := h k
    rw [sumTo]
    have e : c * ((k + 1 : Nat) : Int) = c * k + c := by push_cast; rw [Int.mul_add]; simp
    omega
end Psg
namespace Go.Proofs.Ytoeendggmalcpaa
set_option maxRecDepth 20000
set_option maxHeartbeats 4000000
theorem vc_rBrings (N : Nt) (a b hs : List Int) (h : Hp) (hn : N.ws.length ≤ 4000000) (ha : a.length ≤ 4000000) (hb : b.length ≤ 4000000) (hh : hs.length ≤ 4000000) : VC Try.prog 47 [vN N, ints a, ints b, ints hs] h (.tuple [I (brgN N a b hs).1, I (brgN N a b hs).2]) h := by
  obtain ⟨R, hR⟩ : ∃ R, R = brgN N a b hs := ⟨_, rfl⟩
  rw [← hR]
  unfold brgN at hR
  have cP := fun h => vc_rPastured N a b h hn ha hb
  by_cases h0 : pas N a b = 0
  · rw [if_pos h0] at hR
    rw [h0] at cP
    obtain ⟨n, hN, hPs, ha0, hb0, _, _⟩ := pas_ok h0
    have hp := hN.p
    have hn1 := hN.n1
    have hwl := hN.len
    rw [nok_nat hN] at hR
    have hhN : ∀ w ∈ N.ws, 0 ≤ w.h ∧ w.h ≤ 1000 := fun w hw => (hN.ws w hw).h
    refine VC.bodyC 1 Try.func47 rfl Try.ntmps47 Try.call47 (h.grows_refl) rfl ?_; conv => whnf
    refine VCut.at' (outer := h.lift) (marks := []) 99 [(1, ints a), (2, ints b), (3, ints hs), (4, .fp (encN N))] [] ?_ ?_
    · conv => whnf
      refine Retell.turn ⟨[], 1, [(0, encN N)], []⟩ (TurnOk.mk' _ _ [(0, encN N)] [] (OutOk.lift _) rfl (by decide) zb zf trivial rfl) zw zm
    · by_cases hl : hs.length = N.ws.length
      · rw [if_pos hl] at hR
        conv => whnf
        repeat' (first | ((first | refine zs1 ?_ | refine zs2 ?_ | refine zs3 ?_ | refine zs4 ?_ | refine zs5 ?_); conv => whnf) | ((first | apply zi1 | apply zi2 | apply zi3 | apply zi4 | apply zi5) <;> intro _ <;> conv => whnf) | (refine VCall.intro (cP _) ?_; conv => whnf))
        all_goals try (exfalso; omega)
        refine VCode.lp (outer := h.lift) (marks := []) (fun k : Nat => [(1, ints a), (2, ints b), (3, ints hs), (4, .fp (encN N)), (11, I k)]) (fun _ => []) (fun k => k ≤ N.ws.length ∧ bndA N.ws hs = bndA (N.ws.drop k) (hs.drop k)) (fun k => N.ws.length - k) 0 ⟨Nat.zero_le _, rfl⟩ ?_ ?_
        · conv => whnf
          refine Retell.turn ⟨[], 0, [], []⟩ (TurnOk.mk' _ _ [] [] (OutOk.lift _) rfl (by decide) zb trivial trivial rfl) zw zm
        · rintro k ⟨k1, k2⟩
          rcases Nat.lt_or_ge k N.ws.length with h3 | h3
          · have hw : N.ws[k]? = some N.ws[k] := List.getElem?_eq_getElem h3
            have hx : hs[k]? = some hs[k] := List.getElem?_eq_getElem (by omega)
            rw [bndA_at hw hx] at k2
            generalize N.ws[k] = w at hw k2
            generalize hs[k] = x at hx k2
            have cF := fun h => vc_beside x 0 w.h h
            by_cases hb : 0 ≤ x ∧ x ≤ w.h
            · rw [decide_eq_false (by omega)] at cF
              rw [inB_iff.2 hb, Bool.true_and] at k2
              conv => whnf
              repeat' (first | ((first | refine zs1 ?_ | refine zs2 ?_ | refine zs3 ?_ | refine zs4 ?_ | refine zs5 ?_); conv => whnf) | ((first | apply zi1 | apply zi2 | apply zi3 | apply zi4 | apply zi5) <;> intro _ <;> conv => whnf))
              all_goals try (exfalso; omega)
              refine zs6 [] ?_
              conv => whnf
              repeat' (first | ((first | refine zs1 ?_ | refine zs2 ?_ | refine zs3 ?_ | refine zs4 ?_ | refine zs5 ?_); conv => whnf) | ((first | apply zi1 | apply zi2 | apply zi3 | apply zi4 | apply zi5) <;> intro _ <;> conv => whnf) | (refine VAny.ix encWy_len k rfl rfl hw ?_; conv => whnf) | (refine VAny.ix encI_len k rfl rfl hx ?_; conv => whnf) | (refine VCall.intro (cF _) ?_; conv => whnf))
              all_goals try (exfalso; omega)
              refine LEnd.intro (k + 1) ⟨by omega, k2⟩ (by omega) ?_
              conv => whnf
              refine Retell.turn ⟨[], 0, [], []⟩ (TurnOk.mk' _ _ [] [] (OutOk.lift _) rfl (by decide) zb trivial trivial rfl) zw zm
            · rw [decide_eq_true (by omega)] at cF
              have : inB x 0 w.h = false := by
                cases hq : inB x 0 w.h
                · rfl
                · exact absurd (inB_iff.1 hq) hb
              rw [this, Bool.false_and] at k2
              rw [if_neg (by rw [k2]; simp)] at hR
              conv => whnf
              repeat' (first | ((first | refine zs1 ?_ | refine zs2 ?_ | refine zs3 ?_ | refine zs4 ?_ | refine zs5 ?_); conv => whnf) | ((first | apply zi1 | apply zi2 | apply zi3 | apply zi4 | apply zi5) <;> intro _ <;> conv => whnf))
              all_goals try (exfalso; omega)
              refine zs6 [] ?_
              conv => whnf
              repeat' (first | ((first | refine zs1 ?_ | refine zs2 ?_ | refine zs3 ?_ | refine zs4 ?_ | refine zs5 ?_); conv => whnf) | ((first | apply zi1 | apply zi2 | apply zi3 | apply zi4 | apply zi5) <;> intro _ <;> conv => whnf) | (refine VAny.ix encWy_len k rfl rfl hw ?_; conv => whnf) | (refine VAny.ix encI_len k rfl rfl hx ?_; conv => whnf) | (refine VCall.intro (cF _) ?_; conv => whnf))
              all_goals try (exfalso; omega)
              rw [hR]
              exact VOut.same rfl
          · have hk : k = N.ws.length := by omega
            subst hk
            have e1 : bndA ([] : List Wy) (hs.drop N.ws.length) = true := by cases hs.drop N.ws.length <;> rfl
            rw [List.drop_of_length_le (Nat.le_refl N.ws.length), e1] at k2
            rw [if_pos k2] at hR
            have hB := (bndA_iff hl).1 k2
            clear k2 e1
            have hnb : ∀ p, -24000 ≤ net p N.ws hs ∧ net p N.ws hs ≤ 24000 := fun p => by
              have := flux_bd (eqB p) hhN hB N.ws.length (Nat.le_refl _)
              rw [List.take_of_length_le (Nat.le_refl _), List.take_of_length_le (by omega)] at this
              unfold net
              omega
            obtain ⟨u, hu⟩ : ∃ u : Nat → Int, u = fun p : Nat => Psg.one (decide ((p : Int) ∈ a)) (net (p : Int) N.ws hs) := ⟨_, rfl⟩
            have hub : ∀ i, -24000 ≤ u i ∧ u i ≤ 24000 := fun i => by
              have := hnb (i : Int)
              have e : u i = Psg.one (decide ((i : Int) ∈ a)) (net (i : Int) N.ws hs) := by rw [hu]
              rw [e]
              by_cases hi : (i : Int) ∈ a
              · rw [decide_eq_true hi, Psg.one_t]; omega
              · rw [decide_eq_false hi, Psg.one_f]; omega
            have hval : val n N.ws a hs = sumTo n u := by rw [hu]; rfl
            rw [hval] at hR
            conv => whnf
            repeat' (first | ((first | refine zs1 ?_ | refine zs2 ?_ | refine zs3 ?_ | refine zs4 ?_ | refine zs5 ?_); conv => whnf) | ((first | apply zi1 | apply zi2 | apply zi3 | apply zi4 | apply zi5) <;> intro _ <;> conv => whnf))
            all_goals try (exfalso; omega)
            refine VCode.lp (outer := h.lift) (marks := []) (fun k : Nat => [(1, ints a), (2, ints b), (3, ints hs), (4, .fp (encN N)), (12, I (sumTo k u)), (13, I k)]) (fun _ => []) (fun k => k ≤ n ∧ ∀ j < k, (j : Int) ∈ a ∨ (j : Int) ∈ b ∨ net j N.ws hs = 0) (fun k => n - k) 0 ⟨Nat.zero_le _, fun j hj => absurd hj (by omega)⟩ ?_ ?_
            · conv => whnf
              refine Retell.turn ⟨[], 0, [], []⟩ (TurnOk.mk' _ _ [] [] (OutOk.lift _) rfl (by decide) zb trivial trivial rfl) zw zm
            · rintro k ⟨q1, q2⟩
              have hsb := sumTo_bd u 24000 hub k
              rcases Nat.lt_or_ge k n with h4 | h4
              · have hq : ((k : Int) ∈ a ∨ (k : Int) ∈ b ∨ net k N.ws hs = 0) → ∀ j < k + 1, (j : Int) ∈ a ∨ (j : Int) ∈ b ∨ net j N.ws hs = 0 := fun h j hj => by
                  rcases Nat.lt_or_ge j k with h5 | h5
                  · exact q2 j h5
                  · have : j = k := by omega
                    subst this; exact h
                have hsu : sumTo (k + 1) u = sumTo k u + u k := rfl
                have huk : u k = Psg.one (decide ((k : Int) ∈ a)) (net k N.ws hs) := by rw [hu]
                generalize hs0 : sumTo k u = s0 at hsb hsu ⊢
                conv => whnf
                repeat' (first | ((first | refine zs1 ?_ | refine zs2 ?_ | refine zs3 ?_ | refine zs4 ?_ | refine zs5 ?_); conv => whnf) | ((first | apply zi1 | apply zi2 | apply zi3 | apply zi4 | apply zi5) <;> intro _ <;> conv => whnf))
                all_goals try (exfalso; omega)
                refine VCode.lp (outer := h.lift) (marks := []) (fun j : Nat => [(1, ints a), (2, ints b), (3, ints hs), (4, .fp (encN N)), (12, I s0), (13, I k), (14, I (net k (N.ws.take j) (hs.take j))), (15, I j)]) (fun _ => []) (fun j => j ≤ N.ws.length) (fun j => N.ws.length - j) 0 (Nat.zero_le _) ?_ ?_
                · conv => whnf
                  refine Retell.turn ⟨[], 0, [], []⟩ (TurnOk.mk' _ _ [] [] (OutOk.lift _) rfl (by decide) zb trivial trivial rfl) zw zm
                · intro j j1
                  have hfb := flux_bd (eqB k) hhN hB j j1
                  rcases Nat.lt_or_ge j N.ws.length with h5 | h5
                  · have hw : N.ws[j]? = some N.ws[j] := List.getElem?_eq_getElem h5
                    have hx : hs[j]? = some hs[j] := List.getElem?_eq_getElem (by omega)
                    have ht : net k (N.ws.take (j + 1)) (hs.take (j + 1)) = net k (N.ws.take j) (hs.take j) + Psg.one (eqB k N.ws[j].f) hs[j] - Psg.one (eqB k N.ws[j].t) hs[j] := flux_take (eqB k) hw hx
                    have hxb := hB.at hw hx
                    have hwh := hhN _ (List.mem_of_getElem? hw)
                    generalize N.ws[j] = w at hw ht hxb hwh
                    generalize hs[j] = x at hx ht hxb
                    change -(1000 * (j : Int)) ≤ net k (N.ws.take j) (hs.take j) ∧ net k (N.ws.take j) (hs.take j) ≤ 1000 * (j : Int) at hfb
                    generalize net k (N.ws.take j) (hs.take j) = s at ht hfb ⊢
                    by_cases e1 : w.f = k <;> by_cases e2 : w.t = k
                    all_goals (
                      unfold eqB at ht
                      simp only [e1, e2, decide_true, decide_false, Psg.one_t, Psg.one_f, Int.add_zero, Int.sub_zero] at ht
                      conv => whnf
                      repeat' (first | ((first | refine zs1 ?_ | refine zs2 ?_ | refine zs3 ?_ | refine zs4 ?_ | refine zs5 ?_); conv => whnf) | ((first | apply zi1 | apply zi2 | apply zi3 | apply zi4 | apply zi5) <;> intro _ <;> conv => whnf) | (refine VAny.ix encWy_len j rfl rfl hw ?_; conv => whnf) | (refine VAny.ix encI_len j rfl rfl hx ?_; conv => whnf))
                      all_goals try (exfalso; omega)
                      refine LEnd.intro (j + 1) (by omega) (by omega) ?_
                      rw [ht]
                      conv => whnf
                      refine Retell.turn ⟨[], 0, [], []⟩ (TurnOk.mk' _ _ [] [] (OutOk.lift _) rfl (by decide) zb trivial trivial rfl) zw zm)
                  · rw [List.take_of_length_le h5, List.take_of_length_le (by omega)]
                    have hnk := hnb k
                    have cA := fun h => vc_has a (k : Int) h ha
                    have cB := fun h => vc_has b (k : Int) h hb
                    generalize hv0 : net k N.ws hs = v at hnk huk hq ⊢
                    by_cases hka : (k : Int) ∈ a
                    · rw [decide_eq_true hka] at cA huk
                      rw [Psg.one_t] at huk
                      conv => whnf
                      repeat' (first | ((first | refine zs1 ?_ | refine zs2 ?_ | refine zs3 ?_ | refine zs4 ?_ | refine zs5 ?_); conv => whnf) | ((first | apply zi1 | apply zi2 | apply zi3 | apply zi4 | apply zi5) <;> intro _ <;> conv => whnf) | (refine VCall.intro (cA _) ?_; conv => whnf))
                      all_goals try (exfalso; omega)
                      refine LEnd.intro (k + 1) ⟨by omega, hq (.inl hka)⟩ (by omega) ?_
                      rw [hsu, huk]
                      conv => whnf
                      refine Retell.turn ⟨[], 0, [], []⟩ (TurnOk.mk' _ _ [] [] (OutOk.lift _) rfl (by decide) zb trivial trivial rfl) zw zm
                    · rw [decide_eq_false hka] at cA huk
                      rw [Psg.one_f] at huk
                      by_cases hkb : (k : Int) ∈ b
                      · rw [decide_eq_true hkb] at cB
                        conv => whnf
                        repeat' (first | ((first | refine zs1 ?_ | refine zs2 ?_ | refine zs3 ?_ | refine zs4 ?_ | refine zs5 ?_); conv => whnf) | ((first | apply zi1 | apply zi2 | apply zi3 | apply zi4 | apply zi5) <;> intro _ <;> conv => whnf) | (refine VCall.intro (cA _) ?_; conv => whnf) | (refine VCall.intro (cB _) ?_; conv => whnf))
                        all_goals try (exfalso; omega)
                        refine LEnd.intro (k + 1) ⟨by omega, hq (.inr (.inl hkb))⟩ (by omega) ?_
                        rw [hsu, huk, Int.add_zero]
                        conv => whnf
                        refine Retell.turn ⟨[], 0, [], []⟩ (TurnOk.mk' _ _ [] [] (OutOk.lift _) rfl (by decide) zb trivial trivial rfl) zw zm
                      · rw [decide_eq_false hkb] at cB
                        by_cases hv : v = 0
                        · conv => whnf
                          repeat' (first | ((first | refine zs1 ?_ | refine zs2 ?_ | refine zs3 ?_ | refine zs4 ?_ | refine zs5 ?_); conv => whnf) | ((first | apply zi1 | apply zi2 | apply zi3 | apply zi4 | apply zi5) <;> intro _ <;> conv => whnf) | (refine VCall.intro (cA _) ?_; conv => whnf) | (refine VCall.intro (cB _) ?_; conv => whnf))
                          all_goals try (exfalso; omega)
                          refine LEnd.intro (k + 1) ⟨by omega, hq (.inr (.inr hv))⟩ (by omega) ?_
                          rw [hsu, huk, Int.add_zero]
                          conv => whnf
                          refine Retell.turn ⟨[], 0, [], []⟩ (TurnOk.mk' _ _ [] [] (OutOk.lift _) rfl (by decide) zb trivial trivial rfl) zw zm
                        · rw [if_neg (fun h6 => by
                            rcases conB_iff.1 h6 k h4 with h7 | h7 | h7
                            · exact hka h7
                            · exact hkb h7
                            · exact hv (by omega))] at hR
                          conv => whnf
                          repeat' (first | ((first | refine zs1 ?_ | refine zs2 ?_ | refine zs3 ?_ | refine zs4 ?_ | refine zs5 ?_); conv => whnf) | ((first | apply zi1 | apply zi2 | apply zi3 | apply zi4 | apply zi5) <;> intro _ <;> conv => whnf) | (refine VCall.intro (cA _) ?_; conv => whnf) | (refine VCall.intro (cB _) ?_; conv => whnf))
                          all_goals try (exfalso; omega)
                          rw [hR]
                          exact VOut.same rfl
              · have hk : k = n := by omega
                subst hk
                rw [if_pos (conB_iff.2 q2)] at hR
                rw [hR]
                generalize sumTo k u = s0
                conv => whnf
                repeat' (first | ((first | refine zs1 ?_ | refine zs2 ?_ | refine zs3 ?_ | refine zs4 ?_ | refine zs5 ?_); conv => whnf) | ((first | apply zi1 | apply zi2 | apply zi3 | apply zi4 | apply zi5) <;> intro _ <;> conv => whnf))
                all_goals try (exfalso; omega)
                exact VOut.same rfl
      · rw [if_neg hl] at hR
        rw [hR]
        conv => whnf
        repeat' (first | ((first | refine zs1 ?_ | refine zs2 ?_ | refine zs3 ?_ | refine zs4 ?_ | refine zs5 ?_); conv => whnf) | ((first | apply zi1 | apply zi2 | apply zi3 | apply zi4 | apply zi5) <;> intro _ <;> conv => whnf) | (refine VCall.intro (cP _) ?_; conv => whnf))
        all_goals try (exfalso; omega)
        exact VOut.same rfl
  · rw [if_neg h0] at hR
    generalize pas N a b = E at *
    refine VC.bodyC 1 Try.func47 rfl Try.ntmps47 Try.call47 (h.grows_refl) rfl ?_; conv => whnf
    refine VCut.at' (outer := h.lift) (marks := []) 99 [(1, ints a), (2, ints b), (3, ints hs), (4, .fp (encN N))] [] ?_ ?_
    · conv => whnf
      refine Retell.turn ⟨[], 1, [(0, encN N)], []⟩ (TurnOk.mk' _ _ [(0, encN N)] [] (OutOk.lift _) rfl (by decide) zb zf trivial rfl) zw zm
    · conv => whnf
      repeat' (first | ((first | refine zs1 ?_ | refine zs2 ?_ | refine zs3 ?_ | refine zs4 ?_ | refine zs5 ?_); conv => whnf) | ((first | apply zi1 | apply zi2 | apply zi3 | apply zi4 | apply zi5) <;> intro _ <;> conv => whnf) | (refine VCall.intro (cP _) ?_; conv => whnf))
      all_goals try (exfalso; omega)
      rw [hR]
      exact VOut.same rfl
end Go.Proofs.Ytoeendggmalcpaa

open Go.Vm
open Psg
namespace Go.Vm
theorem zbit {m : Nat} {K : Int → Prop} (hm : m < 1024) (k : K ((m % 2 : Nat) : Int)) : VArith .i64 (((BitVec.ofInt IntKind.i64.bits (m : Int) &&& BitVec.ofInt IntKind.i64.bits 1).toNat : Nat) : Int) K := by
  have e : (((BitVec.ofInt IntKind.i64.bits (m : Int) &&& BitVec.ofInt IntKind.i64.bits 1).toNat : Nat) : Int) = ((m % 2 : Nat) : Int) := by
    have : ∀ i : Fin 1024, (BitVec.ofInt 64 ((i : Nat) : Int) &&& BitVec.ofInt 64 1).toNat = (i : Nat) % 2 := by decide +kernel
    exact congrArg _ (this ⟨m, hm⟩)
  rw [e]
  exact zs2 k (by omega)
end Go.Vm
namespace Psg
theorem fdiv_bit (m k : Nat) (hk : k ≤ 10) : (m : Int).fdiv (2 ^ (min (k : Int).toNat 64)) = ((m / 2 ^ k : Nat) : Int) := by
  rw [Int.toNat_natCast, Nat.min_eq_left (by omega)]
  rw [show ((2 : Int) ^ k) = ((2 ^ k : Nat) : Int) by push_cast; rfl]
  rw [Int.fdiv_eq_ediv_of_nonneg _ (Int.natCast_nonneg _)]
  exact (Int.natCast_ediv m (2 ^ k)).symm
theorem bit_test (m k : Nat) : decide (((m / 2 ^ k % 2 : Nat) : Int) = 1) = m.testBit k := by
  rw [Nat.testBit_eq_decide_div_mod_eq]
  exact decide_eq_decide.2 (by omega)
theorem shl_pow (n : Nat) (h : n ≤ 10) : Go.IntKind.i64.wrap (1 * 2 ^ (min (n : Int).toNat 64)) = ((2 ^ n : Nat) : Int) := by
  rw [Int.toNat_natCast, Nat.min_eq_left (by omega)]
  have : ∀ i : Fin 11, Go.IntKind.i64.wrap (1 * 2 ^ (i : Nat)) = ((2 ^ (i : Nat) : Nat) : Int) := by decide
  exact this ⟨n, by omega⟩
end Psg
namespace Psg
theorem all_ext {p q : Int → Bool} : ∀ {l : List Int}, (∀ x ∈ l, p x = q x) → l.all p = l.all q
  | [], _ => rfl
  | x :: l, h => by rw [List.all_cons, List.all_cons, h x List.mem_cons_self, all_ext fun y hy => h y (List.mem_cons_of_mem _ hy)]
theorem take_all {l : List Int} {k : Nat} {x : Int} (q : Int → Bool) (h : l[k]? = some x) : (l.take (k + 1)).all q = ((l.take k).all q && q x) := by
  rw [List.take_add_one, h, List.all_append]; simp
def bitL (m k : Nat) : List Bool := (List.range k).map fun q : Nat => m.testBit q
theorem bitL_succ (m k : Nat) : bitL m (k + 1) = bitL m k ++ [m.testBit k] := by unfold bitL; rw [List.range_succ, List.map_append]; rfl
theorem bitL_len (m k : Nat) : (bitL m k).length = k := by unfold bitL; simp
theorem bitL_set {n m : Nat} {q : Int} (h0 : 0 ≤ q) (h1 : q < n) : setL (bitL m n) q = bitS m q := by
  have hq : q.toNat < n := by omega
  unfold setL bitL bitS
  rw [List.getD_eq_getElem?_getD, List.getElem?_map, List.getElem?_range hq]
  rfl
end Psg
namespace Go.Proofs.Ytoeendggmalcpaa
set_option maxRecDepth 20000
set_option maxHeartbeats 4000000
theorem vc_rmost {n : Nat} (N : Nt) (a b : List Int) (h : Hp) (hN : NOk n N) (hP : Ps n N.ws a b) (ha : a.length ≤ 4000000) (hb : b.length ≤ 4000000) : VC Try.prog 95 [vN N, ints a, ints b] h (I (mgo N.ws a b (2 ^ n))) h := by
  obtain ⟨M, hM⟩ : ∃ M, M = 2 ^ n := ⟨_, rfl⟩
  rw [← hM]
  have hp := hN.p
  have hn1 := hN.n1
  have hwl := hN.len
  have hM2 : M ≤ 1024 := by rw [hM]; exact Nat.pow_le_pow_right (by decide) hn1.2
  have hsh : IntKind.i64.wrap (1 * 2 ^ (min N.p.toNat IntKind.i64.bits)) = (M : Int) := by rw [hp, hM]; exact shl_pow n hn1.2
  refine VC.bodyC 1 Try.func95 rfl Try.ntmps95 Try.call95 (h.grows_refl) rfl ?_; conv => whnf
  refine VCut.at' (outer := h.lift) (marks := []) 99 [(1, ints a), (2, ints b), (3, .fp (encN N))] [] ?_ ?_
  · conv => whnf
    refine Retell.turn ⟨[], 1, [(0, encN N)], []⟩ (TurnOk.mk' _ _ [(0, encN N)] [] (OutOk.lift _) rfl (by decide) zb zf trivial rfl) zw zm
  · conv => whnf
    repeat' (first | ((first | refine zs1 ?_ | refine zs2 ?_ | refine zs3 ?_ | refine zs4 ?_ | refine zs5 ?_); conv => whnf) | ((first | apply zi1 | apply zi2 | apply zi3 | apply zi4 | apply zi5) <;> intro _ <;> conv => whnf))
    refine VCode.lp (outer := h.lift) (marks := []) (fun m : Nat => [(1, ints a), (2, ints b), (3, .fp (encN N)), (7, I (mgo N.ws a b m)), (8, I m)]) (fun _ => []) (fun m => m ≤ M) (fun m => M - m) 0 (Nat.zero_le _) ?_ ?_
    · conv => whnf
      refine Retell.turn ⟨[], 0, [], []⟩ (TurnOk.mk' _ _ [] [] (OutOk.lift _) rfl (by decide) zb trivial trivial rfl) zw zm
    · intro m hm
      rcases Nat.lt_or_ge m M with h3 | h3
      · have hst : mgo N.ws a b (m + 1) = bif cutB a b (bitS m) && (decide (mgo N.ws a b m = -1) || decide (bar (bitS m) N.ws < mgo N.ws a b m)) then bar (bitS m) N.ws else mgo N.ws a b m := rfl
        generalize mgo N.ws a b m = g at hst ⊢
        conv => whnf
        repeat' (first | ((first | refine zs1 ?_ | refine zs2 ?_ | refine zs3 ?_ | refine zs4 ?_ | refine zs5 ?_); conv => whnf) | ((first | apply zi1 | apply zi2 | apply zi3 | apply zi4 | apply zi5) <;> intro _ <;> conv => whnf))
        all_goals try (exfalso; omega)
        refine VCode.lp (outer := h.lift) (marks := []) (fun k : Nat => [(1, ints a), (2, ints b), (3, .fp (encN N)), (7, I g), (8, I m), (9, .gl (.loc 0) 1 (bitL m k).length), (10, I k)]) (fun k => [.flat true ((bitL m k).flatMap encB)]) (fun k => k ≤ n) (fun k => n - k) 0 (Nat.zero_le _) ?_ ?_
        · conv => whnf
          refine Retell.turn ⟨[0], 0, [], []⟩ (TurnOk.mk' _ _ [] [] (OutOk.lift _) rfl (by decide) zb trivial trivial rfl) zw zm
        · intro k k1
          have hl := bitL_len m k
          rcases Nat.lt_or_ge k n with h4 | h4
          · have hs := bitL_succ m k
            have hfd : (m : Int).fdiv (2 ^ (min (k : Int).toNat IntKind.i64.bits)) = ((m / 2 ^ k : Nat) : Int) := fdiv_bit m k (by omega)
            have hbt := bit_test m k
            have hlt : m / 2 ^ k < 1024 := Nat.lt_of_le_of_lt (Nat.div_le_self _ _) (by omega)
            generalize m.testBit k = v at hs hbt
            generalize m / 2 ^ k = q at hfd hbt hlt
            generalize bitL m k = L at hs hl ⊢
            conv => whnf
            repeat' (first | ((first | refine zs1 ?_ | refine zs2 ?_ | refine zs3 ?_ | refine zs4 ?_ | refine zs5 ?_); conv => whnf) | ((first | apply zi1 | apply zi2 | apply zi3 | apply zi4 | apply zi5) <;> intro _ <;> conv => whnf) | (rw [hfd]; refine zbit hlt ?_; conv => whnf) | (refine VMem.app1 (l := L) (decide (((q % 2 : Nat) : Int) = 1)) encB_len rfl rfl rfl rfl rfl (by omega) ?_; conv => whnf))
            all_goals try (exfalso; omega)
            refine LEnd.intro (k + 1) (by omega) (by omega) ?_
            rw [hs, ← hbt, List.length_append]
            conv => whnf
            refine Retell.turn ⟨[2], 3, [], []⟩ (TurnOk.mk' _ _ [] [] (OutOk.lift _) rfl (by decide) zb trivial trivial rfl) zw zm
          · have hk : k = n := by omega
            subst hk
            have eS : ∀ q : Int, 0 ≤ q → q < k → setL (bitL m k) q = bitS m q := fun q q0 q1 => bitL_set q0 q1
            have hA0 : a.all (setL (bitL m k)) = a.all (bitS m) := all_ext fun x hx => eS x (hP.smt.inN x hx).1 (hP.smt.inN x hx).2
            have hB0 : (b.all fun p => !setL (bitL m k) p) = b.all fun p => !bitS m p := all_ext fun x hx => by rw [eS x (hP.gin x hx).1 (hP.gin x hx).2]
            have hbar : bar (setL (bitL m k)) N.ws = bar (bitS m) N.ws := bar_congr (n := k) eS N.ws hN.inN
            have cB := fun h => vc_rbars N (bitL m k) h hN.ws hn1.2 hwl hl
            have hbb := bar_le (bitS m) N.ws fun w hw => (hN.ws w hw).h
            rw [hbar] at cB
            have hcut : cutB a b (bitS m) = (a.all (setL (bitL m k)) && b.all fun p => !setL (bitL m k) p) := by rw [hA0, hB0]; rfl
            rw [hcut] at hst
            have hLx : ∀ x, (0 ≤ x ∧ x < (k : Int)) → (bitL m k)[x.toNat]? = some (setL (bitL m k) x) := fun x hx => by unfold setL; rw [List.getD_eq_getElem?_getD, List.getElem?_eq_getElem (by omega)]; rfl
            generalize bar (bitS m) N.ws = v at hst cB hbb
            generalize bitL m k = L at hl hst cB hLx ⊢
            have hfl : (L.flatMap encB).length = L.length * 1 := flat_len encB_len _
            have hin := hP.smt.inN
            have hgi := hP.gin
            conv => whnf
            repeat' (first | ((first | refine zs1 ?_ | refine zs2 ?_ | refine zs3 ?_ | refine zs4 ?_ | refine zs5 ?_); conv => whnf) | ((first | apply zi1 | apply zi2 | apply zi3 | apply zi4 | apply zi5) <;> intro _ <;> conv => whnf))
            all_goals try (exfalso; omega)
            refine VCode.lp (outer := h.lift) (marks := []) (fun j : Nat => [(1, ints a), (2, ints b), (3, .fp (encN N)), (7, I g), (8, I m), (9, bools L), (11, B ((a.take j).all (setL L))), (12, I j)]) (fun _ => []) (fun j => j ≤ a.length) (fun j => a.length - j) 0 (Nat.zero_le _) ?_ ?_
            · conv => whnf
              refine Retell.turn ⟨[], 1, [(0, L.flatMap encB)], []⟩ (TurnOk.mk' _ _ [(0, L.flatMap encB)] [] (OutOk.lift _) rfl (by decide) zb zf trivial rfl) zw zm
            · intro j j1
              rcases Nat.lt_or_ge j a.length with h5 | h5
              · have hx : a[j]? = some a[j] := List.getElem?_eq_getElem h5
                have hxi := hin _ (List.getElem_mem h5)
                have ht := take_all (setL L) hx
                generalize a[j] = x at hx hxi ht
                have hLv := hLx x hxi
                generalize setL L x = y at hLv ht
                generalize (a.take j).all (setL L) = A at ht ⊢
                cases A <;> cases y
                all_goals (
                  conv => whnf
                  repeat' (first | ((first | refine zs1 ?_ | refine zs2 ?_ | refine zs3 ?_ | refine zs4 ?_ | refine zs5 ?_); conv => whnf) | ((first | apply zi1 | apply zi2 | apply zi3 | apply zi4 | apply zi5) <;> intro _ <;> conv => whnf) | (refine VAny.ix encI_len j rfl rfl hx ?_; conv => whnf) | (refine VAny.ix encB_len x.toNat (by omega) rfl hLv ?_; conv => whnf))
                  all_goals try (exfalso; omega)
                  refine LEnd.intro (j + 1) (by omega) (by omega) ?_
                  rw [ht]
                  conv => whnf
                  refine Retell.turn ⟨[], 0, [], []⟩ (TurnOk.mk' _ _ [] [] (OutOk.lift _) rfl (by decide) zb trivial trivial rfl) zw zm)
              · rw [List.take_of_length_le h5]
                generalize a.all (setL L) = A at hst ⊢
                conv => whnf
                repeat' (first | ((first | refine zs1 ?_ | refine zs2 ?_ | refine zs3 ?_ | refine zs4 ?_ | refine zs5 ?_); conv => whnf) | ((first | apply zi1 | apply zi2 | apply zi3 | apply zi4 | apply zi5) <;> intro _ <;> conv => whnf))
                all_goals try (exfalso; omega)
                refine VCode.lp (outer := h.lift) (marks := []) (fun j : Nat => [(1, ints a), (2, ints b), (3, .fp (encN N)), (7, I g), (8, I m), (9, bools L), (11, B (A && (b.take j).all fun p => !setL L p)), (13, I j)]) (fun _ => []) (fun j => j ≤ b.length) (fun j => b.length - j) 0 (Nat.zero_le _) ?_ ?_
                · rw [List.take_zero, List.all_nil, Bool.and_true]
                  conv => whnf
                  refine Retell.turn ⟨[], 0, [], []⟩ (TurnOk.mk' _ _ [] [] (OutOk.lift _) rfl (by decide) zb trivial trivial rfl) zw zm
                · intro j j1
                  rcases Nat.lt_or_ge j b.length with h5 | h5
                  · have hx : b[j]? = some b[j] := List.getElem?_eq_getElem h5
                    have hxi := hgi _ (List.getElem_mem h5)
                    have ht := take_all (fun p => !setL L p) hx
                    generalize b[j] = x at hx hxi ht
                    have hLv := hLx x hxi
                    generalize setL L x = y at hLv ht
                    generalize ((b.take j).all fun p => !setL L p) = C at ht ⊢
                    cases A <;> cases C <;> cases y
                    all_goals (
                      conv => whnf
                      repeat' (first | ((first | refine zs1 ?_ | refine zs2 ?_ | refine zs3 ?_ | refine zs4 ?_ | refine zs5 ?_); conv => whnf) | ((first | apply zi1 | apply zi2 | apply zi3 | apply zi4 | apply zi5) <;> intro _ <;> conv => whnf) | (refine VAny.ix encI_len j rfl rfl hx ?_; conv => whnf) | (refine VAny.ix encB_len x.toNat (by omega) rfl hLv ?_; conv => whnf))
                      all_goals try (exfalso; omega)
                      refine LEnd.intro (j + 1) (by omega) (by omega) ?_
                      rw [ht]
                      conv => whnf
                      refine Retell.turn ⟨[], 0, [], []⟩ (TurnOk.mk' _ _ [] [] (OutOk.lift _) rfl (by decide) zb trivial trivial rfl) zw zm)
                  · rw [List.take_of_length_le h5]
                    generalize (b.all fun p => !setL L p) = C at hst ⊢
                    by_cases g1 : g = -1 <;> by_cases g2 : v < g <;> cases A <;> cases C
                    all_goals (
                      first | rw [decide_eq_true g1] at hst | rw [decide_eq_false g1] at hst
                      first | rw [decide_eq_true g2] at hst | rw [decide_eq_false g2] at hst
                      simp only [Bool.true_and, Bool.false_and, Bool.and_true, Bool.and_false, Bool.true_or, Bool.false_or, cond_true, cond_false] at hst
                      conv => whnf
                      repeat' (first | ((first | refine zs1 ?_ | refine zs2 ?_ | refine zs3 ?_ | refine zs4 ?_ | refine zs5 ?_); conv => whnf) | ((first | apply zi1 | apply zi2 | apply zi3 | apply zi4 | apply zi5) <;> intro _ <;> conv => whnf) | (refine VCall.intro (cB _) ?_; conv => whnf))
                      all_goals try (exfalso; omega)
                      all_goals (
                        refine LEnd.intro (m + 1) (by omega) (by omega) ?_
                        rw [hst]
                        conv => whnf
                        refine Retell.turn ⟨[], 0, [], []⟩ (TurnOk.mk' _ _ [] [] (OutOk.lift _) rfl (by decide) zb trivial trivial rfl) zw zm))
      · have hk : m = M := by omega
        subst hk
        generalize mgo N.ws a b m = g
        conv => whnf
        repeat' (first | ((first | refine zs1 ?_ | refine zs2 ?_ | refine zs3 ?_ | refine zs4 ?_ | refine zs5 ?_); conv => whnf) | ((first | apply zi1 | apply zi2 | apply zi3 | apply zi4 | apply zi5) <;> intro _ <;> conv => whnf))
        all_goals try (exfalso; omega)
        exact VOut.same rfl
end Go.Proofs.Ytoeendggmalcpaa

open Go.Vm
open Psg
namespace Go.Proofs.Ytoeendggmalcpaa
set_option maxRecDepth 20000
set_option maxHeartbeats 4000000
def mosN (N : Nt) (a b : List Int) : Int × Int := if pas N a b = 0 then (mgo N.ws a b (2 ^ N.p.toNat), 0) else (0, pas N a b)
theorem vc_rMost (N : Nt) (a b : List Int) (h : Hp) (hn : N.ws.length ≤ 4000000) (ha : a.length ≤ 4000000) (hb : b.length ≤ 4000000) : VC Try.prog 50 [vN N, ints a, ints b] h (.tuple [I (mosN N a b).1, I (mosN N a b).2]) h := by
  have cP := fun h => vc_rPastured N a b h hn ha hb
  unfold mosN
  by_cases h0 : pas N a b = 0
  · rw [if_pos h0]
    rw [h0] at cP
    obtain ⟨n, hN, hPs, ha0, hb0, _, _⟩ := pas_ok h0
    have cM := fun h => vc_rmost N a b h hN hPs ha hb
    rw [nok_nat hN]
    generalize mgo N.ws a b (2 ^ n) = r at cM ⊢
    refine VC.bodyC 1 Try.func50 rfl Try.ntmps50 Try.call50 (h.grows_refl) rfl ?_; conv => whnf
    refine VCut.at' (outer := h.lift) (marks := []) 99 [(1, ints a), (2, ints b), (3, .fp (encN N))] [] ?_ ?_
    · conv => whnf
      refine Retell.turn ⟨[], 1, [(0, encN N)], []⟩ (TurnOk.mk' _ _ [(0, encN N)] [] (OutOk.lift _) rfl (by decide) zb zf trivial rfl) zw zm
    · conv => whnf
      repeat' (first | ((first | refine zs1 ?_ | refine zs2 ?_ | refine zs3 ?_ | refine zs4 ?_ | refine zs5 ?_); conv => whnf) | ((first | apply zi1 | apply zi2 | apply zi3 | apply zi4 | apply zi5) <;> intro _ <;> conv => whnf) | (refine VCall.intro (cP _) ?_; conv => whnf) | (refine VCall.intro (cM _) ?_; conv => whnf))
      all_goals try (exfalso; omega)
      exact VOut.same rfl
  · rw [if_neg h0]
    generalize pas N a b = E at *
    refine VC.bodyC 1 Try.func50 rfl Try.ntmps50 Try.call50 (h.grows_refl) rfl ?_; conv => whnf
    refine VCut.at' (outer := h.lift) (marks := []) 99 [(1, ints a), (2, ints b), (3, .fp (encN N))] [] ?_ ?_
    · conv => whnf
      refine Retell.turn ⟨[], 1, [(0, encN N)], []⟩ (TurnOk.mk' _ _ [(0, encN N)] [] (OutOk.lift _) rfl (by decide) zb zf trivial rfl) zw zm
    · conv => whnf
      repeat' (first | ((first | refine zs1 ?_ | refine zs2 ?_ | refine zs3 ?_ | refine zs4 ?_ | refine zs5 ?_); conv => whnf) | ((first | apply zi1 | apply zi2 | apply zi3 | apply zi4 | apply zi5) <;> intro _ <;> conv => whnf) | (refine VCall.intro (cP _) ?_; conv => whnf))
      all_goals try (exfalso; omega)
      exact VOut.same rfl
theorem most_same {N : Nt} {a b : List Int} (h0 : pas N a b = 0) : (dvP N a b).2.1 = mgo N.ws a b (2 ^ N.p.toNat) := by
  obtain ⟨n, hN, hPs, ha0, hb0, _, _⟩ := pas_ok h0
  have hh : ∀ w ∈ N.ws, 0 ≤ w.h ∧ w.h ≤ 1000 := fun w hw => (hN.ws w hw).h
  have hr := drv_ok hPs hh hN.len 24001 (List.replicate N.ws.length 0) 0 (dr0 hh) val0 (Int.le_refl _) (by omega)
  unfold dvP dvN
  rw [nok_nat hN]
  exact (most_eq hPs hh hr).symm
end Go.Proofs.Ytoeendggmalcpaa

open Go.Vm
open Psg
namespace Go.Proofs.Ytoeendggmalcpaa
set_option maxRecDepth 20000
set_option maxHeartbeats 4000000
theorem vc_rNarrow (N : Nt) (a b : List Int) (h : Hp) (hn : N.ws.length ≤ 4000000) (ha : a.length ≤ 4000000) (hb : b.length ≤ 4000000) : VC Try.prog 51 [vN N, ints a, ints b] h (narV N a b) h := by
  have cP := fun h => vc_rPastured N a b h hn ha hb
  unfold narV
  by_cases h0 : pas N a b = 0
  · rw [if_pos h0]
    rw [h0] at cP
    obtain ⟨n, hN, hPs, ha0, hb0, _, _⟩ := pas_ok h0
    have hwl := hN.len
    have hh : ∀ w ∈ N.ws, 0 ≤ w.h ∧ w.h ≤ 1000 := fun w hw => (hN.ws w hw).h
    have cD := fun h => vc_rmost N a b h hN hPs ha hb
    have e := most_same h0
    rw [nok_nat hN] at e
    rw [← e] at cD
    obtain ⟨r, hr⟩ : ∃ r, r = dvP N a b := ⟨_, rfl⟩
    rw [← hr] at cD
    refine VC.bodyC 1 Try.func51 rfl Try.ntmps51 Try.call51 (h.grows_refl) rfl ?_; conv => whnf
    refine VCut.at' (outer := h.lift) (marks := []) 99 [(1, ints a), (2, ints b), (3, .fp (encN N))] [] ?_ ?_
    · conv => whnf
      refine Retell.turn ⟨[], 1, [(0, encN N)], []⟩ (TurnOk.mk' _ _ [(0, encN N)] [] (OutOk.lift _) rfl (by decide) zb zf trivial rfl) zw zm
    · conv => whnf
      repeat' (first | ((first | refine zs1 ?_ | refine zs2 ?_ | refine zs3 ?_ | refine zs4 ?_ | refine zs5 ?_); conv => whnf) | ((first | apply zi1 | apply zi2 | apply zi3 | apply zi4 | apply zi5) <;> intro _ <;> conv => whnf) | (refine VCall.intro (cP _) ?_; conv => whnf))
      all_goals try (exfalso; omega)
      refine VCode.lp (outer := h.lift) (marks := []) (fun k : Nat => [(1, ints a), (2, ints b), (3, .fp (encN N)), (9, .gl (.loc 0) 1 (narL N a b k).length), (10, I k)]) (fun k => [.flat true ((narL N a b k).flatMap Vm.encI)]) (fun k => k ≤ N.ws.length) (fun k => N.ws.length - k) 0 (Nat.zero_le _) ?_ ?_
      · conv => whnf
        refine Retell.turn ⟨[0], 0, [], []⟩ (TurnOk.mk' _ _ [] [] (OutOk.lift _) rfl (by decide) zb trivial trivial rfl) zw zm
      · intro k hk
        rcases Nat.lt_or_ge k N.ws.length with h3 | h3
        · have hw : N.ws[k]? = some N.ws[k] := List.getElem?_eq_getElem h3
          have hx := (hN.ws N.ws[k] (List.getElem_mem h3)).h
          have hl := narL_len N a b k
          have hB : narB N a b k = (decide (1 ≤ N.ws[k].h) && decide ((dvP (lessN N k N.ws[k]) a b).2.1 < r.2.1)) := by
            have : N.ws.getD k ⟨0, 0, 0, 0, 0, 0, 0, 0⟩ = N.ws[k] := by rw [List.getD_eq_getElem?_getD, hw]; rfl
            unfold narB
            rw [this, hr]
          have hL : narL N a b (k + 1) = if narB N a b k = true then narL N a b k ++ [(k : Int)] else narL N a b k := rfl
          rw [hB] at hL
          generalize N.ws[k] = w at hw hx hL
          generalize narL N a b k = L at hl hL ⊢
          have hw' : (N.ws.set k (lessW w))[k]? = some (lessW w) := by rw [List.getElem?_set_self h3]
          have hlh : (lessW w).h = w.h - 1 := rfl
          have hfl : ((N.ws.set k (lessW w)).flatMap encWy).length = N.ws.length * 8 := by rw [flat_len encWy_len, List.length_set]
          by_cases h1 : 1 ≤ w.h
          · have h7 := nok_less hN hw h1
            have cE := fun h => vc_rmost (lessN N k w) a b h h7 (ps_less hPs hw) ha hb
            have e2 : (dvP (lessN N k w) a b).2.1 = mgo (lessN N k w).ws a b (2 ^ n) := by
              have hr2 := drv_ok (ps_less hPs hw) (fun v hv => (h7.ws v hv).h) h7.len 24001 (List.replicate (lessN N k w).ws.length 0) 0 (dr0 fun v hv => (h7.ws v hv).h) val0 (Int.le_refl _) (by omega)
              unfold dvP dvN
              rw [nok_nat h7]
              exact (most_eq (ps_less hPs hw) (fun v hv => (h7.ws v hv).h) hr2).symm
            rw [← e2] at cE
            rw [decide_eq_true h1, Bool.true_and] at hL
            generalize (dvP (lessN N k w) a b).2.1 = r2 at cE hL
            simp only [vN, wys, lessN, List.length_set] at cE
            have hfl' : ((N.ws.set k (lessW w)).flatMap encWy).length = (0 + N.ws.length) * 8 := by rw [Nat.zero_add]; exact hfl
            replace cE : ∀ h, VC Try.prog 95 [.agg [I N.p, .fs 8 (0 + N.ws.length) ((N.ws.set k (lessW w)).flatMap encWy)], ints a, ints b] h (I r2) h := fun h => by rw [Nat.zero_add]; exact cE h
            conv => whnf
            repeat' (first | ((first | refine zs1 ?_ | refine zs2 ?_ | refine zs3 ?_ | refine zs4 ?_ | refine zs5 ?_); conv => whnf) | ((first | apply zi1 | apply zi2 | apply zi3 | apply zi4 | apply zi5) <;> intro _ <;> conv => whnf))
            all_goals try (exfalso; omega)
            refine zs6 [(1, 5)] ?_
            conv => whnf
            repeat' (first | ((first | refine zs1 ?_ | refine zs2 ?_ | refine zs3 ?_ | refine zs4 ?_ | refine zs5 ?_); conv => whnf) | ((first | apply zi1 | apply zi2 | apply zi3 | apply zi4 | apply zi5) <;> intro _ <;> conv => whnf) | (refine VMem.appN (l := ([] : List Wy)) (l2 := N.ws) encWy_len rfl rfl rfl rfl rfl (by show 0 + N.ws.length ≤ _; omega) ?_; rw [Nat.zero_add]; conv => whnf))
            refine zs6 [] ?_
            conv => whnf
            repeat' (first | ((first | refine zs1 ?_ | refine zs2 ?_ | refine zs3 ?_ | refine zs4 ?_ | refine zs5 ?_); conv => whnf) | ((first | apply zi1 | apply zi2 | apply zi3 | apply zi4 | apply zi5) <;> intro _ <;> conv => whnf) | (refine VLd.recc encWy_len k 3 rfl rfl rfl hw (by decide) rfl (by show (k : Int).toNat * 8 + 3 = k * 8 + 3; omega) ?_; conv => whnf) | (refine VMem.setRec encWy_len k 3 (lessW w) rfl rfl rfl hw (by decide) rfl (by show (k : Int).toNat * 8 + 3 = k * 8 + 3; omega) ?_; conv => whnf))
            all_goals try (exfalso; omega)
            refine zs6 [(11, 12)] ?_
            conv => whnf
            repeat' (first | ((first | refine zs1 ?_ | refine zs2 ?_ | refine zs3 ?_ | refine zs4 ?_ | refine zs5 ?_); conv => whnf) | ((first | apply zi1 | apply zi2 | apply zi3 | apply zi4 | apply zi5) <;> intro _ <;> conv => whnf) | (refine VLd.recc encWy_len k 3 rfl rfl rfl hw' (by decide) rfl (by show (k : Int).toNat * 8 + 3 = k * 8 + 3; omega) ?_; conv => whnf))
            all_goals try (exfalso; omega)
            refine VCall.intro (VC.give (args' := [.agg [I N.p, .fs 8 (0 + N.ws.length) ((N.ws.set k (lessW w)).flatMap encWy)], ints a, ints b]) (loc' := [.flat true (L.flatMap Vm.encI), .dead, .dead, .dead]) [(2, (N.ws.set k (lessW w)).flatMap encWy)] [] (OutOk.lift _) zb zf (by exact FmAll.nil) rfl zw (cE _)) ?_
            conv => whnf
            repeat' (first | ((first | refine zs1 ?_ | refine zs2 ?_ | refine zs3 ?_ | refine zs4 ?_ | refine zs5 ?_); conv => whnf) | ((first | apply zi1 | apply zi2 | apply zi3 | apply zi4 | apply zi5) <;> intro _ <;> conv => whnf) | (refine VCall.intro (cD _) ?_; conv => whnf) | (refine VMem.app1 (l := L) (k : Int) encI_len rfl rfl rfl rfl rfl (by omega) ?_; conv => whnf))
            · rename_i hlt
              rw [if_pos (decide_eq_true hlt)] at hL
              refine LEnd.intro (k + 1) (by omega) (by omega) ?_
              rw [hL, List.length_append]
              conv => whnf
              refine Retell.turn ⟨[5], 6, [], []⟩ (TurnOk.mk' _ _ [] [] (OutOk.lift _) rfl (by decide) zb trivial trivial rfl) zw zm
            · rename_i hlt
              rw [if_neg (by simpa using hlt)] at hL
              refine LEnd.intro (k + 1) (by omega) (by omega) ?_
              rw [hL]
              conv => whnf
              refine Retell.turn ⟨[0], 4, [], []⟩ (TurnOk.mk' _ _ [] [] (OutOk.lift _) rfl (by decide) zb trivial trivial rfl) zw zm
          · rw [decide_eq_false h1, Bool.false_and, if_neg (by simp)] at hL
            conv => whnf
            repeat' (first | ((first | refine zs1 ?_ | refine zs2 ?_ | refine zs3 ?_ | refine zs4 ?_ | refine zs5 ?_); conv => whnf) | ((first | apply zi1 | apply zi2 | apply zi3 | apply zi4 | apply zi5) <;> intro _ <;> conv => whnf))
            all_goals try (exfalso; omega)
            refine zs6 [(1, 5)] ?_
            conv => whnf
            repeat' (first | ((first | refine zs1 ?_ | refine zs2 ?_ | refine zs3 ?_ | refine zs4 ?_ | refine zs5 ?_); conv => whnf) | ((first | apply zi1 | apply zi2 | apply zi3 | apply zi4 | apply zi5) <;> intro _ <;> conv => whnf) | (refine VMem.appN (l := ([] : List Wy)) (l2 := N.ws) encWy_len rfl rfl rfl rfl rfl (by show 0 + N.ws.length ≤ _; omega) ?_; rw [Nat.zero_add]; conv => whnf))
            refine zs6 [] ?_
            conv => whnf
            repeat' (first | ((first | refine zs1 ?_ | refine zs2 ?_ | refine zs3 ?_ | refine zs4 ?_ | refine zs5 ?_); conv => whnf) | ((first | apply zi1 | apply zi2 | apply zi3 | apply zi4 | apply zi5) <;> intro _ <;> conv => whnf) | (refine VLd.recc encWy_len k 3 rfl rfl rfl hw (by decide) rfl (by show (k : Int).toNat * 8 + 3 = k * 8 + 3; omega) ?_; conv => whnf) | (refine VMem.setRec encWy_len k 3 (lessW w) rfl rfl rfl hw (by decide) rfl (by show (k : Int).toNat * 8 + 3 = k * 8 + 3; omega) ?_; conv => whnf))
            all_goals try (exfalso; omega)
            refine zs6 [(11, 12)] ?_
            conv => whnf
            repeat' (first | ((first | refine zs1 ?_ | refine zs2 ?_ | refine zs3 ?_ | refine zs4 ?_ | refine zs5 ?_); conv => whnf) | ((first | apply zi1 | apply zi2 | apply zi3 | apply zi4 | apply zi5) <;> intro _ <;> conv => whnf) | (refine VLd.recc encWy_len k 3 rfl rfl rfl hw' (by decide) rfl (by show (k : Int).toNat * 8 + 3 = k * 8 + 3; omega) ?_; conv => whnf))
            all_goals try (exfalso; omega)
            refine LEnd.intro (k + 1) (by omega) (by omega) ?_
            rw [hL]
            conv => whnf
            refine Retell.turn ⟨[0], 4, [], []⟩ (TurnOk.mk' _ _ [] [] (OutOk.lift _) rfl (by decide) zb trivial trivial rfl) zw zm
        · have hkl : k = N.ws.length := by omega
          subst hkl
          generalize narL N a b N.ws.length = L
          conv => whnf
          repeat' (first | ((first | refine zs1 ?_ | refine zs2 ?_ | refine zs3 ?_ | refine zs4 ?_ | refine zs5 ?_); conv => whnf) | ((first | apply zi1 | apply zi2 | apply zi3 | apply zi4 | apply zi5) <;> intro _ <;> conv => whnf))
          all_goals try (exfalso; omega)
          refine VOut.data 1 [(0, L.flatMap Vm.encI)] [] rfl zf (by exact FmAll.nil) zw
  · rw [if_neg h0]
    generalize pas N a b = E at *
    refine VC.bodyC 1 Try.func51 rfl Try.ntmps51 Try.call51 (h.grows_refl) rfl ?_; conv => whnf
    refine VCut.at' (outer := h.lift) (marks := []) 99 [(1, ints a), (2, ints b), (3, .fp (encN N))] [] ?_ ?_
    · conv => whnf
      refine Retell.turn ⟨[], 1, [(0, encN N)], []⟩ (TurnOk.mk' _ _ [(0, encN N)] [] (OutOk.lift _) rfl (by decide) zb zf trivial rfl) zw zm
    · conv => whnf
      repeat' (first | ((first | refine zs1 ?_ | refine zs2 ?_ | refine zs3 ?_ | refine zs4 ?_ | refine zs5 ?_); conv => whnf) | ((first | apply zi1 | apply zi2 | apply zi3 | apply zi4 | apply zi5) <;> intro _ <;> conv => whnf) | (refine VCall.intro (cP _) ?_; conv => whnf))
      all_goals try (exfalso; omega)
      exact VOut.same rfl
end Go.Proofs.Ytoeendggmalcpaa


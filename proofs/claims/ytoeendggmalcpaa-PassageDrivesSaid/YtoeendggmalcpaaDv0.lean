/- Part 0 of the proof that PassageDrives holds: what drives bring, the most, what cuts bar and which ways are narrow are as the reference says. No condition. -/
import Derived.Test.YtoeendggmalcpaaBa8
set_option linter.unusedVariables false
set_option linter.unusedSimpArgs false
open Go.Vm
open Psg
namespace Psg
theorem all_at {l : List Int} {k : Nat} {x : Int} (q : Int → Bool) (h : l[k]? = some x) : (l.drop k).all q = (q x && (l.drop (k + 1)).all q) := by
  obtain ⟨h1, rfl⟩ := List.getElem?_eq_some_iff.1 h
  rw [List.drop_eq_getElem_cons h1, List.all_cons]
end Psg
namespace Go.Proofs.Ytoeendggmalcpaa
set_option maxRecDepth 20000
set_option maxHeartbeats 4000000
theorem vc_has (l : List Int) (x : Int) (h : Hp) (hl : l.length ≤ 4000000) : VC Try.prog 89 [ints l, I x] h (B (decide (x ∈ l))) h := by
  obtain ⟨E, hE⟩ : ∃ E, E = decide (x ∈ l) := ⟨_, rfl⟩
  rw [← hE]
  refine VC.body Try.func89 rfl Try.ntmps89 Try.call89 (h.grows_refl) rfl ?_; conv => whnf
  repeat' (first | ((first | refine zs1 ?_ | refine zs2 ?_ | refine zs3 ?_ | refine zs4 ?_ | refine zs5 ?_); conv => whnf) | ((first | apply zi1 | apply zi2 | apply zi3 | apply zi4 | apply zi5) <;> intro _ <;> conv => whnf))
  refine VCode.lp (outer := h.lift) (marks := []) (fun k : Nat => [(0, ints l), (1, I x), (5, I k)]) (fun _ => []) (fun k => k ≤ l.length ∧ E = decide (x ∈ l.drop k)) (fun k => l.length - k) 0 ⟨Nat.zero_le _, hE⟩ ?_ ?_
  · conv => whnf
    refine Retell.turn ⟨[], 0, [], []⟩ (TurnOk.mk' _ _ [] [] (OutOk.lift _) rfl (by decide) zb trivial trivial rfl) zw zm
  · rintro k ⟨h1, h2⟩
    rcases Nat.lt_or_ge k l.length with h3 | h3
    · have ha : l[k]? = some l[k] := List.getElem?_eq_getElem h3
      rw [List.drop_eq_getElem_cons h3] at h2
      generalize l[k] = a at ha h2
      conv => whnf
      repeat' (first | ((first | refine zs1 ?_ | refine zs2 ?_ | refine zs3 ?_ | refine zs4 ?_ | refine zs5 ?_); conv => whnf) | ((first | apply zi1 | apply zi2 | apply zi3 | apply zi4 | apply zi5) <;> intro _ <;> conv => whnf) | (refine VAny.ix encI_len k rfl rfl ha ?_; conv => whnf))
      all_goals try (exfalso; omega)
      · rename_i hq
        rw [h2, decide_eq_true (by rw [List.mem_cons]; exact .inl hq.symm)]
        exact VOut.same rfl
      · rename_i hq
        refine LEnd.intro (k + 1) ⟨by omega, ?_⟩ (by omega) ?_
        · rw [h2]
          exact decide_eq_decide.2 (by rw [List.mem_cons]; exact ⟨fun h => h.resolve_left fun e => hq e.symm, .inr⟩)
        · conv => whnf
          refine Retell.turn ⟨[], 0, [], []⟩ (TurnOk.mk' _ _ [] [] (OutOk.lift _) rfl (by decide) zb trivial trivial rfl) zw zm
    · rw [List.drop_of_length_le h3] at h2
      have : E = false := by rw [h2]; simp
      conv => whnf
      repeat' (first | ((first | refine zs1 ?_ | refine zs2 ?_ | refine zs3 ?_ | refine zs4 ?_ | refine zs5 ?_); conv => whnf) | ((first | apply zi1 | apply zi2 | apply zi3 | apply zi4 | apply zi5) <;> intro _ <;> conv => whnf))
      all_goals try (exfalso; omega)
      rw [this]
      exact VOut.same rfl
theorem vc_mixed (l : List Int) (h : Hp) (hl : l.length ≤ 4000000) : VC Try.prog 93 [ints l] h (B (!risB l)) h := by
  obtain ⟨E, hE⟩ : ∃ E, E = risB l := ⟨_, rfl⟩
  rw [← hE]
  refine VC.body Try.func93 rfl Try.ntmps93 Try.call93 (h.grows_refl) rfl ?_; conv => whnf
  repeat' (first | ((first | refine zs1 ?_ | refine zs2 ?_ | refine zs3 ?_ | refine zs4 ?_ | refine zs5 ?_); conv => whnf) | ((first | apply zi1 | apply zi2 | apply zi3 | apply zi4 | apply zi5) <;> intro _ <;> conv => whnf))
  refine VCode.lp (outer := h.lift) (marks := []) (fun k : Nat => [(0, ints l), (3, I ((k + 1 : Nat) : Int))]) (fun _ => []) (fun k => E = risB (l.drop k)) (fun k => l.length - k) 0 hE ?_ ?_
  · conv => whnf
    refine Retell.turn ⟨[], 0, [], []⟩ (TurnOk.mk' _ _ [] [] (OutOk.lift _) rfl (by decide) zb trivial trivial rfl) zw zm
  · intro k h1
    rcases Nat.lt_or_ge (k + 1) l.length with h3 | h3
    · have ha : l[k]? = some l[k] := List.getElem?_eq_getElem (by omega)
      have hb : l[k + 1]? = some l[k + 1] := List.getElem?_eq_getElem h3
      rw [risB_at ha hb] at h1
      generalize l[k] = a at ha h1
      generalize l[k + 1] = b at hb h1
      conv => whnf
      repeat' (first | ((first | refine zs1 ?_ | refine zs2 ?_ | refine zs3 ?_ | refine zs4 ?_ | refine zs5 ?_); conv => whnf) | ((first | apply zi1 | apply zi2 | apply zi3 | apply zi4 | apply zi5) <;> intro _ <;> conv => whnf))
      all_goals try (exfalso; omega)
      refine zs6 [] ?_
      conv => whnf
      repeat' (first | ((first | refine zs1 ?_ | refine zs2 ?_ | refine zs3 ?_ | refine zs4 ?_ | refine zs5 ?_); conv => whnf) | ((first | apply zi1 | apply zi2 | apply zi3 | apply zi4 | apply zi5) <;> intro _ <;> conv => whnf) | (refine VAny.ix encI_len (k + 1) rfl rfl hb ?_; conv => whnf) | (refine VAny.ix encI_len k (by omega) rfl ha ?_; conv => whnf))
      all_goals try (exfalso; omega)
      · rename_i hh
        rw [decide_eq_false (by omega)] at h1
        rw [h1]
        exact VOut.same rfl
      · rename_i hh
        rw [decide_eq_true (by omega), Bool.true_and] at h1
        refine LEnd.intro (k + 1) h1 (by omega) ?_
        conv => whnf
        refine Retell.turn ⟨[], 0, [], []⟩ (TurnOk.mk' _ _ [] [] (OutOk.lift _) rfl (by decide) zb trivial trivial rfl) zw zm
    · rw [risB_end (by omega)] at h1
      conv => whnf
      repeat' (first | ((first | refine zs1 ?_ | refine zs2 ?_ | refine zs3 ?_ | refine zs4 ?_ | refine zs5 ?_); conv => whnf) | ((first | apply zi1 | apply zi2 | apply zi3 | apply zi4 | apply zi5) <;> intro _ <;> conv => whnf))
      all_goals try (exfalso; omega)
      rw [h1]
      exact VOut.same rfl
end Go.Proofs.Ytoeendggmalcpaa

open Go.Vm
open Psg
namespace Go.Proofs.Ytoeendggmalcpaa
set_option maxRecDepth 20000
set_option maxHeartbeats 4000000
theorem vc_rPastured (N : Nt) (a b : List Int) (h : Hp) (hn : N.ws.length ≤ 4000000) (ha : a.length ≤ 4000000) (hb : b.length ≤ 4000000) : VC Try.prog 88 [vN N, ints a, ints b] h (I (pas N a b)) h := by
  obtain ⟨R, hR⟩ : ∃ R, R = pas N a b := ⟨_, rfl⟩
  rw [← hR]
  unfold pas at hR
  have cC := fun h => vc_rcheck N h hn
  by_cases h0 : chk N = 0
  · obtain ⟨n, hN⟩ := chk_ok h0
    have hp := hN.p
    have hn1 := hN.n1
    rw [h0] at cC
    rw [if_pos h0] at hR
    have cR := fun h => vc_mixed a h ha
    have cS := fun h => vc_mixed b h hb
    have cH := fun x h => vc_has b x h hb
    generalize hA : a.all (pstB N) = A at hR
    generalize hBB : b.all (pstB N) = BB at hR
    generalize risB a = RA at cR hR
    generalize risB b = RB at cS hR
    generalize hP : (a.all fun p => decide (¬ p ∈ b)) = P at hR
    replace hA := hA.symm
    replace hBB := hBB.symm
    replace hP := hP.symm
    refine VC.bodyC 1 Try.func88 rfl Try.ntmps88 Try.call88 (h.grows_refl) rfl ?_; conv => whnf
    refine VCut.at' (outer := h.lift) (marks := []) 99 [(1, ints a), (2, ints b), (3, .fp (encN N))] [] ?_ ?_
    · conv => whnf
      refine Retell.turn ⟨[], 1, [(0, encN N)], []⟩ (TurnOk.mk' _ _ [(0, encN N)] [] (OutOk.lift _) rfl (by decide) zb zf trivial rfl) zw zm
    · conv => whnf
      repeat' (first | ((first | refine zs1 ?_ | refine zs2 ?_ | refine zs3 ?_ | refine zs4 ?_ | refine zs5 ?_); conv => whnf) | ((first | apply zi1 | apply zi2 | apply zi3 | apply zi4 | apply zi5) <;> intro _ <;> conv => whnf) | (refine VCall.intro (cC _) ?_; conv => whnf))
      all_goals try (exfalso; omega)
      refine VCode.lp (outer := h.lift) (marks := []) (fun k : Nat => [(1, ints a), (2, ints b), (3, .fp (encN N)), (8, I k)]) (fun _ => []) (fun k => k ≤ a.length ∧ A = (a.drop k).all (pstB N)) (fun k => a.length - k) 0 ⟨Nat.zero_le _, hA⟩ ?_ ?_
      · conv => whnf
        refine Retell.turn ⟨[], 0, [], []⟩ (TurnOk.mk' _ _ [] [] (OutOk.lift _) rfl (by decide) zb trivial trivial rfl) zw zm
      · rintro k ⟨k1, k2⟩
        rcases Nat.lt_or_ge k a.length with h3 | h3
        · have hx : a[k]? = some a[k] := List.getElem?_eq_getElem h3
          rw [all_at _ hx] at k2
          generalize a[k] = x at hx k2
          have cF := fun h => vc_beside x 0 (N.p - 1) h
          by_cases hq : 0 ≤ x ∧ x ≤ N.p - 1
          · have hq2 : pstB N x = true := decide_eq_true hq
            rw [decide_eq_false (by omega)] at cF
            rw [hq2, Bool.true_and] at k2
            conv => whnf
            repeat' (first | ((first | refine zs1 ?_ | refine zs2 ?_ | refine zs3 ?_ | refine zs4 ?_ | refine zs5 ?_); conv => whnf) | ((first | apply zi1 | apply zi2 | apply zi3 | apply zi4 | apply zi5) <;> intro _ <;> conv => whnf))
            all_goals try (exfalso; omega)
            refine zs6 [] ?_
            conv => whnf
            repeat' (first | ((first | refine zs1 ?_ | refine zs2 ?_ | refine zs3 ?_ | refine zs4 ?_ | refine zs5 ?_); conv => whnf) | ((first | apply zi1 | apply zi2 | apply zi3 | apply zi4 | apply zi5) <;> intro _ <;> conv => whnf) | (refine VAny.ix encI_len k rfl rfl hx ?_; conv => whnf) | (refine VCall.intro (cF _) ?_; conv => whnf))
            all_goals try (exfalso; omega)
            refine LEnd.intro (k + 1) ⟨by omega, k2⟩ (by omega) ?_
            conv => whnf
            refine Retell.turn ⟨[], 0, [], []⟩ (TurnOk.mk' _ _ [] [] (OutOk.lift _) rfl (by decide) zb trivial trivial rfl) zw zm
          · have hq2 : pstB N x = false := decide_eq_false hq
            rw [decide_eq_true (by omega)] at cF
            rw [hq2, Bool.false_and] at k2
            rw [if_neg (by rw [k2]; simp)] at hR
            conv => whnf
            repeat' (first | ((first | refine zs1 ?_ | refine zs2 ?_ | refine zs3 ?_ | refine zs4 ?_ | refine zs5 ?_); conv => whnf) | ((first | apply zi1 | apply zi2 | apply zi3 | apply zi4 | apply zi5) <;> intro _ <;> conv => whnf))
            all_goals try (exfalso; omega)
            refine zs6 [] ?_
            conv => whnf
            repeat' (first | ((first | refine zs1 ?_ | refine zs2 ?_ | refine zs3 ?_ | refine zs4 ?_ | refine zs5 ?_); conv => whnf) | ((first | apply zi1 | apply zi2 | apply zi3 | apply zi4 | apply zi5) <;> intro _ <;> conv => whnf) | (refine VAny.ix encI_len k rfl rfl hx ?_; conv => whnf) | (refine VCall.intro (cF _) ?_; conv => whnf))
            all_goals try (exfalso; omega)
            rw [hR]
            exact VOut.same rfl
        · rw [List.drop_of_length_le h3, List.all_nil] at k2
          subst k2
          conv => whnf
          repeat' (first | ((first | refine zs1 ?_ | refine zs2 ?_ | refine zs3 ?_ | refine zs4 ?_ | refine zs5 ?_); conv => whnf) | ((first | apply zi1 | apply zi2 | apply zi3 | apply zi4 | apply zi5) <;> intro _ <;> conv => whnf))
          all_goals try (exfalso; omega)
          refine VCode.lp (outer := h.lift) (marks := []) (fun k : Nat => [(1, ints a), (2, ints b), (3, .fp (encN N)), (9, I k)]) (fun _ => []) (fun k => k ≤ b.length ∧ BB = (b.drop k).all (pstB N)) (fun k => b.length - k) 0 ⟨Nat.zero_le _, hBB⟩ ?_ ?_
          · conv => whnf
            refine Retell.turn ⟨[], 0, [], []⟩ (TurnOk.mk' _ _ [] [] (OutOk.lift _) rfl (by decide) zb trivial trivial rfl) zw zm
          · rintro k ⟨k1, k2⟩
            rcases Nat.lt_or_ge k b.length with h3 | h3
            · have hx : b[k]? = some b[k] := List.getElem?_eq_getElem h3
              rw [all_at _ hx] at k2
              generalize b[k] = x at hx k2
              have cF := fun h => vc_beside x 0 (N.p - 1) h
              by_cases hq : 0 ≤ x ∧ x ≤ N.p - 1
              · have hq2 : pstB N x = true := decide_eq_true hq
                rw [decide_eq_false (by omega)] at cF
                rw [hq2, Bool.true_and] at k2
                conv => whnf
                repeat' (first | ((first | refine zs1 ?_ | refine zs2 ?_ | refine zs3 ?_ | refine zs4 ?_ | refine zs5 ?_); conv => whnf) | ((first | apply zi1 | apply zi2 | apply zi3 | apply zi4 | apply zi5) <;> intro _ <;> conv => whnf))
                all_goals try (exfalso; omega)
                refine zs6 [] ?_
                conv => whnf
                repeat' (first | ((first | refine zs1 ?_ | refine zs2 ?_ | refine zs3 ?_ | refine zs4 ?_ | refine zs5 ?_); conv => whnf) | ((first | apply zi1 | apply zi2 | apply zi3 | apply zi4 | apply zi5) <;> intro _ <;> conv => whnf) | (refine VAny.ix encI_len k rfl rfl hx ?_; conv => whnf) | (refine VCall.intro (cF _) ?_; conv => whnf))
                all_goals try (exfalso; omega)
                refine LEnd.intro (k + 1) ⟨by omega, k2⟩ (by omega) ?_
                conv => whnf
                refine Retell.turn ⟨[], 0, [], []⟩ (TurnOk.mk' _ _ [] [] (OutOk.lift _) rfl (by decide) zb trivial trivial rfl) zw zm
              · have hq2 : pstB N x = false := decide_eq_false hq
                rw [decide_eq_true (by omega)] at cF
                rw [hq2, Bool.false_and] at k2
                rw [if_neg (by rw [k2]; simp)] at hR
                conv => whnf
                repeat' (first | ((first | refine zs1 ?_ | refine zs2 ?_ | refine zs3 ?_ | refine zs4 ?_ | refine zs5 ?_); conv => whnf) | ((first | apply zi1 | apply zi2 | apply zi3 | apply zi4 | apply zi5) <;> intro _ <;> conv => whnf))
                all_goals try (exfalso; omega)
                refine zs6 [] ?_
                conv => whnf
                repeat' (first | ((first | refine zs1 ?_ | refine zs2 ?_ | refine zs3 ?_ | refine zs4 ?_ | refine zs5 ?_); conv => whnf) | ((first | apply zi1 | apply zi2 | apply zi3 | apply zi4 | apply zi5) <;> intro _ <;> conv => whnf) | (refine VAny.ix encI_len k rfl rfl hx ?_; conv => whnf) | (refine VCall.intro (cF _) ?_; conv => whnf))
                all_goals try (exfalso; omega)
                rw [hR]
                exact VOut.same rfl
            · rw [List.drop_of_length_le h3, List.all_nil] at k2
              subst k2
              rw [if_pos ⟨rfl, rfl⟩] at hR
              by_cases hz : a.length = 0 ∨ b.length = 0
              · rw [if_pos hz] at hR
                rw [hR]
                conv => whnf
                repeat' (first | ((first | refine zs1 ?_ | refine zs2 ?_ | refine zs3 ?_ | refine zs4 ?_ | refine zs5 ?_); conv => whnf) | ((first | apply zi1 | apply zi2 | apply zi3 | apply zi4 | apply zi5) <;> intro _ <;> conv => whnf))
                all_goals try (exfalso; omega)
                all_goals exact VOut.same rfl
              · rw [if_neg hz] at hR
                cases RA
                · rw [if_neg (by simp)] at hR
                  rw [hR]
                  conv => whnf
                  repeat' (first | ((first | refine zs1 ?_ | refine zs2 ?_ | refine zs3 ?_ | refine zs4 ?_ | refine zs5 ?_); conv => whnf) | ((first | apply zi1 | apply zi2 | apply zi3 | apply zi4 | apply zi5) <;> intro _ <;> conv => whnf) | (refine VCall.intro (cR _) ?_; conv => whnf))
                  all_goals try (exfalso; omega)
                  exact VOut.same rfl
                · cases RB
                  · rw [if_neg (by simp)] at hR
                    rw [hR]
                    conv => whnf
                    repeat' (first | ((first | refine zs1 ?_ | refine zs2 ?_ | refine zs3 ?_ | refine zs4 ?_ | refine zs5 ?_); conv => whnf) | ((first | apply zi1 | apply zi2 | apply zi3 | apply zi4 | apply zi5) <;> intro _ <;> conv => whnf) | (refine VCall.intro (cR _) ?_; conv => whnf) | (refine VCall.intro (cS _) ?_; conv => whnf))
                    all_goals try (exfalso; omega)
                    exact VOut.same rfl
                  · rw [if_pos ⟨rfl, rfl⟩] at hR
                    conv => whnf
                    repeat' (first | ((first | refine zs1 ?_ | refine zs2 ?_ | refine zs3 ?_ | refine zs4 ?_ | refine zs5 ?_); conv => whnf) | ((first | apply zi1 | apply zi2 | apply zi3 | apply zi4 | apply zi5) <;> intro _ <;> conv => whnf) | (refine VCall.intro (cR _) ?_; conv => whnf) | (refine VCall.intro (cS _) ?_; conv => whnf))
                    all_goals try (exfalso; omega)
                    refine VCode.lp (outer := h.lift) (marks := []) (fun k : Nat => [(1, ints a), (2, ints b), (10, I k)]) (fun _ => []) (fun k => k ≤ a.length ∧ P = (a.drop k).all fun p => decide (¬ p ∈ b)) (fun k => a.length - k) 0 ⟨Nat.zero_le _, hP⟩ ?_ ?_
                    · conv => whnf
                      refine Retell.turn ⟨[], 0, [], []⟩ (TurnOk.mk' _ _ [] [] (OutOk.lift _) rfl (by decide) zb trivial trivial rfl) zw zm
                    · rintro k ⟨k1, k2⟩
                      rcases Nat.lt_or_ge k a.length with h3 | h3
                      · have hx : a[k]? = some a[k] := List.getElem?_eq_getElem h3
                        rw [all_at _ hx] at k2
                        generalize a[k] = x at hx k2
                        have cF := fun h => cH x h
                        by_cases hq : x ∈ b
                        · rw [decide_eq_true hq] at cF
                          rw [decide_eq_false (fun h => h hq), Bool.false_and] at k2
                          rw [if_neg (by rw [k2]; simp)] at hR
                          conv => whnf
                          repeat' (first | ((first | refine zs1 ?_ | refine zs2 ?_ | refine zs3 ?_ | refine zs4 ?_ | refine zs5 ?_); conv => whnf) | ((first | apply zi1 | apply zi2 | apply zi3 | apply zi4 | apply zi5) <;> intro _ <;> conv => whnf) | (refine VAny.ix encI_len k rfl rfl hx ?_; conv => whnf) | (refine VCall.intro (cF _) ?_; conv => whnf))
                          all_goals try (exfalso; omega)
                          rw [hR]
                          exact VOut.same rfl
                        · rw [decide_eq_false hq] at cF
                          rw [decide_eq_true hq, Bool.true_and] at k2
                          conv => whnf
                          repeat' (first | ((first | refine zs1 ?_ | refine zs2 ?_ | refine zs3 ?_ | refine zs4 ?_ | refine zs5 ?_); conv => whnf) | ((first | apply zi1 | apply zi2 | apply zi3 | apply zi4 | apply zi5) <;> intro _ <;> conv => whnf) | (refine VAny.ix encI_len k rfl rfl hx ?_; conv => whnf) | (refine VCall.intro (cF _) ?_; conv => whnf))
                          all_goals try (exfalso; omega)
                          refine LEnd.intro (k + 1) ⟨by omega, k2⟩ (by omega) ?_
                          conv => whnf
                          refine Retell.turn ⟨[], 0, [], []⟩ (TurnOk.mk' _ _ [] [] (OutOk.lift _) rfl (by decide) zb trivial trivial rfl) zw zm
                      · rw [List.drop_of_length_le h3, List.all_nil] at k2
                        rw [if_pos k2] at hR
                        conv => whnf
                        repeat' (first | ((first | refine zs1 ?_ | refine zs2 ?_ | refine zs3 ?_ | refine zs4 ?_ | refine zs5 ?_); conv => whnf) | ((first | apply zi1 | apply zi2 | apply zi3 | apply zi4 | apply zi5) <;> intro _ <;> conv => whnf))
                        all_goals try (exfalso; omega)
                        rw [hR]
                        exact VOut.same rfl
  · rw [if_neg h0] at hR
    generalize chk N = E at *
    refine VC.bodyC 1 Try.func88 rfl Try.ntmps88 Try.call88 (h.grows_refl) rfl ?_; conv => whnf
    refine VCut.at' (outer := h.lift) (marks := []) 99 [(1, ints a), (2, ints b), (3, .fp (encN N))] [] ?_ ?_
    · conv => whnf
      refine Retell.turn ⟨[], 1, [(0, encN N)], []⟩ (TurnOk.mk' _ _ [(0, encN N)] [] (OutOk.lift _) rfl (by decide) zb zf trivial rfl) zw zm
    · conv => whnf
      repeat' (first | ((first | refine zs1 ?_ | refine zs2 ?_ | refine zs3 ?_ | refine zs4 ?_ | refine zs5 ?_); conv => whnf) | ((first | apply zi1 | apply zi2 | apply zi3 | apply zi4 | apply zi5) <;> intro _ <;> conv => whnf) | (refine VCall.intro (cC _) ?_; conv => whnf))
      all_goals try (exfalso; omega)
      rw [hR]
      exact VOut.same rfl
end Go.Proofs.Ytoeendggmalcpaa

open Go.Vm
open Psg
namespace Psg
theorem bar_take {S : Int → Bool} : ∀ {ws : List Wy} {k : Nat} {w : Wy}, ws[k]? = some w → bar S (ws.take (k + 1)) = bar S (ws.take k) + one (S w.f && !S w.t) w.h
  | u :: ws, 0, w, h => by
    simp only [List.getElem?_cons_zero, Option.some.injEq] at h
    subst h
    simp [bar]
  | u :: ws, k + 1, w, h => by
    rw [List.getElem?_cons_succ] at h
    have := bar_take (S := S) h
    simp only [List.take_succ_cons, bar]
    rw [this]; omega
  | [], _, _, h => by simp at h
def setL (L : List Bool) (q : Int) : Bool := L.getD q.toNat false
end Psg
namespace Go.Proofs.Ytoeendggmalcpaa
set_option maxRecDepth 20000
set_option maxHeartbeats 4000000
def encB (b : Bool) : List D := [.s (.bool b)]
theorem encB_len (b : Bool) : (encB b).length = 1 := rfl
def bools (l : List Bool) : V := .fs 1 l.length (l.flatMap encB)
theorem vc_rbars {n : Nat} (N : Nt) (L : List Bool) (h : Hp) (hws : ∀ w ∈ N.ws, WOk n w) (hn : n ≤ 10) (hwl : N.ws.length ≤ 24) (hL : L.length = n) : VC Try.prog 94 [vN N, bools L] h (I (bar (setL L) N.ws)) h := by
  refine VC.bodyC 1 Try.func94 rfl Try.ntmps94 Try.call94 (h.grows_refl) rfl ?_; conv => whnf
  refine VCut.at' (outer := h.lift) (marks := []) 99 [(1, bools L), (2, .fp (encN N))] [] ?_ ?_
  · conv => whnf
    refine Retell.turn ⟨[], 1, [(0, encN N)], []⟩ (TurnOk.mk' _ _ [(0, encN N)] [] (OutOk.lift _) rfl (by decide) zb zf trivial rfl) zw zm
  · conv => whnf
    repeat' (first | ((first | refine zs1 ?_ | refine zs2 ?_ | refine zs3 ?_ | refine zs4 ?_ | refine zs5 ?_); conv => whnf) | ((first | apply zi1 | apply zi2 | apply zi3 | apply zi4 | apply zi5) <;> intro _ <;> conv => whnf))
    refine VCode.lp (outer := h.lift) (marks := []) (fun k : Nat => [(1, bools L), (2, .fp (encN N)), (5, I (bar (setL L) (N.ws.take k))), (6, I k)]) (fun _ => []) (fun k => k ≤ N.ws.length) (fun k => N.ws.length - k) 0 (Nat.zero_le _) ?_ ?_
    · conv => whnf
      refine Retell.turn ⟨[], 0, [], []⟩ (TurnOk.mk' _ _ [] [] (OutOk.lift _) rfl (by decide) zb trivial trivial rfl) zw zm
    · intro k hk
      rcases Nat.lt_or_ge k N.ws.length with h3 | h3
      · have hw : N.ws[k]? = some N.ws[k] := List.getElem?_eq_getElem h3
        have hwo := hws N.ws[k] (List.getElem_mem h3)
        have ht := bar_take (S := setL L) hw
        have hb := bar_le (setL L) (N.ws.take k) fun w hw => (hws w (List.mem_of_mem_take hw)).h
        rw [List.length_take, Nat.min_eq_left (by omega)] at hb
        generalize N.ws[k] = w at hw hwo ht
        have hwf := hwo.f
        have hwt := hwo.t
        have hwh := hwo.h
        have hf : L[w.f.toNat]? = some (setL L w.f) := by unfold setL; rw [List.getD_eq_getElem?_getD, List.getElem?_eq_getElem (by omega)]; rfl
        have hg : L[w.t.toNat]? = some (setL L w.t) := by unfold setL; rw [List.getD_eq_getElem?_getD, List.getElem?_eq_getElem (by omega)]; rfl
        generalize bar (setL L) (N.ws.take k) = s at ht hb ⊢
        generalize setL L w.f = B1 at hf ht
        generalize setL L w.t = B2 at hg ht
        cases B1 <;> cases B2
        all_goals (
          simp only [Bool.true_and, Bool.false_and, Bool.not_true, Bool.not_false, Psg.one_t, Psg.one_f, Int.add_zero] at ht
          conv => whnf
          repeat' (first | ((first | refine zs1 ?_ | refine zs2 ?_ | refine zs3 ?_ | refine zs4 ?_ | refine zs5 ?_); conv => whnf) | ((first | apply zi1 | apply zi2 | apply zi3 | apply zi4 | apply zi5) <;> intro _ <;> conv => whnf) | (refine VAny.ix encWy_len k rfl rfl hw ?_; conv => whnf) | (refine VAny.ix encB_len w.f.toNat (by omega) rfl hf ?_; conv => whnf) | (refine VAny.ix encB_len w.t.toNat (by omega) rfl hg ?_; conv => whnf))
          all_goals try (exfalso; omega)
          refine LEnd.intro (k + 1) (by omega) (by omega) ?_
          rw [ht]
          conv => whnf
          refine Retell.turn ⟨[], 0, [], []⟩ (TurnOk.mk' _ _ [] [] (OutOk.lift _) rfl (by decide) zb trivial trivial rfl) zw zm)
      · rw [List.take_of_length_le h3]
        conv => whnf
        repeat' (first | ((first | refine zs1 ?_ | refine zs2 ?_ | refine zs3 ?_ | refine zs4 ?_ | refine zs5 ?_); conv => whnf) | ((first | apply zi1 | apply zi2 | apply zi3 | apply zi4 | apply zi5) <;> intro _ <;> conv => whnf))
        all_goals try (exfalso; omega)
        exact VOut.same rfl
end Go.Proofs.Ytoeendggmalcpaa

open Go.Vm
open Psg
namespace Go.Proofs.Ytoeendggmalcpaa
set_option maxRecDepth 20000
set_option maxHeartbeats 4000000
def memL (S : List Int) (k : Nat) : List Bool := (List.range k).map fun q : Nat => decide ((q : Int) ∈ S)
theorem memL_succ (S : List Int) (k : Nat) : memL S (k + 1) = memL S k ++ [decide ((k : Int) ∈ S)] := by
  unfold memL; rw [List.range_succ, List.map_append]; rfl
theorem memL_len (S : List Int) (k : Nat) : (memL S k).length = k := by unfold memL; simp
theorem memL_set {n : Nat} {S : List Int} {q : Int} (h0 : 0 ≤ q) (h1 : q < n) : setL (memL S n) q = decide (q ∈ S) := by
  have hq : q.toNat < n := by omega
  unfold setL memL
  rw [List.getD_eq_getElem?_getD, List.getElem?_map, List.getElem?_range hq]
  show decide (((q.toNat : Nat) : Int) ∈ S) = _
  rw [Int.toNat_of_nonneg h0]
theorem vc_rBars (N : Nt) (a b S : List Int) (h : Hp) (hn : N.ws.length ≤ 4000000) (ha : a.length ≤ 4000000) (hb : b.length ≤ 4000000) (hS : S.length ≤ 4000000) : VC Try.prog 49 [vN N, ints a, ints b, ints S] h (.tuple [I (brsN N a b S).1, I (brsN N a b S).2]) h := by
  obtain ⟨R, hR⟩ : ∃ R, R = brsN N a b S := ⟨_, rfl⟩
  rw [← hR]
  unfold brsN at hR
  have cP := fun h => vc_rPastured N a b h hn ha hb
  by_cases h0 : pas N a b = 0
  · rw [if_pos h0] at hR
    rw [h0] at cP
    obtain ⟨n, hN, hPs, ha0, hb0, _, _⟩ := pas_ok h0
    have hp := hN.p
    have hn1 := hN.n1
    have hwl := hN.len
    have cR := fun h => vc_mixed S h hS
    have cH := fun x h => vc_has S x h hS
    generalize hA : S.all (pstB N) = A at hR
    generalize risB S = RS at cR hR
    generalize hA1 : (a.all fun p => decide (p ∈ S)) = A1 at hR
    generalize hA2 : (b.all fun p => !decide (p ∈ S)) = A2 at hR
    replace hA := hA.symm
    replace hA1 := hA1.symm
    replace hA2 := hA2.symm
    refine VC.bodyC 1 Try.func49 rfl Try.ntmps49 Try.call49 (h.grows_refl) rfl ?_; conv => whnf
    refine VCut.at' (outer := h.lift) (marks := []) 99 [(1, ints a), (2, ints b), (3, ints S), (4, .fp (encN N))] [] ?_ ?_
    · conv => whnf
      refine Retell.turn ⟨[], 1, [(0, encN N)], []⟩ (TurnOk.mk' _ _ [(0, encN N)] [] (OutOk.lift _) rfl (by decide) zb zf trivial rfl) zw zm
    · conv => whnf
      repeat' (first | ((first | refine zs1 ?_ | refine zs2 ?_ | refine zs3 ?_ | refine zs4 ?_ | refine zs5 ?_); conv => whnf) | ((first | apply zi1 | apply zi2 | apply zi3 | apply zi4 | apply zi5) <;> intro _ <;> conv => whnf) | (refine VCall.intro (cP _) ?_; conv => whnf))
      all_goals try (exfalso; omega)
      refine VCode.lp (outer := h.lift) (marks := []) (fun k : Nat => [(1, ints a), (2, ints b), (3, ints S), (4, .fp (encN N)), (11, I k)]) (fun _ => []) (fun k => k ≤ S.length ∧ A = (S.drop k).all (pstB N)) (fun k => S.length - k) 0 ⟨Nat.zero_le _, hA⟩ ?_ ?_
      · conv => whnf
        refine Retell.turn ⟨[], 0, [], []⟩ (TurnOk.mk' _ _ [] [] (OutOk.lift _) rfl (by decide) zb trivial trivial rfl) zw zm
      · rintro k ⟨k1, k2⟩
        rcases Nat.lt_or_ge k S.length with h3 | h3
        · have hx : S[k]? = some S[k] := List.getElem?_eq_getElem h3
          rw [all_at _ hx] at k2
          generalize S[k] = x at hx k2
          have cF := fun h => vc_beside x 0 (N.p - 1) h
          by_cases hq : 0 ≤ x ∧ x ≤ N.p - 1
          · have hq2 : pstB N x = true := decide_eq_true hq
            rw [decide_eq_false (by omega)] at cF
            rw [hq2, Bool.true_and] at k2
            conv => whnf
            repeat' (first | ((first | refine zs1 ?_ | refine zs2 ?_ | refine zs3 ?_ | refine zs4 ?_ | refine zs5 ?_); conv => whnf) | ((first | apply zi1 | apply zi2 | apply zi3 | apply zi4 | apply zi5) <;> intro _ <;> conv => whnf))
            all_goals try (exfalso; omega)
            refine zs6 [] ?_
            conv => whnf
            repeat' (first | ((first | refine zs1 ?_ | refine zs2 ?_ | refine zs3 ?_ | refine zs4 ?_ | refine zs5 ?_); conv => whnf) | ((first | apply zi1 | apply zi2 | apply zi3 | apply zi4 | apply zi5) <;> intro _ <;> conv => whnf) | (refine VAny.ix encI_len k rfl rfl hx ?_; conv => whnf) | (refine VCall.intro (cF _) ?_; conv => whnf))
            all_goals try (exfalso; omega)
            refine LEnd.intro (k + 1) ⟨by omega, k2⟩ (by omega) ?_
            conv => whnf
            refine Retell.turn ⟨[], 0, [], []⟩ (TurnOk.mk' _ _ [] [] (OutOk.lift _) rfl (by decide) zb trivial trivial rfl) zw zm
          · have hq2 : pstB N x = false := decide_eq_false hq
            rw [decide_eq_true (by omega)] at cF
            rw [hq2, Bool.false_and] at k2
            rw [if_neg (by rw [k2]; simp)] at hR
            conv => whnf
            repeat' (first | ((first | refine zs1 ?_ | refine zs2 ?_ | refine zs3 ?_ | refine zs4 ?_ | refine zs5 ?_); conv => whnf) | ((first | apply zi1 | apply zi2 | apply zi3 | apply zi4 | apply zi5) <;> intro _ <;> conv => whnf))
            all_goals try (exfalso; omega)
            refine zs6 [] ?_
            conv => whnf
            repeat' (first | ((first | refine zs1 ?_ | refine zs2 ?_ | refine zs3 ?_ | refine zs4 ?_ | refine zs5 ?_); conv => whnf) | ((first | apply zi1 | apply zi2 | apply zi3 | apply zi4 | apply zi5) <;> intro _ <;> conv => whnf) | (refine VAny.ix encI_len k rfl rfl hx ?_; conv => whnf) | (refine VCall.intro (cF _) ?_; conv => whnf))
            all_goals try (exfalso; omega)
            rw [hR]
            exact VOut.same rfl
        · rw [List.drop_of_length_le h3, List.all_nil] at k2
          rw [if_pos k2] at hR
          cases RS
          · rw [if_neg (by simp)] at hR
            rw [hR]
            conv => whnf
            repeat' (first | ((first | refine zs1 ?_ | refine zs2 ?_ | refine zs3 ?_ | refine zs4 ?_ | refine zs5 ?_); conv => whnf) | ((first | apply zi1 | apply zi2 | apply zi3 | apply zi4 | apply zi5) <;> intro _ <;> conv => whnf) | (refine VCall.intro (cR _) ?_; conv => whnf))
            all_goals try (exfalso; omega)
            exact VOut.same rfl
          · rw [if_pos rfl] at hR
            conv => whnf
            repeat' (first | ((first | refine zs1 ?_ | refine zs2 ?_ | refine zs3 ?_ | refine zs4 ?_ | refine zs5 ?_); conv => whnf) | ((first | apply zi1 | apply zi2 | apply zi3 | apply zi4 | apply zi5) <;> intro _ <;> conv => whnf) | (refine VCall.intro (cR _) ?_; conv => whnf))
            all_goals try (exfalso; omega)
            refine VCode.lp (outer := h.lift) (marks := []) (fun k : Nat => [(1, ints a), (2, ints b), (3, ints S), (4, .fp (encN N)), (12, I k)]) (fun _ => []) (fun k => k ≤ a.length ∧ A1 = (a.drop k).all (fun p => decide (p ∈ S))) (fun k => a.length - k) 0 ⟨Nat.zero_le _, hA1⟩ ?_ ?_
            · conv => whnf
              refine Retell.turn ⟨[], 0, [], []⟩ (TurnOk.mk' _ _ [] [] (OutOk.lift _) rfl (by decide) zb trivial trivial rfl) zw zm
            · rintro k ⟨k1, k2⟩
              rcases Nat.lt_or_ge k a.length with h3 | h3
              · have hx : a[k]? = some a[k] := List.getElem?_eq_getElem h3
                rw [all_at _ hx] at k2
                generalize a[k] = x at hx k2
                have cF := fun h => cH x h
                by_cases hq : x ∈ S
                · rw [decide_eq_true hq] at cF k2
                  simp only [Bool.not_false, Bool.not_true, Bool.true_and] at k2
                  conv => whnf
                  repeat' (first | ((first | refine zs1 ?_ | refine zs2 ?_ | refine zs3 ?_ | refine zs4 ?_ | refine zs5 ?_); conv => whnf) | ((first | apply zi1 | apply zi2 | apply zi3 | apply zi4 | apply zi5) <;> intro _ <;> conv => whnf) | (refine VAny.ix encI_len k rfl rfl hx ?_; conv => whnf) | (refine VCall.intro (cF _) ?_; conv => whnf))
                  all_goals try (exfalso; omega)
                  refine LEnd.intro (k + 1) ⟨by omega, k2⟩ (by omega) ?_
                  conv => whnf
                  refine Retell.turn ⟨[], 0, [], []⟩ (TurnOk.mk' _ _ [] [] (OutOk.lift _) rfl (by decide) zb trivial trivial rfl) zw zm
                · rw [decide_eq_false hq] at cF k2
                  simp only [Bool.not_false, Bool.not_true, Bool.false_and] at k2
                  rw [if_neg (by rw [k2]; simp)] at hR
                  conv => whnf
                  repeat' (first | ((first | refine zs1 ?_ | refine zs2 ?_ | refine zs3 ?_ | refine zs4 ?_ | refine zs5 ?_); conv => whnf) | ((first | apply zi1 | apply zi2 | apply zi3 | apply zi4 | apply zi5) <;> intro _ <;> conv => whnf) | (refine VAny.ix encI_len k rfl rfl hx ?_; conv => whnf) | (refine VCall.intro (cF _) ?_; conv => whnf))
                  all_goals try (exfalso; omega)
                  rw [hR]
                  exact VOut.same rfl
              · rw [List.drop_of_length_le h3, List.all_nil] at k2
                subst k2
                conv => whnf
                repeat' (first | ((first | refine zs1 ?_ | refine zs2 ?_ | refine zs3 ?_ | refine zs4 ?_ | refine zs5 ?_); conv => whnf) | ((first | apply zi1 | apply zi2 | apply zi3 | apply zi4 | apply zi5) <;> intro _ <;> conv => whnf))
                all_goals try (exfalso; omega)
                refine VCode.lp (outer := h.lift) (marks := []) (fun k : Nat => [(1, ints a), (2, ints b), (3, ints S), (4, .fp (encN N)), (13, I k)]) (fun _ => []) (fun k => k ≤ b.length ∧ A2 = (b.drop k).all (fun p => !decide (p ∈ S))) (fun k => b.length - k) 0 ⟨Nat.zero_le _, hA2⟩ ?_ ?_
                · conv => whnf
                  refine Retell.turn ⟨[], 0, [], []⟩ (TurnOk.mk' _ _ [] [] (OutOk.lift _) rfl (by decide) zb trivial trivial rfl) zw zm
                · rintro k ⟨k1, k2⟩
                  rcases Nat.lt_or_ge k b.length with h3 | h3
                  · have hx : b[k]? = some b[k] := List.getElem?_eq_getElem h3
                    rw [all_at _ hx] at k2
                    generalize b[k] = x at hx k2
                    have cF := fun h => cH x h
                    by_cases hq : x ∈ S
                    · rw [decide_eq_true hq] at cF k2
                      simp only [Bool.not_false, Bool.not_true, Bool.false_and] at k2
                      rw [if_neg (by rw [k2]; simp)] at hR
                      conv => whnf
                      repeat' (first | ((first | refine zs1 ?_ | refine zs2 ?_ | refine zs3 ?_ | refine zs4 ?_ | refine zs5 ?_); conv => whnf) | ((first | apply zi1 | apply zi2 | apply zi3 | apply zi4 | apply zi5) <;> intro _ <;> conv => whnf) | (refine VAny.ix encI_len k rfl rfl hx ?_; conv => whnf) | (refine VCall.intro (cF _) ?_; conv => whnf))
                      all_goals try (exfalso; omega)
                      rw [hR]
                      exact VOut.same rfl
                    · rw [decide_eq_false hq] at cF k2
                      simp only [Bool.not_false, Bool.not_true, Bool.true_and] at k2
                      conv => whnf
                      repeat' (first | ((first | refine zs1 ?_ | refine zs2 ?_ | refine zs3 ?_ | refine zs4 ?_ | refine zs5 ?_); conv => whnf) | ((first | apply zi1 | apply zi2 | apply zi3 | apply zi4 | apply zi5) <;> intro _ <;> conv => whnf) | (refine VAny.ix encI_len k rfl rfl hx ?_; conv => whnf) | (refine VCall.intro (cF _) ?_; conv => whnf))
                      all_goals try (exfalso; omega)
                      refine LEnd.intro (k + 1) ⟨by omega, k2⟩ (by omega) ?_
                      conv => whnf
                      refine Retell.turn ⟨[], 0, [], []⟩ (TurnOk.mk' _ _ [] [] (OutOk.lift _) rfl (by decide) zb trivial trivial rfl) zw zm
                  · rw [List.drop_of_length_le h3, List.all_nil] at k2
                    rw [if_pos ⟨rfl, k2⟩] at hR
                    have hbar : bar (fun q => decide (q ∈ S)) N.ws = bar (setL (memL S n)) N.ws := bar_congr (n := n) (fun q q0 q1 => (memL_set q0 q1).symm) N.ws hN.inN
                    rw [hbar] at hR
                    have cB := fun h => vc_rbars N (memL S n) h hN.ws hn1.2 hwl (memL_len S n)
                    conv => whnf
                    repeat' (first | ((first | refine zs1 ?_ | refine zs2 ?_ | refine zs3 ?_ | refine zs4 ?_ | refine zs5 ?_); conv => whnf) | ((first | apply zi1 | apply zi2 | apply zi3 | apply zi4 | apply zi5) <;> intro _ <;> conv => whnf))
                    all_goals try (exfalso; omega)
                    refine VCode.lp (outer := h.lift) (marks := []) (fun k : Nat => [(3, ints S), (4, .fp (encN N)), (14, .gl (.loc 0) 1 (memL S k).length), (15, I k)]) (fun k => [.flat true ((memL S k).flatMap encB)]) (fun k => k ≤ n) (fun k => n - k) 0 (Nat.zero_le _) ?_ ?_
                    · conv => whnf
                      refine Retell.turn ⟨[0], 0, [], []⟩ (TurnOk.mk' _ _ [] [] (OutOk.lift _) rfl (by decide) zb trivial trivial rfl) zw zm
                    · intro k k1
                      have hl := memL_len S k
                      rcases Nat.lt_or_ge k n with h4 | h4
                      · have hs := memL_succ S k
                        have cF := fun h => cH (k : Int) h
                        generalize decide ((k : Int) ∈ S) = v at cF hs
                        generalize memL S k = L at hs hl ⊢
                        conv => whnf
                        repeat' (first | ((first | refine zs1 ?_ | refine zs2 ?_ | refine zs3 ?_ | refine zs4 ?_ | refine zs5 ?_); conv => whnf) | ((first | apply zi1 | apply zi2 | apply zi3 | apply zi4 | apply zi5) <;> intro _ <;> conv => whnf) | (refine VCall.intro (cF _) ?_; conv => whnf) | (refine VMem.app1 (l := L) v encB_len rfl rfl rfl rfl rfl (by omega) ?_; conv => whnf))
                        all_goals try (exfalso; omega)
                        refine LEnd.intro (k + 1) (by omega) (by omega) ?_
                        rw [hs, List.length_append]
                        conv => whnf
                        refine Retell.turn ⟨[2], 3, [], []⟩ (TurnOk.mk' _ _ [] [] (OutOk.lift _) rfl (by decide) zb trivial trivial rfl) zw zm
                      · have hk : k = n := by omega
                        subst hk
                        rw [hR]
                        have hfl : ((memL S k).flatMap encB).length = (memL S k).length * 1 := flat_len encB_len _
                        generalize memL S k = L at hl cB hfl ⊢
                        conv => whnf
                        repeat' (first | ((first | refine zs1 ?_ | refine zs2 ?_ | refine zs3 ?_ | refine zs4 ?_ | refine zs5 ?_); conv => whnf) | ((first | apply zi1 | apply zi2 | apply zi3 | apply zi4 | apply zi5) <;> intro _ <;> conv => whnf))
                        all_goals try (exfalso; omega)
                        refine VCall.intro (VC.give (args' := [vN N, bools L]) (loc' := [.dead]) [(0, L.flatMap encB)] [] (OutOk.lift _) zb zf (by exact FmAll.nil) rfl zw (cB _)) ?_
                        conv => whnf
                        repeat' (first | ((first | refine zs1 ?_ | refine zs2 ?_ | refine zs3 ?_ | refine zs4 ?_ | refine zs5 ?_); conv => whnf) | ((first | apply zi1 | apply zi2 | apply zi3 | apply zi4 | apply zi5) <;> intro _ <;> conv => whnf))
                        exact VOut.same rfl
  · rw [if_neg h0] at hR
    generalize pas N a b = E at *
    refine VC.bodyC 1 Try.func49 rfl Try.ntmps49 Try.call49 (h.grows_refl) rfl ?_; conv => whnf
    refine VCut.at' (outer := h.lift) (marks := []) 99 [(1, ints a), (2, ints b), (3, ints S), (4, .fp (encN N))] [] ?_ ?_
    · conv => whnf
      refine Retell.turn ⟨[], 1, [(0, encN N)], []⟩ (TurnOk.mk' _ _ [(0, encN N)] [] (OutOk.lift _) rfl (by decide) zb zf trivial rfl) zw zm
    · conv => whnf
      repeat' (first | ((first | refine zs1 ?_ | refine zs2 ?_ | refine zs3 ?_ | refine zs4 ?_ | refine zs5 ?_); conv => whnf) | ((first | apply zi1 | apply zi2 | apply zi3 | apply zi4 | apply zi5) <;> intro _ <;> conv => whnf) | (refine VCall.intro (cP _) ?_; conv => whnf))
      all_goals try (exfalso; omega)
      rw [hR]
      exact VOut.same rfl
end Go.Proofs.Ytoeendggmalcpaa


/- Part 0 of the proof that PassageCalendars holds: what calendars prove is as the reference says, and the one that is returned proves the earliest days. No condition. -/
import Derived.Test.YtoeendggmalcpaaBa8
set_option linter.unusedVariables false
set_option linter.unusedSimpArgs false
open Go.Vm
open Psg
namespace Go.Proofs.Ytoeendggmalcpaa
set_option maxRecDepth 20000
set_option maxHeartbeats 4000000
def okU (N : Nt) (x : Hd) (R : Rw) (k : Nat) : Prop := atR R x.p x.s ≤ x.d ∧ OkTo N.ws R k
def okK (N : Nt) (x : Hd) (R : Rw) (p s k : Nat) : Prop := okU N x R (16 * p + s) ∧ ∀ w ∈ N.ws.take k, okW R p s w = true
theorem okK_step {N : Nt} {x : Hd} {R : Rw} {p s k : Nat} {w : Wy} (hw : N.ws[k]? = some w) : okK N x R p s (k + 1) ↔ okK N x R p s k ∧ okW R p s w = true := by
  unfold okK
  rw [List.take_add_one, hw]
  constructor
  · rintro ⟨h1, h2⟩
    exact ⟨⟨h1, fun v hv => h2 v (List.mem_append_left _ hv)⟩, h2 w (by simp)⟩
  · rintro ⟨⟨h1, h2⟩, h3⟩
    refine ⟨h1, fun v hv => ?_⟩
    rcases List.mem_append.1 hv with hv | hv
    · exact h2 v hv
    · have : v = w := by simpa using hv
      rw [this]; exact h3
theorem okK_end {N : Nt} {x : Hd} {R : Rw} {p s : Nat} (hs : s < 16) : okK N x R p s N.ws.length ↔ okU N x R (16 * p + (s + 1)) := by
  unfold okK okU
  rw [List.take_of_length_le (Nat.le_refl _)]
  constructor
  · rintro ⟨⟨h1, h2⟩, h3⟩; exact ⟨h1, h2.step hs h3⟩
  · rintro ⟨h1, h2⟩
    refine ⟨⟨h1, fun p' s' h h' => h2 p' s' (by omega) h'⟩, fun w hw => h2 p s (by omega) hs w hw⟩
theorem holds_okU {n : Nat} {N : Nt} {x : Hd} {R : Rw} : holds n N.ws x R = true ↔ okU N x R (16 * n) := by
  constructor
  · intro h
    have h' := h
    unfold holds at h'
    rw [Bool.and_eq_true, decide_eq_true_eq] at h'
    refine ⟨h'.1, fun p s h1 h2 w hw => ?_⟩
    cases hb : okW R p s w
    · have := holds_no (x := x) (n := n) (p := p) (by omega) h2 hw hb
      rw [this] at h; cases h
    · rfl
  · rintro ⟨h1, h2⟩; exact holds_yes h1 h2
theorem vc_rProves (N : Nt) (x : Hd) (R : Rw) (to : Int) (h : Hp) (hn : N.ws.length ≤ 4000000) (hR : R.length ≤ 4000000) (hR2 : ∀ r ∈ R, r.length ≤ 4000000) : VC Try.prog 54 [vN N, vHd x, intss R, I to] h (.tuple [I (prV N x R to), I (prE N x R to)]) h := by
  obtain ⟨E, hE⟩ : ∃ E, E = prE N x R to := ⟨_, rfl⟩
  obtain ⟨Z, hZ⟩ : ∃ Z, Z = prV N x R to := ⟨_, rfl⟩
  rw [← hE, ← hZ]
  unfold prV at hZ
  rw [← hE] at hZ
  unfold prE at hE
  have cH := fun h => vc_rherded N x h hn
  by_cases h0 : hrd N x = 0
  · obtain ⟨n, hN, hx⟩ := hrd_ok h0
    rw [h0] at cH
    rw [if_pos h0] at hE
    have hp := hN.p
    have hn1 := hN.n1
    have hwl := hN.len
    have hxp := hx.p
    have hxs := hx.s
    have hxd := hx.d
    unfold Pp at hxs
    rw [show N.p.toNat = n by omega] at hE
    refine VC.bodyC 1 Try.func54 rfl Try.ntmps54 Try.call54 (h.grows_refl) rfl ?_; conv => whnf
    refine VCut.at' (outer := h.lift) (marks := []) 99 [(2, intss R), (3, I to), (4, .fp (encN N)), (5, .fp (encHd x))] [] ?_ ?_
    · conv => whnf
      refine Retell.turn ⟨[], 2, [(0, encN N), (1, encHd x)], []⟩ (TurnOk.mk' _ _ [(0, encN N), (1, encHd x)] [] (OutOk.lift _) rfl (by decide) zb zf trivial rfl) zw zm
    by_cases hl : (R.length : Int) = N.p
    · -- the lengths of rows
      conv => whnf
      repeat' (first | ((first | refine zs1 ?_ | refine zs2 ?_ | refine zs3 ?_ | refine zs4 ?_ | refine zs5 ?_); conv => whnf) | ((first | apply zi1 | apply zi2 | apply zi3 | apply zi4 | apply zi5) <;> intro _ <;> conv => whnf) | (refine VCall.intro (cH _) ?_; conv => whnf))
      all_goals try contradiction
      all_goals try (exfalso; omega)
      refine VCode.lp (outer := h.lift) (marks := []) (fun k : Nat => [(2, intss R), (3, I to), (4, .fp (encN N)), (5, .fp (encHd x)), (11, I k)]) (fun _ => []) (fun k => k ≤ n ∧ ∀ j r, j < k → R[j]? = some r → r.length = 16) (fun k => n - k) 0 ⟨Nat.zero_le _, fun j r hj => absurd hj (by omega)⟩ ?_ ?_
      · conv => whnf
        refine Retell.turn ⟨[], 0, [], []⟩ (TurnOk.mk' _ _ [] [] (OutOk.lift _) rfl (by decide) zb trivial trivial rfl) zw zm
      · rintro k ⟨k1, k2⟩
        rcases Nat.lt_or_ge k n with q1 | q1
        · have hr : R[k]? = some R[k] := List.getElem?_eq_getElem (by omega)
          have hrl := hR2 _ (List.mem_of_getElem? hr)
          generalize R[k] = r at hr hrl
          by_cases h16 : r.length = 16
          · conv => whnf
            repeat' (first | ((first | refine zs1 ?_ | refine zs2 ?_ | refine zs3 ?_ | refine zs4 ?_ | refine zs5 ?_); conv => whnf) | ((first | apply zi1 | apply zi2 | apply zi3 | apply zi4 | apply zi5) <;> intro _ <;> conv => whnf) | (refine VAny.ix encL_len k rfl rfl hr ?_; conv => whnf))
            all_goals try contradiction
            all_goals try (exfalso; omega)
            refine LEnd.intro (k + 1) ⟨by omega, fun j r' hj hr' => ?_⟩ (by omega) ?_
            · rcases Nat.lt_or_ge j k with h9 | h9
              · exact k2 j r' h9 hr'
              · have : j = k := by omega
                subst this
                rw [hr] at hr'; injection hr' with hr'; subst hr'; exact h16
            conv => whnf
            refine Retell.turn ⟨[], 0, [], []⟩ (TurnOk.mk' _ _ [] [] (OutOk.lift _) rfl (by decide) zb trivial trivial rfl) zw zm
          · have hsz : ¬ szR N.p R = true := fun h => h16 ((szR_iff.1 h).2 r (List.mem_of_getElem? hr))
            rw [if_neg hsz] at hE
            subst hE
            rw [if_neg (by decide)] at hZ
            subst hZ
            conv => whnf
            repeat' (first | ((first | refine zs1 ?_ | refine zs2 ?_ | refine zs3 ?_ | refine zs4 ?_ | refine zs5 ?_); conv => whnf) | ((first | apply zi1 | apply zi2 | apply zi3 | apply zi4 | apply zi5) <;> intro _ <;> conv => whnf) | (refine VAny.ix encL_len k rfl rfl hr ?_; conv => whnf))
            all_goals try contradiction
            all_goals try (exfalso; omega)
            exact VOut.same rfl
        · obtain rfl : k = n := by omega
          have hsz : szR N.p R = true := szR_iff.2 ⟨hl, fun r hr => by
            obtain ⟨j, hj⟩ := List.mem_iff_getElem?.1 hr
            have := (List.getElem?_eq_some_iff.1 hj).1
            exact k2 j r (by omega) hj⟩
          have hS := Sz.of hp hsz
          rw [if_pos hsz] at hE
          conv => whnf
          repeat' (first | ((first | refine zs1 ?_ | refine zs2 ?_ | refine zs3 ?_ | refine zs4 ?_ | refine zs5 ?_); conv => whnf) | ((first | apply zi1 | apply zi2 | apply zi3 | apply zi4 | apply zi5) <;> intro _ <;> conv => whnf))
          all_goals try contradiction
          all_goals try (exfalso; omega)
          refine VCode.lp (outer := h.lift) (marks := []) (fun p : Nat => [(2, intss R), (3, I to), (4, .fp (encN N)), (5, .fp (encHd x)), (12, I p)]) (fun _ => []) (fun p => p ≤ k ∧ ∀ p' s' : Nat, p' < p → s' < 16 → 0 ≤ atR R p' s' ∧ atR R p' s' ≤ 1001) (fun p => k - p) 0 ⟨Nat.zero_le _, fun j r hj => absurd hj (by omega)⟩ ?_ ?_
          · conv => whnf
            refine Retell.turn ⟨[], 0, [], []⟩ (TurnOk.mk' _ _ [] [] (OutOk.lift _) rfl (by decide) zb trivial trivial rfl) zw zm
          · rintro p ⟨p1, p2⟩
            rcases Nat.lt_or_ge p k with q1 | q1
            · obtain ⟨r, r1, r2, _⟩ := atR_mem hS (p := p) (s := 0) q1 (by omega)
              have hrs : ∀ s : Nat, s < 16 → r[s]? = some (atR R p s) := fun s hs => by
                obtain ⟨r', g1, _, g3⟩ := atR_mem hS (p := p) (s := s) q1 hs
                rw [r1] at g1; injection g1 with g1; subst g1; exact g3
              conv => whnf
              repeat' (first | ((first | refine zs1 ?_ | refine zs2 ?_ | refine zs3 ?_ | refine zs4 ?_ | refine zs5 ?_); conv => whnf) | ((first | apply zi1 | apply zi2 | apply zi3 | apply zi4 | apply zi5) <;> intro _ <;> conv => whnf))
              all_goals try (exfalso; omega)
              refine VCode.lp (outer := h.lift) (marks := []) (fun s : Nat => [(2, intss R), (3, I to), (4, .fp (encN N)), (5, .fp (encHd x)), (12, I p), (13, I s)]) (fun _ => []) (fun s => s ≤ 16 ∧ ∀ s' : Nat, s' < s → 0 ≤ atR R p s' ∧ atR R p s' ≤ 1001) (fun s => 16 - s) 0 ⟨Nat.zero_le _, fun j hj => absurd hj (by omega)⟩ ?_ ?_
              · conv => whnf
                refine Retell.turn ⟨[], 0, [], []⟩ (TurnOk.mk' _ _ [] [] (OutOk.lift _) rfl (by decide) zb trivial trivial rfl) zw zm
              · rintro s ⟨s1, s2⟩
                rcases Nat.lt_or_ge s 16 with q2 | q2
                · have hd := hrs s q2
                  by_cases hb : 0 ≤ atR R p s ∧ atR R p s ≤ 1001
                  · have cB := fun h => vc_beside (atR R p s) 0 1001 h
                    rw [decide_eq_false (by omega)] at cB
                    have hnx : ∀ s' : Nat, s' < s + 1 → 0 ≤ atR R p s' ∧ atR R p s' ≤ 1001 := fun s' h' => by
                      rcases Nat.lt_or_ge s' s with h9 | h9
                      · exact s2 s' h9
                      · have : s' = s := by omega
                        subst this; exact hb
                    generalize atR R p s = d at hd cB
                    conv => whnf
                    repeat' (first | ((first | refine zs1 ?_ | refine zs2 ?_ | refine zs3 ?_ | refine zs4 ?_ | refine zs5 ?_); conv => whnf) | ((first | apply zi1 | apply zi2 | apply zi3 | apply zi4 | apply zi5) <;> intro _ <;> conv => whnf) | (refine VAny.ix encL_len p rfl rfl r1 ?_; conv => whnf) | (refine VAny.ix encI_len s rfl rfl hd ?_; conv => whnf) | (refine VCall.intro (cB _) ?_; conv => whnf))
                    all_goals try contradiction
                    all_goals try (exfalso; omega)
                    refine LEnd.intro (s + 1) ⟨by omega, hnx⟩ (by omega) ?_
                    conv => whnf
                    refine Retell.turn ⟨[], 0, [], []⟩ (TurnOk.mk' _ _ [] [] (OutOk.lift _) rfl (by decide) zb trivial trivial rfl) zw zm
                  · have hv : ¬ valR R = true := fun h => hb (atR_bd hS h q1 q2)
                    rw [if_neg hv] at hE
                    subst hE
                    rw [if_neg (by decide)] at hZ
                    subst hZ
                    have cB := fun h => vc_beside (atR R p s) 0 1001 h
                    rw [decide_eq_true (by omega)] at cB
                    generalize atR R p s = d at hd cB
                    conv => whnf
                    repeat' (first | ((first | refine zs1 ?_ | refine zs2 ?_ | refine zs3 ?_ | refine zs4 ?_ | refine zs5 ?_); conv => whnf) | ((first | apply zi1 | apply zi2 | apply zi3 | apply zi4 | apply zi5) <;> intro _ <;> conv => whnf) | (refine VAny.ix encL_len p rfl rfl r1 ?_; conv => whnf) | (refine VAny.ix encI_len s rfl rfl hd ?_; conv => whnf) | (refine VCall.intro (cB _) ?_; conv => whnf))
                    all_goals try contradiction
                    all_goals try (exfalso; omega)
                    exact VOut.same rfl
                · obtain rfl : s = 16 := by omega
                  conv => whnf
                  repeat' (first | ((first | refine zs1 ?_ | refine zs2 ?_ | refine zs3 ?_ | refine zs4 ?_ | refine zs5 ?_); conv => whnf) | ((first | apply zi1 | apply zi2 | apply zi3 | apply zi4 | apply zi5) <;> intro _ <;> conv => whnf))
                  all_goals try (exfalso; omega)
                  refine LEnd.intro (p + 1) ⟨by omega, fun p' s' h1 h2 => ?_⟩ (by omega) ?_
                  · rcases Nat.lt_or_ge p' p with h9 | h9
                    · exact p2 p' s' h9 h2
                    · have : p' = p := by omega
                      subst this; exact s2 s' h2
                  conv => whnf
                  refine Retell.turn ⟨[], 0, [], []⟩ (TurnOk.mk' _ _ [] [] (OutOk.lift _) rfl (by decide) zb trivial trivial rfl) zw zm
            · obtain rfl : p = k := by omega
              have hv : valR R = true := valR_iff.2 fun r hr d hd => by
                obtain ⟨q, hq, rfl⟩ := mem_at hS hr hd
                have h1 := hq.1
                have h2 := hq.2
                unfold Pp at h2
                have := p2 q.1.toNat q.2.toNat (by omega) (by omega)
                rw [Int.toNat_of_nonneg h1.1, Int.toNat_of_nonneg h2.1] at this
                exact this
              rw [if_pos hv] at hE
              have hbd := fun (p' s' : Nat) h1 h2 => atR_bd hS hv (p := p') (s := s') h1 h2
              have hr0 := atR_mem hS (p := x.p.toNat) (s := x.s.toNat) (by omega) (by omega)
              obtain ⟨r0, u1, u2, u3⟩ := hr0
              rw [Int.toNat_of_nonneg hxp.1, Int.toNat_of_nonneg hxs.1] at u3
              have hst0 : decide (atR R x.p x.s ≤ x.d) = true ↔ okU N x R (16 * 0) := by
                rw [decide_eq_true_eq]; exact ⟨fun h => ⟨h, OkTo.zero _ _⟩, fun h => h.1⟩
              conv => whnf
              repeat' (first | ((first | refine zs1 ?_ | refine zs2 ?_ | refine zs3 ?_ | refine zs4 ?_ | refine zs5 ?_); conv => whnf) | ((first | apply zi1 | apply zi2 | apply zi3 | apply zi4 | apply zi5) <;> intro _ <;> conv => whnf))
              all_goals try (exfalso; omega)
              refine zs6 [] ?_
              generalize hq0 : atR R x.p x.s = d0 at u3 hst0
              conv => whnf
              repeat' (first | ((first | refine zs1 ?_ | refine zs2 ?_ | refine zs3 ?_ | refine zs4 ?_ | refine zs5 ?_); conv => whnf) | ((first | apply zi1 | apply zi2 | apply zi3 | apply zi4 | apply zi5) <;> intro _ <;> conv => whnf) | (refine VAny.ix encL_len x.p.toNat (by omega) rfl u1 ?_; conv => whnf) | (refine VAny.ix encI_len x.s.toNat (by omega) (by omega) u3 ?_; conv => whnf))
              all_goals try (exfalso; omega)
              refine VCode.lp (outer := h.lift) (marks := []) (fun y : Nat × Bool => [(2, intss R), (3, I to), (4, .fp (encN N)), (5, .fp (encHd x)), (14, B y.2), (15, I y.1)]) (fun _ => []) (fun y => y.1 ≤ p ∧ (y.2 = true ↔ okU N x R (16 * y.1))) (fun y => p - y.1) (0, decide (d0 ≤ x.d)) ⟨Nat.zero_le _, hst0⟩ ?_ ?_
              · conv => whnf
                refine Retell.turn ⟨[], 0, [], []⟩ (TurnOk.mk' _ _ [] [] (OutOk.lift _) rfl (by decide) zb trivial trivial rfl) zw zm
              · clear hst0 hq0 u1 u2 u3
                rintro ⟨a, b⟩ ⟨a1, a2⟩
                dsimp only at a1 a2
                rcases Nat.lt_or_ge a p with q2 | q2
                · obtain ⟨r, r1, r2, _⟩ := atR_mem hS (p := a) (s := 0) q2 (by omega)
                  have hrs : ∀ s : Nat, s < 16 → r[s]? = some (atR R a s) := fun s hs => by
                    obtain ⟨r', g1, _, g3⟩ := atR_mem hS (p := a) (s := s) q2 hs
                    rw [r1] at g1; injection g1 with g1; subst g1; exact g3
                  conv => whnf
                  repeat' (first | ((first | refine zs1 ?_ | refine zs2 ?_ | refine zs3 ?_ | refine zs4 ?_ | refine zs5 ?_); conv => whnf) | ((first | apply zi1 | apply zi2 | apply zi3 | apply zi4 | apply zi5) <;> intro _ <;> conv => whnf))
                  all_goals try (exfalso; omega)
                  refine VCode.lp (outer := h.lift) (marks := []) (fun y : Nat × Bool => [(2, intss R), (3, I to), (4, .fp (encN N)), (5, .fp (encHd x)), (14, B y.2), (15, I a), (16, I y.1)]) (fun _ => []) (fun y => y.1 ≤ 16 ∧ (y.2 = true ↔ okU N x R (16 * a + y.1))) (fun y => 16 - y.1) (0, b) ⟨Nat.zero_le _, a2⟩ ?_ ?_
                  · conv => whnf
                    refine Retell.turn ⟨[], 0, [], []⟩ (TurnOk.mk' _ _ [] [] (OutOk.lift _) rfl (by decide) zb trivial trivial rfl) zw zm
                  · clear a2
                    rintro ⟨s, b2⟩ ⟨s1, s2⟩
                    dsimp only at s1 s2
                    rcases Nat.lt_or_ge s 16 with q3 | q3
                    · have hd := hrs s q3
                      have hdb := hbd a s q2 q3
                      have hokg := fun w => okW_gn (R := R) (p := a) (s := s) (w := w)
                      have hk0 : b2 = true ↔ okK N x R a s 0 := by
                        rw [s2]; unfold okK; rw [List.take_zero]; simp
                      have hkE := okK_end (N := N) (x := x) (R := R) (p := a) q3
                      have hkS := fun {k : Nat} {w : Wy} (hw : N.ws[k]? = some w) => okK_step (x := x) (R := R) (p := a) (s := s) hw
                      generalize atR R a s = d at hd hdb hokg
                      conv => whnf
                      repeat' (first | ((first | refine zs1 ?_ | refine zs2 ?_ | refine zs3 ?_ | refine zs4 ?_ | refine zs5 ?_); conv => whnf) | ((first | apply zi1 | apply zi2 | apply zi3 | apply zi4 | apply zi5) <;> intro _ <;> conv => whnf))
                      all_goals try (exfalso; omega)
                      refine VCode.lp (outer := h.lift) (marks := []) (fun y : Nat × Bool => [(2, intss R), (3, I to), (4, .fp (encN N)), (5, .fp (encHd x)), (14, B y.2), (15, I a), (16, I s), (17, I y.1)]) (fun _ => []) (fun y => y.1 ≤ N.ws.length ∧ (y.2 = true ↔ okK N x R a s y.1)) (fun y => N.ws.length - y.1) (0, b2) ⟨Nat.zero_le _, hk0⟩ ?_ ?_
                      · conv => whnf
                        refine Retell.turn ⟨[], 0, [], []⟩ (TurnOk.mk' _ _ [] [] (OutOk.lift _) rfl (by decide) zb trivial trivial rfl) zw zm
                      · clear hk0 s2
                        rintro ⟨k, b3⟩ ⟨k1, k2⟩
                        dsimp only at k1 k2
                        rcases Nat.lt_or_ge k N.ws.length with q4 | q4
                        · have hw : N.ws[k]? = some N.ws[k] := List.getElem?_eq_getElem q4
                          have hwo := hN.ws N.ws[k] (List.getElem_mem q4)
                          have hok := hokg N.ws[k]
                          have hk2 := hkS hw
                          generalize N.ws[k] = w at *
                          rw [← k2] at hk2
                          have cG := fun h => vc_rgone w ⟨a, d, s⟩ h hwo (by dsimp only; omega) ⟨by dsimp only; omega, by dsimp only; omega⟩
                          have hgo : gnB w ⟨a, d, s⟩ = true → InR p ((gnV w ⟨a, d, s⟩).p, (gnV w ⟨a, d, s⟩).s) := fun hg => by
                            have h1 : gone w ⟨a, d, s⟩ = some (gnV w ⟨a, d, s⟩) := by rw [gone_eq, hg]; rfl
                            have h2 := gone_ok hwo ⟨by dsimp only; omega, by dsimp only; omega⟩ h1
                            exact ⟨h2.2.2.1, h2.2.2.2.2.2.2⟩
                          have hv0 : gnB w ⟨a, d, s⟩ = true → rgV w ⟨a, d, s⟩ = gnV w ⟨a, d, s⟩ := fun hg => rgV_gn hg
                          cases hg : gnB w ⟨a, d, s⟩
                          · rw [hg] at cG hok
                            have hnx : b3 = true ↔ okK N x R a s (k + 1) := by rw [hk2, hok]; simp
                            generalize rgV w ⟨a, d, s⟩ = y at cG
                            conv => whnf
                            repeat' (first | ((first | refine zs1 ?_ | refine zs2 ?_ | refine zs3 ?_ | refine zs4 ?_ | refine zs5 ?_); conv => whnf) | ((first | apply zi1 | apply zi2 | apply zi3 | apply zi4 | apply zi5) <;> intro _ <;> conv => whnf))
                            all_goals try (exfalso; omega)
                            refine zs6 [] ?_
                            conv => whnf
                            repeat' (first | ((first | refine zs1 ?_ | refine zs2 ?_ | refine zs3 ?_ | refine zs4 ?_ | refine zs5 ?_); conv => whnf) | ((first | apply zi1 | apply zi2 | apply zi3 | apply zi4 | apply zi5) <;> intro _ <;> conv => whnf) | (refine VAny.ix encWy_len k rfl rfl hw ?_; conv => whnf) | (refine VAny.ix encL_len a rfl rfl r1 ?_; conv => whnf) | (refine VAny.ix encI_len s rfl (by omega) hd ?_; conv => whnf) | (refine VCall.intro (cG _) ?_; conv => whnf))
                            refine zs6 [] ?_
                            conv => whnf
                            repeat' (first | ((first | refine zs1 ?_ | refine zs2 ?_ | refine zs3 ?_ | refine zs4 ?_ | refine zs5 ?_); conv => whnf) | ((first | apply zi1 | apply zi2 | apply zi3 | apply zi4 | apply zi5) <;> intro _ <;> conv => whnf))
                            all_goals try contradiction
                            all_goals try (exfalso; omega)
                            refine LEnd.intro (k + 1, b3) ⟨by dsimp only; omega, hnx⟩ (by dsimp only; omega) ?_
                            conv => whnf
                            refine Retell.turn ⟨[], 1, [], []⟩ (TurnOk.mk' _ _ [] [] (OutOk.lift _) rfl (by decide) zb trivial trivial rfl) zw zm
                          · have hy := hgo hg
                            rw [hg, hv0 hg] at cG
                            rw [hg] at hok
                            clear hgo hv0
                            generalize gnV w ⟨a, d, s⟩ = y at cG hok hy
                            have hyp := hy.1
                            have hys := hy.2
                            unfold Pp at hys
                            dsimp only at hyp hys
                            obtain ⟨r3, g1, g2, g3⟩ := atR_mem hS (p := y.p.toNat) (s := y.s.toNat) (by omega) (by omega)
                            rw [Int.toNat_of_nonneg hyp.1, Int.toNat_of_nonneg hys.1] at g3
                            generalize atR R y.p y.s = e at g3 hok
                            by_cases hle : e ≤ y.d
                            · rw [decide_eq_true hle] at hok
                              have hnx : b3 = true ↔ okK N x R a s (k + 1) := by rw [hk2, hok]; simp
                              conv => whnf
                              repeat' (first | ((first | refine zs1 ?_ | refine zs2 ?_ | refine zs3 ?_ | refine zs4 ?_ | refine zs5 ?_); conv => whnf) | ((first | apply zi1 | apply zi2 | apply zi3 | apply zi4 | apply zi5) <;> intro _ <;> conv => whnf))
                              all_goals try (exfalso; omega)
                              refine zs6 [] ?_
                              conv => whnf
                              repeat' (first | ((first | refine zs1 ?_ | refine zs2 ?_ | refine zs3 ?_ | refine zs4 ?_ | refine zs5 ?_); conv => whnf) | ((first | apply zi1 | apply zi2 | apply zi3 | apply zi4 | apply zi5) <;> intro _ <;> conv => whnf) | (refine VAny.ix encWy_len k rfl rfl hw ?_; conv => whnf) | (refine VAny.ix encL_len a rfl rfl r1 ?_; conv => whnf) | (refine VAny.ix encI_len s rfl (by omega) hd ?_; conv => whnf) | (refine VCall.intro (cG _) ?_; conv => whnf))
                              refine zs6 [] ?_
                              conv => whnf
                              repeat' (first | ((first | refine zs1 ?_ | refine zs2 ?_ | refine zs3 ?_ | refine zs4 ?_ | refine zs5 ?_); conv => whnf) | ((first | apply zi1 | apply zi2 | apply zi3 | apply zi4 | apply zi5) <;> intro _ <;> conv => whnf) | (refine VAny.ix encL_len y.p.toNat (by omega) rfl g1 ?_; conv => whnf) | (refine VAny.ix encI_len y.s.toNat (by omega) (by omega) g3 ?_; conv => whnf))
                              all_goals try contradiction
                              all_goals try (exfalso; omega)
                              refine LEnd.intro (k + 1, b3) ⟨by dsimp only; omega, hnx⟩ (by dsimp only; omega) ?_
                              conv => whnf
                              refine Retell.turn ⟨[], 1, [], []⟩ (TurnOk.mk' _ _ [] [] (OutOk.lift _) rfl (by decide) zb trivial trivial rfl) zw zm
                            · rw [decide_eq_false hle] at hok
                              have hnx : false = true ↔ okK N x R a s (k + 1) := by rw [hk2, hok]; simp
                              conv => whnf
                              repeat' (first | ((first | refine zs1 ?_ | refine zs2 ?_ | refine zs3 ?_ | refine zs4 ?_ | refine zs5 ?_); conv => whnf) | ((first | apply zi1 | apply zi2 | apply zi3 | apply zi4 | apply zi5) <;> intro _ <;> conv => whnf))
                              all_goals try (exfalso; omega)
                              refine zs6 [] ?_
                              conv => whnf
                              repeat' (first | ((first | refine zs1 ?_ | refine zs2 ?_ | refine zs3 ?_ | refine zs4 ?_ | refine zs5 ?_); conv => whnf) | ((first | apply zi1 | apply zi2 | apply zi3 | apply zi4 | apply zi5) <;> intro _ <;> conv => whnf) | (refine VAny.ix encWy_len k rfl rfl hw ?_; conv => whnf) | (refine VAny.ix encL_len a rfl rfl r1 ?_; conv => whnf) | (refine VAny.ix encI_len s rfl (by omega) hd ?_; conv => whnf) | (refine VCall.intro (cG _) ?_; conv => whnf))
                              refine zs6 [] ?_
                              conv => whnf
                              repeat' (first | ((first | refine zs1 ?_ | refine zs2 ?_ | refine zs3 ?_ | refine zs4 ?_ | refine zs5 ?_); conv => whnf) | ((first | apply zi1 | apply zi2 | apply zi3 | apply zi4 | apply zi5) <;> intro _ <;> conv => whnf) | (refine VAny.ix encL_len y.p.toNat (by omega) rfl g1 ?_; conv => whnf) | (refine VAny.ix encI_len y.s.toNat (by omega) (by omega) g3 ?_; conv => whnf))
                              all_goals try contradiction
                              all_goals try (exfalso; omega)
                              refine LEnd.intro (k + 1, false) ⟨by dsimp only; omega, hnx⟩ (by dsimp only; omega) ?_
                              conv => whnf
                              refine Retell.turn ⟨[], 1, [], []⟩ (TurnOk.mk' _ _ [] [] (OutOk.lift _) rfl (by decide) zb trivial trivial rfl) zw zm
                        · obtain rfl : k = N.ws.length := by omega
                          rw [hkE] at k2
                          conv => whnf
                          repeat' (first | ((first | refine zs1 ?_ | refine zs2 ?_ | refine zs3 ?_ | refine zs4 ?_ | refine zs5 ?_); conv => whnf) | ((first | apply zi1 | apply zi2 | apply zi3 | apply zi4 | apply zi5) <;> intro _ <;> conv => whnf))
                          all_goals try (exfalso; omega)
                          refine LEnd.intro (s + 1, b3) ⟨by dsimp only; omega, k2⟩ (by dsimp only; omega) ?_
                          conv => whnf
                          refine Retell.turn ⟨[], 0, [], []⟩ (TurnOk.mk' _ _ [] [] (OutOk.lift _) rfl (by decide) zb trivial trivial rfl) zw zm
                    · obtain rfl : s = 16 := by omega
                      conv => whnf
                      repeat' (first | ((first | refine zs1 ?_ | refine zs2 ?_ | refine zs3 ?_ | refine zs4 ?_ | refine zs5 ?_); conv => whnf) | ((first | apply zi1 | apply zi2 | apply zi3 | apply zi4 | apply zi5) <;> intro _ <;> conv => whnf))
                      all_goals try (exfalso; omega)
                      refine LEnd.intro (a + 1, b2) ⟨by dsimp only; omega, by dsimp only; rw [s2, show 16 * (a + 1) = 16 * a + 16 by omega]⟩ (by dsimp only; omega) ?_
                      conv => whnf
                      refine Retell.turn ⟨[], 0, [], []⟩ (TurnOk.mk' _ _ [] [] (OutOk.lift _) rfl (by decide) zb trivial trivial rfl) zw zm
                · obtain rfl : a = p := by omega
                  rw [← holds_okU] at a2
                  cases b with
                  | false =>
                    have hno : ¬ holds a N.ws x R = true := fun h => by have := a2.2 h; cases this
                    rw [if_neg hno] at hE
                    subst hE
                    rw [if_neg (by decide)] at hZ
                    subst hZ
                    conv => whnf
                    repeat' (first | ((first | refine zs1 ?_ | refine zs2 ?_ | refine zs3 ?_ | refine zs4 ?_ | refine zs5 ?_); conv => whnf) | ((first | apply zi1 | apply zi2 | apply zi3 | apply zi4 | apply zi5) <;> intro _ <;> conv => whnf))
                    all_goals try (exfalso; omega)
                    exact VOut.same rfl
                  | true =>
                    rw [if_pos (a2.1 rfl)] at hE
                    have cB := fun h => vc_beside to 0 (N.p - 1) h
                    by_cases ht : 0 ≤ to ∧ to ≤ N.p - 1
                    · rw [if_pos ht] at hE
                      subst hE
                      rw [if_pos rfl] at hZ
                      rw [decide_eq_false (by omega)] at cB
                      obtain ⟨t, rfl⟩ : ∃ t : Nat, to = t := ⟨to.toNat, by omega⟩
                      obtain ⟨r, r1, r2, _⟩ := atR_mem hS (p := t) (s := 0) (by omega) (by omega)
                      rw [dayOf_row r1] at hZ
                      have cM := fun h => vc_first r h (by omega) (by omega)
                      rw [show r.length - 1 = 15 by omega, ← hZ] at cM
                      conv => whnf
                      repeat' (first | ((first | refine zs1 ?_ | refine zs2 ?_ | refine zs3 ?_ | refine zs4 ?_ | refine zs5 ?_); conv => whnf) | ((first | apply zi1 | apply zi2 | apply zi3 | apply zi4 | apply zi5) <;> intro _ <;> conv => whnf) | (refine VCall.intro (cB _) ?_; conv => whnf) | (refine VAny.ix encL_len t rfl rfl r1 ?_; conv => whnf) | (refine VCall.intro (cM _) ?_; conv => whnf))
                      all_goals try contradiction
                      all_goals try (exfalso; omega)
                      exact VOut.same rfl
                    · rw [if_neg ht] at hE
                      subst hE
                      rw [if_neg (by decide)] at hZ
                      subst hZ
                      rw [decide_eq_true (by omega)] at cB
                      conv => whnf
                      repeat' (first | ((first | refine zs1 ?_ | refine zs2 ?_ | refine zs3 ?_ | refine zs4 ?_ | refine zs5 ?_); conv => whnf) | ((first | apply zi1 | apply zi2 | apply zi3 | apply zi4 | apply zi5) <;> intro _ <;> conv => whnf) | (refine VCall.intro (cB _) ?_; conv => whnf))
                      all_goals try contradiction
                      all_goals try (exfalso; omega)
                      exact VOut.same rfl
    · have hsz : ¬ szR N.p R = true := fun h => hl (szR_iff.1 h).1
      rw [if_neg hsz] at hE
      subst hE
      rw [if_neg (by decide)] at hZ
      subst hZ
      conv => whnf
      repeat' (first | ((first | refine zs1 ?_ | refine zs2 ?_ | refine zs3 ?_ | refine zs4 ?_ | refine zs5 ?_); conv => whnf) | ((first | apply zi1 | apply zi2 | apply zi3 | apply zi4 | apply zi5) <;> intro _ <;> conv => whnf) | (refine VCall.intro (cH _) ?_; conv => whnf))
      all_goals try contradiction
      all_goals try (exfalso; omega)
      exact VOut.same rfl
  · rw [if_neg h0] at hE
    rw [← hE] at cH h0
    rw [if_neg h0] at hZ
    subst hZ
    refine VC.body Try.func54 rfl Try.ntmps54 Try.call54 (h.grows_refl) rfl ?_; conv => whnf
    repeat' (first | ((first | refine zs1 ?_ | refine zs2 ?_ | refine zs3 ?_ | refine zs4 ?_ | refine zs5 ?_ | refine zs6 [] ?_); conv => whnf) | ((first | apply zi1 | apply zi2 | apply zi3 | apply zi4 | apply zi5) <;> intro _ <;> conv => whnf) | (refine VCall.intro (cH _) ?_; conv => whnf))
    · exact VOut.same rfl
    all_goals (rename_i hh; exact absurd (by omega) h0)
end Go.Proofs.Ytoeendggmalcpaa

open Go.Vm
open Psg
namespace Go.Proofs.Ytoeendggmalcpaa
set_option maxRecDepth 20000
set_option maxHeartbeats 4000000
theorem vc_longL (N : Nt) (T : List (List Int)) (h : Hp) (hT : T.length ≤ 9223372036854775807) : VC Try.prog 28 [vN N, intss T] h (B (lngB N T)) h := by
  obtain ⟨E, hE⟩ : ∃ E, E = lngB N T := ⟨_, rfl⟩
  rw [← hE]
  unfold lngB at hE
  by_cases h1 : 28 < N.ws.length
  · rw [decide_eq_true h1, Bool.true_or] at hE
    rw [hE]
    refine VC.body Try.func28 rfl Try.ntmps28 Try.call28 (h.grows_refl) rfl ?_; conv => whnf
    repeat' (first | ((first | refine zs1 ?_ | refine zs2 ?_ | refine zs3 ?_ | refine zs4 ?_ | refine zs5 ?_); conv => whnf) | ((first | apply zi1 | apply zi2 | apply zi3 | apply zi4 | apply zi5) <;> intro _ <;> conv => whnf))
    all_goals try (exfalso; omega)
    exact VOut.same rfl
  · rw [decide_eq_false h1, Bool.false_or] at hE
    refine VC.body Try.func28 rfl Try.ntmps28 Try.call28 (h.grows_refl) rfl ?_; conv => whnf
    repeat' (first | ((first | refine zs1 ?_ | refine zs2 ?_ | refine zs3 ?_ | refine zs4 ?_ | refine zs5 ?_); conv => whnf) | ((first | apply zi1 | apply zi2 | apply zi3 | apply zi4 | apply zi5) <;> intro _ <;> conv => whnf))
    all_goals try (exfalso; omega)
    refine VCode.lp (outer := h.lift) (marks := []) (fun k : Nat => [(11, intss T), (12, I T.length), (13, I k)]) (fun _ => []) (fun k => k ≤ T.length ∧ E = (T.drop k).any fun l => decide (30 < l.length)) (fun k => T.length - k) 0 ⟨Nat.zero_le _, hE⟩ ?_ ?_
    · conv => whnf
      refine Retell.turn ⟨[], 1, [], []⟩ (TurnOk.mk' _ _ [] [] (OutOk.lift _) rfl (by decide) zb trivial trivial rfl) zw zm
    · rintro k ⟨k1, k2⟩
      rcases Nat.lt_or_ge k T.length with h3 | h3
      · have hw : T[k]? = some T[k] := List.getElem?_eq_getElem h3
        rw [any_at _ hw] at k2
        generalize T[k] = w at hw k2
        by_cases h5 : 30 < w.length
        · rw [decide_eq_true h5, Bool.true_or] at k2
          rw [k2]
          conv => whnf
          repeat' (first | ((first | refine zs1 ?_ | refine zs2 ?_ | refine zs3 ?_ | refine zs4 ?_ | refine zs5 ?_); conv => whnf) | ((first | apply zi1 | apply zi2 | apply zi3 | apply zi4 | apply zi5) <;> intro _ <;> conv => whnf) | (refine VAny.ix encL_len k rfl rfl hw ?_; conv => whnf))
          all_goals try (exfalso; omega)
          exact VOut.same rfl
        · rw [decide_eq_false h5, Bool.false_or] at k2
          conv => whnf
          repeat' (first | ((first | refine zs1 ?_ | refine zs2 ?_ | refine zs3 ?_ | refine zs4 ?_ | refine zs5 ?_); conv => whnf) | ((first | apply zi1 | apply zi2 | apply zi3 | apply zi4 | apply zi5) <;> intro _ <;> conv => whnf) | (refine VAny.ix encL_len k rfl rfl hw ?_; conv => whnf))
          all_goals try (exfalso; omega)
          refine LEnd.intro (k + 1) ⟨by omega, k2⟩ (by omega) ?_
          conv => whnf
          refine Retell.turn ⟨[], 0, [], []⟩ (TurnOk.mk' _ _ [] [] (OutOk.lift _) rfl (by decide) zb trivial trivial rfl) zw zm
      · rw [List.drop_of_length_le h3, List.any_nil] at k2
        rw [k2]
        conv => whnf
        repeat' (first | ((first | refine zs1 ?_ | refine zs2 ?_ | refine zs3 ?_ | refine zs4 ?_ | refine zs5 ?_); conv => whnf) | ((first | apply zi1 | apply zi2 | apply zi3 | apply zi4 | apply zi5) <;> intro _ <;> conv => whnf))
        all_goals try (exfalso; omega)
        exact VOut.same rfl
/-! ### The calendar that is returned -/
structure ClO (n : Nat) (N : Nt) (x : Hd) : Prop where
  sz : Sz n (clV N x)
  val : valR (clV N x) = true
  hol : holds n N.ws x (clV N x) = true
  day : ∀ p : Nat, p < n → dayOf (atR (clV N x)) p = dayOf (atD (bgn N.ws x).D) p
theorem cl_ok {n : Nat} {N : Nt} {x : Hd} (hN : NOk n N) (hx : HOk n x) : ClO n N x := by
  have hL := bgn_lst hN.n1.2 hN.ws hx
  have hl := bgn_len hN hx
  have e : clV N x = calR (bgn N.ws x).D n := by unfold clV; rw [if_pos (hN.hrd hx), nok_nat hN]
  rw [show ClO n N x ↔ ClO n N x from Iff.rfl]
  have ha : ∀ p s : Int, (0 ≤ p ∧ p < n) → Pp s → atR (clV N x) p s = atD (bgn N.ws x).D p s := fun p s hp hs => by rw [e]; exact cal_at hp hs
  refine ⟨by rw [e]; exact cal_sz hl hN.n1.2, by rw [e]; exact cal_val hl hN.n1.2 hL.cap, ?_, fun p hp => ?_⟩
  · rw [holds_iff]
    exact hL.hol.congr hN.ws hx ha
  · exact dayOf_congr fun s hs => ha p s ⟨by omega, by omega⟩ hs
theorem cl_prv {n : Nat} {N : Nt} {x : Hd} (hN : NOk n N) (hx : HOk n x) {p : Nat} (hp : p < n) : prE N x (clV N x) p = 0 ∧ prV N x (clV N x) p = dayOf (atD (bgn N.ws x).D) p := by
  have h := cl_ok hN hx
  have hpn := hN.p
  have h1 : prE N x (clV N x) p = 0 := by
    unfold prE
    rw [if_pos (hN.hrd hx), if_pos (szR_iff.2 ⟨by rw [h.sz.len, hpn], h.sz.row⟩), if_pos h.val, nok_nat hN, if_pos h.hol, if_pos (by omega)]
  refine ⟨h1, ?_⟩
  unfold prV
  rw [if_pos h1, h.day p hp]
def dyU (N : Nt) (x : Hd) (p : Nat) : Int := if dyP N x p = -1 then 1001 else dyP N x p
theorem dyU_eq {n : Nat} {N : Nt} {x : Hd} (hN : NOk n N) (hx : HOk n x) {p : Nat} (hp : p < n) : dayOf (atD (bgn N.ws x).D) p = dyU N x p := by
  have hc := dayOf_cap (bgn_lst hN.n1.2 hN.ws hx) (p := (p : Int)) (by omega)
  unfold dyU dyP tell
  split <;> split <;> omega
theorem vc_Calendars (N : Nt) (x : Hd) (T : List (List Int)) (hT : T.length ≤ 9223372036854775807) (to : Int) (h : Hp) : VC Try.prog 9 [vN N, vHd x, intss T, I to] h (B true) h := by
  have cL := fun h => vc_longL N T h hT
  have hlg : lngB N T = false → N.ws.length ≤ 28 ∧ ∀ r ∈ T, r.length ≤ 30 := by
    unfold lngB
    rw [Bool.or_eq_false_iff, decide_eq_false_iff_not, List.any_eq_false]
    rintro ⟨h1, h2⟩
    refine ⟨by omega, fun r hr => ?_⟩
    have := h2 r hr
    rw [decide_eq_true_eq] at this
    omega
  generalize lngB N T = lb at cL hlg
  refine VC.bodyC 1 Try.func9 rfl Try.ntmps9 Try.call9 (h.grows_refl) rfl ?_; conv => whnf
  refine VCut.at' (outer := h.lift) (marks := []) 1 [(2, intss T), (3, I to), (4, .fp (encN N)), (5, .fp (encHd x))] [] ?_ ?_
  · conv => whnf
    refine Retell.turn ⟨[], 2, [(0, encN N), (1, encHd x)], []⟩ (TurnOk.mk' _ _ [(0, encN N), (1, encHd x)] [] (OutOk.lift _) rfl (by decide) zb zf trivial rfl) zw zm
  by_cases hb : lb = true ∨ 12 < T.length
  · cases lb with
    | true =>
      conv => whnf
      repeat' (first | ((first | refine zs1 ?_ | refine zs2 ?_ | refine zs3 ?_ | refine zs4 ?_ | refine zs5 ?_); conv => whnf) | ((first | apply zi1 | apply zi2 | apply zi3 | apply zi4 | apply zi5) <;> intro _ <;> conv => whnf) | (refine VCall.intro (cL _) ?_; conv => whnf) | (refine VCall.intro (vc_awake _) ?_; conv => whnf))
      all_goals try (exfalso; omega)
      exact VOut.same rfl
    | false =>
      have hb2 : 12 < T.length := by rcases hb with h | h; cases h; exact h
      conv => whnf
      repeat' (first | ((first | refine zs1 ?_ | refine zs2 ?_ | refine zs3 ?_ | refine zs4 ?_ | refine zs5 ?_); conv => whnf) | ((first | apply zi1 | apply zi2 | apply zi3 | apply zi4 | apply zi5) <;> intro _ <;> conv => whnf) | (refine VCall.intro (cL _) ?_; conv => whnf) | (refine VCall.intro (vc_awake _) ?_; conv => whnf))
      all_goals try (exfalso; omega)
      exact VOut.same rfl
  · have hl14 : T.length ≤ 12 := by omega
    have hlb : lb = false := by cases lb; rfl; exact absurd (.inl rfl) hb
    subst hlb
    obtain ⟨n28, r30⟩ := hlg rfl
    have r30' : ∀ r ∈ T, r.length ≤ 4000000 := fun r hr => by have := r30 r hr; omega
    have c1 := fun h => vc_CloneNet N h (by omega)
    have c2 := fun h => vc_kcloneA T h (by omega) r30'
    have c3 := fun h => vc_Net N h (by omega)
    have c4 := fun h => vc_Proves N x T to h (by omega) (by omega)
    have c5 := fun h => vc_rProves N x T to h (by omega) (by omega) r30'
    have c6 := fun h => vc_Calendar N x h (by omega)
    have c7 := fun h => vc_rEarliest N x h (by omega)
    have c8 := fun h => vc_equal N N h (by omega) (by omega)
    have c9 := fun h => vc_kequalA T T h (by omega) (by omega) r30' r30'
    rw [decide_eq_true rfl] at c8 c9
    generalize prV N x T to = V1 at c4 c5
    generalize prE N x T to = E1 at c4 c5
    conv => whnf
    repeat' (first | ((first | refine zs1 ?_ | refine zs2 ?_ | refine zs3 ?_ | refine zs4 ?_ | refine zs5 ?_); conv => whnf) | ((first | apply zi1 | apply zi2 | apply zi3 | apply zi4 | apply zi5) <;> intro _ <;> conv => whnf) | (refine VCall.intro (cL _) ?_; conv => whnf))
    all_goals try (exfalso; omega)
    refine VCut.at' (outer := h.lift) (marks := []) 1 [(2, intss T), (3, I to), (4, .fp (encN N)), (5, .fp (encHd x))] [] ?_ ?_
    · conv => whnf
      refine Retell.turn ⟨[], 0, [], []⟩ (TurnOk.mk' _ _ [] [] (OutOk.lift _) rfl (by decide) zb trivial trivial rfl) zw zm
    conv => whnf
    refine zs6 [(1, 4), (3, 4), (1, 6), (3, 6), (5, 6), (6, 10), (6, 12)] ?_
    conv => whnf
    repeat' (first | ((first | refine zs1 ?_ | refine zs2 ?_ | refine zs3 ?_ | refine zs4 ?_ | refine zs5 ?_); conv => whnf) | ((first | apply zi1 | apply zi2 | apply zi3 | apply zi4 | apply zi5) <;> intro _ <;> conv => whnf) | (refine VCall.intro (c1 _) ?_; conv => whnf) | (refine VCall.intro (c2 _) ?_; conv => whnf) | (refine VCall.intro (c3 _) ?_; conv => whnf))
    refine VCut.at' (outer := h.lift) (marks := []) 3 [(2, intss T), (3, I to), (4, .fp (encN N)), (5, .fp (encHd x)), (9, .fp (encN N)), (10, intss T), (11, .fp (encN N)), (12, .fp (encHd x))] [] ?_ ?_
    · conv => whnf
      refine Retell.turn ⟨[], 3, [(0, encN N), (1, encN N), (2, encHd x)], []⟩ (TurnOk.mk' _ _ [(0, encN N), (1, encN N), (2, encHd x)] [] (OutOk.lift _) rfl (by decide) zb zf trivial rfl) zw zm
    conv => whnf
    repeat' (first | ((first | refine zs1 ?_ | refine zs2 ?_ | refine zs3 ?_ | refine zs4 ?_ | refine zs5 ?_); conv => whnf) | ((first | apply zi1 | apply zi2 | apply zi3 | apply zi4 | apply zi5) <;> intro _ <;> conv => whnf) | (refine VCall.intro (c4 _) ?_; conv => whnf) | (refine VCall.intro (c5 _) ?_; conv => whnf))
    all_goals try contradiction
    all_goals try (exfalso; omega)
    refine VCut.at' (outer := h.lift) (marks := []) 99 [(2, intss T), (3, I to), (4, .fp (encN N)), (5, .fp (encHd x)), (9, .fp (encN N)), (10, intss T), (11, .fp (encN N)), (12, .fp (encHd x))] [] ?_ ?_
    · conv => whnf
      refine Retell.turn ⟨[], 0, [], []⟩ (TurnOk.mk' _ _ [] [] (OutOk.lift _) rfl (by decide) zb trivial trivial rfl) zw zm
    by_cases h0 : hrd N x = 0
    · obtain ⟨n, hN, hx⟩ := hrd_ok h0
      have hpn := hN.p
      have hn1 := hN.n1
      have hcl := cl_ok hN hx
      have hcs := hcl.sz.len
      have hcr := hcl.sz.row
      have hpr := fun {p : Nat} (hp : p < n) => cl_prv hN hx hp
      have hdy := fun {p : Nat} (hp : p < n) => dyU_eq hN hx hp
      have c10 := fun to h => vc_rProves N x (clV N x) to h (by omega) (by omega) (fun r hr => by have := hcr r hr; omega)
      rw [h0] at c6 c7
      unfold eaL at c7
      rw [if_pos h0, nok_nat hN] at c7
      have hF : ∀ k, k < n → ((List.range n).map (dyP N x))[k]? = some (dyP N x k) := fun k hk => by rw [List.getElem?_map, List.getElem?_range hk]; rfl
      have hFl : ((List.range n).map (dyP N x)).length = n := by simp
      generalize (List.range n).map (dyP N x) = L at c7 hF hFl
      clear hcl hcr
      conv => whnf
      repeat' (first | ((first | refine zs1 ?_ | refine zs2 ?_ | refine zs3 ?_ | refine zs4 ?_ | refine zs5 ?_); conv => whnf) | ((first | apply zi1 | apply zi2 | apply zi3 | apply zi4 | apply zi5) <;> intro _ <;> conv => whnf) | (refine VCall.intro (c6 _) ?_; conv => whnf) | (refine VCall.intro (c7 _) ?_; conv => whnf))
      all_goals try contradiction
      all_goals try (exfalso; omega)
      refine VCode.lp (outer := h.lift) (marks := []) (fun k : Nat => [(2, intss T), (4, .fp (encN N)), (9, .fp (encN N)), (10, intss T), (11, .fp (encN N)), (12, .fp (encHd x)), (17, intss (clV N x)), (87, ints L), (88, I L.length), (89, I k)]) (fun _ => []) (fun k => k ≤ n) (fun k => n - k) 0 (Nat.zero_le _) ?_ ?_
      · conv => whnf
        refine Retell.turn ⟨[], 0, [], []⟩ (TurnOk.mk' _ _ [] [] (OutOk.lift _) rfl (by decide) zb trivial trivial rfl) zw zm
      · intro k hk
        rcases Nat.lt_or_ge k n with h3 | h3
        · have hL := hF k h3
          obtain ⟨e1, e2⟩ := hpr h3
          have e3 := hdy h3
          have c11 := fun h => c10 k h
          rw [e1, e2, e3] at c11
          unfold dyU at c11
          clear e1 e2 e3 hdy hpr hF c10
          generalize dyP N x k = d at hL c11
          by_cases hd : d = -1
          · rw [if_pos hd] at c11
            conv => whnf
            repeat' (first | ((first | refine zs1 ?_ | refine zs2 ?_ | refine zs3 ?_ | refine zs4 ?_ | refine zs5 ?_); conv => whnf) | ((first | apply zi1 | apply zi2 | apply zi3 | apply zi4 | apply zi5) <;> intro _ <;> conv => whnf) | (refine VAny.ix encI_len k rfl rfl hL ?_; conv => whnf) | (refine VCall.intro (c11 _) ?_; conv => whnf))
            all_goals try contradiction
            all_goals try (exfalso; omega)
            refine LEnd.intro (k + 1) (by omega) (by omega) ?_
            conv => whnf
            refine Retell.turn ⟨[], 0, [], []⟩ (TurnOk.mk' _ _ [] [] (OutOk.lift _) rfl (by decide) zb trivial trivial rfl) zw zm
          · rw [if_neg hd] at c11
            conv => whnf
            repeat' (first | ((first | refine zs1 ?_ | refine zs2 ?_ | refine zs3 ?_ | refine zs4 ?_ | refine zs5 ?_); conv => whnf) | ((first | apply zi1 | apply zi2 | apply zi3 | apply zi4 | apply zi5) <;> intro _ <;> conv => whnf) | (refine VAny.ix encI_len k rfl rfl hL ?_; conv => whnf) | (refine VCall.intro (c11 _) ?_; conv => whnf))
            all_goals try contradiction
            all_goals try (exfalso; omega)
            refine LEnd.intro (k + 1) (by omega) (by omega) ?_
            conv => whnf
            refine Retell.turn ⟨[], 0, [], []⟩ (TurnOk.mk' _ _ [] [] (OutOk.lift _) rfl (by decide) zb trivial trivial rfl) zw zm
        · obtain rfl : k = n := by omega
          conv => whnf
          repeat' (first | ((first | refine zs1 ?_ | refine zs2 ?_ | refine zs3 ?_ | refine zs4 ?_ | refine zs5 ?_); conv => whnf) | ((first | apply zi1 | apply zi2 | apply zi3 | apply zi4 | apply zi5) <;> intro _ <;> conv => whnf) | (refine VCall.intro (c8 _) ?_; conv => whnf) | (refine VCall.intro (c9 _) ?_; conv => whnf) | (refine VCall.intro (vc_awake _) ?_; conv => whnf))
          all_goals first | contradiction | (exfalso; omega) | exact VOut.same rfl
    · have hcv : clV N x = [] := by unfold clV; rw [if_neg h0]
      have hea : eaL N x = [] := by unfold eaL; rw [if_neg h0]
      rw [hcv] at c6
      rw [hea] at c7
      generalize hrd N x = E2 at c6 c7 h0
      conv => whnf
      repeat' (first | ((first | refine zs1 ?_ | refine zs2 ?_ | refine zs3 ?_ | refine zs4 ?_ | refine zs5 ?_); conv => whnf) | ((first | apply zi1 | apply zi2 | apply zi3 | apply zi4 | apply zi5) <;> intro _ <;> conv => whnf) | (refine VCall.intro (c6 _) ?_; conv => whnf) | (refine VCall.intro (c7 _) ?_; conv => whnf))
      all_goals try contradiction
      all_goals try (exfalso; omega)
      refine VCode.lp (outer := h.lift) (marks := []) (fun k : Nat => [(2, intss T), (4, .fp (encN N)), (9, .fp (encN N)), (10, intss T), (87, ints []), (88, I 0), (89, I k)]) (fun _ => []) (fun k => k = 0) (fun k => 0 - k) 0 rfl ?_ ?_
      · conv => whnf
        refine Retell.turn ⟨[], 0, [], []⟩ (TurnOk.mk' _ _ [] [] (OutOk.lift _) rfl (by decide) zb trivial trivial rfl) zw zm
      · intro k hk
        subst hk
        conv => whnf
        repeat' (first | ((first | refine zs1 ?_ | refine zs2 ?_ | refine zs3 ?_ | refine zs4 ?_ | refine zs5 ?_); conv => whnf) | ((first | apply zi1 | apply zi2 | apply zi3 | apply zi4 | apply zi5) <;> intro _ <;> conv => whnf) | (refine VCall.intro (c8 _) ?_; conv => whnf) | (refine VCall.intro (c9 _) ?_; conv => whnf) | (refine VCall.intro (vc_awake _) ?_; conv => whnf))
        all_goals first | contradiction | (exfalso; omega) | exact VOut.same rfl
end Go.Proofs.Ytoeendggmalcpaa

open Go.Vm
namespace Go.Proofs.Ytoeendggmalcpaa
open Go.ChangeShapes Go.WideShapes Go.ChangeAt Go.RowKit

theorem open9p : OpenAll Try.prog Try.f9.params.toList (fun x : Psg.Nt × Psg.Hd × {l : List (List Int) // l.length ≤ 9223372036854775807} × Int × Unit => [dN x.1, dH x.2.1, dLB x.2.2.1, DI x.2.2.2.1]) := by
  rw [Try.params9]
  exact OpenAll.cons openN (OpenAll.cons openH (OpenAll.cons openLB (OpenAll.cons openI (OpenAll.nil))))
set_option maxRecDepth 100000 in
theorem contract9 (H : Type) (enc : TypeId × Value → H) (W : World) (base : Nat) (args : Array Value) (ds gs : List (DataW H)) (before : List MemPlace)
    (hval : ∀ (j : Nat) t v, Try.f9.params[j]? = some t → args[j]? = some v → Value.okWide Try.prog W .any base t v)
    (hW : DataW.Whole enc Try.prog Try.f9.params.toList Rows.passageCalendarsSpec.vars false W args.toList ds gs before) :
    Calls Try.prog 9 args W fun e W' => ∃ v, e = .returned v ∧ Rows.passageCalendarsSpec.post enc Try.prog Try.f9 false true false false W args v W' := by
  refine contract_of_vc open9p (fun g => vc_Calendars g.1 g.2.1 g.2.2.1.1 g.2.2.1.2 g.2.2.2.1 Hp.bare) laidOut ?_ (tb := 4) (by kernel_rfl) Try.underlying4 rfl ?_ hval hW
  · rw [Try.params9]
    intro t ht
    simp only [List.mem_cons, List.not_mem_nil, or_false] at ht
    rcases ht with rfl | rfl | rfl | rfl
    all_goals exact ⟨by kernel_rfl, of_decide_eq_true (by kernel_rfl)⟩
  · intro H dd hl
    rw [Try.params9] at hl
    match dd, hl with
    | [d0, d1, d2, d3], _ => rfl
set_option maxRecDepth 100000 in
theorem lifted9 (os : Os) (started : os.Started) (H : Type) (enc : TypeId × Value → H) :
    ReturnsInHanded {} Try.checked os 9 .any (Rows.passageCalendarsSpec.pre6 enc Try.prog Try.f9 Rows.passageCalendarsRow.domain false) (Rows.passageCalendarsSpec.post enc Try.prog Try.f9 false true false false) := by
  refine returnsInHanded_of_change (C := Try.checked) ownKn started (by kernel_rfl) Try.func9
    (ChangeSpec.witness6 (enc := enc) (C := Try.checked) false ⟨#[], #[.agg #[.int .i64 0, .slice none 0 0], .agg #[.int .i64 0, .int .i64 0, .int .i64 0], .slice none 0 0, .int .i64 0], []⟩ 8 (by kernel_rfl) (by kernel_rfl) (by kernel_rfl) (by kernel_rfl)) ?_
  intro W base args ds gs before hval hW _ _
  exact contract9 H enc W base args ds gs before hval hW
theorem passageCalendars_said : Rows.PassageCalendarsSaid :=
  OpenClaim.holds_of_wide 9 Try.f9 rfl rfl rfl rfl rfl rfl rfl ⟨rfl, rfl, rfl, rfl, rfl⟩ rfl rfl rfl rfl rfl (by kernel_rfl) Try.func9 (by kernel_rfl)
    (of_decide_eq_true (by kernel_rfl)) (by unfold Func.isWrapper; first | (rw [if_pos (by decide +kernel)]; kernel_rfl) | (rw [if_neg (by decide +kernel)]; exact ⟨rfl, rfl⟩))
    (fun os started H enc _ => lifted9 os started H enc)
end Go.Proofs.Ytoeendggmalcpaa


/- Part 0 of the proof that PassageFound holds: a herd that has passage has a route, and a calendar proves its day. No condition. -/
import Derived.Test.YtoeendggmalcpaaBa8
set_option linter.unusedVariables false
set_option linter.unusedSimpArgs false
open Go.Vm
open Psg
namespace Go.Proofs.Ytoeendggmalcpaa
set_option maxRecDepth 20000
set_option maxHeartbeats 4000000
/-! ### The calendar that is returned -/
structure ClO (n : Nat) (N : Nt) (x : Hd) : Prop where
  sz : Sz n (clV N x)
  val : valR (clV N x) = true
  hol : holds n N.ws x (clV N x) = true
  day : ∀ p : Nat, p < n → dayOf (atR (clV N x)) p = dayOf (atD (bgn N.ws x).D) p
theorem cl_ok {n : Nat} {N : Nt} {x : Hd} (hN : NOk n N) (hx : HOk n x) : ClO n N x := by
  have hL := bgn_lst hN.n1.2 hN.ws hx
  have hl := bgn_len hN hx
  have e : clV N x = calR (bgn N.ws x).D n := by unfold clV; rw [if_pos (hN.hrd hx), nok_nat hN]
  rw [show ClO n N x ↔ ClO n N x from Iff.rfl]
  have ha : ∀ p s : Int, (0 ≤ p ∧ p < n) → Pp s → atR (clV N x) p s = atD (bgn N.ws x).D p s := fun p s hp hs => by rw [e]; exact cal_at hp hs
  refine ⟨by rw [e]; exact cal_sz hl hN.n1.2, by rw [e]; exact cal_val hl hN.n1.2 hL.cap, ?_, fun p hp => ?_⟩
  · rw [holds_iff]
    exact hL.hol.congr hN.ws hx ha
  · exact dayOf_congr fun s hs => ha p s ⟨by omega, by omega⟩ hs
theorem cl_prv {n : Nat} {N : Nt} {x : Hd} (hN : NOk n N) (hx : HOk n x) {p : Nat} (hp : p < n) : prE N x (clV N x) p = 0 ∧ prV N x (clV N x) p = dayOf (atD (bgn N.ws x).D) p := by
  have h := cl_ok hN hx
  have hpn := hN.p
  have h1 : prE N x (clV N x) p = 0 := by
    unfold prE
    rw [if_pos (hN.hrd hx), if_pos (szR_iff.2 ⟨by rw [h.sz.len, hpn], h.sz.row⟩), if_pos h.val, nok_nat hN, if_pos h.hol, if_pos (by omega)]
  refine ⟨h1, ?_⟩
  unfold prV
  rw [if_pos h1, h.day p hp]
def dyU (N : Nt) (x : Hd) (p : Nat) : Int := if dyP N x p = -1 then 1001 else dyP N x p
theorem dyU_eq {n : Nat} {N : Nt} {x : Hd} (hN : NOk n N) (hx : HOk n x) {p : Nat} (hp : p < n) : dayOf (atD (bgn N.ws x).D) p = dyU N x p := by
  have hc := dayOf_cap (bgn_lst hN.n1.2 hN.ws hx) (p := (p : Int)) (by omega)
  unfold dyU dyP tell
  split <;> split <;> omega
end Go.Proofs.Ytoeendggmalcpaa

open Go.Vm
open Psg
namespace Psg
theorem pand_pp {a b : Int} (ha : Pp a) (hb : Pp b) : Pp (pand a b) := by
  unfold Pp pand at *
  have := Nat.and_le_left (n := a.toNat) (m := b.toNat)
  omega
theorem pand_self {a : Int} (ha : Pp a) : pand a a = a := by
  unfold Pp pand at *
  rw [Nat.and_self]; omega
theorem fol_sub {n : Nat} {ws : List Wy} (hw : ∀ w ∈ ws, WOk n w) {m : Int} (hm : Pp m) : ∀ (r : List Nat) (x y : Hd), Pp x.s → sub m x.s = true → fol ws x r = some y → sub m y.s = true
  | [], x, y, _, h2, he => by
    simp only [fol, Option.some.injEq] at he
    subst he; exact h2
  | i :: r, x, y, h1, h2, he => by
    simp only [fol] at he
    cases hi : ws[i]? with
    | none => rw [hi] at he; cases he
    | some w =>
      rw [hi] at he
      dsimp only at he
      have hwo := hw w (List.mem_of_getElem? hi)
      cases hg : gone w x with
      | none => rw [hg] at he; cases he
      | some z =>
        rw [hg] at he
        have hz := gone_ok hwo h1 hg
        have hs : z.s = por x.s w.g := by
          unfold gone at hg
          split at hg
          · injection hg with hg; subst hg; rfl
          · cases hg
        have hz2 := hz.2.2.2.2.2.2
        refine fol_sub hw hm r z y hz2 ?_ he
        rw [hs] at hz2 ⊢
        exact has_sub hm h1 hz2 (has_or h1 hwo.g) h2
end Psg
namespace Go.Proofs.Ytoeendggmalcpaa
set_option maxRecDepth 20000
set_option maxHeartbeats 4000000
theorem hrN_ok (bs : List Int) (d : DS) {n : Nat} (hn : 1 ≤ n) : HOk n (hrN bs d n).1 ∧ (hrN bs d n).2.1 ≤ d.1 + 4 := by
  have a := dNx_bd bs d n
  have b := dNx_bd bs (hr1 bs d n).2 20
  have c := dNx_bd bs (hr2 bs d n).2 16
  have e := dNx_bd bs (hr3 bs d n).2 16
  rw [show dNx bs d n = hr1 bs d n from rfl] at a
  rw [show dNx bs (hr1 bs d n).2 20 = hr2 bs d n from rfl] at b
  rw [show dNx bs (hr2 bs d n).2 16 = hr3 bs d n from rfl] at c
  rw [show dNx bs (hr3 bs d n).2 16 = hr4 bs d n from rfl] at e
  unfold hrN
  refine ⟨⟨⟨a.1, by dsimp only; omega⟩, ⟨b.1, by dsimp only; omega⟩, pand_pp ⟨c.1, by omega⟩ ⟨e.1, by omega⟩⟩, by dsimp only; omega⟩
theorem rt_pap {n : Nat} {N : Nt} {x : Hd} {to : Int} {L : List Int} (hN : NOk n N) (hx : HOk n x) (h : rtE N x to = 0) (hL : RtR N x to L) : ∃ s, Pp s ∧ pand s x.s = x.s ∧ flw N x L = (⟨to, dyP N x to.toNat, s⟩, 0) := by
  obtain ⟨s, hs, hf⟩ := hL.fol
  have h2 := fol_sub hN.ws hx.s (L.map Int.toNat) x _ hx.s (by unfold Psg.sub; rw [pand_self hx.s]; exact decide_eq_true rfl) (by rw [← folI_eq]; exact hf)
  refine ⟨s, hs, ?_, ?_⟩
  · unfold Psg.sub at h2; exact of_decide_eq_true h2
  · unfold flw
    rw [if_pos (hN.hrd hx), if_pos hL.ok, hf]
    rfl
structure HdI (n : Nat) (D : Tb) (y : Hd) : Prop where
  ok : HOk n y
  le : D y.p y.s ≤ y.d
theorem flw_one {n : Nat} {N : Nt} {D : Tb} {y x : Hd} {i : Int} (hN : NOk n N) (hD : Hol n N.ws x D) (hy : HdI n D y) (hi : 0 ≤ i ∧ i < N.ws.length) : flw N y [i] = (zHd, 9) ∨ ∃ z, flw N y [i] = (z, 0) ∧ HdI n D z := by
  have hw : N.ws[i.toNat]? = some (N.ws[i.toNat]'(by omega)) := List.getElem?_eq_getElem _
  have hwo := hN.ws _ (List.mem_of_getElem? hw)
  have hok : [i].all (okI N) = true := by
    rw [List.all_cons, List.all_nil, Bool.and_true]
    exact decide_eq_true (by omega)
  have e : flw N y [i] = flE (folI N.ws y [i]) := by unfold flw; rw [if_pos (hN.hrd hy.ok), if_pos hok]
  rw [e, folI_eq]
  have e3 : fol N.ws y (List.map Int.toNat [i]) = gone (N.ws[i.toNat]'(by omega)) y := by
    show fol N.ws y [i.toNat] = _
    simp only [fol, hw]
    cases gone (N.ws[i.toNat]'(by omega)) y <;> rfl
  rw [e3]
  cases hg : gone (N.ws[i.toNat]'(by omega)) y with
  | none => left; rfl
  | some z =>
    right
    refine ⟨z, rfl, ?_⟩
    have h1 := gone_ok hwo hy.ok.s hg
    obtain ⟨e2, h4, h5⟩ := gone_mono hy.le hg
    have h6 := hD.clo _ _ hy.ok.p hy.ok.s _ (List.mem_of_getElem? hw) _ h4
    exact ⟨⟨h1.2.2.1, ⟨h1.2.2.2.2.1, h1.2.2.2.2.2.1⟩, h1.2.2.2.2.2.2⟩, Int.le_trans h6 h5⟩
def canL (N : Nt) (p : Int) : Nat → List Int
  | 0 => []
  | k + 1 => if (N.ws.getD k wy0).f = p then canL N p k ++ [(k : Int)] else canL N p k
theorem canL_ok (N : Nt) (p : Int) : ∀ k, (canL N p k).length ≤ k ∧ ∀ i ∈ canL N p k, 0 ≤ i ∧ i < k
  | 0 => ⟨Nat.le_refl _, fun i h => by simp [canL] at h⟩
  | k + 1 => by
    have ih := canL_ok N p k
    rw [canL]
    split
    · refine ⟨by rw [List.length_append]; simp; exact ih.1, fun i h => ?_⟩
      rcases List.mem_append.1 h with h | h
      · have := ih.2 i h; omega
      · rw [List.mem_singleton.1 h]; omega
    · exact ⟨by omega, fun i h => by have := ih.2 i h; omega⟩
end Go.Proofs.Ytoeendggmalcpaa

open Go.Vm
open Psg
namespace Go.Proofs.Ytoeendggmalcpaa
set_option maxRecDepth 20000
set_option maxHeartbeats 8000000
theorem vc_Found (ns ts : List Int) (h : Hp) : VC Try.prog 10 [bytes ns, bytes ts] h (B true) h := by
  have cM := fun (i : Vm.Id) (h : Hp) hd => vc_Made ns (0, 9) 10 24 i h (by decide) (by decide) (by decide) hd
  obtain ⟨n, hN, hn2, _, hd1, _⟩ := mdN_ok ns (0, 9) (p := 10) (w := 24) (by decide) (by decide)
  generalize (mdS ns (0, 9) 10 24).1 = D1 at *
  generalize mdN ns (0, 9) 10 24 = N at *
  have hpn := hN.p
  have hn1 := hN.n1
  have hwl := hN.len
  have cH := fun (i : Vm.Id) (h : Hp) hd => vc_Herded ns D1 N i h (by dsimp only at hd1; omega) hd
  have hH := hrN_ok ns D1 (n := n) (by omega)
  rw [← hpn] at hH
  obtain ⟨hx, _⟩ := hH
  generalize (hrN ns D1 N.p).2 = D2 at *
  generalize (hrN ns D1 N.p).1 = x at *
  have h0 := hN.hrd hx
  have hxs := hx.s
  have c5 := fun h => vc_Earliest N x h (by omega)
  unfold eaL at c5
  rw [if_pos h0, nok_nat hN, h0] at c5
  have c6 := fun h => vc_Calendar N x h (by omega)
  rw [h0] at c6
  have hcl := cl_ok hN hx
  have hcs := hcl.sz.len
  have hpr := fun {p : Nat} (hp : p < n) => cl_prv hN hx hp
  have hdy := fun {p : Nat} (hp : p < n) => dyU_eq hN hx hp
  have hlst := bgn_lst hN.n1.2 hN.ws hx
  have hF : ∀ k, k < n → ((List.range n).map (dyP N x))[k]? = some (dyP N x k) := fun k hk => by rw [List.getElem?_map, List.getElem?_range hk]; rfl
  have hFl : ((List.range n).map (dyP N x)).length = n := by simp
  generalize (List.range n).map (dyP N x) = L at c5 hF hFl
  have hday : ∀ p : Nat, p < n → dyP N x p = tell (dayOf (atD (bgn N.ws x).D) p) := fun p _ => rfl
  have hst : HdI n (atD (bgn N.ws x).D) x := ⟨hx, hlst.hol.own⟩
  have hone := fun y (hy : HdI n (atD (bgn N.ws x).D) y) i hi => flw_one (i := i) hN hlst.hol hy hi
  have hnn : ∀ p : Nat, p < n → 0 ≤ dayOf (atD (bgn N.ws x).D) p := fun p hp => (dayOf_cap hlst (p := (p : Int)) (by omega)).1
  generalize hDD : atD (bgn N.ws x).D = DD at hst hone hday hnn
  refine VC.bodyC 4 Try.func10 rfl Try.ntmps10 Try.call10 (h.grows_refl) rfl ?_; conv => whnf
  repeat' (first | ((first | refine zs1 ?_ | refine zs2 ?_ | refine zs3 ?_ | refine zs4 ?_ | refine zs5 ?_); conv => whnf) | ((first | apply zi1 | apply zi2 | apply zi3 | apply zi4 | apply zi5) <;> intro _ <;> conv => whnf) | (refine VCall.intro (vc_Of _ _) ?_; conv => whnf) | (refine VCall.intro (cM _ _ rfl) ?_; conv => whnf) | (refine VCall.intro (cH _ _ rfl) ?_; conv => whnf))
  refine VCut.at' (outer := h.lift) (marks := []) 99 [(1, bytes ts), (6, .fp (encN N)), (7, .fp (encHd x))] [] ?_ ?_
  · conv => whnf
    refine Retell.turn ⟨[], 3, [(1, encN N), (2, encHd x)], []⟩ (TurnOk.mk' _ _ [(1, encN N), (2, encHd x)] [] (OutOk.lift _) rfl (by decide) zb zf trivial rfl) zw zm
  conv => whnf
  repeat' (first | ((first | refine zs1 ?_ | refine zs2 ?_ | refine zs3 ?_ | refine zs4 ?_ | refine zs5 ?_); conv => whnf) | ((first | apply zi1 | apply zi2 | apply zi3 | apply zi4 | apply zi5) <;> intro _ <;> conv => whnf) | (refine VCall.intro (vc_Of _ _) ?_; conv => whnf) | (refine VCall.intro (c5 _) ?_; conv => whnf) | (refine VCall.intro (c6 _) ?_; conv => whnf))
  all_goals try contradiction
  all_goals try (exfalso; omega)
  refine VCode.lp (outer := h.lift) (marks := []) (fun k : Nat => [(6, .fp (encN N)), (7, .fp (encHd x)), (8, .ptr (.loc 0) 0), (9, ints L), (11, intss (clV N x)), (61, ints L), (62, I L.length), (63, I k)]) (fun _ => [deckB ts (0, 9)]) (fun k => k ≤ n) (fun k => n - k) 0 (Nat.zero_le _) ?_ ?_
  · conv => whnf
    refine Retell.turn ⟨[0], 1, [], []⟩ (TurnOk.mk' _ _ [] [] (OutOk.lift _) rfl (by decide) zb trivial trivial rfl) zw zm
  · intro k hk
    rcases Nat.lt_or_ge k n with q1 | q1
    · have hL := hF k q1
      obtain ⟨e1, e2⟩ := hpr q1
      have e3 := hdy q1
      have cP := fun h => vc_Proves N x (clV N x) (k : Int) h (by omega) (by omega)
      rw [e1, e2, e3] at cP
      unfold dyU at cP
      obtain ⟨Lr, hL1, hL2, cR⟩ := vc_Route N x (k : Int) (by omega)
      have er : rtE N x (k : Int) = if dyP N x k = -1 then 7 else 0 := by
        unfold rtE; rw [if_pos h0, if_pos (by omega), Int.toNat_natCast]
      by_cases hd : dyP N x k = -1
      · rw [if_pos hd] at er cP
        rw [er] at cR
        rw [hd] at hL
        conv => whnf
        repeat' (first | ((first | refine zs1 ?_ | refine zs2 ?_ | refine zs3 ?_ | refine zs4 ?_ | refine zs5 ?_); conv => whnf) | ((first | apply zi1 | apply zi2 | apply zi3 | apply zi4 | apply zi5) <;> intro _ <;> conv => whnf) | (refine VAny.ix encI_len k rfl rfl hL ?_; conv => whnf) | (refine VCall.intro (cP _) ?_; conv => whnf) | (refine VCall.intro (cR _) ?_; conv => whnf))
        all_goals try contradiction
        all_goals try (exfalso; omega)
        refine LEnd.intro (k + 1) (by omega) (by omega) ?_
        conv => whnf
        refine Retell.turn ⟨[0], 1, [], []⟩ (TurnOk.mk' _ _ [] [] (OutOk.lift _) rfl (by decide) zb trivial trivial rfl) zw zm
      · rw [if_neg hd] at er cP
        rw [er] at cR
        have hLr := hL1 er
        have hlr := hLr.len
        obtain ⟨s, hs, hpap, hfl⟩ := rt_pap hN hx er hLr
        rw [Int.toNat_natCast] at hfl
        have cF := fun h => vc_Follow N x Lr h (by omega) (by omega)
        rw [hfl] at cF
        clear e1 e2 e3 er hfl hL1 hL2 hLr
        generalize dyP N x k = d at hL cP cF hd
        conv => whnf
        repeat' (first | ((first | refine zs1 ?_ | refine zs2 ?_ | refine zs3 ?_ | refine zs4 ?_ | refine zs5 ?_); conv => whnf) | ((first | apply zi1 | apply zi2 | apply zi3 | apply zi4 | apply zi5) <;> intro _ <;> conv => whnf) | (refine VAny.ix encI_len k rfl rfl hL ?_; conv => whnf) | (refine VCall.intro (cP _) ?_; conv => whnf) | (refine VCall.intro (cR _) ?_; conv => whnf) | (refine VCall.intro (cF _) ?_; conv => whnf) | (refine zand hs hxs ?_; rw [hpap]; conv => whnf))
        all_goals try contradiction
        all_goals try (exfalso; omega)
        refine LEnd.intro (k + 1) (by omega) (by omega) ?_
        conv => whnf
        refine Retell.turn ⟨[0], 2, [], []⟩ (TurnOk.mk' _ _ [] [] (OutOk.lift _) rfl (by decide) zb trivial trivial rfl) zw zm
    · obtain rfl : k = n := by omega
      conv => whnf
      repeat' (first | ((first | refine zs1 ?_ | refine zs2 ?_ | refine zs3 ?_ | refine zs4 ?_ | refine zs5 ?_); conv => whnf) | ((first | apply zi1 | apply zi2 | apply zi3 | apply zi4 | apply zi5) <;> intro _ <;> conv => whnf))
      all_goals try (exfalso; omega)
      refine VCode.lp (outer := h.lift) (marks := []) (fun y : Nat × DS => [(6, .fp (encN N)), (7, .fp (encHd x)), (8, .ptr (.loc 0) 0), (9, ints L), (134, I y.1)]) (fun y => [deckB ts y.2]) (fun y => y.1 ≤ 6 ∧ y.2.1 ≤ 10 * y.1) (fun y => 6 - y.1) (0, (0, 9)) ⟨Nat.zero_le _, Nat.zero_le _⟩ ?_ ?_
      · conv => whnf
        refine Retell.turn ⟨[0], 1, [], []⟩ (TurnOk.mk' _ _ [] [] (OutOk.lift _) rfl (by decide) zb trivial trivial rfl) zw zm
      · rintro ⟨r, e⟩ ⟨r1, r2⟩
        dsimp only at r1 r2
        rcases Nat.lt_or_ge r 6 with q2 | q2
        · conv => whnf
          repeat' (first | ((first | refine zs1 ?_ | refine zs2 ?_ | refine zs3 ?_ | refine zs4 ?_ | refine zs5 ?_); conv => whnf) | ((first | apply zi1 | apply zi2 | apply zi3 | apply zi4 | apply zi5) <;> intro _ <;> conv => whnf))
          all_goals try (exfalso; omega)
          refine VCode.lp (outer := h.lift) (marks := []) (fun y : Nat × DS × Hd => [(6, .fp (encN N)), (7, .fp (encHd x)), (8, .ptr (.loc 0) 0), (9, ints L), (21, .ptr (.loc 1) 0), (134, I r), (137, I y.1)]) (fun y => [deckB ts y.2.1, .flat true (encHd y.2.2)]) (fun y => y.1 ≤ 8 ∧ y.2.1.1 ≤ 10 * r + y.1 ∧ HdI k DD y.2.2) (fun y => 8 - y.1) (0, e, x) ⟨Nat.zero_le _, r2, hst⟩ ?_ ?_
          · conv => whnf
            refine Retell.turn ⟨[0,1], 2, [], []⟩ (TurnOk.mk' _ _ [] [] (OutOk.lift _) rfl (by decide) zb trivial trivial rfl) zw zm
          · rintro ⟨s, f, y⟩ ⟨s1, s2, s3⟩
            dsimp only at s1 s2 s3
            rcases Nat.lt_or_ge s 8 with q3 | q3
            · conv => whnf
              repeat' (first | ((first | refine zs1 ?_ | refine zs2 ?_ | refine zs3 ?_ | refine zs4 ?_ | refine zs5 ?_); conv => whnf) | ((first | apply zi1 | apply zi2 | apply zi3 | apply zi4 | apply zi5) <;> intro _ <;> conv => whnf))
              all_goals try (exfalso; omega)
              refine VCode.lp (outer := h.lift) (marks := []) (fun j : Nat => [(6, .fp (encN N)), (7, .fp (encHd x)), (8, .ptr (.loc 0) 0), (9, ints L), (21, .ptr (.loc 1) 0), (22, .gl (.loc 2) 1 (canL N y.p j).length), (134, I r), (137, I s), (140, wys N.ws), (141, I N.ws.length), (142, I j)]) (fun j => [deckB ts f, .flat true (encHd y), .flat true ((canL N y.p j).flatMap Vm.encI)]) (fun j => j ≤ N.ws.length) (fun j => N.ws.length - j) 0 (Nat.zero_le _) ?_ ?_
              · rw [show canL N y.p 0 = [] from rfl]
                conv => whnf
                refine Retell.turn ⟨[0,1,2], 2, [], []⟩ (TurnOk.mk' _ _ [] [] (OutOk.lift _) rfl (by decide) zb trivial trivial rfl) zw zm
              · intro j hj
                have hcl := (canL_ok N y.p j).1
                rcases Nat.lt_or_ge j N.ws.length with q4 | q4
                · have hw : N.ws[j]? = some N.ws[j] := List.getElem?_eq_getElem q4
                  have hst : canL N y.p (j + 1) = if N.ws[j].f = y.p then canL N y.p j ++ [(j : Int)] else canL N y.p j := by
                    rw [canL, List.getD_eq_getElem?_getD, hw]; rfl
                  generalize N.ws[j] = w at hw hst
                  generalize canL N y.p j = C at hst hcl ⊢
                  by_cases hf : w.f = y.p
                  · rw [if_pos hf] at hst
                    conv => whnf
                    repeat' (first | ((first | refine zs1 ?_ | refine zs2 ?_ | refine zs3 ?_ | refine zs4 ?_ | refine zs5 ?_); conv => whnf) | ((first | apply zi1 | apply zi2 | apply zi3 | apply zi4 | apply zi5) <;> intro _ <;> conv => whnf) | (refine VAny.ix encWy_len j rfl rfl hw ?_; conv => whnf) | (refine VMem.app1 (l := C) (j : Int) encI_len rfl rfl rfl rfl rfl (by omega) ?_; conv => whnf))
                    all_goals try contradiction
                    all_goals try (exfalso; omega)
                    refine LEnd.intro (j + 1) (by omega) (by omega) ?_
                    rw [hst, List.length_append]
                    conv => whnf
                    refine Retell.turn ⟨[0,1,5], 6, [], []⟩ (TurnOk.mk' _ _ [] [] (OutOk.lift _) rfl (by decide) zb trivial trivial rfl) zw zm
                  · rw [if_neg hf] at hst
                    conv => whnf
                    repeat' (first | ((first | refine zs1 ?_ | refine zs2 ?_ | refine zs3 ?_ | refine zs4 ?_ | refine zs5 ?_); conv => whnf) | ((first | apply zi1 | apply zi2 | apply zi3 | apply zi4 | apply zi5) <;> intro _ <;> conv => whnf) | (refine VAny.ix encWy_len j rfl rfl hw ?_; conv => whnf))
                    all_goals try contradiction
                    all_goals try (exfalso; omega)
                    refine LEnd.intro (j + 1) (by omega) (by omega) ?_
                    rw [hst]
                    conv => whnf
                    refine Retell.turn ⟨[0,1,2], 4, [], []⟩ (TurnOk.mk' _ _ [] [] (OutOk.lift _) rfl (by decide) zb trivial trivial rfl) zw zm
                · obtain rfl : j = N.ws.length := by omega
                  have hcm := (canL_ok N y.p N.ws.length).2
                  generalize canL N y.p N.ws.length = C at hcl hcm ⊢
                  by_cases hz : C.length = 0
                  · conv => whnf
                    repeat' (first | ((first | refine zs1 ?_ | refine zs2 ?_ | refine zs3 ?_ | refine zs4 ?_ | refine zs5 ?_); conv => whnf) | ((first | apply zi1 | apply zi2 | apply zi3 | apply zi4 | apply zi5) <;> intro _ <;> conv => whnf))
                    all_goals try (exfalso; omega)
                    refine LEnd.intro (r + 1, f) ⟨by dsimp only; omega, by dsimp only; omega⟩ (by dsimp only; omega) ?_
                    conv => whnf
                    refine Retell.turn ⟨[0], 3, [], []⟩ (TurnOk.mk' _ _ [] [] (OutOk.lift _) rfl (by decide) zb trivial trivial rfl) zw zm
                  · have y1 := dNx_bd ts f (C.length : Int)
                    have g1 := fun (h2 : Hp) hh => vc_draw ts f (C.length : Int) (.loc 0) h2 (by omega) hh
                    generalize dNx ts f (C.length : Int) = z at y1 g1
                    obtain ⟨z1, f2⟩ := z
                    dsimp only at y1 g1
                    obtain ⟨i, rfl⟩ : ∃ i : Nat, z1 = i := ⟨z1.toNat, by omega⟩
                    have hx2 : C[i]? = some (C[i]'(by omega)) := List.getElem?_eq_getElem _
                    have hiw := hcm _ (List.mem_of_getElem? hx2)
                    generalize C[i]'(by omega) = v at hx2 hiw
                    have hst2 := hone y s3 v hiw
                    have cF := fun h => vc_Follow N y [v] h (by omega) (by simp)
                    rcases hst2 with h9 | ⟨z, h9, hz2⟩
                    · rw [h9] at cF
                      conv => whnf
                      repeat' (first | ((first | refine zs1 ?_ | refine zs2 ?_ | refine zs3 ?_ | refine zs4 ?_ | refine zs5 ?_); conv => whnf) | ((first | apply zi1 | apply zi2 | apply zi3 | apply zi4 | apply zi5) <;> intro _ <;> conv => whnf))
                      all_goals try (exfalso; omega)
                      refine zs6 [(0, 6), (1, 6)] ?_
                      conv => whnf
                      repeat' (first | ((first | refine zs1 ?_ | refine zs2 ?_ | refine zs3 ?_ | refine zs4 ?_ | refine zs5 ?_); conv => whnf) | ((first | apply zi1 | apply zi2 | apply zi3 | apply zi4 | apply zi5) <;> intro _ <;> conv => whnf) | (refine VCall.intro (g1 _ rfl) ?_; conv => whnf) | (refine VLd.recc encI_len i 0 rfl rfl rfl hx2 (by decide) rfl (by show (i : Int).toNat * 1 = i * 1 + 0; omega) ?_; conv => whnf))
                      all_goals try (exfalso; omega)
                      refine VCall.intro (VC.give (args' := [vN N, vHd y, ints [v]]) (loc' := [deckB ts f2, .flat true (encHd y), .flat true (C.flatMap Vm.encI), .dead]) [(3, [DI v])] [] (OutOk.lift _) zb zf (by exact FmAll.nil) rfl zv (cF _)) ?_
                      conv => whnf
                      repeat' (first | ((first | refine zs1 ?_ | refine zs2 ?_ | refine zs3 ?_ | refine zs4 ?_ | refine zs5 ?_); conv => whnf) | ((first | apply zi1 | apply zi2 | apply zi3 | apply zi4 | apply zi5) <;> intro _ <;> conv => whnf))
                      all_goals try contradiction
                      all_goals try (exfalso; omega)
                      refine LEnd.intro (s + 1, f2, y) ⟨by dsimp only; omega, by dsimp only; omega, s3⟩ (by dsimp only; omega) ?_
                      conv => whnf
                      refine Retell.turn ⟨[0,1], 5, [], []⟩ (TurnOk.mk' _ _ [] [] (OutOk.lift _) rfl (by decide) zb trivial trivial rfl) zw zm
                    · rw [h9] at cF
                      dsimp only at cF
                      have hzp := hz2.ok.p
                      have hzd := hz2.ok.d
                      have hLz := hF z.p.toNat (by omega)
                      have hdz : dyP N x z.p.toNat ≠ -1 ∧ dyP N x z.p.toNat ≤ z.d := by
                        have a1 := hday z.p.toNat (by omega)
                        have a2 := hnn z.p.toNat (by omega)
                        rw [Int.toNat_of_nonneg hzp.1] at a1 a2
                        have a3 := dayOf_le (D := DD) (p := z.p) hz2.ok.s
                        have a4 := hz2.le
                        have a5 : tell (dayOf DD z.p) = dayOf DD z.p := by unfold tell; rw [if_pos (by omega)]
                        rw [a1, a5]; omega
                      generalize dyP N x z.p.toNat = dz at hLz hdz
                      obtain ⟨hdz1, hdz2⟩ := hdz
                      conv => whnf
                      repeat' (first | ((first | refine zs1 ?_ | refine zs2 ?_ | refine zs3 ?_ | refine zs4 ?_ | refine zs5 ?_); conv => whnf) | ((first | apply zi1 | apply zi2 | apply zi3 | apply zi4 | apply zi5) <;> intro _ <;> conv => whnf))
                      all_goals try (exfalso; omega)
                      refine zs6 [(0, 6), (1, 6)] ?_
                      conv => whnf
                      repeat' (first | ((first | refine zs1 ?_ | refine zs2 ?_ | refine zs3 ?_ | refine zs4 ?_ | refine zs5 ?_); conv => whnf) | ((first | apply zi1 | apply zi2 | apply zi3 | apply zi4 | apply zi5) <;> intro _ <;> conv => whnf) | (refine VCall.intro (g1 _ rfl) ?_; conv => whnf) | (refine VLd.recc encI_len i 0 rfl rfl rfl hx2 (by decide) rfl (by show (i : Int).toNat * 1 = i * 1 + 0; omega) ?_; conv => whnf))
                      all_goals try (exfalso; omega)
                      refine VCall.intro (VC.give (args' := [vN N, vHd y, ints [v]]) (loc' := [deckB ts f2, .flat true (encHd y), .flat true (C.flatMap Vm.encI), .dead]) [(3, [DI v])] [] (OutOk.lift _) zb zf (by exact FmAll.nil) rfl zv (cF _)) ?_
                      conv => whnf
                      repeat' (first | ((first | refine zs1 ?_ | refine zs2 ?_ | refine zs3 ?_ | refine zs4 ?_ | refine zs5 ?_); conv => whnf) | ((first | apply zi1 | apply zi2 | apply zi3 | apply zi4 | apply zi5) <;> intro _ <;> conv => whnf))
                      all_goals try contradiction
                      all_goals try (exfalso; omega)
                      refine zs6 [] ?_
                      conv => whnf
                      repeat' (first | ((first | refine zs1 ?_ | refine zs2 ?_ | refine zs3 ?_ | refine zs4 ?_ | refine zs5 ?_); conv => whnf) | ((first | apply zi1 | apply zi2 | apply zi3 | apply zi4 | apply zi5) <;> intro _ <;> conv => whnf) | (refine VAny.ix encI_len z.p.toNat (by omega) rfl hLz ?_; conv => whnf))
                      all_goals try contradiction
                      all_goals try (exfalso; omega)
                      refine LEnd.intro (s + 1, f2, z) ⟨by dsimp only; omega, by dsimp only; omega, hz2⟩ (by dsimp only; omega) ?_
                      conv => whnf
                      refine Retell.turn ⟨[0,1], 5, [], []⟩ (TurnOk.mk' _ _ [] [] (OutOk.lift _) rfl (by decide) zb trivial trivial rfl) zw zm
            · obtain rfl : s = 8 := by omega
              conv => whnf
              repeat' (first | ((first | refine zs1 ?_ | refine zs2 ?_ | refine zs3 ?_ | refine zs4 ?_ | refine zs5 ?_); conv => whnf) | ((first | apply zi1 | apply zi2 | apply zi3 | apply zi4 | apply zi5) <;> intro _ <;> conv => whnf))
              all_goals try (exfalso; omega)
              refine LEnd.intro (r + 1, f) ⟨by dsimp only; omega, by dsimp only; omega⟩ (by dsimp only; omega) ?_
              conv => whnf
              refine Retell.turn ⟨[0], 2, [], []⟩ (TurnOk.mk' _ _ [] [] (OutOk.lift _) rfl (by decide) zb trivial trivial rfl) zw zm
        · obtain rfl : r = 6 := by omega
          conv => whnf
          repeat' (first | ((first | refine zs1 ?_ | refine zs2 ?_ | refine zs3 ?_ | refine zs4 ?_ | refine zs5 ?_); conv => whnf) | ((first | apply zi1 | apply zi2 | apply zi3 | apply zi4 | apply zi5) <;> intro _ <;> conv => whnf) | (refine VCall.intro (vc_awake _) ?_; conv => whnf))
          all_goals try (exfalso; omega)
          exact VOut.same rfl
end Go.Proofs.Ytoeendggmalcpaa

open Go.Vm
namespace Go.Proofs.Ytoeendggmalcpaa
open Go.ChangeShapes Go.WideShapes Go.ChangeAt Go.RowKit

theorem open10p : OpenAll Try.prog Try.f10.params.toList (fun x : List Int × List Int × Unit => [dU x.1, dU x.2.1]) := by
  rw [Try.params10]
  exact OpenAll.cons openU (OpenAll.cons openU (OpenAll.nil))
set_option maxRecDepth 100000 in
theorem contract10 (H : Type) (enc : TypeId × Value → H) (W : World) (base : Nat) (args : Array Value) (ds gs : List (DataW H)) (before : List MemPlace)
    (hval : ∀ (j : Nat) t v, Try.f10.params[j]? = some t → args[j]? = some v → Value.okWide Try.prog W .any base t v)
    (hW : DataW.Whole enc Try.prog Try.f10.params.toList Rows.passageFoundSpec.vars false W args.toList ds gs before) :
    Calls Try.prog 10 args W fun e W' => ∃ v, e = .returned v ∧ Rows.passageFoundSpec.post enc Try.prog Try.f10 false true false false W args v W' := by
  refine contract_of_vc open10p (fun g => vc_Found g.1 g.2.1 Hp.bare) laidOut ?_ (tb := 4) (by kernel_rfl) Try.underlying4 rfl ?_ hval hW
  · rw [Try.params10]
    intro t ht
    simp only [List.mem_cons, List.not_mem_nil, or_false] at ht
    rcases ht with rfl | rfl
    all_goals exact ⟨by kernel_rfl, of_decide_eq_true (by kernel_rfl)⟩
  · intro H dd hl
    rw [Try.params10] at hl
    match dd, hl with
    | [d0, d1], _ => rfl
set_option maxRecDepth 100000 in
theorem lifted10 (os : Os) (started : os.Started) (H : Type) (enc : TypeId × Value → H) :
    ReturnsInHanded {} Try.checked os 10 .any (Rows.passageFoundSpec.pre6 enc Try.prog Try.f10 Rows.passageFoundRow.domain false) (Rows.passageFoundSpec.post enc Try.prog Try.f10 false true false false) := by
  refine returnsInHanded_of_change (C := Try.checked) ownKn started (by kernel_rfl) Try.func10
    (ChangeSpec.witness6 (enc := enc) (C := Try.checked) false ⟨#[], #[.slice none 0 0, .slice none 0 0], []⟩ 8 (by kernel_rfl) (by kernel_rfl) (by kernel_rfl) (by kernel_rfl)) ?_
  intro W base args ds gs before hval hW _ _
  exact contract10 H enc W base args ds gs before hval hW
theorem passageFound_said : Rows.PassageFoundSaid :=
  OpenClaim.holds_of_wide 10 Try.f10 rfl rfl rfl rfl rfl rfl rfl ⟨rfl, rfl, rfl, rfl, rfl⟩ rfl rfl rfl rfl rfl (by kernel_rfl) Try.func10 (by kernel_rfl)
    (of_decide_eq_true (by kernel_rfl)) (by unfold Func.isWrapper; first | (rw [if_pos (by decide +kernel)]; kernel_rfl) | (rw [if_neg (by decide +kernel)]; exact ⟨rfl, rfl⟩))
    (fun os started H enc _ => lifted10 os started H enc)
end Go.Proofs.Ytoeendggmalcpaa


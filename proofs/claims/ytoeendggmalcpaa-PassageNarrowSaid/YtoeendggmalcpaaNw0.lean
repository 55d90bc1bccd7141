/- Part 0 of the proof that PassageNarrow holds: narrow ways are those without a head of which one less passes. No condition. -/
import Derived.Test.YtoeendggmalcpaaBa8
set_option linter.unusedVariables false
set_option linter.unusedSimpArgs false
open Go.Vm
open Psg
namespace Go.Proofs.Ytoeendggmalcpaa
set_option maxRecDepth 20000
set_option maxHeartbeats 4000000
structure CtI (a b : List Int) (p : Nat) (S : List Int) : Prop where
  lt : S.Pairwise (· < ·)
  rg : ∀ q ∈ S, 0 ≤ q ∧ q < p
  src : ∀ q ∈ a, 0 ≤ q → q < p → q ∈ S
  gls : ∀ q ∈ S, q ∉ b
  len : S.length ≤ p
theorem CtI.zero (a b : List Int) : CtI a b 0 [] := ⟨List.Pairwise.nil, fun q h => absurd h (by simp), fun q _ h0 h1 => by omega, fun q h => absurd h (by simp), Nat.le_refl _⟩
theorem CtI.cut {n : Nat} {ws : List Wy} {a b S : List Int} (h : CtI a b n S) (hP : Ps n ws a b) : Cu a b (fun q => decide (q ∈ S)) := by
  refine ⟨fun q hq => ?_, fun q hq => ?_⟩
  · have := hP.smt.inN q hq
    exact decide_eq_true (h.src q hq this.1 this.2)
  · exact decide_eq_false fun hm => h.gls q hm hq
end Go.Proofs.Ytoeendggmalcpaa

open Go.Vm
open Psg
namespace Go.Proofs.Ytoeendggmalcpaa
set_option maxRecDepth 20000
set_option maxHeartbeats 4000000
theorem VOut.ownA {h : Hp} {loc : List Blk} {p : Int} {esz n : Nat} {ds : List Vm.D} (j L : Nat) (hL : Nat.ble loc.length L = true) (hj : loc[j]? = some (.flat true ds)) : VOut h ⟨h.lift, loc⟩ (.agg [I p, .gl (.loc j) esz n]) (.agg [I p, .gl h.fresh esz n]) (h.push (.flat true ds)) := by
  refine VOut.upd [] [.flat true ds] [j] L hL (by intro p hp; cases hp) (by simp) rfl ?_ ?_ rfl
  · intro k b hk
    cases k with
    | zero => rw [List.getElem?_cons_zero, Option.some.injEq] at hk; subst hk; exact ⟨j, rfl, hj⟩
    | succ k => simp at hk
  · intro σ x hx
    have : (V.agg [I p, .gl h.fresh esz n]).ren (backR h.loc.length [j] L) = .agg [I p, .gl (.loc j) esz n] := by simp [V.ren, V.rens, backR, Hp.fresh]
    rw [this]; exact hx
theorem vc_kcloneWO (l : List Wy) (h : Hp) (hl : l.length ≤ 4000000) : VC Try.prog 63 [wys l] h (.gl h.fresh 8 l.length) (h.push (.flat true (l.flatMap encWy))) := by
  refine VC.body Try.func63 rfl Try.ntmps63 Try.call63 (h.grows_push _) rfl ?_; conv => whnf
  repeat' (first | ((first | refine zs1 ?_ | refine zs2 ?_ | refine zs3 ?_ | refine zs4 ?_ | refine zs5 ?_); conv => whnf) | ((first | apply zi1 | apply zi2 | apply zi3 | apply zi4 | apply zi5) <;> intro _ <;> conv => whnf))
  refine VMem.appNil encWy_len rfl rfl rfl (by omega) ?_
  conv => whnf
  repeat' (first | ((first | refine zs1 ?_ | refine zs2 ?_ | refine zs3 ?_ | refine zs4 ?_ | refine zs5 ?_); conv => whnf) | ((first | apply zi1 | apply zi2 | apply zi3 | apply zi4 | apply zi5) <;> intro _ <;> conv => whnf))
  exact VOut.own1 (h := h) (loc := [.flat true (l.flatMap encWy)]) (ds := l.flatMap encWy) 0 1 rfl rfl
theorem vc_CloneNetO (N : Nt) (h : Hp) (hn : N.ws.length ≤ 4000000) : VC Try.prog 19 [vN N] h (.agg [I N.p, .gl h.fresh 8 N.ws.length]) (h.push (.flat true (N.ws.flatMap encWy))) := by
  have c := fun h => vc_kcloneWO N.ws h hn
  refine VC.body Try.func19 rfl Try.ntmps19 Try.call19 (h.grows_push _) rfl ?_; conv => whnf
  repeat' (first | ((first | refine zs1 ?_ | refine zs2 ?_ | refine zs3 ?_ | refine zs4 ?_ | refine zs5 ?_); conv => whnf) | ((first | apply zi1 | apply zi2 | apply zi3 | apply zi4 | apply zi5) <;> intro _ <;> conv => whnf))
  refine zs6 [(1, 4)] ?_
  conv => whnf
  repeat' (first | ((first | refine zs1 ?_ | refine zs2 ?_ | refine zs3 ?_ | refine zs4 ?_ | refine zs5 ?_); conv => whnf) | ((first | apply zi1 | apply zi2 | apply zi3 | apply zi4 | apply zi5) <;> intro _ <;> conv => whnf) | (refine VCall.intro (c _) ?_; conv => whnf))
  exact VOut.ownA (h := h) 2 3 rfl rfl
theorem narL_mem {N : Nt} {a b : List Int} : ∀ {k : Nat} {x : Int}, x ∈ narL N a b k ↔ ∃ j : Nat, j < k ∧ x = j ∧ narB N a b j = true
  | 0, x => by simp [narL]
  | k + 1, x => by
    have ih := narL_mem (N := N) (a := a) (b := b) (k := k) (x := x)
    rw [narL]
    split
    · rename_i h
      rw [List.mem_append, ih, List.mem_singleton]
      constructor
      · rintro (⟨j, h1, h2, h3⟩ | h1)
        · exact ⟨j, by omega, h2, h3⟩
        · exact ⟨k, by omega, h1, h⟩
      · rintro ⟨j, h1, h2, h3⟩
        by_cases e : j = k
        · subst e; exact .inr h2
        · exact .inl ⟨j, by omega, h2, h3⟩
    · rename_i h
      rw [ih]
      constructor
      · rintro ⟨j, h1, h2, h3⟩; exact ⟨j, by omega, h2, h3⟩
      · rintro ⟨j, h1, h2, h3⟩
        by_cases e : j = k
        · subst e; exact absurd h3 h
        · exact ⟨j, by omega, h2, h3⟩
structure NwI (N : Nt) (a b : List Int) (hs ct : List Int) (m : Int) (k : Nat) (w : Wy) (x : Int) : Prop where
  zero : w.h = 0 → (k : Int) ∉ narL N a b N.ws.length
  full : (k : Int) ∈ narL N a b N.ws.length → x = w.h
  cut : 0 < w.h → w.f ∈ ct → w.t ∉ ct → (k : Int) ∈ narL N a b N.ws.length
  less : 0 < w.h → (dvP (lessN N k w) a b).2.1 = if (k : Int) ∈ narL N a b N.ws.length then m - 1 else m
theorem nw_ok {n : Nat} {N : Nt} {a b : List Int} (hN : NOk n N) (hP : Ps n N.ws a b) {k : Nat} {w : Wy} {x : Int} (hw : N.ws[k]? = some w) (hx : (dvP N a b).1[k]? = some x) : NwI N a b (dvP N a b).1 (dvP N a b).2.2 (dvP N a b).2.1 k w x := by
  have hD := dvP_ok hN hP
  have hk := (List.getElem?_eq_some_iff.1 hw).1
  have hwd : N.ws.getD k ⟨0, 0, 0, 0, 0, 0, 0, 0⟩ = w := by rw [List.getD_eq_getElem?_getD, hw]; rfl
  have hB : narB N a b k = (decide (1 ≤ w.h) && decide ((dvP (lessN N k w) a b).2.1 < (dvP N a b).2.1)) := by
    unfold narB; rw [hwd]
  have hm : (k : Int) ∈ narL N a b N.ws.length ↔ 1 ≤ w.h ∧ (dvP (lessN N k w) a b).2.1 < (dvP N a b).2.1 := by
    rw [narL_mem]
    constructor
    · rintro ⟨j, _, h2, h3⟩
      have : j = k := by omega
      subst this
      rw [hB, Bool.and_eq_true, decide_eq_true_eq, decide_eq_true_eq] at h3
      exact h3
    · rintro ⟨h1, h2⟩
      exact ⟨k, hk, rfl, by rw [hB, decide_eq_true h1, decide_eq_true h2]; rfl⟩
  have hless : 0 < w.h → DvR n (lessN N k w).ws a b (dvP (lessN N k w) a b) := fun h => dvP_ok (nok_less hN hw (by omega)) (ps_less hP hw)
  have hmn := hD.mn hP
  have hmnl : 0 < w.h → Mn (N.ws.set k (lessW w)) a b (dvP (lessN N k w) a b).2.1 := fun h => (hless h).mn (ps_less hP hw)
  refine ⟨fun h h2 => ?_, fun h => ?_, fun h1 h2 h3 => ?_, fun h => ?_⟩
  · have := (hm.1 h2).1; omega
  · have h2 := hm.1 h
    exact narrow_full hP.inN hD.dr hD.vl hw hx (hmnl (by omega)) h2.2
  · refine hm.2 ⟨by omega, ?_⟩
    exact narrow_of hD.cut hD.br hw (hmnl h1) (decide_eq_true h2) (decide_eq_false h3)
  · have h2 := Mn.lessW hmn hw (hmnl h)
    split
    · rename_i h3; have := (hm.1 h3).2; omega
    · rename_i h3
      have : ¬ (dvP (lessN N k w) a b).2.1 < (dvP N a b).2.1 := fun h4 => h3 (hm.2 ⟨by omega, h4⟩)
      omega
theorem vc_NarrowLaw (ns : List Int) (h : Hp) : VC Try.prog 4 [bytes ns] h (B true) h := by
  have cM := fun (i : Vm.Id) (h : Hp) hd => vc_Made ns (0, 9) 7 16 i h (by decide) (by decide) (by decide) hd
  obtain ⟨n, hN, hn2, _, hd1, _⟩ := mdN_ok ns (0, 9) (p := 7) (w := 16) (by decide) (by decide)
  generalize (mdS ns (0, 9) 7 16).1 = D1 at *
  generalize mdN ns (0, 9) 7 16 = N at *
  have cP := fun (i : Vm.Id) (h : Hp) hd => vc_Pastures ns D1 N i h hN hn2 (by dsimp only at hd1; omega) hd
  obtain ⟨hO, _⟩ := past_ok ns D1 hN hn2
  generalize (paX ns D1 n).1 = D2 at *
  generalize paF ns D1 n = a at *
  generalize paT ns D1 n = b at *
  have hpn := hN.p
  have hn1 := hN.n1
  have hwl := hN.len
  have al := hO.al
  have bl := hO.bl
  have hP := hO.ps
  have h0 := hO.pas
  have hD := dvP_ok hN hP
  have hl1 := hD.dr.bnd.len
  have hl2 := hD.mt.len
  have hlow := hD.low
  have htop : (dvP N a b).2.1 ≤ 24000 := by rw [← hD.vl]; exact val_top hP (fun w hw => (hN.ws w hw).h) hN.len hD.dr
  have c5 := fun h => vc_Drive N a b h (by omega) (by omega) (by omega)
  unfold drvV at c5
  rw [if_pos h0] at c5
  have c7 := fun h => vc_Cut N a b h (by omega) (by omega) (by omega)
  unfold cutV at c7
  rw [if_pos h0] at c7
  have c8 := fun h => vc_Narrow N a b h (by omega) (by omega) (by omega)
  unfold narV at c8
  rw [if_pos h0] at c8
  have hql := narL_len N a b N.ws.length
  have hNw := fun {k : Nat} {w : Wy} {x : Int} hw hx => nw_ok (x := x) hN hP (k := k) (w := w) hw hx
  have hpl : ∀ (k : Nat) (w : Wy), N.ws[k]? = some w → 0 < w.h → pas (lessN N k w) a b = 0 := fun k w hw h1 => by
    have hN2 := nok_less hN hw (by omega)
    have h2 := pas_ok h0
    obtain ⟨_, _, _, q3, q4, q5, q6⟩ := h2
    exact pas_of hN2 (fun x hx => hP.smt.inN x hx) hP.gin q3 q4 q5 q6 hP.dis
  generalize hQ : narL N a b N.ws.length = Q at *
  generalize hWd : dvP N a b = W at *
  obtain ⟨hs, m, ct⟩ := W
  dsimp only at *
  refine VC.bodyC 4 Try.func4 rfl Try.ntmps4 Try.call4 (h.grows_refl) rfl ?_; conv => whnf
  repeat' (first | ((first | refine zs1 ?_ | refine zs2 ?_ | refine zs3 ?_ | refine zs4 ?_ | refine zs5 ?_); conv => whnf) | ((first | apply zi1 | apply zi2 | apply zi3 | apply zi4 | apply zi5) <;> intro _ <;> conv => whnf) | (refine VCall.intro (vc_Of _ _) ?_; conv => whnf) | (refine VCall.intro (cM _ _ rfl) ?_; conv => whnf) | (refine VCall.intro (cP _ _ rfl) ?_; conv => whnf))
  refine VCut.at' (outer := h.lift) (marks := []) 99 [(4, .fp (encN N)), (5, ints a), (6, ints b)] [] ?_ ?_
  · conv => whnf
    refine Retell.turn ⟨[], 2, [(1, encN N)], []⟩ (TurnOk.mk' _ _ [(1, encN N)] [] (OutOk.lift _) rfl (by decide) zb zf trivial rfl) zw zm
  conv => whnf
  repeat' (first | ((first | refine zs1 ?_ | refine zs2 ?_ | refine zs3 ?_ | refine zs4 ?_ | refine zs5 ?_); conv => whnf) | ((first | apply zi1 | apply zi2 | apply zi3 | apply zi4 | apply zi5) <;> intro _ <;> conv => whnf) | (refine VCall.intro (c5 _) ?_; conv => whnf) | (refine VCall.intro (c7 _) ?_; conv => whnf) | (refine VCall.intro (c8 _) ?_; conv => whnf))
  all_goals try contradiction
  all_goals try (exfalso; omega)
  refine VCode.lp (outer := h.lift) (marks := []) (fun k : Nat => [(4, .fp (encN N)), (5, ints a), (6, ints b), (7, ints hs), (8, I m), (10, ints ct), (12, ints Q), (72, wys N.ws), (73, I N.ws.length), (74, I k)]) (fun _ => []) (fun k => k ≤ N.ws.length) (fun k => N.ws.length - k) 0 (Nat.zero_le _) ?_ ?_
  · conv => whnf
    refine Retell.turn ⟨[], 0, [], []⟩ (TurnOk.mk' _ _ [] [] (OutOk.lift _) rfl (by decide) zb trivial trivial rfl) zw zm
  · intro k hk
    rcases Nat.lt_or_ge k N.ws.length with q1 | q1
    · have hw : N.ws[k]? = some N.ws[k] := List.getElem?_eq_getElem q1
      have hx : hs[k]? = some (hs[k]'(by omega)) := List.getElem?_eq_getElem _
      obtain ⟨f1, f2, f3, f4⟩ := hNw hw hx
      try rw [hQ] at f1
      try rw [hQ] at f2
      try rw [hQ] at f3
      try rw [hQ] at f4
      try rw [hWd] at f3
      have hwo := hN.ws _ (List.mem_of_getElem? hw)
      have hpl2 := hpl k _ hw
      generalize N.ws[k] = w at *
      generalize hs[k]'(by omega) = x at hx f2
      have hwh := hwo.h
      have d1 := fun h => vc_ContI Q (k : Int) h (by omega)
      have d2 := fun h => vc_ContI ct w.f h (by omega)
      have d3 := fun h => vc_ContI ct w.t h (by omega)
      have hln : (lessN N k w).ws.length = N.ws.length := by simp [lessN]
      have hfl : ((N.ws.set k (lessW w)).flatMap encWy).length = N.ws.length * 8 := by rw [flat_len encWy_len, List.length_set]
      have cE := fun h => vc_Drive (lessN N k w) a b h (by omega) (by omega) (by omega)
      have cO := fun h => vc_CloneNetO N h (by omega)
      unfold drvV at cE
      by_cases hq : (k : Int) ∈ Q
      · have hz : 0 < w.h := by
          rcases Int.lt_or_le 0 w.h with h9 | h9
          · exact h9
          · exact absurd hq (f1 (by omega))
        have hxw := f2 hq
        subst hxw
        rw [if_pos (hpl2 hz), f4 hz, if_pos hq] at cE
        rw [decide_eq_true hq] at d1
        generalize (dvP (lessN N k w) a b).1 = hs2 at cE
        simp only [vN, wys, lessN, List.length_set] at cE
        conv => whnf
        repeat' (first | ((first | refine zs1 ?_ | refine zs2 ?_ | refine zs3 ?_ | refine zs4 ?_ | refine zs5 ?_); conv => whnf) | ((first | apply zi1 | apply zi2 | apply zi3 | apply zi4 | apply zi5) <;> intro _ <;> conv => whnf) | (refine VAny.ix encWy_len k rfl rfl hw ?_; conv => whnf) | (refine VCall.intro (d1 _) ?_; conv => whnf))
        all_goals try (exfalso; omega)
        refine zs6 [] ?_
        conv => whnf
        repeat' (first | ((first | refine zs1 ?_ | refine zs2 ?_ | refine zs3 ?_ | refine zs4 ?_ | refine zs5 ?_); conv => whnf) | ((first | apply zi1 | apply zi2 | apply zi3 | apply zi4 | apply zi5) <;> intro _ <;> conv => whnf) | (refine VAny.ix encI_len k rfl rfl hx ?_; conv => whnf) | (refine VCall.intro (cO _) ?_; conv => whnf) | (refine VLd.recc encWy_len k 3 rfl rfl rfl hw (by decide) rfl (by show (k : Int).toNat * 8 + 3 = k * 8 + 3; omega) ?_; conv => whnf) | (refine VMem.setRec encWy_len k 3 (lessW w) rfl rfl rfl hw (by decide) rfl (by show (k : Int).toNat * 8 + 3 = k * 8 + 3; omega) ?_; conv => whnf))
        all_goals try contradiction
        all_goals try (exfalso; omega)
        refine VCall.intro (VC.give (args' := [.agg [I N.p, .fs 8 N.ws.length ((N.ws.set k (lessW w)).flatMap encWy)], ints a, ints b]) (loc' := [.dead, .dead, .dead]) [(1, (N.ws.set k (lessW w)).flatMap encWy)] [] (OutOk.lift _) zb zf (by exact FmAll.nil) rfl zv (cE _)) ?_
        conv => whnf
        repeat' (first | ((first | refine zs1 ?_ | refine zs2 ?_ | refine zs3 ?_ | refine zs4 ?_ | refine zs5 ?_); conv => whnf) | ((first | apply zi1 | apply zi2 | apply zi3 | apply zi4 | apply zi5) <;> intro _ <;> conv => whnf))
        all_goals try contradiction
        all_goals try (exfalso; omega)
        refine LEnd.intro (k + 1) (by omega) (by omega) ?_
        conv => whnf
        refine Retell.turn ⟨[], 3, [], []⟩ (TurnOk.mk' _ _ [] [] (OutOk.lift _) rfl (by decide) zb trivial trivial rfl) zw zm
      · rw [decide_eq_false hq] at d1
        by_cases hz : w.h = 0
        · conv => whnf
          repeat' (first | ((first | refine zs1 ?_ | refine zs2 ?_ | refine zs3 ?_ | refine zs4 ?_ | refine zs5 ?_); conv => whnf) | ((first | apply zi1 | apply zi2 | apply zi3 | apply zi4 | apply zi5) <;> intro _ <;> conv => whnf) | (refine VAny.ix encWy_len k rfl rfl hw ?_; conv => whnf) | (refine VCall.intro (d1 _) ?_; conv => whnf))
          all_goals try (exfalso; omega)
          refine zs6 [] ?_
          conv => whnf
          repeat' (first | ((first | refine zs1 ?_ | refine zs2 ?_ | refine zs3 ?_ | refine zs4 ?_ | refine zs5 ?_); conv => whnf) | ((first | apply zi1 | apply zi2 | apply zi3 | apply zi4 | apply zi5) <;> intro _ <;> conv => whnf))
          all_goals try contradiction
          all_goals try (exfalso; omega)
          refine LEnd.intro (k + 1) (by omega) (by omega) ?_
          conv => whnf
          refine Retell.turn ⟨[], 1, [], []⟩ (TurnOk.mk' _ _ [] [] (OutOk.lift _) rfl (by decide) zb trivial trivial rfl) zw zm
        · have hz : 0 < w.h := by omega
          rw [if_pos (hpl2 hz), f4 hz, if_neg hq] at cE
          generalize (dvP (lessN N k w) a b).1 = hs2 at cE
          simp only [vN, wys, lessN, List.length_set] at cE
          by_cases hc1 : w.f ∈ ct
          · rw [decide_eq_true hc1] at d2
            have hc2 : w.t ∈ ct := Decidable.byContradiction fun h9 => hq (f3 hz hc1 h9)
            rw [decide_eq_true hc2] at d3
            conv => whnf
            repeat' (first | ((first | refine zs1 ?_ | refine zs2 ?_ | refine zs3 ?_ | refine zs4 ?_ | refine zs5 ?_); conv => whnf) | ((first | apply zi1 | apply zi2 | apply zi3 | apply zi4 | apply zi5) <;> intro _ <;> conv => whnf) | (refine VAny.ix encWy_len k rfl rfl hw ?_; conv => whnf) | (refine VCall.intro (d1 _) ?_; conv => whnf))
            all_goals try (exfalso; omega)
            refine zs6 [] ?_
            conv => whnf
            repeat' (first | ((first | refine zs1 ?_ | refine zs2 ?_ | refine zs3 ?_ | refine zs4 ?_ | refine zs5 ?_); conv => whnf) | ((first | apply zi1 | apply zi2 | apply zi3 | apply zi4 | apply zi5) <;> intro _ <;> conv => whnf) | (refine VCall.intro (d2 _) ?_; conv => whnf) | (refine VCall.intro (d3 _) ?_; conv => whnf) | (refine VCall.intro (cO _) ?_; conv => whnf) | (refine VLd.recc encWy_len k 3 rfl rfl rfl hw (by decide) rfl (by show (k : Int).toNat * 8 + 3 = k * 8 + 3; omega) ?_; conv => whnf) | (refine VMem.setRec encWy_len k 3 (lessW w) rfl rfl rfl hw (by decide) rfl (by show (k : Int).toNat * 8 + 3 = k * 8 + 3; omega) ?_; conv => whnf))
            all_goals try contradiction
            all_goals try (exfalso; omega)
            refine VCall.intro (VC.give (args' := [.agg [I N.p, .fs 8 N.ws.length ((N.ws.set k (lessW w)).flatMap encWy)], ints a, ints b]) (loc' := [.dead, .dead, .dead]) [(1, (N.ws.set k (lessW w)).flatMap encWy)] [] (OutOk.lift _) zb zf (by exact FmAll.nil) rfl zv (cE _)) ?_
            conv => whnf
            repeat' (first | ((first | refine zs1 ?_ | refine zs2 ?_ | refine zs3 ?_ | refine zs4 ?_ | refine zs5 ?_); conv => whnf) | ((first | apply zi1 | apply zi2 | apply zi3 | apply zi4 | apply zi5) <;> intro _ <;> conv => whnf))
            all_goals try contradiction
            all_goals try (exfalso; omega)
            refine LEnd.intro (k + 1) (by omega) (by omega) ?_
            conv => whnf
            refine Retell.turn ⟨[], 3, [], []⟩ (TurnOk.mk' _ _ [] [] (OutOk.lift _) rfl (by decide) zb trivial trivial rfl) zw zm
          · rw [decide_eq_false hc1] at d2
            conv => whnf
            repeat' (first | ((first | refine zs1 ?_ | refine zs2 ?_ | refine zs3 ?_ | refine zs4 ?_ | refine zs5 ?_); conv => whnf) | ((first | apply zi1 | apply zi2 | apply zi3 | apply zi4 | apply zi5) <;> intro _ <;> conv => whnf) | (refine VAny.ix encWy_len k rfl rfl hw ?_; conv => whnf) | (refine VCall.intro (d1 _) ?_; conv => whnf))
            all_goals try (exfalso; omega)
            refine zs6 [] ?_
            conv => whnf
            repeat' (first | ((first | refine zs1 ?_ | refine zs2 ?_ | refine zs3 ?_ | refine zs4 ?_ | refine zs5 ?_); conv => whnf) | ((first | apply zi1 | apply zi2 | apply zi3 | apply zi4 | apply zi5) <;> intro _ <;> conv => whnf) | (refine VCall.intro (d2 _) ?_; conv => whnf) | (refine VCall.intro (cO _) ?_; conv => whnf) | (refine VLd.recc encWy_len k 3 rfl rfl rfl hw (by decide) rfl (by show (k : Int).toNat * 8 + 3 = k * 8 + 3; omega) ?_; conv => whnf) | (refine VMem.setRec encWy_len k 3 (lessW w) rfl rfl rfl hw (by decide) rfl (by show (k : Int).toNat * 8 + 3 = k * 8 + 3; omega) ?_; conv => whnf))
            all_goals try contradiction
            all_goals try (exfalso; omega)
            refine VCall.intro (VC.give (args' := [.agg [I N.p, .fs 8 N.ws.length ((N.ws.set k (lessW w)).flatMap encWy)], ints a, ints b]) (loc' := [.dead, .dead, .dead]) [(1, (N.ws.set k (lessW w)).flatMap encWy)] [] (OutOk.lift _) zb zf (by exact FmAll.nil) rfl zv (cE _)) ?_
            conv => whnf
            repeat' (first | ((first | refine zs1 ?_ | refine zs2 ?_ | refine zs3 ?_ | refine zs4 ?_ | refine zs5 ?_); conv => whnf) | ((first | apply zi1 | apply zi2 | apply zi3 | apply zi4 | apply zi5) <;> intro _ <;> conv => whnf))
            all_goals try contradiction
            all_goals try (exfalso; omega)
            refine LEnd.intro (k + 1) (by omega) (by omega) ?_
            conv => whnf
            refine Retell.turn ⟨[], 3, [], []⟩ (TurnOk.mk' _ _ [] [] (OutOk.lift _) rfl (by decide) zb trivial trivial rfl) zw zm
    · obtain rfl : k = N.ws.length := by omega
      conv => whnf
      repeat' (first | ((first | refine zs1 ?_ | refine zs2 ?_ | refine zs3 ?_ | refine zs4 ?_ | refine zs5 ?_); conv => whnf) | ((first | apply zi1 | apply zi2 | apply zi3 | apply zi4 | apply zi5) <;> intro _ <;> conv => whnf) | (refine VCall.intro (vc_awake _) ?_; conv => whnf))
      all_goals try (exfalso; omega)
      exact VOut.same rfl
end Go.Proofs.Ytoeendggmalcpaa

open Go.Vm
namespace Go.Proofs.Ytoeendggmalcpaa
open Go.ChangeShapes Go.WideShapes Go.ChangeAt Go.RowKit

theorem open4p : OpenAll Try.prog Try.f4.params.toList (fun x : List Int × Unit => [dU x.1]) := by
  rw [Try.params4]
  exact OpenAll.cons openU (OpenAll.nil)
set_option maxRecDepth 100000 in
theorem contract4 (H : Type) (enc : TypeId × Value → H) (W : World) (base : Nat) (args : Array Value) (ds gs : List (DataW H)) (before : List MemPlace)
    (hval : ∀ (j : Nat) t v, Try.f4.params[j]? = some t → args[j]? = some v → Value.okWide Try.prog W .any base t v)
    (hW : DataW.Whole enc Try.prog Try.f4.params.toList Rows.passageNarrowSpec.vars false W args.toList ds gs before) :
    Calls Try.prog 4 args W fun e W' => ∃ v, e = .returned v ∧ Rows.passageNarrowSpec.post enc Try.prog Try.f4 false true false false W args v W' := by
  refine contract_of_vc open4p (fun g => vc_NarrowLaw g.1 Hp.bare) laidOut ?_ (tb := 4) (by kernel_rfl) Try.underlying4 rfl ?_ hval hW
  · rw [Try.params4]
    intro t ht
    simp only [List.mem_cons, List.not_mem_nil, or_false] at ht
    rcases ht with rfl
    all_goals exact ⟨by kernel_rfl, of_decide_eq_true (by kernel_rfl)⟩
  · intro H dd hl
    rw [Try.params4] at hl
    match dd, hl with
    | [d0], _ => rfl
set_option maxRecDepth 100000 in
theorem lifted4 (os : Os) (started : os.Started) (H : Type) (enc : TypeId × Value → H) :
    ReturnsInHanded {} Try.checked os 4 .any (Rows.passageNarrowSpec.pre6 enc Try.prog Try.f4 Rows.passageNarrowRow.domain false) (Rows.passageNarrowSpec.post enc Try.prog Try.f4 false true false false) := by
  refine returnsInHanded_of_change (C := Try.checked) ownKn started (by kernel_rfl) Try.func4
    (ChangeSpec.witness6 (enc := enc) (C := Try.checked) false ⟨#[], #[.slice none 0 0], []⟩ 8 (by kernel_rfl) (by kernel_rfl) (by kernel_rfl) (by kernel_rfl)) ?_
  intro W base args ds gs before hval hW _ _
  exact contract4 H enc W base args ds gs before hval hW
theorem passageNarrow_said : Rows.PassageNarrowSaid :=
  OpenClaim.holds_of_wide 4 Try.f4 rfl rfl rfl rfl rfl rfl rfl ⟨rfl, rfl, rfl, rfl, rfl⟩ rfl rfl rfl rfl rfl (by kernel_rfl) Try.func4 (by kernel_rfl)
    (of_decide_eq_true (by kernel_rfl)) (by unfold Func.isWrapper; first | (rw [if_pos (by decide +kernel)]; kernel_rfl) | (rw [if_neg (by decide +kernel)]; exact ⟨rfl, rfl⟩))
    (fun os started H enc _ => lifted4 os started H enc)
end Go.Proofs.Ytoeendggmalcpaa


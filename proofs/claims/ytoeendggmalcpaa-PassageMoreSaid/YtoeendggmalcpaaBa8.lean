/- Part 8 of the proof that passage's functions compute what is told. No condition. -/
import Derived.Test.YtoeendggmalcpaaBa7
set_option linter.unusedVariables false
set_option linter.unusedSimpArgs false
open Go.Vm
open Psg
namespace Go.Proofs.Ytoeendggmalcpaa
set_option maxRecDepth 20000
set_option maxHeartbeats 4000000
/-! ### Herds that are barred -/
def hrdL (N : Nt) : List Hd → Int
  | [] => 0
  | x :: r => if hrd N x = 0 then hrdL N r else hrd N x
theorem hrdL_at {N : Nt} {l : List Hd} {k : Nat} {x : Hd} (h : l[k]? = some x) : hrdL N (l.drop k) = if hrd N x = 0 then hrdL N (l.drop (k + 1)) else hrd N x := by
  obtain ⟨hlt, rfl⟩ := List.getElem?_eq_some_iff.1 h
  rw [List.drop_eq_getElem_cons hlt, hrdL]
theorem hrdL_ok {N : Nt} : ∀ {l : List Hd}, hrdL N l = 0 → ∀ x ∈ l, hrd N x = 0
  | y :: l, h, x, hx => by
    rw [hrdL] at h
    by_cases h1 : hrd N y = 0
    · rw [if_pos h1] at h
      rcases List.mem_cons.1 hx with rfl | hx
      · exact h1
      · exact hrdL_ok h x hx
    · rw [if_neg h1] at h; exact absurd h h1
theorem hrdL_of {N : Nt} : ∀ {l : List Hd}, (∀ x ∈ l, hrd N x = 0) → hrdL N l = 0
  | [], _ => rfl
  | y :: l, h => by
    rw [hrdL, if_pos (h y List.mem_cons_self)]
    exact hrdL_of fun x hx => h x (List.mem_cons_of_mem _ hx)
def bdE (N : Nt) (l : List Hd) (to : List Int) : Int := if chk N = 0 then (if l.length ≤ 12 ∧ l.length = to.length then (if hrdL N l = 0 then (if to.all (pstB N) = true then 0 else 2) else hrdL N l) else 3) else chk N
def bdB (N : Nt) (l : List Hd) (to : List Int) (i : Nat) : Bool := decide (dyP N (l.getD i zHd) (to.getD i 0).toNat = -1)
def bdL (N : Nt) (l : List Hd) (to : List Int) : Nat → List Int
  | 0 => []
  | k + 1 => if bdB N l to k = true then bdL N l to k ++ [(k : Int)] else bdL N l to k
theorem bdL_len (N : Nt) (l : List Hd) (to : List Int) : ∀ k, (bdL N l to k).length ≤ k
  | 0 => Nat.le_refl _
  | k + 1 => by
    have := bdL_len N l to k
    rw [bdL]
    split
    · rw [List.length_append]; simp; omega
    · omega
theorem bdL_mem {N : Nt} {l : List Hd} {to : List Int} : ∀ {k : Nat} {x : Int}, x ∈ bdL N l to k ↔ ∃ j : Nat, j < k ∧ x = j ∧ bdB N l to j = true
  | 0, x => by simp [bdL]
  | k + 1, x => by
    have ih := bdL_mem (N := N) (l := l) (to := to) (k := k) (x := x)
    rw [bdL]
    split
    · rename_i h
      rw [List.mem_append, ih, List.mem_singleton]
      constructor
      · rintro (⟨j, h1, h2, h3⟩ | h1)
        · exact ⟨j, by omega, h2, h3⟩
        · exact ⟨k, by omega, h1, h⟩
      · rintro ⟨j, h1, h2, h3⟩
        by_cases e : j = k
        · subst e; exact .inr h2
        · exact .inl ⟨j, by omega, h2, h3⟩
    · rename_i h
      rw [ih]
      constructor
      · rintro ⟨j, h1, h2, h3⟩; exact ⟨j, by omega, h2, h3⟩
      · rintro ⟨j, h1, h2, h3⟩
        by_cases e : j = k
        · subst e; exact absurd h3 h
        · exact ⟨j, by omega, h2, h3⟩
def bdR (N : Nt) (l : List Hd) (to : List Int) : List Int := if bdE N l to = 0 then bdL N l to l.length else []
theorem vc_Barred (N : Nt) (l : List Hd) (to : List Int) (h : Hp) (hn : N.ws.length ≤ 4000000) (hl : l.length ≤ 4000000) (ht : to.length ≤ 4000000) : VC Try.prog 40 [vN N, hds l, ints to] h (.tuple [ints (bdR N l to), I (bdE N l to)]) h := by
  obtain ⟨E, hE⟩ : ∃ E, E = bdE N l to := ⟨_, rfl⟩
  obtain ⟨L, hL⟩ : ∃ L, L = bdR N l to := ⟨_, rfl⟩
  rw [← hE, ← hL]
  unfold bdR at hL
  rw [← hE] at hL
  unfold bdE at hE
  have cC := fun h => vc_check N h hn
  by_cases h0 : chk N = 0
  · obtain ⟨n, hN⟩ := chk_ok h0
    have hp := hN.p
    have hn1 := hN.n1
    rw [h0] at cC
    rw [if_pos h0] at hE
    refine VC.bodyC 1 Try.func40 rfl Try.ntmps40 Try.call40 (h.grows_refl) rfl ?_; conv => whnf
    refine VCut.at' (outer := h.lift) (marks := []) 99 [(1, hds l), (2, ints to), (3, .fp (encN N))] [] ?_ ?_
    · conv => whnf
      refine Retell.turn ⟨[], 1, [(0, encN N)], []⟩ (TurnOk.mk' _ _ [(0, encN N)] [] (OutOk.lift _) rfl (by decide) zb zf trivial rfl) zw zm
    by_cases h1 : l.length ≤ 12 ∧ l.length = to.length
    · rw [if_pos h1] at hE
      by_cases h2 : hrdL N l = 0
      · rw [if_pos h2] at hE
        have hall := hrdL_ok h2
        have cA := fun h => vc_allA to (pstB N) 74 N ht (fun e _ h => vc_posted N e h (by omega)) h
        have hA : to.all (pstB N) = true → ∀ p ∈ to, 0 ≤ p ∧ p ≤ N.p - 1 := fun h p hp => by
          have := List.all_eq_true.1 h p hp
          exact of_decide_eq_true this
        generalize to.all (pstB N) = A at cA hE hA
        conv => whnf
        repeat' (first | ((first | refine zs1 ?_ | refine zs2 ?_ | refine zs3 ?_ | refine zs4 ?_ | refine zs5 ?_); conv => whnf) | ((first | apply zi1 | apply zi2 | apply zi3 | apply zi4 | apply zi5) <;> intro _ <;> conv => whnf) | (refine VCall.intro (cC _) ?_; conv => whnf))
        all_goals try (exfalso; omega)
        refine VCode.lp (outer := h.lift) (marks := []) (fun k : Nat => [(1, hds l), (2, ints to), (3, .fp (encN N)), (30, hds l), (31, I l.length), (32, I k)]) (fun _ => []) (fun k => k ≤ l.length) (fun k => l.length - k) 0 (Nat.zero_le _) ?_ ?_
        · conv => whnf
          refine Retell.turn ⟨[], 0, [], []⟩ (TurnOk.mk' _ _ [] [] (OutOk.lift _) rfl (by decide) zb trivial trivial rfl) zw zm
        · intro k k1
          rcases Nat.lt_or_ge k l.length with h3 | h3
          · have hx : l[k]? = some l[k] := List.getElem?_eq_getElem h3
            have hr := hall _ (List.mem_of_getElem? hx)
            have cH := fun h => vc_herded N l[k] h hn
            rw [hr] at cH
            generalize l[k] = x at hx cH
            conv => whnf
            repeat' (first | ((first | refine zs1 ?_ | refine zs2 ?_ | refine zs3 ?_ | refine zs4 ?_ | refine zs5 ?_); conv => whnf) | ((first | apply zi1 | apply zi2 | apply zi3 | apply zi4 | apply zi5) <;> intro _ <;> conv => whnf) | (refine VAny.ix encHd_len k rfl rfl hx ?_; conv => whnf) | (refine VCall.intro (cH _) ?_; conv => whnf))
            all_goals try (exfalso; omega)
            refine LEnd.intro (k + 1) (by omega) (by omega) ?_
            conv => whnf
            refine Retell.turn ⟨[], 1, [], []⟩ (TurnOk.mk' _ _ [] [] (OutOk.lift _) rfl (by decide) zb trivial trivial rfl) zw zm
          · cases A with
            | false =>
              rw [if_neg (by decide)] at hE
              subst hE
              rw [if_neg (by decide)] at hL
              subst hL
              conv => whnf
              repeat' (first | ((first | refine zs1 ?_ | refine zs2 ?_ | refine zs3 ?_ | refine zs4 ?_ | refine zs5 ?_); conv => whnf) | ((first | apply zi1 | apply zi2 | apply zi3 | apply zi4 | apply zi5) <;> intro _ <;> conv => whnf) | (refine VCall.intro (cA _) ?_; conv => whnf))
              all_goals try (exfalso; omega)
              refine VOut.data 1 [] [] rfl zf (by exact FmAll.nil) zw
            | true =>
              rw [if_pos rfl] at hE
              subst hE
              rw [if_pos rfl] at hL
              have hA := hA rfl
              conv => whnf
              repeat' (first | ((first | refine zs1 ?_ | refine zs2 ?_ | refine zs3 ?_ | refine zs4 ?_ | refine zs5 ?_); conv => whnf) | ((first | apply zi1 | apply zi2 | apply zi3 | apply zi4 | apply zi5) <;> intro _ <;> conv => whnf) | (refine VCall.intro (cA _) ?_; conv => whnf))
              all_goals try (exfalso; omega)
              refine VCode.lp (outer := h.lift) (marks := []) (fun k : Nat => [(2, ints to), (3, .fp (encN N)), (12, .gl (.loc 0) 1 (bdL N l to k).length), (48, hds l), (49, I l.length), (50, I k)]) (fun k => [.flat true ((bdL N l to k).flatMap Vm.encI)]) (fun k => k ≤ l.length) (fun k => l.length - k) 0 (Nat.zero_le _) ?_ ?_
              · rw [show bdL N l to 0 = [] from rfl]
                conv => whnf
                refine Retell.turn ⟨[0], 0, [], []⟩ (TurnOk.mk' _ _ [] [] (OutOk.lift _) rfl (by decide) zb trivial trivial rfl) zw zm
              · intro k k1
                have hbl := bdL_len N l to k
                rcases Nat.lt_or_ge k l.length with h3 | h3
                · have hx : l[k]? = some l[k] := List.getElem?_eq_getElem h3
                  have hq : to[k]? = some to[k] := List.getElem?_eq_getElem (by omega)
                  have hp1 := hA _ (List.mem_of_getElem? hq)
                  have hr := hall _ (List.mem_of_getElem? hx)
                  have hst : bdL N l to (k + 1) = if bdB N l to k = true then bdL N l to k ++ [(k : Int)] else bdL N l to k := rfl
                  have hbb : bdB N l to k = decide (dyP N l[k] to[k].toNat = -1) := by
                    unfold bdB
                    rw [List.getD_eq_getElem?_getD, List.getD_eq_getElem?_getD, hx, hq]; rfl
                  rw [hbb] at hst
                  clear hbb
                  generalize l[k] = x at hx hr hst
                  generalize to[k] = p at hq hp1 hst
                  obtain ⟨p, rfl⟩ : ∃ q : Nat, p = q := ⟨p.toNat, by omega⟩
                  rw [Int.toNat_natCast] at hst
                  obtain ⟨n', hN', hxo⟩ := hrd_ok hr
                  have : n' = n := by have := hN'.p; omega
                  subst this
                  have cB := fun h => vc_begun0 N x h hN hxo
                  have hbl2 := bgn_len hN hxo
                  have hdy : dyP N x p = tell (dayOf (atD (bgn N.ws x).D) p) := rfl
                  rw [hdy] at hst
                  clear hdy
                  generalize bgn N.ws x = b at *
                  obtain ⟨D, c, q⟩ := b
                  dsimp only at *
                  have cD := fun h hb => vc_day N x D (.loc 2) (.loc 3) p h hb hbl2 (by omega)
                  generalize bdL N l to k = W at hst hbl ⊢
                  generalize tell (dayOf (atD D) p) = d at cD hst
                  by_cases hd : d = -1
                  · rw [decide_eq_true hd, if_pos rfl] at hst
                    conv => whnf
                    repeat' (first | ((first | refine zs1 ?_ | refine zs2 ?_ | refine zs3 ?_ | refine zs4 ?_ | refine zs5 ?_); conv => whnf) | ((first | apply zi1 | apply zi2 | apply zi3 | apply zi4 | apply zi5) <;> intro _ <;> conv => whnf) | (refine VAny.ix encHd_len k rfl rfl hx ?_; conv => whnf))
                    all_goals try (exfalso; omega)
                    refine zs6 [(2, 6)] ?_
                    conv => whnf
                    repeat' (first | ((first | refine zs1 ?_ | refine zs2 ?_ | refine zs3 ?_ | refine zs4 ?_ | refine zs5 ?_); conv => whnf) | ((first | apply zi1 | apply zi2 | apply zi3 | apply zi4 | apply zi5) <;> intro _ <;> conv => whnf) | (refine VCall.intro (cB _) ?_; conv => whnf) | (refine VAny.ix encI_len k rfl rfl hq ?_; conv => whnf) | (refine VCall.intro (cD _ rfl) ?_; conv => whnf) | (refine VMem.app1 (l := W) (k : Int) encI_len rfl rfl rfl rfl rfl (by omega) ?_; conv => whnf))
                    all_goals try (exfalso; omega)
                    refine LEnd.intro (k + 1) (by omega) (by omega) ?_
                    rw [hst, List.length_append]
                    conv => whnf
                    refine Retell.turn ⟨[5], 6, [], []⟩ (TurnOk.mk' _ _ [] [] (OutOk.lift _) rfl (by decide) zb trivial trivial rfl) zw zm
                  · rw [decide_eq_false hd, if_neg (by decide)] at hst
                    conv => whnf
                    repeat' (first | ((first | refine zs1 ?_ | refine zs2 ?_ | refine zs3 ?_ | refine zs4 ?_ | refine zs5 ?_); conv => whnf) | ((first | apply zi1 | apply zi2 | apply zi3 | apply zi4 | apply zi5) <;> intro _ <;> conv => whnf) | (refine VAny.ix encHd_len k rfl rfl hx ?_; conv => whnf))
                    all_goals try (exfalso; omega)
                    refine zs6 [(2, 6)] ?_
                    conv => whnf
                    repeat' (first | ((first | refine zs1 ?_ | refine zs2 ?_ | refine zs3 ?_ | refine zs4 ?_ | refine zs5 ?_); conv => whnf) | ((first | apply zi1 | apply zi2 | apply zi3 | apply zi4 | apply zi5) <;> intro _ <;> conv => whnf) | (refine VCall.intro (cB _) ?_; conv => whnf) | (refine VAny.ix encI_len k rfl rfl hq ?_; conv => whnf) | (refine VCall.intro (cD _ rfl) ?_; conv => whnf))
                    all_goals try (exfalso; omega)
                    refine LEnd.intro (k + 1) (by omega) (by omega) ?_
                    rw [hst]
                    conv => whnf
                    refine Retell.turn ⟨[0], 4, [], []⟩ (TurnOk.mk' _ _ [] [] (OutOk.lift _) rfl (by decide) zb trivial trivial rfl) zw zm
                · obtain rfl : k = l.length := by omega
                  rw [← hL]
                  conv => whnf
                  repeat' (first | ((first | refine zs1 ?_ | refine zs2 ?_ | refine zs3 ?_ | refine zs4 ?_ | refine zs5 ?_); conv => whnf) | ((first | apply zi1 | apply zi2 | apply zi3 | apply zi4 | apply zi5) <;> intro _ <;> conv => whnf))
                  all_goals try (exfalso; omega)
                  refine VOut.data 1 [(0, L.flatMap Vm.encI)] [] rfl zf (by exact FmAll.nil) zw
      · rw [if_neg h2] at hE
        rw [if_neg (by omega)] at hL
        subst hL
        conv => whnf
        repeat' (first | ((first | refine zs1 ?_ | refine zs2 ?_ | refine zs3 ?_ | refine zs4 ?_ | refine zs5 ?_); conv => whnf) | ((first | apply zi1 | apply zi2 | apply zi3 | apply zi4 | apply zi5) <;> intro _ <;> conv => whnf) | (refine VCall.intro (cC _) ?_; conv => whnf))
        all_goals try (exfalso; omega)
        refine VCode.lp (outer := h.lift) (marks := []) (fun k : Nat => [(1, hds l), (2, ints to), (3, .fp (encN N)), (30, hds l), (31, I l.length), (32, I k)]) (fun _ => []) (fun k => k ≤ l.length ∧ E = hrdL N (l.drop k)) (fun k => l.length - k) 0 ⟨Nat.zero_le _, hE⟩ ?_ ?_
        · conv => whnf
          refine Retell.turn ⟨[], 0, [], []⟩ (TurnOk.mk' _ _ [] [] (OutOk.lift _) rfl (by decide) zb trivial trivial rfl) zw zm
        · rintro k ⟨k1, k2⟩
          rcases Nat.lt_or_ge k l.length with h3 | h3
          · have hx : l[k]? = some l[k] := List.getElem?_eq_getElem h3
            rw [hrdL_at hx] at k2
            have cH := fun h => vc_herded N l[k] h hn
            generalize l[k] = x at hx cH k2
            by_cases hr : hrd N x = 0
            · rw [if_pos hr] at k2
              rw [hr] at cH
              conv => whnf
              repeat' (first | ((first | refine zs1 ?_ | refine zs2 ?_ | refine zs3 ?_ | refine zs4 ?_ | refine zs5 ?_); conv => whnf) | ((first | apply zi1 | apply zi2 | apply zi3 | apply zi4 | apply zi5) <;> intro _ <;> conv => whnf) | (refine VAny.ix encHd_len k rfl rfl hx ?_; conv => whnf) | (refine VCall.intro (cH _) ?_; conv => whnf))
              all_goals try (exfalso; omega)
              refine LEnd.intro (k + 1) ⟨by omega, k2⟩ (by omega) ?_
              conv => whnf
              refine Retell.turn ⟨[], 1, [], []⟩ (TurnOk.mk' _ _ [] [] (OutOk.lift _) rfl (by decide) zb trivial trivial rfl) zw zm
            · rw [if_neg hr] at k2
              rw [← k2] at cH hr
              conv => whnf
              repeat' (first | ((first | refine zs1 ?_ | refine zs2 ?_ | refine zs3 ?_ | refine zs4 ?_ | refine zs5 ?_); conv => whnf) | ((first | apply zi1 | apply zi2 | apply zi3 | apply zi4 | apply zi5) <;> intro _ <;> conv => whnf) | (refine VAny.ix encHd_len k rfl rfl hx ?_; conv => whnf) | (refine VCall.intro (cH _) ?_; conv => whnf))
              all_goals try (exfalso; omega)
              all_goals try (rename_i hh; exact absurd (by omega) hr)
              refine VOut.data 1 [] [] rfl zf (by exact FmAll.nil) zw
          · exfalso
            rw [List.drop_of_length_le h3, hrdL] at k2
            exact h2 (by rw [← hE]; exact k2)
    · rw [if_neg h1] at hE
      subst hE
      rw [if_neg (by decide)] at hL
      subst hL
      conv => whnf
      repeat' (first | ((first | refine zs1 ?_ | refine zs2 ?_ | refine zs3 ?_ | refine zs4 ?_ | refine zs5 ?_); conv => whnf) | ((first | apply zi1 | apply zi2 | apply zi3 | apply zi4 | apply zi5) <;> intro _ <;> conv => whnf) | (refine VCall.intro (cC _) ?_; conv => whnf))
      all_goals try (exfalso; omega)
      all_goals refine VOut.data 0 [] [] rfl zf (by exact FmAll.nil) zw
  · rw [if_neg h0] at hE
    rw [← hE] at cC h0
    rw [if_neg h0] at hL
    subst hL
    refine VC.body Try.func40 rfl Try.ntmps40 Try.call40 (h.grows_refl) rfl ?_; conv => whnf
    repeat' (first | ((first | refine zs1 ?_ | refine zs2 ?_ | refine zs3 ?_ | refine zs4 ?_ | refine zs5 ?_ | refine zs6 [] ?_); conv => whnf) | ((first | apply zi1 | apply zi2 | apply zi3 | apply zi4 | apply zi5) <;> intro _ <;> conv => whnf) | (refine VCall.intro (cC _) ?_; conv => whnf))
    · refine VOut.data 1 [] [] rfl zf (by exact FmAll.nil) zw
    all_goals (rename_i hh; exact absurd (by omega) h0)
end Go.Proofs.Ytoeendggmalcpaa

open Go.Vm
open Psg
namespace Go.Joins
open Go.ChangeShapes Go.WideShapes Go.RowKit Go.Deep Go.WideElems Go.Maps
theorem trod_struct7 {H : Type} {enc : TypeId × Value → H} {P : Program} {w : World} {base : Nat} {spare : Nat → Bool} {held : Bool} {t : TypeId} {f0 f1 f2 f3 f4 f5 f6 : Field} {fuel : Nat} {cs : List Value} {x : DataW H × List MemPlace} (ht : P.underlying t = some (.struct #[f0, f1, f2, f3, f4, f5, f6])) (h : DataW.trod enc P w base spare held fuel t cs = some x) :
    ∃ y0 y1 y2 y3 y4 y5 y6 n, cs.length = P.cellsOf t ∧ DataW.trod enc P w base spare held n f0.type ((cs.drop f0.offset).take (P.cellsOf f0.type)) = some y0 ∧
      DataW.trod enc P w base spare held n f1.type ((cs.drop f1.offset).take (P.cellsOf f1.type)) = some y1 ∧ DataW.trod enc P w base spare held n f2.type ((cs.drop f2.offset).take (P.cellsOf f2.type)) = some y2 ∧
      DataW.trod enc P w base spare held n f3.type ((cs.drop f3.offset).take (P.cellsOf f3.type)) = some y3 ∧ DataW.trod enc P w base spare held n f4.type ((cs.drop f4.offset).take (P.cellsOf f4.type)) = some y4 ∧
      DataW.trod enc P w base spare held n f5.type ((cs.drop f5.offset).take (P.cellsOf f5.type)) = some y5 ∧ DataW.trod enc P w base spare held n f6.type ((cs.drop f6.offset).take (P.cellsOf f6.type)) = some y6 := by
  obtain ⟨xs, n, _, rfl, hl, hlen, hf⟩ := DataW.trod_struct ht h
  match xs, hlen with
  | [y0, y1, y2, y3, y4, y5, y6], _ => exact ⟨y0, y1, y2, y3, y4, y5, y6, n, hl, by simpa using hf 0 f0 rfl, by simpa using hf 1 f1 rfl, by simpa using hf 2 f2 rfl, by simpa using hf 3 f3 rfl, by simpa using hf 4 f4 rfl, by simpa using hf 5 f5 rfl, by simpa using hf 6 f6 rfl⟩
end Go.Joins
namespace Go.Vm
structure Seg (W : World) (a : List D) (cs : List Value) (o m : Nat) : Prop where
  dr : DRs (fzW W) a ((cs.drop o).take m)
  one : ∀ v ∈ (cs.drop o).take m, v.oneCell' = true
theorem Seg.app {W : World} {a b : List D} {cs : List Value} {o m k : Nat} (h : Seg W a cs o m) (g : Seg W b cs (o + m) k) : Seg W (a ++ b) cs o (m + k) := by
  have e : (cs.drop o).take (m + k) = (cs.drop o).take m ++ (cs.drop (o + m)).take k := by rw [List.take_add, List.drop_drop]
  refine ⟨by rw [e]; exact DRs.append h.dr g.dr, fun v hv => ?_⟩
  rw [e] at hv
  rcases List.mem_append.1 hv with hv | hv
  · exact h.one v hv
  · exact g.one v hv
theorem Seg.all {W : World} {a : List D} {cs : List Value} {m : Nat} (h : Seg W a cs 0 m) (hl : cs.length = m) : DRs (fzW W) a cs ∧ ∀ v ∈ cs, v.oneCell' = true := by
  have e : (cs.drop 0).take m = cs := by rw [List.drop_zero, List.take_of_length_le (by omega)]
  have h1 := h.dr
  have h2 := h.one
  rw [e] at h1 h2
  exact ⟨h1, h2⟩
end Go.Vm
namespace Go.Proofs.Ytoeendggmalcpaa
open Go.ChangeShapes Go.WideShapes Go.ChangeAt Go.RowKit

theorem open3 : Opens Try.prog 3 (fun n : Int => [DI n]) := Opens.int Try.underlying3
theorem open38 : Opens Try.prog 38 (fun x : Int × Int => [DI x.1, DI x.2]) := (Opens.struct2 1 1 Try.underlying38 (by kernel_rfl) rfl rfl (by kernel_rfl) (by kernel_rfl) open3 open3).as (fun x => x) (fun x => [DI x.1, DI x.2]) fun _ => rfl
theorem cells3 : Try.prog.cellsOf 3 = 1 := by kernel_rfl
theorem cells38 : Try.prog.cellsOf 38 = 2 := by kernel_rfl
theorem cells40 : Try.prog.cellsOf 40 = 8 := by kernel_rfl
theorem open40 : Opens Try.prog 40 encWy := by
  intro W H en sp hd fuel cs x h
  obtain ⟨y0, y1, y2, y3, y4, y5, y6, n, hl, g0, g1, g2, g3, g4, g5, g6⟩ := Go.Joins.trod_struct7 Try.underlying40 h
  rw [cells40] at hl
  have g0 : DataW.trod en Try.prog W 0 sp hd n 3 ((cs.drop 0).take (Try.prog.cellsOf 3)) = some y0 := g0
  have g1 : DataW.trod en Try.prog W 0 sp hd n 3 ((cs.drop 1).take (Try.prog.cellsOf 3)) = some y1 := g1
  have g2 : DataW.trod en Try.prog W 0 sp hd n 3 ((cs.drop 2).take (Try.prog.cellsOf 3)) = some y2 := g2
  have g3 : DataW.trod en Try.prog W 0 sp hd n 3 ((cs.drop 3).take (Try.prog.cellsOf 3)) = some y3 := g3
  have g4 : DataW.trod en Try.prog W 0 sp hd n 3 ((cs.drop 4).take (Try.prog.cellsOf 3)) = some y4 := g4
  have g5 : DataW.trod en Try.prog W 0 sp hd n 3 ((cs.drop 5).take (Try.prog.cellsOf 3)) = some y5 := g5
  have g6 : DataW.trod en Try.prog W 0 sp hd n 38 ((cs.drop 6).take (Try.prog.cellsOf 38)) = some y6 := g6
  rw [cells3] at g0 g1 g2 g3 g4 g5
  rw [cells38] at g6
  obtain ⟨a0, b0, c0⟩ := open3 W H en sp hd n _ _ g0
  obtain ⟨a1, b1, c1⟩ := open3 W H en sp hd n _ _ g1
  obtain ⟨a2, b2, c2⟩ := open3 W H en sp hd n _ _ g2
  obtain ⟨a3, b3, c3⟩ := open3 W H en sp hd n _ _ g3
  obtain ⟨a4, b4, c4⟩ := open3 W H en sp hd n _ _ g4
  obtain ⟨a5, b5, c5⟩ := open3 W H en sp hd n _ _ g5
  obtain ⟨⟨a6, a7⟩, b6, c6⟩ := open38 W H en sp hd n _ _ g6
  have s0 : Seg W [DI a0] cs 0 1 := ⟨b0, c0⟩
  have s1 : Seg W [DI a1] cs 1 1 := ⟨b1, c1⟩
  have s2 : Seg W [DI a2] cs 2 1 := ⟨b2, c2⟩
  have s3 : Seg W [DI a3] cs 3 1 := ⟨b3, c3⟩
  have s4 : Seg W [DI a4] cs 4 1 := ⟨b4, c4⟩
  have s5 : Seg W [DI a5] cs 5 1 := ⟨b5, c5⟩
  have s6 : Seg W [DI a6, DI a7] cs 6 2 := ⟨b6, c6⟩
  exact ⟨⟨a0, a1, a2, a3, a4, a5, a6, a7⟩, (((((((s0.app s1).app s2).app s3).app s4).app s5).app s6).all hl)⟩
theorem open25 : Opens Try.prog 25 (fun l : List Wy => [D.sl 8 l.length (l.flatMap encWy)]) := Opens.slice Try.underlying25 encWy_len (by kernel_rfl) (by decide) open40
theorem open27 : Opens Try.prog 27 encN := (Opens.struct2 1 1 Try.underlying27 (by kernel_rfl) rfl rfl (by kernel_rfl) (by kernel_rfl) open3 open25).as (fun x => ⟨x.1, x.2⟩) encN fun _ => rfl
theorem open30 : Opens Try.prog 30 encHd := (Opens.struct3 1 1 1 Try.underlying30 (by kernel_rfl) rfl rfl rfl (by kernel_rfl) (by kernel_rfl) (by kernel_rfl) open3 open3 open3).as (fun x => ⟨x.1, x.2.1, x.2.2⟩) encHd fun _ => rfl
theorem open32 : Opens Try.prog 32 (fun l : List Int => [dints l]) := Opens.slice Try.underlying32 encI_len (by kernel_rfl) (by decide) open3
theorem open53 : Opens Try.prog 53 (fun l : List Hd => [D.sl 3 l.length (l.flatMap encHd)]) := Opens.slice Try.underlying53 encHd_len (by kernel_rfl) (by decide) open30
def dN (l : Nt) : D := .agg (encN l)
def dH (x : Hd) : D := .agg (encHd x)
def dhs (l : List Hd) : D := .sl 3 l.length (l.flatMap encHd)
def dLL (l : List (List Int)) : D := .sl 1 l.length (l.flatMap encL)
theorem openN : OpenV Try.prog 27 dN := OpenV.struct Try.underlying27 open27
theorem openH : OpenV Try.prog 30 dH := OpenV.struct Try.underlying30 open30
theorem openI : OpenV Try.prog 3 (fun n : Int => DI n) := OpenV.int Try.underlying3
theorem openL : OpenV Try.prog 32 dints := OpenV.slice Try.underlying32 open32
theorem openHs : OpenV Try.prog 53 dhs := OpenV.slice Try.underlying53 open53
theorem openLL : OpenV Try.prog 87 dLL := OpenV.slice Try.underlying87 (Opens.slice Try.underlying87 encL_len (by kernel_rfl) (by decide) open32)
def dU (l : List Int) : D := .sl 1 l.length (l.flatMap encU)
theorem openU : OpenV Try.prog 22 dU := OpenV.slice Try.underlying22 (Opens.slice Try.underlying22 encU_len (by kernel_rfl) (by decide) (Opens.int Try.underlying5))
def d8b (n : {n : Int // 0 ≤ n ∧ n ≤ 255}) : D := .s (.int .u8 n.1)
theorem openV_u8 {P : Program} {t : TypeId} (ht : P.underlying t = some (.int .u8)) : OpenV P t d8b := by
  intro W base H en v dd ps hok ⟨fuel, ht2⟩
  obtain ⟨n, h2, _, hw⟩ := DataW.trod_int ht ht2
  have hb : 0 ≤ n ∧ n ≤ 255 := by
    have hw2 : (decide ((0 : Int) ≤ n) && decide (n ≤ (255 : Int))) = true := hw
    simpa using hw2
  unfold Value.okWide at hok
  rw [ht] at hok
  simp only [Cell.okWide, ht] at hok
  refine ⟨⟨n, hb⟩, ?_⟩
  cases v <;> simp [Cell.ok, ht] at hok
  simp [Value.cells] at h2
  simp only [d8b, DR, S.val]
  rw [h2.1, h2.2]
theorem open8b : OpenV Try.prog 5 d8b := openV_u8 Try.underlying5
def d16b (n : {n : Int // 0 ≤ n ∧ n ≤ 65535}) : D := .s (.int .u16 n.1)
theorem openV_u16 {P : Program} {t : TypeId} (ht : P.underlying t = some (.int .u16)) : OpenV P t d16b := by
  intro W base H en v dd ps hok ⟨fuel, ht2⟩
  obtain ⟨n, h2, _, hw⟩ := DataW.trod_int ht ht2
  have hb : 0 ≤ n ∧ n ≤ 65535 := by
    have hw2 : (decide ((0 : Int) ≤ n) && decide (n ≤ (65535 : Int))) = true := hw
    simpa using hw2
  unfold Value.okWide at hok
  rw [ht] at hok
  simp only [Cell.okWide, ht] at hok
  refine ⟨⟨n, hb⟩, ?_⟩
  cases v <;> simp [Cell.ok, ht] at hok
  simp [Value.cells] at h2
  simp only [d16b, DR, S.val]
  rw [h2.1, h2.2]
theorem open16b : OpenV Try.prog 96 d16b := openV_u16 Try.underlying96
theorem ownKn : ownKnob Try.prog.godebug = none := by kernel_rfl
theorem laidOut : laidOutB Try.prog = true := by kernel_rfl
end Go.Proofs.Ytoeendggmalcpaa

open Go.Vm
open Psg
namespace Go.Proofs.Ytoeendggmalcpaa
set_option maxRecDepth 20000
set_option maxHeartbeats 4000000
/-! ### A calendar -/
def calR (D : List Int) (n : Nat) : Rw := (List.range n).map (rowD D)
theorem rowD_len {D : List Int} (hl : D.length = 160) {p : Nat} (hp : p < 10) : (rowD D p).length = 16 := by
  unfold rowD
  rw [List.length_take, List.length_drop]; omega
theorem cal_sz {D : List Int} (hl : D.length = 160) {n : Nat} (hn : n ≤ 10) : Sz n (calR D n) := by
  refine ⟨by unfold calR; rw [List.length_map, List.length_range], fun r hr => ?_⟩
  obtain ⟨p, hp, rfl⟩ := List.mem_map.1 hr
  exact rowD_len hl (by have := List.mem_range.1 hp; omega)
theorem cal_at {D : List Int} {n : Nat} {p s : Int} (hp : 0 ≤ p ∧ p < n) (hs : Pp s) : atR (calR D n) p s = atD D p s := by
  unfold Pp at hs
  unfold atR calR atD rowD ix
  rw [List.getD_eq_getElem?_getD (l := List.map _ _), List.getElem?_map, List.getElem?_range (by omega)]
  show (List.take 16 (List.drop (16 * p.toNat) D)).getD s.toNat 1001 = _
  rw [List.getD_eq_getElem?_getD, List.getElem?_take_of_lt (by omega), List.getElem?_drop, ← List.getD_eq_getElem?_getD]
  congr 1
  omega
theorem cal_val {D : List Int} (hl : D.length = 160) {n : Nat} (hn : n ≤ 10) (hc : ∀ p s : Int, (0 ≤ p ∧ p < n) → Pp s → 0 ≤ atD D p s ∧ atD D p s ≤ 1001) : valR (calR D n) = true := by
  rw [valR_iff]
  intro r hr d hd
  obtain ⟨k, hk, rfl⟩ := mem_at (cal_sz hl hn) hr hd
  rw [cal_at hk.1 hk.2]
  exact hc _ _ hk.1 hk.2
theorem vc_cloneF (l : List Int) (h : Hp) (h0 : 0 < l.length) (hl : l.length ≤ 4000000) : VC Try.prog 102 [ints l] h (ints l) h := by
  refine VC.body Try.func102 rfl Try.ntmps102 Try.call102 (h.grows_refl) rfl ?_; conv => whnf
  repeat' (first | ((first | refine zs1 ?_ | refine zs2 ?_ | refine zs3 ?_ | refine zs4 ?_ | refine zs5 ?_); conv => whnf) | ((first | apply zi1 | apply zi2 | apply zi3 | apply zi4 | apply zi5) <;> intro _ <;> conv => whnf))
  refine VMem.appN (l := ([] : List Int)) encI_len rfl rfl rfl rfl rfl (by show 0 + l.length ≤ _; omega) ?_
  conv => whnf
  repeat' (first | ((first | refine zs1 ?_ | refine zs2 ?_ | refine zs3 ?_ | refine zs4 ?_ | refine zs5 ?_); conv => whnf) | ((first | apply zi1 | apply zi2 | apply zi3 | apply zi4 | apply zi5) <;> intro _ <;> conv => whnf))
  show VOut h _ (.gl (.loc 1) 1 (0 + l.length)) _ _
  rw [Nat.zero_add]
  refine VOut.data 2 [(1, l.flatMap Vm.encI)] [] rfl zf (by exact FmAll.nil) zw
def ksC (c : Cm) : List Vm.D := c.map fun e => dKy e.1
def vsC (c : Cm) : List Vm.D := c.map fun e => dSt e.2
def encTr (N : Nt) (x : Hd) (D : List Int) (c : Cm) : List Vm.D := DI N.p :: .sl 8 N.ws.length (N.ws.flatMap encWy) :: DI x.p :: DI x.d :: DI x.s :: (D.map DI ++ [.mp (ksC c) (vsC c)])
theorem fz_trip {t : TCtx} {loc : List Blk} {j : Nat} {i : Vm.Id} {N : Nt} {x : Hd} {D : List Int} {c : Cm} (hl : loc[j]? = some (trB N x D i)) (hm : VTo t (.map i) (.fm (ksC c) (vsC c))) : ∃ b l, loc[j]? = some b ∧ b.row = some (true, l) ∧ RowTo t l ((encTr N x D c).map Vm.D.v) := by
  refine ⟨_, _, hl, rfl, RowTo.vtos ?_⟩
  have e : (encTr N x D c).map Vm.D.v = preT N x ++ D.map I ++ [.fm (ksC c) (vsC c)] := by
    unfold encTr preT
    simp only [List.map_cons, List.map_append, List.map_map, List.map_nil, List.cons_append, List.nil_append]
    rfl
  rw [e, List.append_assoc, List.append_assoc]
  exact VTos.app (VTos.app (VTos.cons hm VTos.nil) (VTos.ints t D)) (VTos.pre t N x)
theorem fm_trip {t : TCtx} {loc : List Blk} {j : Nat} {c : Cm} (hl : loc[j]? = some (.map (cmE c))) : ∃ es, loc[j]? = some (.map es) ∧ EsTo t es (ksC c) (vsC c) :=
  ⟨_, hl, by rw [cmE_fst]; exact RowTo.dv _ _, by rw [cmE_snd]; exact RowTo.dv _ _⟩
theorem tr_drop {D : List Int} {post : List Vm.D} {k : Nat} (hl : D.length = 160) (hk : k < 10) : (D.map DI ++ post).drop ((k : Int).toNat * 16) = (rowD D k).flatMap Vm.encI ++ ((D.drop (16 * k + 16)).map DI ++ post) := by
  have e : ∀ l : List Int, l.flatMap Vm.encI = l.map DI := fun l => by rw [List.map_eq_flatMap]; rfl
  rw [e, Int.toNat_natCast, List.drop_append_of_le_length (by rw [List.length_map]; omega), ← List.map_drop, ← List.append_assoc, ← List.map_append]
  unfold rowD
  rw [Nat.mul_comm k 16, ← List.drop_drop, List.take_append_drop]
def clV (N : Nt) (x : Hd) : Rw := if hrd N x = 0 then calR (bgn N.ws x).D N.p.toNat else []
theorem vc_Calendar (N : Nt) (x : Hd) (h : Hp) (hn : N.ws.length ≤ 4000000) : VC Try.prog 55 [vN N, vHd x] h (.tuple [intss (clV N x), I (hrd N x)]) h := by
  obtain ⟨L, hL⟩ : ∃ L, L = clV N x := ⟨_, rfl⟩
  rw [← hL]
  unfold clV at hL
  have cH := fun h => vc_herded N x h hn
  by_cases h0 : hrd N x = 0
  · obtain ⟨n, hN, hx⟩ := hrd_ok h0
    rw [h0] at cH ⊢
    rw [if_pos h0] at hL
    have hp := hN.p
    have hn1 := hN.n1
    have cB := fun h => vc_begun0 N x h hN hx
    have hbl := bgn_len hN hx
    rw [show N.p.toNat = n by omega] at hL
    generalize bgn N.ws x = b at *
    obtain ⟨D, c, q⟩ := b
    dsimp only at *
    refine VC.body Try.func55 rfl Try.ntmps55 Try.call55 (h.grows_refl) rfl ?_; conv => whnf
    repeat' (first | ((first | refine zs1 ?_ | refine zs2 ?_ | refine zs3 ?_ | refine zs4 ?_ | refine zs5 ?_); conv => whnf) | ((first | apply zi1 | apply zi2 | apply zi3 | apply zi4 | apply zi5) <;> intro _ <;> conv => whnf) | (refine VCall.intro (cH _) ?_; conv => whnf) | (refine VCall.intro (cB _) ?_; conv => whnf))
    refine VCode.lp (outer := h.lift) (marks := []) (fun k : Nat => [(7, .fp (encTr N x D c)), (8, .gl (.loc 0) 1 (calR D k).length), (20, I N.p), (21, I k)]) (fun k => [.flat true ((calR D k).flatMap encL)]) (fun k => k ≤ n) (fun k => n - k) 0 (Nat.zero_le _) ?_ ?_
    · rw [show calR D 0 = [] from rfl]
      conv => whnf
      refine Retell.turn ⟨[4], 4, [(2, encTr N x D c)], [(3, ksC c, vsC c)]⟩ (TurnOk.mk' _ _ [(2, encTr N x D c)] [(3, ksC c, vsC c)] (OutOk.lift _) rfl (by decide) zb ⟨fz_trip rfl (VTo.fmMap rfl), trivial⟩ ⟨fm_trip rfl, trivial⟩ rfl) zw zm
    · intro k hk
      have hcl : (calR D k).length = k := by unfold calR; rw [List.length_map, List.length_range]
      rcases Nat.lt_or_ge k n with h1 | h1
      · have hst : calR D (k + 1) = calR D k ++ [rowD D k] := by unfold calR; rw [List.range_succ, List.map_append]; rfl
        have hr16 := rowD_len (D := D) hbl (p := k) (by omega)
        have hdr := fun post => tr_drop (post := post) hbl (k := k) (by omega)
        have e16 : V.fs 1 16 ((rowD D k).flatMap Vm.encI) = ints (rowD D k) := by unfold ints; rw [hr16]
        have cF := fun h => vc_cloneF (rowD D k) h (by omega) (by omega)
        generalize calR D k = W at hst hcl ⊢
        generalize rowD D k = r at hst hr16 hdr e16 cF
        conv => whnf
        repeat' (first | ((first | refine zs1 ?_ | refine zs2 ?_ | refine zs3 ?_ | refine zs4 ?_ | refine zs5 ?_); conv => whnf) | ((first | apply zi1 | apply zi2 | apply zi3 | apply zi4 | apply zi5) <;> intro _ <;> conv => whnf))
        all_goals try (exfalso; omega)
        refine VAny.intro (v := .fp (r.flatMap Vm.encI)) ⟨by omega, r.flatMap Vm.encI, (D.drop (16 * k + 16)).map DI ++ [.mp (ksC c) (vsC c)], (by show (D.map DI ++ [Vm.D.mp (ksC c) (vsC c)]).drop ((k : Int).toNat * 16) = _; exact hdr _), rfl⟩ ?_
        conv => whnf
        repeat' (first | ((first | refine zs1 ?_ | refine zs2 ?_ | refine zs3 ?_ | refine zs4 ?_ | refine zs5 ?_); conv => whnf) | ((first | apply zi1 | apply zi2 | apply zi3 | apply zi4 | apply zi5) <;> intro _ <;> conv => whnf))
        refine VMem.sliceFp (n := 16) (esz := 1) rfl rfl rfl (by rw [flat_len encI_len, hr16]) ?_
        rw [e16]
        conv => whnf
        repeat' (first | ((first | refine zs1 ?_ | refine zs2 ?_ | refine zs3 ?_ | refine zs4 ?_ | refine zs5 ?_); conv => whnf) | ((first | apply zi1 | apply zi2 | apply zi3 | apply zi4 | apply zi5) <;> intro _ <;> conv => whnf) | (refine VCall.intro (cF _) ?_; conv => whnf) | (refine VMem.app1 (l := W) r encL_len rfl rfl rfl rfl rfl (by omega) ?_; conv => whnf))
        refine LEnd.intro (k + 1) (by omega) (by omega) ?_
        rw [hst, List.length_append]
        conv => whnf
        refine Retell.turn ⟨[2], 3, [], []⟩ (TurnOk.mk' _ _ [] [] (OutOk.lift _) rfl (by decide) zb trivial trivial rfl) zw zm
      · obtain rfl : k = n := by omega
        rw [← hL]
        conv => whnf
        repeat' (first | ((first | refine zs1 ?_ | refine zs2 ?_ | refine zs3 ?_ | refine zs4 ?_ | refine zs5 ?_); conv => whnf) | ((first | apply zi1 | apply zi2 | apply zi3 | apply zi4 | apply zi5) <;> intro _ <;> conv => whnf))
        all_goals try (exfalso; omega)
        refine VOut.data 1 [(0, L.flatMap encL)] [] rfl zf (by exact FmAll.nil) zw
  · rw [if_neg h0] at hL
    rw [hL]
    generalize hrd N x = e at cH h0
    refine VC.body Try.func55 rfl Try.ntmps55 Try.call55 (h.grows_refl) rfl ?_; conv => whnf
    repeat' (first | ((first | refine zs1 ?_ | refine zs2 ?_ | refine zs3 ?_ | refine zs4 ?_ | refine zs5 ?_ | refine zs6 [] ?_); conv => whnf) | ((first | apply zi1 | apply zi2 | apply zi3 | apply zi4 | apply zi5) <;> intro _ <;> conv => whnf) | (refine VCall.intro (cH _) ?_; conv => whnf))
    · refine VOut.data 2 [] [] rfl zf (by exact FmAll.nil) zw
    all_goals (rename_i hh; exact absurd (by omega) h0)
theorem mn_min (f : Nat → Int) (k : Nat) : mn f (k + 1) = min (mn f k) (f (k + 1)) := by
  rw [mn]; split <;> omega
theorem vc_Min (l : List Int) (h : Hp) (hl : l.length ≤ 4000000) (h0 : 0 < l.length) : VC Try.prog 101 [ints l] h (I (mn (fun s => l.getD s 1001) (l.length - 1))) h := by
  have hg : ∀ k, k < l.length → l[k]? = some (l.getD k 1001) := fun k hk => by
    rw [List.getD_eq_getElem?_getD, List.getElem?_eq_getElem hk]; rfl
  generalize hf : (fun s => l.getD s 1001) = f
  have hg : ∀ k, k < l.length → l[k]? = some (f k) := fun k hk => by rw [← hf]; exact hg k hk
  clear hf
  refine VC.body Try.func101 rfl Try.ntmps101 Try.call101 (h.grows_refl) rfl ?_; conv => whnf
  repeat' (first | ((first | refine zs1 ?_ | refine zs2 ?_ | refine zs3 ?_ | refine zs4 ?_ | refine zs5 ?_ | refine zs6 [] ?_); conv => whnf) | ((first | apply zi1 | apply zi2 | apply zi3 | apply zi4 | apply zi5) <;> intro _ <;> conv => whnf) | (refine VAny.ix encI_len 0 rfl rfl (hg 0 h0) ?_; conv => whnf))
  all_goals try (exfalso; omega)
  refine VCode.lp (fun k : Nat => [(0, ints l), (3, I (mn f k)), (4, I ((k + 1 : Nat) : Int))]) (fun _ => []) (fun k => k < l.length) (fun k => l.length - k) 0 h0 ?_ ?_
  · rw [show mn f 0 = f 0 from rfl]
    conv => whnf
    refine Retell.turn ⟨[], 0, [], []⟩ (TurnOk.mk' _ _ [] [] (OutOk.lift _) rfl (by decide) zb trivial trivial rfl) zw zm
  · rintro k hk
    conv => whnf
    refine VIte.dec (fun h1 => ?_) (fun h1 => ?_)
    · have hx := hg (k + 1) (by omega)
      have hst := mn_min f k
      generalize hq : mn f (k + 1) = q at hst
      generalize mn f k = m at hst
      generalize f (k + 1) = y at hx hst
      conv => whnf
      repeat' (first | ((first | refine zs1 ?_ | refine zs2 ?_ | refine zs3 ?_ | refine zs4 ?_ | refine zs5 ?_ | refine zs6 [] ?_); conv => whnf) | ((first | apply zi1 | apply zi2 | apply zi3 | apply zi4 | apply zi5) <;> intro _ <;> conv => whnf) | (refine VAny.ix encI_len (k + 1) rfl rfl hx ?_; conv => whnf))
      refine LEnd.intro (k + 1) (by omega) (by omega) ?_
      rw [hq, hst]
      conv => whnf
      refine Retell.turn ⟨[], 0, [], []⟩ (TurnOk.mk' _ _ [] [] (OutOk.lift _) rfl (by decide) zb trivial trivial rfl) zw zm
    · obtain rfl : k = l.length - 1 := by omega
      conv => whnf
      repeat' (first | ((first | refine zs1 ?_ | refine zs2 ?_ | refine zs3 ?_ | refine zs4 ?_ | refine zs5 ?_ | refine zs6 [] ?_); conv => whnf) | ((first | apply zi1 | apply zi2 | apply zi3 | apply zi4 | apply zi5) <;> intro _ <;> conv => whnf))
      exact VOut.same rfl
end Go.Proofs.Ytoeendggmalcpaa

open Go.Vm
open Psg
namespace Go.Proofs.Ytoeendggmalcpaa
set_option maxRecDepth 20000
set_option maxHeartbeats 4000000
theorem vc_IndexFL (T : List (List Int)) (q : List Int → Bool) (g : FuncId) (f caps : List D) (hl : T.length ≤ 4000000) (hso : ∀ e ∈ T, ∀ h : Hp, VC Try.prog g (D.vs f ++ [ints e] ++ D.vs caps) h (B (q e)) h) (h : Hp) :
    VC Try.prog 126 [intss T, .func (.func g) (D.vs f) (D.vs caps)] h (I (fidx q T 0)) h := by
  obtain ⟨E, hE⟩ : ∃ E, E = fidx q T 0 := ⟨_, rfl⟩
  rw [← hE]
  refine VC.body Try.func126 rfl Try.ntmps126 Try.call126 (h.grows_refl) rfl ?_; conv => whnf
  rw [rens_dvs, rens_dvs]
  repeat' (first | ((first | refine zs1 ?_ | refine zs2 ?_ | refine zs3 ?_ | refine zs4 ?_ | refine zs5 ?_ | refine zs6 [] ?_); conv => whnf) | ((first | apply zi1 | apply zi2 | apply zi3 | apply zi4 | apply zi5) <;> intro _ <;> conv => whnf))
  refine VCode.lp (fun k : Nat => [(0, intss T), (1, .func (.func g) (D.vs f) (D.vs caps)), (7, I T.length), (8, I k)]) (fun _ => []) (fun k => k ≤ T.length ∧ E = fidx q (T.drop k) k) (fun k => T.length - k) 0 ⟨Nat.zero_le _, hE⟩ ?_ ?_
  · conv => whnf
    refine Retell.turn ⟨[], 0, [], []⟩ (TurnOk.mk' _ _ [] [] (OutOk.lift _) rfl (by decide) zb trivial trivial rfl) zw zm
  · rintro k ⟨h1, h2⟩
    conv => whnf
    refine VIte.dec (fun h3 => ?_) (fun h3 => ?_)
    · have ha : T[k]? = some T[k] := List.getElem?_eq_getElem (by omega)
      have hm := hso T[k] (List.getElem_mem (by omega))
      generalize T[k] = a at ha hm
      rw [fidx_at ha] at h2
      conv => whnf
      repeat' (first | ((first | refine zs1 ?_ | refine zs2 ?_ | refine zs3 ?_ | refine zs4 ?_ | refine zs5 ?_ | refine zs6 [] ?_); conv => whnf) | ((first | apply zi1 | apply zi2 | apply zi3 | apply zi4 | apply zi5) <;> intro _ <;> conv => whnf) | (refine VAny.ix encL_len k (by omega) rfl ha ?_; conv => whnf))
      refine VCall.intro (hm _) ?_
      conv => whnf
      cases hq : q a
      · rw [hq] at h2
        conv => whnf
        repeat (first | ((first | refine zs1 ?_ | refine zs2 ?_ | refine zs3 ?_ | refine zs4 ?_ | refine zs5 ?_ | refine zs6 [] ?_); conv => whnf))
        refine LEnd.intro (k + 1) ⟨by omega, h2⟩ (by omega) ?_
        conv => whnf
        refine Retell.turn ⟨[], 0, [], []⟩ (TurnOk.mk' _ _ [] [] (OutOk.lift _) rfl (by decide) zb trivial trivial rfl) zw zm
      · rw [hq] at h2
        rw [h2]
        conv => whnf
        repeat (first | ((first | refine zs1 ?_ | refine zs2 ?_ | refine zs3 ?_ | refine zs4 ?_ | refine zs5 ?_ | refine zs6 [] ?_); conv => whnf))
        exact VOut.same rfl
    · rw [List.drop_of_length_le (by omega), fidx] at h2
      rw [h2]
      conv => whnf
      repeat (first | ((first | refine zs1 ?_ | refine zs2 ?_ | refine zs3 ?_ | refine zs4 ?_ | refine zs5 ?_ | refine zs6 [] ?_); conv => whnf))
      exact VOut.same rfl
theorem vc_allL1 (q : List Int → Bool) (g : FuncId) (x : List Int) (hso : ∀ h : Hp, VC Try.prog g (D.vs [] ++ [ints x] ++ D.vs []) h (B (q x)) h) (h : Hp) : VC Try.prog 127 ([ints x] ++ D.vs [.pt [.func (.func g) [] []]]) h (B (!q x)) h := by
  have c := fun h => hso h
  refine VC.body Try.func127 rfl Try.ntmps127 Try.call127 (h.grows_refl) rfl ?_; conv => whnf
  repeat' (first | ((first | refine zs1 ?_ | refine zs2 ?_ | refine zs3 ?_ | refine zs4 ?_ | refine zs5 ?_ | refine zs6 [] ?_); conv => whnf) | ((first | apply zi1 | apply zi2 | apply zi3 | apply zi4 | apply zi5) <;> intro _ <;> conv => whnf) | (refine VCall.intro (c _) ?_; conv => whnf))
  exact VOut.same rfl
theorem vc_allL (T : List (List Int)) (q : List Int → Bool) (g : FuncId) (hl : T.length ≤ 4000000) (hso : ∀ e ∈ T, ∀ h : Hp, VC Try.prog g (D.vs [] ++ [ints e] ++ D.vs []) h (B (q e)) h) (h : Hp) : VC Try.prog 96 [intss T, .func (.func g) (D.vs []) (D.vs [])] h (B (T.all q)) h := by
  have c := fun h => vc_IndexFL T (fun p => !q p) 127 [] [.pt [.func (.func g) [] []]] hl (fun p hp h => vc_allL1 q g p (hso p hp) h) h
  have e : decide (fidx (fun p => !q p) T 0 = -1) = T.all q := by
    rw [fidx_no _ _ (Int.le_refl _)]
    simp
  rw [← e]
  generalize fidx (fun p => !q p) T 0 = E at c
  refine VC.body Try.func96 rfl Try.ntmps96 Try.call96 (h.grows_refl) rfl ?_; conv => whnf
  repeat' (first | ((first | refine zs1 ?_ | refine zs2 ?_ | refine zs3 ?_ | refine zs4 ?_ | refine zs5 ?_ | refine zs6 [] ?_); conv => whnf) | ((first | apply zi1 | apply zi2 | apply zi3 | apply zi4 | apply zi5) <;> intro _ <;> conv => whnf))
  refine VCall.intro (VC.give (args' := [intss T, .func (.func 127) [] [.fp [.func (.func g) [] []]]]) (loc' := [.dead]) [(0, [.func (.func g) [] []])] [] (OutOk.lift _) zb zf (by exact FmAll.nil) rfl zv (c _)) ?_
  conv => whnf
  repeat (first | ((first | refine zs1 ?_ | refine zs2 ?_ | refine zs3 ?_ | refine zs4 ?_ | refine zs5 ?_ | refine zs6 [] ?_); conv => whnf))
  exact VOut.same rfl
theorem vc_prv1 (r : List Int) (h : Hp) : VC Try.prog 97 (D.vs [] ++ [ints r] ++ D.vs []) h (B (decide (r.length = 16))) h := by
  refine VC.body Try.func97 rfl Try.ntmps97 Try.call97 (h.grows_refl) rfl ?_; conv => whnf
  repeat' (first | ((first | refine zs1 ?_ | refine zs2 ?_ | refine zs3 ?_ | refine zs4 ?_ | refine zs5 ?_ | refine zs6 [] ?_); conv => whnf) | ((first | apply zi1 | apply zi2 | apply zi3 | apply zi4 | apply zi5) <;> intro _ <;> conv => whnf))
  refine VOut.same ?_
  have : ((r.length : Int) == 16) = decide (r.length = 16) := by
    rw [Bool.eq_iff_iff, decide_eq_true_eq, beq_iff_eq]; omega
  simp only [V.ren, this]
theorem vc_prv3 (d : Int) (h : Hp) : VC Try.prog 99 (D.vs [] ++ [I d] ++ D.vs []) h (B (inB d 0 1001)) h := by
  have e : inB d 0 1001 = decide (0 ≤ d ∧ d ≤ 1001) := by
    rw [Bool.eq_iff_iff, inB_iff, decide_eq_true_eq]
  rw [e]
  have c := fun h => vc_from d 0 1001 h
  generalize decide (0 ≤ d ∧ d ≤ 1001) = b at c
  refine VC.body Try.func99 rfl Try.ntmps99 Try.call99 (h.grows_refl) rfl ?_; conv => whnf
  repeat' (first | ((first | refine zs1 ?_ | refine zs2 ?_ | refine zs3 ?_ | refine zs4 ?_ | refine zs5 ?_ | refine zs6 [] ?_); conv => whnf) | ((first | apply zi1 | apply zi2 | apply zi3 | apply zi4 | apply zi5) <;> intro _ <;> conv => whnf) | (refine VCall.intro (c _) ?_; conv => whnf))
  exact VOut.same rfl
theorem vc_prv2 (r : List Int) (h : Hp) (hr : r.length ≤ 4000000) : VC Try.prog 98 (D.vs [] ++ [ints r] ++ D.vs []) h (B (r.all fun d => inB d 0 1001)) h := by
  have c := fun h => vc_allN r (fun d => inB d 0 1001) 99 hr (fun e _ h => vc_prv3 e h) h
  generalize (r.all fun d => inB d 0 1001) = b at c
  refine VC.body Try.func98 rfl Try.ntmps98 Try.call98 (h.grows_refl) rfl ?_; conv => whnf
  repeat' (first | ((first | refine zs1 ?_ | refine zs2 ?_ | refine zs3 ?_ | refine zs4 ?_ | refine zs5 ?_ | refine zs6 [] ?_); conv => whnf) | ((first | apply zi1 | apply zi2 | apply zi3 | apply zi4 | apply zi5) <;> intro _ <;> conv => whnf) | (refine VCall.intro (c _) ?_; conv => whnf))
  exact VOut.same rfl
def dRw (R : Rw) : D := .sl 1 R.length (R.flatMap encL)
theorem okW_gn {R : Rw} {p s : Nat} {w : Wy} : okW R p s w = bif gnB w ⟨p, atR R p s, s⟩ then decide (atR R (gnV w ⟨p, atR R p s, s⟩).p (gnV w ⟨p, atR R p s, s⟩).s ≤ (gnV w ⟨p, atR R p s, s⟩).d) else true := by
  unfold okW
  rw [gone_eq]
  cases gnB w ⟨p, atR R p s, s⟩ <;> rfl
structure PJ (o : Vm.Id → Option Blk) (e : Int) (g : Hp) : Prop where
  o : g.outer = o
  b0 : g.get (.loc 0) = some (.flat true [DI 0])
  b1 : g.get (.loc 1) = some (.flat true [DI e])
  b2 : g.get (.loc 2) = some .mark
structure PJ2 (o : Vm.Id → Option Blk) (g : Hp) : Prop where
  o : g.outer = o
  b0 : g.get (.loc 0) = some (.flat true [DI 0])
  b1 : g.get (.loc 1) = some (.flat true [DI 9])
  b2 : g.get (.loc 2) = some .mark
theorem vc_Proves (N : Nt) (x : Hd) (R : Rw) (to : Int) (h : Hp) (hn : N.ws.length ≤ 4000000) (hR : R.length ≤ 4000000) : VC Try.prog 53 [vN N, vHd x, intss R, I to] h (.tuple [I (prV N x R to), I (prE N x R to)]) h := by
  obtain ⟨E, hE⟩ : ∃ E, E = prE N x R to := ⟨_, rfl⟩
  obtain ⟨V, hV⟩ : ∃ V, V = prV N x R to := ⟨_, rfl⟩
  rw [← hE, ← hV]
  unfold prV at hV
  rw [← hE] at hV
  unfold prE at hE
  have cH := fun h => vc_herded N x h hn
  by_cases h0 : hrd N x = 0
  · obtain ⟨n, hN, hx⟩ := hrd_ok h0
    rw [h0] at cH
    rw [if_pos h0] at hE
    have hp := hN.p
    have hn1 := hN.n1
    have hwl := hN.len
    have hxp := hx.p
    have hxs := hx.s
    have hxd := hx.d
    unfold Pp at hxs
    rw [show N.p.toNat = n by omega] at hE
    have cA := fun h => vc_allL R (fun r => decide (r.length = 16)) 97 hR (fun e _ h => vc_prv1 e h) h
    have hsz : szR N.p R = (decide ((R.length : Int) = N.p) && R.all fun r => decide (r.length = 16)) := rfl
    refine VC.bodyC 1 Try.func53 rfl Try.ntmps53 Try.call53 (h.grows_refl) rfl ?_; conv => whnf
    refine VCut.at' (outer := h.lift) (marks := []) 99 [(3, I to), (4, .fp (encN N)), (5, .fp (encHd x)), (6, .fp [dRw R]), (8, .ptr (.loc 0) 0), (9, .ptr (.loc 1) 0)] [.flat true [DI 0], .flat true [DI 0]] ?_ ?_
    · conv => whnf
      refine Retell.turn ⟨[3,4], 5, [(0, encN N), (1, encHd x), (2, [dRw R])], []⟩ (TurnOk.mk' _ _ [(0, encN N), (1, encHd x), (2, [dRw R])] [] (OutOk.lift _) rfl (by decide) zb zf trivial rfl) zw zm
    by_cases h1 : szR N.p R = true
    · have hS := Sz.of hp h1
      have hrow := szR_iff.1 h1
      have hRl := hS.len
      rw [hsz, Bool.and_eq_true] at h1
      rw [h1.2] at cA
      rw [if_pos (by rw [hsz, Bool.and_eq_true]; exact h1)] at hE
      clear hsz
      have cV := fun h => vc_allL R (fun r => r.all fun d => inB d 0 1001) 98 hR (fun e he h => vc_prv2 e h (by have := hrow.2 e he; omega)) h
      have hvd : valR R = R.all fun r => r.all fun d => inB d 0 1001 := rfl
      rw [← hvd] at cV
      clear hvd
      by_cases h2 : valR R = true
      · rw [h2] at cV
        rw [if_pos h2] at hE
        obtain ⟨r0, k1, k2, k3⟩ := atR_mem hS (p := x.p.toNat) (s := x.s.toNat) (by omega) (by omega)
        rw [Int.toNat_of_nonneg hxp.1, Int.toNat_of_nonneg hxs.1] at k3
        by_cases h3 : atR R x.p x.s ≤ x.d
        · conv => whnf
          repeat' (first | ((first | refine zs1 ?_ | refine zs2 ?_ | refine zs3 ?_ | refine zs4 ?_ | refine zs5 ?_); conv => whnf) | ((first | apply zi1 | apply zi2 | apply zi3 | apply zi4 | apply zi5) <;> intro _ <;> conv => whnf) | (refine VCall.intro (cH _) ?_; conv => whnf) | (refine VCall.intro (cA _) ?_; conv => whnf) | (refine VCall.intro (cV _) ?_; conv => whnf))
          all_goals try contradiction
          all_goals try (exfalso; omega)
          refine zs6 [] ?_
          conv => whnf
          repeat' (first | ((first | refine zs1 ?_ | refine zs2 ?_ | refine zs3 ?_ | refine zs4 ?_ | refine zs5 ?_); conv => whnf) | ((first | apply zi1 | apply zi2 | apply zi3 | apply zi4 | apply zi5) <;> intro _ <;> conv => whnf) | (refine VAny.ix encL_len x.p.toNat (by omega) rfl k1 ?_; conv => whnf) | (refine VAny.ix encI_len x.s.toNat (by omega) rfl k3 ?_; conv => whnf))
          all_goals try contradiction
          all_goals try (exfalso; omega)
          have hown := h3
          refine VCode.lp (outer := h.lift) (marks := []) (fun p : Nat => [(3, I to), (4, .fp (encN N)), (6, .fp [dRw R]), (8, .ptr (.loc 0) 0), (9, .ptr (.loc 1) 0), (54, intss R), (55, I R.length), (56, I p)]) (fun _ => [.flat true [DI 0], .flat true [DI 0]]) (fun p => p ≤ n ∧ OkTo N.ws R (16 * p)) (fun p => n - p) 0 ⟨Nat.zero_le _, OkTo.zero _ _⟩ ?_ ?_
          · conv => whnf
            refine Retell.turn ⟨[0,1], 2, [], []⟩ (TurnOk.mk' _ _ [] [] (OutOk.lift _) rfl (by decide) zb trivial trivial rfl) zw zm
          · rintro p ⟨p1, p2⟩
            rcases Nat.lt_or_ge p n with q1 | q1
            · obtain ⟨r, r1, r2, _⟩ := atR_mem hS (p := p) (s := 0) q1 (by omega)
              have hrs : ∀ s : Nat, s < 16 → r[s]? = some (atR R p s) := fun s hs => by
                obtain ⟨r', g1, _, g3⟩ := atR_mem hS (p := p) (s := s) q1 hs
                rw [r1] at g1; injection g1 with g1; subst g1; exact g3
              conv => whnf
              repeat' (first | ((first | refine zs1 ?_ | refine zs2 ?_ | refine zs3 ?_ | refine zs4 ?_ | refine zs5 ?_); conv => whnf) | ((first | apply zi1 | apply zi2 | apply zi3 | apply zi4 | apply zi5) <;> intro _ <;> conv => whnf) | (refine VAny.ix encL_len p rfl rfl r1 ?_; conv => whnf))
              all_goals try (exfalso; omega)
              refine VCode.lp (outer := h.lift) (marks := []) (fun s : Nat => [(3, I to), (4, .fp (encN N)), (6, .fp [dRw R]), (8, .ptr (.loc 0) 0), (9, .ptr (.loc 1) 0), (11, .fp [DI p]), (54, intss R), (55, I R.length), (56, I p), (61, ints r), (62, I r.length), (63, I s)]) (fun _ => [.flat true [DI 0], .flat true [DI 0]]) (fun s => s ≤ 16 ∧ OkTo N.ws R (16 * p + s)) (fun s => 16 - s) 0 ⟨Nat.zero_le _, p2⟩ ?_ ?_
              · conv => whnf
                refine Retell.turn ⟨[0,1], 3, [(2, [DI p])], []⟩ (TurnOk.mk' _ _ [(2, [DI p])] [] (OutOk.lift _) rfl (by decide) zb zf trivial rfl) zw zm
              · rintro s ⟨s1, s2⟩
                rcases Nat.lt_or_ge s 16 with q2 | q2
                · have hd := hrs s q2
                  have hdb := atR_bd hS h2 q1 q2
                  have hokg := fun w => okW_gn (R := R) (p := p) (s := s) (w := w)
                  have hstep := fun h => OkTo.step (R := R) (ws := N.ws) (p := p) (s := s) s2 q2 h
                  have hbad := fun w hw => holds_no (n := n) (ws := N.ws) (x := x) (R := R) (p := p) (s := s) (w := w) q1 q2 hw
                  generalize atR R p s = d at hd hdb hokg
                  conv => whnf
                  repeat' (first | ((first | refine zs1 ?_ | refine zs2 ?_ | refine zs3 ?_ | refine zs4 ?_ | refine zs5 ?_); conv => whnf) | ((first | apply zi1 | apply zi2 | apply zi3 | apply zi4 | apply zi5) <;> intro _ <;> conv => whnf) | (refine VAny.ix encI_len s rfl rfl hd ?_; conv => whnf) | (refine VCall.intro (vc_leading N p _) ?_; conv => whnf))
                  all_goals try (exfalso; omega)
                  refine VCode.tell [(3, I to), (4, .fp (encN N)), (6, .fp [dRw R]), (8, .ptr (.loc 0) 0), (9, .ptr (.loc 1) 0), (11, .fp [DI p]), (13, .fp [DI s]), (14, .fp [DI d]), (54, intss R), (55, I R.length), (56, I p), (61, ints r), (62, I r.length), (63, I s), (70, vLead N p)] [.flat true [DI 0], .flat true [DI 0]] (marks' := []) ?_ ?_
                  · conv => whnf
                    refine Retell.turn ⟨[0,1], 4, [(2, [DI s]), (3, [DI d])], []⟩ (TurnOk.mk' _ _ [(2, [DI s]), (3, [DI d])] [] (OutOk.lift _) rfl (by decide) zb zf trivial rfl) zw zm
                  · conv => whnf
                    refine VCode.iterN N.ws.length (ldY N p) (fun k g => PJ h.lift 0 g ∧ ∀ w ∈ N.ws.take k, okW R p s w = true) (fun e g => e = .ret ∧ PJ2 h.lift g ∧ holds n N.ws x R = false) _ (.loc 3) rfl (iter_lead N p hn) rfl rfl ⟨⟨rfl, rfl, rfl, rfl⟩, by simp⟩ ?_ ?_ ?_ ?_
                    · rintro k g hk hy ⟨hJ, ha⟩
                      refine ⟨hJ, fun v hv => ?_⟩
                      have hw : N.ws[k]? = some N.ws[k] := List.getElem?_eq_getElem hk
                      rw [List.take_add_one, hw] at hv
                      rcases List.mem_append.1 hv with hv | hv
                      · exact ha v hv
                      · rw [ldY_eq hw] at hy
                        have hf : ¬ N.ws[k].f = p := fun e => by rw [decide_eq_true e] at hy; cases hy
                        have hv : v = N.ws[k] := by simpa using hv
                        subst hv
                        rw [hokg]
                        have : gnB N.ws[k] ⟨p, d, s⟩ = false := by
                          unfold gnB
                          rw [decide_eq_false_iff_not]
                          exact fun h => hf h.1.symm
                        rw [this]; rfl
                    · rintro k g vs hk hy ⟨hJ, ha⟩ hlp
                      have hw : N.ws[k]? = some N.ws[k] := List.getElem?_eq_getElem hk
                      have hwm : N.ws[k] ∈ N.ws := List.getElem_mem hk
                      have hwo := hN.ws N.ws[k] hwm
                      have htk : N.ws.take (k + 1) = N.ws.take k ++ [N.ws[k]] := by rw [List.take_add_one, hw]; rfl
                      rw [ldY_eq hw] at hy
                      have hf : N.ws[k].f = p := Decidable.byContradiction fun e => by rw [decide_eq_false e] at hy; cases hy
                      rw [decide_eq_true hf] at hy
                      have hok := hokg N.ws[k]
                      have hbk := hbad N.ws[k] hwm
                      generalize N.ws[k] = w at *
                      cases hy
                      have cG := fun h => vc_gone w ⟨p, d, s⟩ h hwo (by dsimp only; omega) ⟨by dsimp only; omega, by dsimp only; omega⟩
                      have hgo : gnB w ⟨p, d, s⟩ = true → InR n ((gnV w ⟨p, d, s⟩).p, (gnV w ⟨p, d, s⟩).s) := fun hg => by
                        have h1 : gone w ⟨p, d, s⟩ = some (gnV w ⟨p, d, s⟩) := by rw [gone_eq, hg]; rfl
                        have h2 := gone_ok hwo ⟨by dsimp only; omega, by dsimp only; omega⟩ h1
                        exact ⟨h2.2.2.1, h2.2.2.2.2.2.2⟩
                      obtain ⟨j0, j1, j2, j3⟩ := hJ
                      generalize gnV w ⟨p, d, s⟩ = y at cG hgo hok
                      have hall : okW R p s w = true → ∀ v ∈ N.ws.take (k + 1), okW R p s v = true := fun h v hv => by
                        rw [htk] at hv
                        rcases List.mem_append.1 hv with hv | hv
                        · exact ha v hv
                        · rw [List.mem_singleton.1 hv]; exact h
                      cases hg : gnB w ⟨p, d, s⟩
                      · rw [hg] at cG hok
                        left
                        refine ⟨g, VRound.vy' hlp rfl rfl rfl g.grows_refl fun l0 => ?_, ⟨⟨j0, j1, j2, j3⟩, hall hok⟩, hlp⟩
                        refine VRound.tell [(4, .fp (encN N)), (6, .fp [dRw R]), (8, .ptr (.out (.loc 0)) 0), (9, .ptr (.out (.loc 1)) 0), (11, .fp [DI p]), (13, .fp [DI s]), (14, .fp [DI d]), (71, I k), (72, vWy w)] ?_ ?_
                        · conv => whnf
                          refine Retell.turn ⟨[], 0, [], []⟩ (TurnOk.mk' _ _ [] [] (OutOk.lift _) rfl (by decide) zb trivial trivial rfl) zw zm
                        · conv => whnf
                          repeat (first | ((first | refine zs1 ?_ | refine zs2 ?_ | refine zs3 ?_ | refine zs4 ?_ | refine zs5 ?_ | refine zs6 [] ?_); conv => whnf))
                          refine VBegin.intro (get_out hlp _) rfl ?_
                          conv => whnf
                          repeat' (first | ((first | refine zs1 ?_ | refine zs2 ?_ | refine zs3 ?_ | refine zs4 ?_ | refine zs5 ?_); conv => whnf) | ((first | apply zi1 | apply zi2 | apply zi3 | apply zi4 | apply zi5) <;> intro _ <;> conv => whnf) | (refine VCall.intro (cG _) ?_; conv => whnf))
                          refine zs6 [] ?_
                          conv => whnf
                          repeat' (first | ((first | refine zs1 ?_ | refine zs2 ?_ | refine zs3 ?_ | refine zs4 ?_ | refine zs5 ?_); conv => whnf) | ((first | apply zi1 | apply zi2 | apply zi3 | apply zi4 | apply zi5) <;> intro _ <;> conv => whnf))
                          all_goals first | exact RFin.on (outW_get _ _ _ _) (VOut.back (get_out hlp []) rfl) | contradiction | (exfalso; omega)
                      · rw [hg] at cG hok
                        have hy := hgo hg
                        have hyp := hy.1
                        have hys := hy.2
                        unfold Pp at hys
                        dsimp only at hyp hys
                        obtain ⟨r3, g1, g2, g3⟩ := atR_mem hS (p := y.p.toNat) (s := y.s.toNat) (by omega) (by omega)
                        rw [Int.toNat_of_nonneg hyp.1, Int.toNat_of_nonneg hys.1] at g3
                        generalize atR R y.p y.s = e at g3 hok
                        by_cases hle : e ≤ y.d
                        · rw [decide_eq_true hle] at hok
                          left
                          refine ⟨g, VRound.vy' hlp rfl rfl rfl g.grows_refl fun l0 => ?_, ⟨⟨j0, j1, j2, j3⟩, hall hok⟩, hlp⟩
                          refine VRound.tell [(4, .fp (encN N)), (6, .fp [dRw R]), (8, .ptr (.out (.loc 0)) 0), (9, .ptr (.out (.loc 1)) 0), (11, .fp [DI p]), (13, .fp [DI s]), (14, .fp [DI d]), (71, I k), (72, vWy w)] ?_ ?_
                          · conv => whnf
                            refine Retell.turn ⟨[], 0, [], []⟩ (TurnOk.mk' _ _ [] [] (OutOk.lift _) rfl (by decide) zb trivial trivial rfl) zw zm
                          · conv => whnf
                            repeat (first | ((first | refine zs1 ?_ | refine zs2 ?_ | refine zs3 ?_ | refine zs4 ?_ | refine zs5 ?_ | refine zs6 [] ?_); conv => whnf))
                            refine VBegin.intro (get_out hlp _) rfl ?_
                            conv => whnf
                            repeat' (first | ((first | refine zs1 ?_ | refine zs2 ?_ | refine zs3 ?_ | refine zs4 ?_ | refine zs5 ?_); conv => whnf) | ((first | apply zi1 | apply zi2 | apply zi3 | apply zi4 | apply zi5) <;> intro _ <;> conv => whnf) | (refine VCall.intro (cG _) ?_; conv => whnf))
                            refine zs6 [] ?_
                            conv => whnf
                            repeat' (first | ((first | refine zs1 ?_ | refine zs2 ?_ | refine zs3 ?_ | refine zs4 ?_ | refine zs5 ?_); conv => whnf) | ((first | apply zi1 | apply zi2 | apply zi3 | apply zi4 | apply zi5) <;> intro _ <;> conv => whnf) | (refine VAny.ix encL_len y.p.toNat (by omega) rfl g1 ?_; conv => whnf) | (refine VAny.ix encI_len y.s.toNat (by omega) (by omega) g3 ?_; conv => whnf))
                            all_goals first | exact RFin.on (outW_get _ _ _ _) (VOut.back (get_out hlp []) rfl) | contradiction | (exfalso; omega)
                        · rw [decide_eq_false hle] at hok
                          have n0 : g.get (.loc 0) ≠ none := by rw [j1]; simp
                          have n1 : (g.set (.loc 0) (.flat true [DI 0])).get (.loc 1) ≠ none := by rw [Hp.get_set g _ _ _ n0, if_neg (by decide), j2]; simp
                          have n2 : ((g.set (.loc 0) (.flat true [DI 0])).set (.loc 1) (.flat true [DI 9])).get (.loc 3) ≠ none := by rw [Hp.get_set _ _ _ _ n1, if_neg (by decide), Hp.get_set g _ _ _ n0, if_neg (by decide), hlp]; simp
                          refine Rnd.stop .ret rfl hlp ((g.set (.loc 0) (.flat true [DI 0])).set (.loc 1) (.flat true [DI 9])) n2 ?_ ⟨rfl, ⟨j0, ?_, ?_, ?_⟩, hbk hok⟩
                          · refine VRound.vy' hlp rfl rfl rfl ?_ fun l0 => ?_
                            · exact grows_set3
                            refine VRound.tell [(4, .fp (encN N)), (6, .fp [dRw R]), (8, .ptr (.out (.loc 0)) 0), (9, .ptr (.out (.loc 1)) 0), (11, .fp [DI p]), (13, .fp [DI s]), (14, .fp [DI d]), (71, I k), (72, vWy w)] ?_ ?_
                            · conv => whnf
                              refine Retell.turn ⟨[], 0, [], []⟩ (TurnOk.mk' _ _ [] [] (OutOk.lift _) rfl (by decide) zb trivial trivial rfl) zw zm
                            · conv => whnf
                              repeat (first | ((first | refine zs1 ?_ | refine zs2 ?_ | refine zs3 ?_ | refine zs4 ?_ | refine zs5 ?_ | refine zs6 [] ?_); conv => whnf))
                              refine VBegin.intro (get_out hlp _) rfl ?_
                              conv => whnf
                              repeat' (first | ((first | refine zs1 ?_ | refine zs2 ?_ | refine zs3 ?_ | refine zs4 ?_ | refine zs5 ?_); conv => whnf) | ((first | apply zi1 | apply zi2 | apply zi3 | apply zi4 | apply zi5) <;> intro _ <;> conv => whnf) | (refine VCall.intro (cG _) ?_; conv => whnf))
                              refine zs6 [] ?_
                              conv => whnf
                              repeat' (first | ((first | refine zs1 ?_ | refine zs2 ?_ | refine zs3 ?_ | refine zs4 ?_ | refine zs5 ?_); conv => whnf) | ((first | apply zi1 | apply zi2 | apply zi3 | apply zi4 | apply zi5) <;> intro _ <;> conv => whnf) | (refine VAny.ix encL_len y.p.toNat (by omega) rfl g1 ?_; conv => whnf) | (refine VAny.ix encI_len y.s.toNat (by omega) (by omega) g3 ?_; conv => whnf) | (refine VMem.st1 rfl rfl rfl (get_outNe (by decide) (get_out j1 _)) rfl ?_; conv => whnf) | (refine VMem.st1 rfl rfl rfl (get_outNe (by decide) (get_outNe (by decide) (get_out j2 _))) rfl ?_; conv => whnf))
                              all_goals try contradiction
                              all_goals try (exfalso; omega)
                              refine RFin.off rfl (get_outNe (by decide) (get_outNe (by decide) (outW_get _ _ _ _))) (VOut.liftS ?_ ?_)
                              · rw [lift_set n2, lift_set n1, lift_set n0]; exact outW_two (by decide) (by decide)
                              · exact grows_set3
                          · rw [Hp.get_set _ _ _ _ n2, if_neg (by decide), Hp.get_set _ _ _ _ n1, if_neg (by decide), Hp.get_set _ _ _ _ n0, if_pos rfl]
                          · rw [Hp.get_set _ _ _ _ n2, if_neg (by decide), Hp.get_set _ _ _ _ n1, if_pos rfl]
                          · rw [Hp.get_set _ _ _ _ n2, if_neg (by decide), Hp.get_set _ _ _ _ n1, if_neg (by decide), Hp.get_set _ _ _ _ n0, if_neg (by decide)]; exact j3
                    · rintro g ⟨⟨j0, j1, j2, j3⟩, ha⟩ hlp
                      rw [List.take_of_length_le (Nat.le_refl _)] at ha
                      obtain ⟨go, gl⟩ := g
                      dsimp only at j0
                      subst j0
                      have j1 : gl[0]? = some _ := j1
                      have j2 : gl[1]? = some _ := j2
                      have j3 : gl[2]? = some _ := j3
                      have l0 := (List.getElem?_eq_some_iff.1 j1).1
                      have l1 := (List.getElem?_eq_some_iff.1 j2).1
                      have key : ∀ (x : Nat) (A : Blk), x ≠ 3 → (gl.set 3 A)[x]? = gl[x]? := fun x A hx => List.getElem?_set_ne (Ne.symm hx)
                      refine Told.mk [(3, I to), (4, .fp (encN N)), (6, .fp [dRw R]), (8, .ptr (.loc 0) 0), (9, .ptr (.loc 1) 0), (11, .fp [DI p]), (54, intss R), (55, I R.length), (56, I p), (61, ints r), (62, I r.length), (63, I s)] [.flat true [DI 0], .flat true [DI 0]] (marks' := []) ?_ ?_
                      · conv => whnf
                        refine Retell.turn ⟨[0, 1], gl.length, [], []⟩ (TurnOk.mk' _ _ [] [] (OutOk.lift _) (Nat.ble_eq_true_of_le (by simp)) (by decide)
                          (BTos.flat (blt_of l0) ((key 0 _ (by omega)).trans j1) rfl (BTos.flat (blt_of l1) ((key 1 _ (by omega)).trans j2) rfl BTos.nil)) trivial trivial rfl) zw
                          (MkTo.drop (show 2 ∉ ([0, 1] : List Nat) by decide) ((key 2 _ (by omega)).trans j3) MkTo.nil)
                      · conv => whnf
                        repeat' (first | ((first | refine zs1 ?_ | refine zs2 ?_ | refine zs3 ?_ | refine zs4 ?_ | refine zs5 ?_); conv => whnf) | ((first | apply zi1 | apply zi2 | apply zi3 | apply zi4 | apply zi5) <;> intro _ <;> conv => whnf))
                        refine LEnd.intro (s + 1) ⟨by omega, hstep ha⟩ (by omega) ?_
                        conv => whnf
                        refine Retell.turn ⟨[0,1], 2, [], []⟩ (TurnOk.mk' _ _ [] [] (OutOk.lift _) rfl (by decide) zb trivial trivial rfl) zw zm
                    · rintro e g hne ⟨rfl, ⟨j0, j1, j2, j3⟩, hno⟩ hlp
                      rw [hno, if_neg (by decide)] at hE
                      subst hE
                      rw [if_neg (by decide)] at hV
                      subst hV
                      obtain ⟨go, gl⟩ := g
                      dsimp only at j0
                      subst j0
                      have j1 : gl[0]? = some _ := j1
                      have j2 : gl[1]? = some _ := j2
                      have j3 : gl[2]? = some _ := j3
                      have l0 := (List.getElem?_eq_some_iff.1 j1).1
                      have l1 := (List.getElem?_eq_some_iff.1 j2).1
                      have key : ∀ (x : Nat) (A : Blk), x ≠ 3 → (gl.set 3 A)[x]? = gl[x]? := fun x A hx => List.getElem?_set_ne (Ne.symm hx)
                      refine Told.mk [(8, .ptr (.loc 0) 0), (9, .ptr (.loc 1) 0)] [.flat true [DI 0], .flat true [DI 9]] (marks' := []) ?_ ?_
                      · conv => whnf
                        refine Retell.turn ⟨[0, 1], gl.length, [], []⟩ (TurnOk.mk' _ _ [] [] (OutOk.lift _) (Nat.ble_eq_true_of_le (by simp)) (by decide)
                          (BTos.flat (blt_of l0) ((key 0 _ (by omega)).trans j1) rfl (BTos.flat (blt_of l1) ((key 1 _ (by omega)).trans j2) rfl BTos.nil)) trivial trivial rfl) zw
                          (MkTo.drop (show 2 ∉ ([0, 1] : List Nat) by decide) ((key 2 _ (by omega)).trans j3) MkTo.nil)
                      · conv => whnf
                        repeat' (first | ((first | refine zs1 ?_ | refine zs2 ?_ | refine zs3 ?_ | refine zs4 ?_ | refine zs5 ?_ | refine zs6 [] ?_); conv => whnf) | ((first | apply zi1 | apply zi2 | apply zi3 | apply zi4 | apply zi5) <;> intro _ <;> conv => whnf))
                        exact VOut.same rfl
                · obtain rfl : s = 16 := by omega
                  conv => whnf
                  repeat' (first | ((first | refine zs1 ?_ | refine zs2 ?_ | refine zs3 ?_ | refine zs4 ?_ | refine zs5 ?_); conv => whnf) | ((first | apply zi1 | apply zi2 | apply zi3 | apply zi4 | apply zi5) <;> intro _ <;> conv => whnf))
                  all_goals try (exfalso; omega)
                  refine LEnd.intro (p + 1) ⟨by omega, by rw [show 16 * (p + 1) = 16 * p + 16 by omega]; exact s2⟩ (by omega) ?_
                  conv => whnf
                  refine Retell.turn ⟨[0,1], 2, [], []⟩ (TurnOk.mk' _ _ [] [] (OutOk.lift _) rfl (by decide) zb trivial trivial rfl) zw zm
            · obtain rfl : p = n := by omega
              have hyes := holds_yes hown p2
              rw [hyes, if_pos rfl] at hE
              by_cases ht : 0 ≤ to ∧ to ≤ N.p - 1
              · rw [if_pos ht] at hE
                subst hE
                rw [if_pos rfl] at hV
                obtain ⟨t, rfl⟩ : ∃ t : Nat, to = t := ⟨to.toNat, by omega⟩
                obtain ⟨r, r1, r2, _⟩ := atR_mem hS (p := t) (s := 0) (by omega) (by omega)
                rw [dayOf_row r1] at hV
                have cM := fun h => vc_Min r h (by omega) (by omega)
                rw [show r.length - 1 = 15 by omega, ← hV] at cM
                conv => whnf
                repeat' (first | ((first | refine zs1 ?_ | refine zs2 ?_ | refine zs3 ?_ | refine zs4 ?_ | refine zs5 ?_); conv => whnf) | ((first | apply zi1 | apply zi2 | apply zi3 | apply zi4 | apply zi5) <;> intro _ <;> conv => whnf) | (refine VCall.intro (vc_posted N t _ (by omega)) ?_; conv => whnf) | (refine VAny.ix encL_len t rfl rfl r1 ?_; conv => whnf) | (refine VCall.intro (cM _) ?_; conv => whnf))
                all_goals try contradiction
                all_goals try (exfalso; omega)
                exact VOut.same rfl
              · rw [if_neg ht] at hE
                subst hE
                rw [if_neg (by decide)] at hV
                subst hV
                conv => whnf
                repeat' (first | ((first | refine zs1 ?_ | refine zs2 ?_ | refine zs3 ?_ | refine zs4 ?_ | refine zs5 ?_); conv => whnf) | ((first | apply zi1 | apply zi2 | apply zi3 | apply zi4 | apply zi5) <;> intro _ <;> conv => whnf) | (refine VCall.intro (vc_posted N to _ (by omega)) ?_; conv => whnf))
                all_goals try contradiction
                all_goals try (exfalso; omega)
                exact VOut.same rfl
        · have hno := holds_own (n := n) (ws := N.ws) h3
          rw [hno, if_neg (by decide)] at hE
          subst hE
          rw [if_neg (by decide)] at hV
          subst hV
          conv => whnf
          repeat' (first | ((first | refine zs1 ?_ | refine zs2 ?_ | refine zs3 ?_ | refine zs4 ?_ | refine zs5 ?_); conv => whnf) | ((first | apply zi1 | apply zi2 | apply zi3 | apply zi4 | apply zi5) <;> intro _ <;> conv => whnf) | (refine VCall.intro (cH _) ?_; conv => whnf) | (refine VCall.intro (cA _) ?_; conv => whnf) | (refine VCall.intro (cV _) ?_; conv => whnf))
          all_goals try contradiction
          all_goals try (exfalso; omega)
          refine zs6 [] ?_
          conv => whnf
          repeat' (first | ((first | refine zs1 ?_ | refine zs2 ?_ | refine zs3 ?_ | refine zs4 ?_ | refine zs5 ?_); conv => whnf) | ((first | apply zi1 | apply zi2 | apply zi3 | apply zi4 | apply zi5) <;> intro _ <;> conv => whnf) | (refine VAny.ix encL_len x.p.toNat (by omega) rfl k1 ?_; conv => whnf) | (refine VAny.ix encI_len x.s.toNat (by omega) rfl k3 ?_; conv => whnf))
          all_goals try contradiction
          all_goals try (exfalso; omega)
          exact VOut.same rfl
      · rw [if_neg h2] at hE
        rw [Bool.not_eq_true] at h2
        rw [h2] at cV
        subst hE
        rw [if_neg (by decide)] at hV
        subst hV
        conv => whnf
        repeat' (first | ((first | refine zs1 ?_ | refine zs2 ?_ | refine zs3 ?_ | refine zs4 ?_ | refine zs5 ?_); conv => whnf) | ((first | apply zi1 | apply zi2 | apply zi3 | apply zi4 | apply zi5) <;> intro _ <;> conv => whnf) | (refine VCall.intro (cH _) ?_; conv => whnf) | (refine VCall.intro (cA _) ?_; conv => whnf) | (refine VCall.intro (cV _) ?_; conv => whnf))
        all_goals try contradiction
        all_goals try (exfalso; omega)
        exact VOut.same rfl
    · rw [if_neg h1] at hE
      subst hE
      rw [if_neg (by decide)] at hV
      subst hV
      rw [hsz, Bool.and_eq_true, decide_eq_true_eq] at h1
      by_cases h2 : (R.length : Int) = N.p
      · have h3 : (R.all fun r => decide (r.length = 16)) = false := by
          rw [Bool.eq_false_iff]; exact fun h => h1 ⟨h2, h⟩
        rw [h3] at cA
        conv => whnf
        repeat' (first | ((first | refine zs1 ?_ | refine zs2 ?_ | refine zs3 ?_ | refine zs4 ?_ | refine zs5 ?_); conv => whnf) | ((first | apply zi1 | apply zi2 | apply zi3 | apply zi4 | apply zi5) <;> intro _ <;> conv => whnf) | (refine VCall.intro (cH _) ?_; conv => whnf) | (refine VCall.intro (cA _) ?_; conv => whnf))
        all_goals try contradiction
        all_goals try (exfalso; omega)
        exact VOut.same rfl
      · conv => whnf
        repeat' (first | ((first | refine zs1 ?_ | refine zs2 ?_ | refine zs3 ?_ | refine zs4 ?_ | refine zs5 ?_); conv => whnf) | ((first | apply zi1 | apply zi2 | apply zi3 | apply zi4 | apply zi5) <;> intro _ <;> conv => whnf) | (refine VCall.intro (cH _) ?_; conv => whnf))
        all_goals try contradiction
        all_goals try (exfalso; omega)
        exact VOut.same rfl
  · rw [if_neg h0] at hE
    rw [← hE] at cH h0
    rw [if_neg h0] at hV
    subst hV
    refine VC.body Try.func53 rfl Try.ntmps53 Try.call53 (h.grows_refl) rfl ?_; conv => whnf
    repeat' (first | ((first | refine zs1 ?_ | refine zs2 ?_ | refine zs3 ?_ | refine zs4 ?_ | refine zs5 ?_ | refine zs6 [] ?_); conv => whnf) | ((first | apply zi1 | apply zi2 | apply zi3 | apply zi4 | apply zi5) <;> intro _ <;> conv => whnf) | (refine VCall.intro (cH _) ?_; conv => whnf))
    · exact VOut.same rfl
    all_goals (rename_i hh; exact absurd (by omega) h0)
end Go.Proofs.Ytoeendggmalcpaa

open Go.Vm
open Psg
namespace Go.Proofs.Ytoeendggmalcpaa
open Go.ChangeShapes Go.WideShapes Go.ChangeAt Go.RowKit
theorem Opens.sliceB {P : Program} {α : Type} {enc : α → List D} {t e : TypeId} {m : Nat} (ht : P.underlying t = some (.slice e)) (hm : ∀ a, (enc a).length = m) (hc : P.cellsOf e = m) (hpos : 0 < m) (he : Opens P e enc) :
    Opens P t (fun l : {l : List α // l.length ≤ 9223372036854775807} => [D.sl m l.1.length (l.1.flatMap enc)]) := by
  intro W H en sp hd fuel cs x h
  obtain ⟨l, h1, h2⟩ := Opens.slice ht hm hc hpos he W H en sp hd fuel cs x h
  refine ⟨⟨l, ?_⟩, h1, h2⟩
  rcases Deep.open_slice ht h with ⟨rfl, _⟩ | ⟨a, len, cap, mm, n, Dd, Pl, rfl, hb, hl, hcap, hmm, _, hx⟩
  · simp only [DRs, DR] at h1
    obtain ⟨y, ys, g1, ⟨_, _, g2⟩, g3⟩ := h1
    rcases g2 with g2 | ⟨r, o, cap, cur, T, f, zs, k1, k2, k3, _⟩
    · omega
    · rw [k3] at g1; simp at g1
  · simp only [DRs, DR] at h1
    obtain ⟨y, ys, g1, ⟨_, _, g2⟩, g3⟩ := h1
    rcases g2 with g2 | ⟨r, o, cap', cur, T, f, zs, k1, k2, k3, _⟩
    · omega
    · rw [k3] at g1
      simp at g1
      have : cap ≤ 9223372036854775807 := hcap
      omega
def dLB (l : {l : List (List Int) // l.length ≤ 9223372036854775807}) : D := .sl 1 l.1.length (l.1.flatMap encL)
theorem openLB : OpenV Try.prog 87 dLB := OpenV.slice Try.underlying87 (Opens.sliceB Try.underlying87 encL_len (by kernel_rfl) (by decide) open32)
end Go.Proofs.Ytoeendggmalcpaa

open Go.Vm
open Psg
namespace Go.Proofs.Ytoeendggmalcpaa
set_option maxRecDepth 20000
set_option maxHeartbeats 4000000
theorem vc_Made (bs : List Int) (d : DS) (p s : Int) (i : Vm.Id) (h : Hp) (hN : d.1 ≤ 900000) (hp : 2 ≤ p ∧ p ≤ 10) (hs : 0 ≤ s ∧ s ≤ 24) (hd : h.get i = some (deckB bs d)) :
    VC Try.prog 15 [.ptr i 0, I p, I s] h (vN (mdN bs d p s)) (h.set i (deckB bs (mdS bs d p s).1)) := by
  have a1 := dNx_bd bs d (p - 2 + 1)
  have c1 := fun (h2 : Hp) hh => vc_between bs d 2 p (.out i) h2 (by omega) (by omega) (by omega) hh
  have eN : mdN bs d p s = ⟨2 + (mdX bs d p).1, (mdS bs d p s).2⟩ := rfl
  rw [eN]
  unfold mdS mdC
  have e1 : dNx bs d (p - 2 + 1) = mdX bs d p := rfl
  rw [e1] at a1 c1
  generalize mdX bs d p = x1 at *
  have a2 := dNx_bd bs x1.2 (s + 1)
  have c2 := fun (h2 : Hp) hh => vc_draw bs x1.2 (s + 1) (.out i) h2 (by omega) hh
  generalize dNx bs x1.2 (s + 1) = x2 at *
  obtain ⟨n, hn⟩ : ∃ n : Nat, 2 + x1.1 = n := ⟨(2 + x1.1).toNat, by omega⟩
  rw [hn] at c1 ⊢
  have hSk := fun k => mIt_ok (bs := bs) (n := n) (by omega) (u := (x2.2, [])) (N := x2.2.1) ⟨by dsimp only; omega, rfl, by simp⟩ k
  obtain ⟨m, hm⟩ : ∃ m : Nat, x2.1 = m := ⟨x2.1.toNat, by omega⟩
  rw [hm] at c2 ⊢
  rw [Int.toNat_natCast]
  obtain ⟨R, hR⟩ : ∃ R, R = mIt bs n (x2.2, []) m := ⟨_, rfl⟩
  rw [← hR]
  clear eN e1
  refine VC.body Try.func15 rfl Try.ntmps15 Try.call15 (h.grows_set _ _) rfl ?_
  conv => whnf
  repeat' (first | ((first | refine zs1 ?_ | refine zs2 ?_ | refine zs3 ?_ | refine zs4 ?_ | refine zs5 ?_ | refine zs6 [] ?_); conv => whnf) | ((first | apply zi1 | apply zi2 | apply zi3 | apply zi4 | apply zi5) <;> intro _ <;> conv => whnf) | (refine VCall.intro (c1 _ (get_out hd _)) ?_; conv => whnf) | (refine VCall.intro (c2 _ (outW_get _ _ _ _)) ?_; conv => whnf))
  refine VCode.lpo (fun y : Nat × (DS × List Wy) => [(0, .ptr (.out i) 0), (6, .ptr (.loc 0) 0), (7, .ptr (.loc 1) 0), (18, I m), (19, I y.1)]) (fun y => outW h.lift i (deckB bs y.2.1))
    (fun y => [.flat true [DI 0, .nilslice], .cells true [I n, .gl (.loc 2) 8 y.2.2.length], .flat true (y.2.2.flatMap encWy)]) (fun y => y.1 ≤ m ∧ y.2 = mIt bs n (x2.2, []) y.1) (fun y => m - y.1) (0, (x2.2, [])) ⟨Nat.zero_le _, rfl⟩ ?_ ?_ ?_
  · funext j; by_cases e : j = i <;> simp [outW, e, Hp.set]
  · conv => whnf
    refine Retell.turn ⟨[0,1,2], 2, [], []⟩ (TurnOk.mk' _ _ [] [] (OutOk.outW (OutOk.lift _) rfl) rfl (by decide) zb trivial trivial rfl) zw zm
  · rintro ⟨k, w⟩ ⟨hk, hw⟩
    dsimp only at hk hw
    have hwk := hSk k
    have hnx : mIt bs n (x2.2, []) (k + 1) = ((m10 bs n w.1).2, w.2 ++ [mWy bs n w.1]) := by rw [mIt, hw]
    rw [← hw] at hwk
    obtain ⟨n1, n2, n3⟩ := hwk
    rcases Nat.lt_or_ge k m with h3 | h3
    · have hW := mW_ok bs n w.1 (by omega)
      obtain ⟨b1, b2, b3, b4, b5, b6, b8, b10, t1, t2, t3, t4, t5, t6, t7, t8, t9, t10, bt, bn⟩ := hW
      have g1 := fun (h2 : Hp) hh => vc_draw bs w.1 (n : Int) (.out i) h2 (by omega) hh
      rw [show dNx bs w.1 (n : Int) = m1 bs n w.1 from rfl] at g1
      have g2 := fun (h2 : Hp) hh => vc_draw bs (m1 bs n w.1).2 20 (.out i) h2 (by omega) hh
      rw [show dNx bs (m1 bs n w.1).2 20 = m2 bs n w.1 from rfl] at g2
      have g3 := fun (h2 : Hp) hh => vc_between bs (m2 bs n w.1).2 1 ((n : Int) - 1) (.out i) h2 (by omega) (by omega) (by omega) hh
      rw [show dNx bs (m2 bs n w.1).2 ((n : Int) - 1 - 1 + 1) = m3 bs n w.1 from rfl] at g3
      have g4 := fun (h2 : Hp) hh => vc_draw bs (m3 bs n w.1).2 8 (.out i) h2 (by omega) hh
      rw [show dNx bs (m3 bs n w.1).2 8 = m4 bs n w.1 from rfl] at g4
      have g5 := fun (h2 : Hp) hh => vc_draw bs (m4 bs n w.1).2 20 (.out i) h2 (by omega) hh
      rw [show dNx bs (m4 bs n w.1).2 20 = m5 bs n w.1 from rfl] at g5
      have g6 := fun (h2 : Hp) hh => vc_draw bs (m5 bs n w.1).2 30 (.out i) h2 (by omega) hh
      rw [show dNx bs (m5 bs n w.1).2 30 = m6 bs n w.1 from rfl] at g6
      have g7 := fun (h2 : Hp) hh => vc_coin bs (m6 bs n w.1).2 3 (.out i) h2 (by omega) hh
      rw [show dNx bs (m6 bs n w.1).2 3 = m7 bs n w.1 from rfl] at g7
      have g8 := fun (h2 : Hp) hh => vc_draw bs (m7 bs n w.1).2 16 (.out i) h2 (by omega) hh
      have g9 := fun (h2 : Hp) hh => vc_coin bs (m8 bs n w.1).2 3 (.out i) h2 (by omega) hh
      rw [show dNx bs (m8 bs n w.1).2 3 = m9 bs n w.1 from rfl] at g9
      have g10 := fun (h2 : Hp) hh => vc_draw bs (m9 bs n w.1).2 16 (.out i) h2 (by omega) hh
      have e8 : m8 bs n w.1 = cnD bs (m7 bs n w.1) := rfl
      have e10 : m10 bs n w.1 = cnD bs (m9 bs n w.1) := rfl
      have hneB : ((n : Int) != 0) = true := by rw [bne_iff_ne]; omega
      have eTo : ((m1 bs n w.1).1 + (1 + (m3 bs n w.1).1)).tmod (n : Int) = mTo bs n w.1 := rfl
      have hmw : mWy bs n w.1 = ⟨(m1 bs n w.1).1, mTo bs n w.1, (m4 bs n w.1).1, (m5 bs n w.1).1, (m8 bs n w.1).1, (m10 bs n w.1).1, (m2 bs n w.1).1, (m2 bs n w.1).1 + (m6 bs n w.1).1⟩ := rfl
      have cL := fun h => vc_Led (m1 bs n w.1).1 (mTo bs n w.1) (m4 bs n w.1).1 (m5 bs n w.1).1 0 0 (m2 bs n w.1).1 ((m2 bs n w.1).1 + (m6 bs n w.1).1) h
      rw [hmw] at hnx
      clear hmw bt bn
      by_cases h7 : (m7 bs n w.1).1 = 0
      · by_cases h9 : (m9 bs n w.1).1 = 0
        · have v7 : ((m7 bs n w.1).1 == 0) = true := by rw [h7]; rfl
          have v9 : ((m9 bs n w.1).1 == 0) = true := by rw [h9]; rfl
          rw [v7] at g7
          rw [v9] at g9
          rw [cnD, if_pos h7] at e8
          rw [← e8] at g8
          rw [cnD, if_pos h9] at e10
          rw [← e10] at g10
          generalize m10 bs n w.1 = z10 at *
          generalize m9 bs n w.1 = z9 at *
          generalize m8 bs n w.1 = z8 at *
          generalize m7 bs n w.1 = z7 at *
          generalize m6 bs n w.1 = z6 at *
          generalize m5 bs n w.1 = z5 at *
          generalize m4 bs n w.1 = z4 at *
          rw [← eTo] at cL hnx
          clear eTo
          generalize m3 bs n w.1 = z3 at *
          generalize m2 bs n w.1 = z2 at *
          generalize m1 bs n w.1 = z1 at *
          conv => whnf
          repeat' (first | ((first | refine zs1 ?_ | refine zs2 ?_ | refine zs3 ?_ | refine zs4 ?_ | refine zs5 ?_); conv => whnf) | ((first | apply zi1 | apply zi2 | apply zi3 | apply zi4 | apply zi5) <;> intro _ <;> conv => whnf) | (refine VCall.intro (g1 _ (outW_get _ _ _ _)) ?_; conv => whnf) | (refine VCall.intro (g2 _ (outW_get _ _ _ _)) ?_; conv => whnf))
          all_goals try (exfalso; omega)
          refine zs6 [(6, 9), (9, 12), (9, 14), (9, 18)] ?_
          conv => whnf
          repeat' (first | ((first | refine zs1 ?_ | refine zs2 ?_ | refine zs3 ?_ | refine zs4 ?_ | refine zs5 ?_); conv => whnf) | ((first | apply zi1 | apply zi2 | apply zi3 | apply zi4 | apply zi5) <;> intro _ <;> conv => whnf) | (refine VCall.intro (g3 _ (outW_get _ _ _ _)) ?_; conv => whnf) | (refine VNeed.intro hneB ?_; conv => whnf) | (refine VCall.intro (g4 _ (outW_get _ _ _ _)) ?_; conv => whnf) | (refine VCall.intro (g5 _ (outW_get _ _ _ _)) ?_; conv => whnf) | (refine VCall.intro (g6 _ (outW_get _ _ _ _)) ?_; conv => whnf) | (refine VCall.intro (cL _) ?_; conv => whnf) | (refine VCall.intro (g7 _ (outW_get _ _ _ _)) ?_; conv => whnf) | (refine VCall.intro (g8 _ (outW_get _ _ _ _)) ?_; conv => whnf) | (refine VCall.intro (g9 _ (outW_get _ _ _ _)) ?_; conv => whnf) | (refine VCall.intro (g10 _ (outW_get _ _ _ _)) ?_; conv => whnf))
          all_goals try (exfalso; omega)
          refine VMem.app1 (l := w.2) (⟨z1.1, (z1.1 + (1 + z3.1)).tmod (n : Int), z4.1, z5.1, z8.1, z10.1, z2.1, z2.1 + z6.1⟩ : Wy) encWy_len rfl rfl rfl rfl rfl (by omega) ?_
          conv => whnf
          repeat' (first | ((first | refine zs1 ?_ | refine zs2 ?_ | refine zs3 ?_ | refine zs4 ?_ | refine zs5 ?_); conv => whnf) | ((first | apply zi1 | apply zi2 | apply zi3 | apply zi4 | apply zi5) <;> intro _ <;> conv => whnf))
          refine LEndO.intro (k + 1, _) ⟨by dsimp only; omega, hnx.symm⟩ (by dsimp only; omega) ?_ ?_
          · funext j; by_cases e : j = i <;> simp [outW, e, Hp.set]
          · conv => whnf
            rw [List.length_append]
            refine Retell.turn ⟨[0,1,5], 6, [], []⟩ (TurnOk.mk' _ _ [] [] (OutOk.outW (OutOk.lift _) rfl) rfl (by decide) zb trivial trivial rfl) zw zm
        · have v7 : ((m7 bs n w.1).1 == 0) = true := by rw [h7]; rfl
          have v9 : ((m9 bs n w.1).1 == 0) = false := by rw [beq_eq_false_iff_ne]; exact h9
          rw [v7] at g7
          rw [v9] at g9
          rw [cnD, if_pos h7] at e8
          rw [← e8] at g8
          rw [cnD, if_neg h9] at e10
          generalize m10 bs n w.1 = z10 at *
          generalize m9 bs n w.1 = z9 at *
          generalize m8 bs n w.1 = z8 at *
          generalize m7 bs n w.1 = z7 at *
          generalize m6 bs n w.1 = z6 at *
          generalize m5 bs n w.1 = z5 at *
          generalize m4 bs n w.1 = z4 at *
          rw [← eTo] at cL hnx
          clear eTo
          generalize m3 bs n w.1 = z3 at *
          generalize m2 bs n w.1 = z2 at *
          generalize m1 bs n w.1 = z1 at *
          subst e10
          dsimp only at hnx
          conv => whnf
          repeat' (first | ((first | refine zs1 ?_ | refine zs2 ?_ | refine zs3 ?_ | refine zs4 ?_ | refine zs5 ?_); conv => whnf) | ((first | apply zi1 | apply zi2 | apply zi3 | apply zi4 | apply zi5) <;> intro _ <;> conv => whnf) | (refine VCall.intro (g1 _ (outW_get _ _ _ _)) ?_; conv => whnf) | (refine VCall.intro (g2 _ (outW_get _ _ _ _)) ?_; conv => whnf))
          all_goals try (exfalso; omega)
          refine zs6 [(6, 9), (9, 12), (9, 14), (9, 18)] ?_
          conv => whnf
          repeat' (first | ((first | refine zs1 ?_ | refine zs2 ?_ | refine zs3 ?_ | refine zs4 ?_ | refine zs5 ?_); conv => whnf) | ((first | apply zi1 | apply zi2 | apply zi3 | apply zi4 | apply zi5) <;> intro _ <;> conv => whnf) | (refine VCall.intro (g3 _ (outW_get _ _ _ _)) ?_; conv => whnf) | (refine VNeed.intro hneB ?_; conv => whnf) | (refine VCall.intro (g4 _ (outW_get _ _ _ _)) ?_; conv => whnf) | (refine VCall.intro (g5 _ (outW_get _ _ _ _)) ?_; conv => whnf) | (refine VCall.intro (g6 _ (outW_get _ _ _ _)) ?_; conv => whnf) | (refine VCall.intro (cL _) ?_; conv => whnf) | (refine VCall.intro (g7 _ (outW_get _ _ _ _)) ?_; conv => whnf) | (refine VCall.intro (g8 _ (outW_get _ _ _ _)) ?_; conv => whnf) | (refine VCall.intro (g9 _ (outW_get _ _ _ _)) ?_; conv => whnf) | (refine VCall.intro (g10 _ (outW_get _ _ _ _)) ?_; conv => whnf))
          all_goals try (exfalso; omega)
          refine VMem.app1 (l := w.2) (⟨z1.1, (z1.1 + (1 + z3.1)).tmod (n : Int), z4.1, z5.1, z8.1, 0, z2.1, z2.1 + z6.1⟩ : Wy) encWy_len rfl rfl rfl rfl rfl (by omega) ?_
          conv => whnf
          repeat' (first | ((first | refine zs1 ?_ | refine zs2 ?_ | refine zs3 ?_ | refine zs4 ?_ | refine zs5 ?_); conv => whnf) | ((first | apply zi1 | apply zi2 | apply zi3 | apply zi4 | apply zi5) <;> intro _ <;> conv => whnf))
          refine LEndO.intro (k + 1, _) ⟨by dsimp only; omega, hnx.symm⟩ (by dsimp only; omega) ?_ ?_
          · funext j; by_cases e : j = i <;> simp [outW, e, Hp.set]
          · conv => whnf
            rw [List.length_append]
            refine Retell.turn ⟨[0,1,5], 6, [], []⟩ (TurnOk.mk' _ _ [] [] (OutOk.outW (OutOk.lift _) rfl) rfl (by decide) zb trivial trivial rfl) zw zm
      · by_cases h9 : (m9 bs n w.1).1 = 0
        · have v7 : ((m7 bs n w.1).1 == 0) = false := by rw [beq_eq_false_iff_ne]; exact h7
          have v9 : ((m9 bs n w.1).1 == 0) = true := by rw [h9]; rfl
          rw [v7] at g7
          rw [v9] at g9
          rw [cnD, if_neg h7] at e8
          rw [cnD, if_pos h9] at e10
          rw [← e10] at g10
          generalize m10 bs n w.1 = z10 at *
          generalize m9 bs n w.1 = z9 at *
          generalize m8 bs n w.1 = z8 at *
          generalize m7 bs n w.1 = z7 at *
          generalize m6 bs n w.1 = z6 at *
          generalize m5 bs n w.1 = z5 at *
          generalize m4 bs n w.1 = z4 at *
          rw [← eTo] at cL hnx
          clear eTo
          generalize m3 bs n w.1 = z3 at *
          generalize m2 bs n w.1 = z2 at *
          generalize m1 bs n w.1 = z1 at *
          subst e8
          dsimp only at hnx g9
          conv => whnf
          repeat' (first | ((first | refine zs1 ?_ | refine zs2 ?_ | refine zs3 ?_ | refine zs4 ?_ | refine zs5 ?_); conv => whnf) | ((first | apply zi1 | apply zi2 | apply zi3 | apply zi4 | apply zi5) <;> intro _ <;> conv => whnf) | (refine VCall.intro (g1 _ (outW_get _ _ _ _)) ?_; conv => whnf) | (refine VCall.intro (g2 _ (outW_get _ _ _ _)) ?_; conv => whnf))
          all_goals try (exfalso; omega)
          refine zs6 [(6, 9), (9, 12), (9, 14), (9, 18)] ?_
          conv => whnf
          repeat' (first | ((first | refine zs1 ?_ | refine zs2 ?_ | refine zs3 ?_ | refine zs4 ?_ | refine zs5 ?_); conv => whnf) | ((first | apply zi1 | apply zi2 | apply zi3 | apply zi4 | apply zi5) <;> intro _ <;> conv => whnf) | (refine VCall.intro (g3 _ (outW_get _ _ _ _)) ?_; conv => whnf) | (refine VNeed.intro hneB ?_; conv => whnf) | (refine VCall.intro (g4 _ (outW_get _ _ _ _)) ?_; conv => whnf) | (refine VCall.intro (g5 _ (outW_get _ _ _ _)) ?_; conv => whnf) | (refine VCall.intro (g6 _ (outW_get _ _ _ _)) ?_; conv => whnf) | (refine VCall.intro (cL _) ?_; conv => whnf) | (refine VCall.intro (g7 _ (outW_get _ _ _ _)) ?_; conv => whnf) | (refine VCall.intro (g8 _ (outW_get _ _ _ _)) ?_; conv => whnf) | (refine VCall.intro (g9 _ (outW_get _ _ _ _)) ?_; conv => whnf) | (refine VCall.intro (g10 _ (outW_get _ _ _ _)) ?_; conv => whnf))
          all_goals try (exfalso; omega)
          refine VMem.app1 (l := w.2) (⟨z1.1, (z1.1 + (1 + z3.1)).tmod (n : Int), z4.1, z5.1, 0, z10.1, z2.1, z2.1 + z6.1⟩ : Wy) encWy_len rfl rfl rfl rfl rfl (by omega) ?_
          conv => whnf
          repeat' (first | ((first | refine zs1 ?_ | refine zs2 ?_ | refine zs3 ?_ | refine zs4 ?_ | refine zs5 ?_); conv => whnf) | ((first | apply zi1 | apply zi2 | apply zi3 | apply zi4 | apply zi5) <;> intro _ <;> conv => whnf))
          refine LEndO.intro (k + 1, _) ⟨by dsimp only; omega, hnx.symm⟩ (by dsimp only; omega) ?_ ?_
          · funext j; by_cases e : j = i <;> simp [outW, e, Hp.set]
          · conv => whnf
            rw [List.length_append]
            refine Retell.turn ⟨[0,1,5], 6, [], []⟩ (TurnOk.mk' _ _ [] [] (OutOk.outW (OutOk.lift _) rfl) rfl (by decide) zb trivial trivial rfl) zw zm
        · have v7 : ((m7 bs n w.1).1 == 0) = false := by rw [beq_eq_false_iff_ne]; exact h7
          have v9 : ((m9 bs n w.1).1 == 0) = false := by rw [beq_eq_false_iff_ne]; exact h9
          rw [v7] at g7
          rw [v9] at g9
          rw [cnD, if_neg h7] at e8
          rw [cnD, if_neg h9] at e10
          generalize m10 bs n w.1 = z10 at *
          generalize m9 bs n w.1 = z9 at *
          generalize m8 bs n w.1 = z8 at *
          generalize m7 bs n w.1 = z7 at *
          generalize m6 bs n w.1 = z6 at *
          generalize m5 bs n w.1 = z5 at *
          generalize m4 bs n w.1 = z4 at *
          rw [← eTo] at cL hnx
          clear eTo
          generalize m3 bs n w.1 = z3 at *
          generalize m2 bs n w.1 = z2 at *
          generalize m1 bs n w.1 = z1 at *
          subst e10
          dsimp only at hnx
          subst e8
          dsimp only at hnx g9
          conv => whnf
          repeat' (first | ((first | refine zs1 ?_ | refine zs2 ?_ | refine zs3 ?_ | refine zs4 ?_ | refine zs5 ?_); conv => whnf) | ((first | apply zi1 | apply zi2 | apply zi3 | apply zi4 | apply zi5) <;> intro _ <;> conv => whnf) | (refine VCall.intro (g1 _ (outW_get _ _ _ _)) ?_; conv => whnf) | (refine VCall.intro (g2 _ (outW_get _ _ _ _)) ?_; conv => whnf))
          all_goals try (exfalso; omega)
          refine zs6 [(6, 9), (9, 12), (9, 14), (9, 18)] ?_
          conv => whnf
          repeat' (first | ((first | refine zs1 ?_ | refine zs2 ?_ | refine zs3 ?_ | refine zs4 ?_ | refine zs5 ?_); conv => whnf) | ((first | apply zi1 | apply zi2 | apply zi3 | apply zi4 | apply zi5) <;> intro _ <;> conv => whnf) | (refine VCall.intro (g3 _ (outW_get _ _ _ _)) ?_; conv => whnf) | (refine VNeed.intro hneB ?_; conv => whnf) | (refine VCall.intro (g4 _ (outW_get _ _ _ _)) ?_; conv => whnf) | (refine VCall.intro (g5 _ (outW_get _ _ _ _)) ?_; conv => whnf) | (refine VCall.intro (g6 _ (outW_get _ _ _ _)) ?_; conv => whnf) | (refine VCall.intro (cL _) ?_; conv => whnf) | (refine VCall.intro (g7 _ (outW_get _ _ _ _)) ?_; conv => whnf) | (refine VCall.intro (g8 _ (outW_get _ _ _ _)) ?_; conv => whnf) | (refine VCall.intro (g9 _ (outW_get _ _ _ _)) ?_; conv => whnf) | (refine VCall.intro (g10 _ (outW_get _ _ _ _)) ?_; conv => whnf))
          all_goals try (exfalso; omega)
          refine VMem.app1 (l := w.2) (⟨z1.1, (z1.1 + (1 + z3.1)).tmod (n : Int), z4.1, z5.1, 0, 0, z2.1, z2.1 + z6.1⟩ : Wy) encWy_len rfl rfl rfl rfl rfl (by omega) ?_
          conv => whnf
          repeat' (first | ((first | refine zs1 ?_ | refine zs2 ?_ | refine zs3 ?_ | refine zs4 ?_ | refine zs5 ?_); conv => whnf) | ((first | apply zi1 | apply zi2 | apply zi3 | apply zi4 | apply zi5) <;> intro _ <;> conv => whnf))
          refine LEndO.intro (k + 1, _) ⟨by dsimp only; omega, hnx.symm⟩ (by dsimp only; omega) ?_ ?_
          · funext j; by_cases e : j = i <;> simp [outW, e, Hp.set]
          · conv => whnf
            rw [List.length_append]
            refine Retell.turn ⟨[0,1,5], 6, [], []⟩ (TurnOk.mk' _ _ [] [] (OutOk.outW (OutOk.lift _) rfl) rfl (by decide) zb trivial trivial rfl) zw zm
    · obtain rfl : k = m := by omega
      rw [← hR] at hw
      subst hw
      conv => whnf
      repeat' (first | ((first | refine zs1 ?_ | refine zs2 ?_ | refine zs3 ?_ | refine zs4 ?_ | refine zs5 ?_); conv => whnf) | ((first | apply zi1 | apply zi2 | apply zi3 | apply zi4 | apply zi5) <;> intro _ <;> conv => whnf))
      all_goals try (exfalso; omega)
      have hfl : (w.2.flatMap encWy).length = w.2.length * 8 := flat_len encWy_len _
      refine VOut.turn ⟨[], 3, [(2, w.2.flatMap encWy)], []⟩ (loc' := []) (r1' := vN ⟨n, w.2⟩) (TurnOk.mk' [] 3 [(2, w.2.flatMap encWy)] [] (OutOk.outW (OutOk.lift _) rfl) rfl List.nodup_nil BTos.nil (FzAll.flat rfl FzAll.nil) trivial rfl) zw ?_
      exact VOut.setF (L := 0) rfl hd fun _ => rfl
end Go.Proofs.Ytoeendggmalcpaa

open Go.Vm
open Psg
namespace Go.Proofs.Ytoeendggmalcpaa
set_option maxRecDepth 20000
set_option maxHeartbeats 4000000
theorem vc_Pastures {n : Nat} (bs : List Int) (d : DS) (N : Nt) (i : Vm.Id) (h : Hp) (hN : NOk n N) (hn : 2 ≤ n) (hd1 : d.1 ≤ 900000) (hd : h.get i = some (deckB bs d)) :
    VC Try.prog 17 [.ptr i 0, vN N] h (.tuple [ints (paF bs d n), ints (paT bs d n)]) (h.set i (deckB bs (paX bs d n).1)) := by
  have hp := hN.p
  have hn1 := hN.n1
  have c1 := fun (h2 : Hp) hh => vc_Shuffle bs d n (.out i) h2 (by omega) (by omega) hh
  rw [← hp] at c1
  have hS := shX_prm bs d n
  have hl := hS.1.len
  have hI := pa_ok bs d hn
  have hIk := fun k hk => paI_ok (bs := bs) (u := pa0 bs d n) (N := d.1 + n) hS.1.nd (by
    have hnd := hS.1.nd
    have h0 : (shX bs d n).2[0]? = some (shX bs d n).2[0] := List.getElem?_eq_getElem (by omega)
    have h1 : (shX bs d n).2[1]? = some (shX bs d n).2[1] := List.getElem?_eq_getElem (by omega)
    have hne : (shX bs d n).2[0] ≠ (shX bs d n).2[1] := nd_at hnd (by omega) (by omega) (by omega)
    have ht : (shX bs d n).2.take 2 = [(shX bs d n).2[0], (shX bs d n).2[1]] := by
      rw [List.take_add_one, List.take_add_one, h0, h1]; rfl
    unfold pa0
    rw [List.getD_eq_getElem?_getD, h0, List.getD_eq_getElem?_getD, h1]
    refine ⟨hS.2, fun x hx => ?_, fun x hx => ?_, by simp, by simp, fun x hx hy => ?_, by simp, by simp, by simp, by simp⟩
    · dsimp only at hx; rw [List.mem_singleton.1 hx]
      show _ ∈ (shX bs d n).2.take 2
      rw [ht]; simp
    · dsimp only at hx; rw [List.mem_singleton.1 hx]
      show _ ∈ (shX bs d n).2.take 2
      rw [ht]; simp
    · dsimp only at hx hy
      have e1 := List.mem_singleton.1 hx
      have e2 := List.mem_singleton.1 hy
      exact hne (by rw [e1] at e2; exact e2)) k hk
  have e0 : pa0 bs d n = ((shX bs d n).1, [(shX bs d n).2.getD 0 0], [(shX bs d n).2.getD 1 0]) := rfl
  have hl0 : (shX bs d n).2[0]? = some ((shX bs d n).2.getD 0 0) := by rw [List.getD_eq_getElem?_getD, List.getElem?_eq_getElem (by omega)]; rfl
  have hl1 : (shX bs d n).2[1]? = some ((shX bs d n).2.getD 1 0) := by rw [List.getD_eq_getElem?_getD, List.getElem?_eq_getElem (by omega)]; rfl
  obtain ⟨X, hX⟩ : ∃ X, X = paX bs d n := ⟨_, rfl⟩
  have hF : paF bs d n = srt X.2.1 := by rw [hX]; rfl
  have hT : paT bs d n = srt X.2.2 := by rw [hX]; rfl
  have hXe : X = paI bs (shX bs d n).2 (pa0 bs d n) (n - 2) := hX
  rw [← hX] at hI
  rw [hF, hT, ← hX]
  clear hF hT hX hS
  generalize pa0 bs d n = u0 at *
  generalize (shX bs d n).2.getD 0 0 = a0 at *
  generalize (shX bs d n).2.getD 1 0 = a1 at *
  generalize shX bs d n = S at *
  obtain ⟨d1, L⟩ := S
  dsimp only at *
  subst e0
  have hsub : ((L.drop 2).take (n - 2)) = L.drop 2 := List.take_of_length_le (by rw [List.length_drop]; omega)
  refine VC.bodyC 2 Try.func17 rfl Try.ntmps17 Try.call17 (h.grows_set _ _) rfl ?_
  conv => whnf
  repeat' (first | ((first | refine zs1 ?_ | refine zs2 ?_ | refine zs3 ?_ | refine zs4 ?_ | refine zs5 ?_); conv => whnf) | ((first | apply zi1 | apply zi2 | apply zi3 | apply zi4 | apply zi5) <;> intro _ <;> conv => whnf) | (refine VCall.intro (c1 _ (get_out hd _)) ?_; conv => whnf))
  refine VCut.atO 99 [(0, .ptr (.out i) 0), (4, .gl (.loc 0) 1 0), (5, .gl (.loc 1) 1 0), (6, ints L)] (outW h.lift i (deckB bs d1)) [.flat true [], .flat true []] (by funext j; by_cases e : j = i <;> simp [outW, e, Hp.set]) ?_ ?_
  · conv => whnf
    refine Retell.turn ⟨[1,2], 1, [], []⟩ (TurnOk.mk' _ _ [] [] (OutOk.outW (OutOk.lift _) rfl) rfl (by decide) zb trivial trivial rfl) zw zm
  · conv => whnf
    repeat' (first | ((first | refine zs1 ?_ | refine zs2 ?_ | refine zs3 ?_ | refine zs4 ?_ | refine zs5 ?_); conv => whnf) | ((first | apply zi1 | apply zi2 | apply zi3 | apply zi4 | apply zi5) <;> intro _ <;> conv => whnf) | (refine VAny.ix encI_len 0 rfl rfl hl0 ?_; conv => whnf))
    refine VMem.app1 (l := ([] : List Int)) a0 encI_len rfl rfl rfl rfl rfl (by decide) ?_
    conv => whnf
    repeat' (first | ((first | refine zs1 ?_ | refine zs2 ?_ | refine zs3 ?_ | refine zs4 ?_ | refine zs5 ?_); conv => whnf) | ((first | apply zi1 | apply zi2 | apply zi3 | apply zi4 | apply zi5) <;> intro _ <;> conv => whnf) | (refine VAny.ix encI_len 1 rfl rfl hl1 ?_; conv => whnf))
    refine VMem.app1 (l := ([] : List Int)) a1 encI_len rfl rfl rfl rfl rfl (by decide) ?_
    conv => whnf
    repeat' (first | ((first | refine zs1 ?_ | refine zs2 ?_ | refine zs3 ?_ | refine zs4 ?_ | refine zs5 ?_); conv => whnf) | ((first | apply zi1 | apply zi2 | apply zi3 | apply zi4 | apply zi5) <;> intro _ <;> conv => whnf))
    refine VAny.sub encI_len rfl (by omega) ?_
    rw [show ((L.length : Int) - 2).toNat = n - 2 by omega, show ((2 : Int).toNat) = 2 from rfl, hsub]
    conv => whnf
    repeat' (first | ((first | refine zs1 ?_ | refine zs2 ?_ | refine zs3 ?_ | refine zs4 ?_ | refine zs5 ?_); conv => whnf) | ((first | apply zi1 | apply zi2 | apply zi3 | apply zi4 | apply zi5) <;> intro _ <;> conv => whnf))
    refine VCode.lpo (fun y : Nat × PsT => [(0, .ptr (.out i) 0), (4, .gl (.loc 0) 1 y.2.2.1.length), (5, .gl (.loc 1) 1 y.2.2.2.length), (26, ints (L.drop 2)), (27, I (L.drop 2).length), (28, I y.1)]) (fun y => outW h.lift i (deckB bs y.2.1))
      (fun y => [.flat true (y.2.2.1.flatMap Vm.encI), .flat true (y.2.2.2.flatMap Vm.encI)]) (fun y => y.1 ≤ n - 2 ∧ y.2 = paI bs L (d1, [a0], [a1]) y.1) (fun y => n - y.1) (0, (d1, [a0], [a1])) ⟨Nat.zero_le _, rfl⟩ ?_ ?_ ?_
    · funext j; by_cases e : j = i <;> simp [outW, e, Hp.set]
    · conv => whnf
      refine Retell.turn ⟨[3,5], 6, [], []⟩ (TurnOk.mk' _ _ [] [] (OutOk.outW (OutOk.lift _) rfl) rfl (by decide) zb trivial trivial rfl) zw zm
    · rintro ⟨k, w⟩ ⟨hk, hw⟩
      dsimp only at hk hw
      have hdl : (L.drop 2).length = n - 2 := by rw [List.length_drop, hl]
      rcases Nat.lt_or_ge k (n - 2) with h3 | h3
      · have hwk := hIk k (by omega)
        have hx : L[k + 2]? = some L[k + 2] := List.getElem?_eq_getElem (by omega)
        have hx2 : (L.drop 2)[k]? = some L[k + 2] := by rw [List.getElem?_drop, Nat.add_comm 2 k]; exact hx
        have hnx := paI_succ (bs := bs) (u := (d1, [a0], [a1])) hx
        rw [← hw] at hwk hnx
        generalize L[k + 2] = x at hx hx2 hnx
        obtain ⟨q1, _, _, _, _, _, _, _, q9, q10⟩ := hwk
        have g1 := fun (h2 : Hp) hh => vc_draw bs w.1 5 (.out i) h2 (by omega) hh
        unfold paS at hnx
        generalize dNx bs w.1 5 = z at g1 hnx
        by_cases z0 : z.1 = 0
        · rw [if_pos z0, if_neg (by omega)] at hnx
          conv => whnf
          repeat' (first | ((first | refine zs1 ?_ | refine zs2 ?_ | refine zs3 ?_ | refine zs4 ?_ | refine zs5 ?_); conv => whnf) | ((first | apply zi1 | apply zi2 | apply zi3 | apply zi4 | apply zi5) <;> intro _ <;> conv => whnf) | (refine VAny.ix encI_len k rfl rfl hx2 ?_; conv => whnf) | (refine VCall.intro (g1 _ (outW_get _ _ _ _)) ?_; conv => whnf))
          all_goals try (exfalso; omega)
          refine VMem.app1 (l := w.2.1) x encI_len rfl rfl rfl rfl rfl (by omega) ?_
          conv => whnf
          repeat' (first | ((first | refine zs1 ?_ | refine zs2 ?_ | refine zs3 ?_ | refine zs4 ?_ | refine zs5 ?_); conv => whnf) | ((first | apply zi1 | apply zi2 | apply zi3 | apply zi4 | apply zi5) <;> intro _ <;> conv => whnf))
          refine LEndO.intro (k + 1, _) ⟨by dsimp only; omega, hnx.symm⟩ (by dsimp only; omega) ?_ ?_
          · funext j; by_cases e : j = i <;> simp [outW, e, Hp.set]
          · conv => whnf
            rw [List.length_append]
            refine Retell.turn ⟨[3,1], 4, [], []⟩ (TurnOk.mk' _ _ [] [] (OutOk.outW (OutOk.lift _) rfl) rfl (by decide) zb trivial trivial rfl) zw zm
        · by_cases z1 : z.1 = 1
          · rw [if_neg z0, if_pos z1] at hnx
            conv => whnf
            repeat' (first | ((first | refine zs1 ?_ | refine zs2 ?_ | refine zs3 ?_ | refine zs4 ?_ | refine zs5 ?_); conv => whnf) | ((first | apply zi1 | apply zi2 | apply zi3 | apply zi4 | apply zi5) <;> intro _ <;> conv => whnf) | (refine VAny.ix encI_len k rfl rfl hx2 ?_; conv => whnf) | (refine VCall.intro (g1 _ (outW_get _ _ _ _)) ?_; conv => whnf))
            all_goals try (exfalso; omega)
            refine VMem.app1 (l := w.2.2) x encI_len rfl rfl rfl rfl rfl (by omega) ?_
            conv => whnf
            repeat' (first | ((first | refine zs1 ?_ | refine zs2 ?_ | refine zs3 ?_ | refine zs4 ?_ | refine zs5 ?_); conv => whnf) | ((first | apply zi1 | apply zi2 | apply zi3 | apply zi4 | apply zi5) <;> intro _ <;> conv => whnf))
            refine LEndO.intro (k + 1, _) ⟨by dsimp only; omega, hnx.symm⟩ (by dsimp only; omega) ?_ ?_
            · funext j; by_cases e : j = i <;> simp [outW, e, Hp.set]
            · conv => whnf
              rw [List.length_append]
              refine Retell.turn ⟨[0,3], 4, [], []⟩ (TurnOk.mk' _ _ [] [] (OutOk.outW (OutOk.lift _) rfl) rfl (by decide) zb trivial trivial rfl) zw zm
          · rw [if_neg z0, if_neg z1] at hnx
            conv => whnf
            repeat' (first | ((first | refine zs1 ?_ | refine zs2 ?_ | refine zs3 ?_ | refine zs4 ?_ | refine zs5 ?_); conv => whnf) | ((first | apply zi1 | apply zi2 | apply zi3 | apply zi4 | apply zi5) <;> intro _ <;> conv => whnf) | (refine VAny.ix encI_len k rfl rfl hx2 ?_; conv => whnf) | (refine VCall.intro (g1 _ (outW_get _ _ _ _)) ?_; conv => whnf))
            all_goals try (exfalso; omega)
            refine LEndO.intro (k + 1, _) ⟨by dsimp only; omega, hnx.symm⟩ (by dsimp only; omega) ?_ ?_
            · funext j; by_cases e : j = i <;> simp [outW, e, Hp.set]
            · conv => whnf
              refine Retell.turn ⟨[0,1], 2, [], []⟩ (TurnOk.mk' _ _ [] [] (OutOk.outW (OutOk.lift _) rfl) rfl (by decide) zb trivial trivial rfl) zw zm
      · obtain rfl : k = n - 2 := by omega
        rw [← hXe] at hw
        subst hw
        have hf0 := hI.f0
        have ht0 := hI.t0
        have hfl := hI.fl
        have htl := hI.tl
        have s1 := fun (hh : Hp) hb => vc_Sort w.2.1.length w.2.1 (.loc 0) hh hb (Nat.le_refl _) hf0 (by omega) (srt w.2.1) (by unfold Go.Vm.srtI srt; rw [List.take_length]; exact List.prefix_append _ _)
        have s2 := fun (hh : Hp) hb => vc_Sort w.2.2.length w.2.2 (.loc 1) hh hb (Nat.le_refl _) ht0 (by omega) (srt w.2.2) (by unfold Go.Vm.srtI srt; rw [List.take_length]; exact List.prefix_append _ _)
        have e1 : (srt w.2.1).length = w.2.1.length := srt_len _
        have e2 : (srt w.2.2).length = w.2.2.length := srt_len _
        conv => whnf
        repeat' (first | ((first | refine zs1 ?_ | refine zs2 ?_ | refine zs3 ?_ | refine zs4 ?_ | refine zs5 ?_); conv => whnf) | ((first | apply zi1 | apply zi2 | apply zi3 | apply zi4 | apply zi5) <;> intro _ <;> conv => whnf) | (refine VCall.intro (s1 _ rfl) ?_; conv => whnf) | (refine VCall.intro (s2 _ rfl) ?_; conv => whnf))
        all_goals try (exfalso; omega)
        rw [← e1, ← e2]
        refine VOut.turn ⟨[], 2, [(0, (srt w.2.1).flatMap Vm.encI), (1, (srt w.2.2).flatMap Vm.encI)], []⟩ (loc' := []) (r1' := .tuple [ints (srt w.2.1), ints (srt w.2.2)]) (TurnOk.mk' [] 2 [(0, (srt w.2.1).flatMap Vm.encI), (1, (srt w.2.2).flatMap Vm.encI)] [] (OutOk.outW (OutOk.lift _) rfl) rfl List.nodup_nil BTos.nil (FzAll.flat rfl (FzAll.flat rfl FzAll.nil)) trivial rfl) zw ?_
        exact VOut.setF (L := 0) rfl hd fun _ => rfl
end Go.Proofs.Ytoeendggmalcpaa


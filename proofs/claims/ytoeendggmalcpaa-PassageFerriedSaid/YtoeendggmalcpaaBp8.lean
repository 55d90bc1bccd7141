/- Part 8 of the proof that calendars and herds are as the given statements say. No condition. -/
import Derived.Test.YtoeendggmalcpaaBp7
set_option linter.unusedVariables false
set_option linter.unusedSimpArgs false
open Go.Vm
open Psg
namespace Go.Proofs.Ytoeendggmalcpaa
set_option maxRecDepth 20000
set_option maxHeartbeats 4000000

/-! ### Tables whose rows are one's own -/
def rF (X : Rw) (k q : Nat) : Blk := .flat true (bif Nat.blt q k then (X.getD q []).flatMap Vm.encI else [])
def tabF (b : Blk) (X : Rw) (k : Nat) (r : List Blk) : List Blk := b :: rF X k 0 :: rF X k 1 :: rF X k 2 :: rF X k 3 :: rF X k 4 :: rF X k 5 :: rF X k 6 :: rF X k 7 :: rF X k 8 :: rF X k 9 :: r
theorem tabF_all (b : Blk) {X : Rw} {k : Nat} (h : X.length = k) (r : List Blk) : tabF b X k r = tabB b X r := by
  have e : ∀ q, rF X k q = rB X q := fun q => by
    unfold rF rB
    cases hb : Nat.blt q k with
    | true => rfl
    | false =>
      have : k ≤ q := by
        rcases Nat.lt_or_ge q k with h1 | h1
        · rw [show Nat.blt q k = true from blt_of h1] at hb; cases hb
        · exact h1
      rw [List.getD_eq_getElem?_getD, List.getElem?_eq_none (by omega)]; rfl
  unfold tabF tabB
  rw [e, e, e, e, e, e, e, e, e, e]
def rowsO (o n : Nat) : List V := (List.range n).map fun q => .gl (.loc (q + 1 + o)) 1 16
theorem rowsO_at {o n q : Nat} (h : q < n) : (rowsO o n)[q]? = some (.gl (.loc (q + 1 + o)) 1 16) := by
  unfold rowsO
  rw [List.getElem?_map, List.getElem?_range h]; rfl
theorem ren_rows (o n : Nat) : (rowsV n).map (V.ren (shL o)) = rowsO o n := by
  unfold rowsV rowsO
  rw [List.map_map]; rfl
theorem ren_tab (o n : Nat) (X : Rw) : (tabB (.cells true (rowsV n)) X []).map (Blk.ren (shL o)) = tabB (.cells true (rowsO o n)) X [] := by
  unfold tabB rB
  simp only [List.map_cons, List.map_nil, Blk.ren, ren_rows]
theorem bare_rows (n : Nat) : ∀ v ∈ rowsV n, BareV v := fun v hv => by
  obtain ⟨q, _, rfl⟩ := List.mem_map.1 hv
  exact BareV.gl _ _ _
theorem bare_int (l : List Int) : BareB (.flat true (l.flatMap Vm.encI)) := by
  have : l.flatMap Vm.encI = (l.map fun n => S.int .i64 n).map D.s := by
    induction l with
    | nil => rfl
    | cons a l ih => rw [List.flatMap_cons, ih]; rfl
  rw [this]; exact BareB.flat _
theorem bare_tab (n : Nat) (X : Rw) : ∀ b ∈ tabB (.cells true (rowsV n)) X [], BareB b := by
  unfold tabB rB
  simp only [List.mem_cons, List.not_mem_nil, or_false]
  rintro b (rfl | rfl | rfl | rfl | rfl | rfl | rfl | rfl | rfl | rfl | rfl)
  · exact BareB.cells _ (bare_rows n)
  all_goals exact bare_int _
theorem getD_at {X : Rw} {k : Nat} (h : k < X.length) : X[k]? = some (X.getD k []) := by
  rw [List.getD_eq_getElem?_getD, List.getElem?_eq_getElem h]; rfl
theorem VOut.tab {n : Nat} {X : Rw} {loc : List Blk} (hn : n ≤ 10) (hl : loc = tabB (.cells true (rowsV n)) X []) : VOut Hp.bare ⟨Hp.bare.lift, loc⟩ (.gl (.loc 0) 1 n) (.gl (.loc 0) 1 n) ⟨fun _ => none, tabB (.cells true (rowsV n)) X []⟩ := by
  subst hl
  have hb : ∀ q, q < 11 → backR 0 [0, 1, 2, 3, 4, 5, 6, 7, 8, 9, 10] 11 (.loc q) = .loc q := by
    intro q hq
    have : q = 0 ∨ q = 1 ∨ q = 2 ∨ q = 3 ∨ q = 4 ∨ q = 5 ∨ q = 6 ∨ q = 7 ∨ q = 8 ∨ q = 9 ∨ q = 10 := by omega
    rcases this with rfl | rfl | rfl | rfl | rfl | rfl | rfl | rfl | rfl | rfl | rfl <;> rfl
  have hrw : (rowsV n).map (V.ren (backR 0 [0, 1, 2, 3, 4, 5, 6, 7, 8, 9, 10] 11)) = rowsV n := by
    unfold rowsV
    rw [List.map_map]
    refine List.map_congr_left fun q hq => ?_
    have := List.mem_range.1 hq
    show V.gl (backR 0 _ 11 (.loc (q + 1))) 1 16 = _
    rw [hb (q + 1) (by omega)]
  have key := VOut.upd (h := Hp.bare) (loc := tabB (.cells true (rowsV n)) X []) (r1 := .gl (.loc 0) 1 n) (r := .gl (.loc 0) 1 n) [] (tabB (.cells true (rowsV n)) X []) [0, 1, 2, 3, 4, 5, 6, 7, 8, 9, 10] 11 rfl (by intro p hp; cases hp) (by decide) rfl (fun k b hk => by
    have hk11 : k < 11 := (List.getElem?_eq_some_iff.1 hk).1
    have : k = 0 ∨ k = 1 ∨ k = 2 ∨ k = 3 ∨ k = 4 ∨ k = 5 ∨ k = 6 ∨ k = 7 ∨ k = 8 ∨ k = 9 ∨ k = 10 := by omega
    rcases this with rfl | rfl | rfl | rfl | rfl | rfl | rfl | rfl | rfl | rfl | rfl
    · cases hk
      refine ⟨0, rfl, ?_⟩
      show some (Blk.cells true (rowsV n)) = some (Blk.cells true ((rowsV n).map (V.ren (backR 0 [0, 1, 2, 3, 4, 5, 6, 7, 8, 9, 10] 11))))
      rw [hrw]
    all_goals (cases hk; exact ⟨_, rfl, rfl⟩)) (fun σ x hx => by
    have : (V.gl (.loc 0) 1 n).ren (backR Hp.bare.loc.length [0, 1, 2, 3, 4, 5, 6, 7, 8, 9, 10] 11) = .gl (.loc 0) 1 n := by
      show V.gl (backR 0 _ 11 (.loc 0)) 1 n = _
      rw [hb 0 (by decide)]
    rw [this]; exact hx) (outer := Hp.bare.lift) rfl
  exact key
theorem vc_kcloneAO {n : Nat} (X : Rw) (hs : Sz n X) (hn : n ≤ 10) : VC Try.prog 52 [intss X] Hp.bare (.gl (.loc 0) 1 n) ⟨fun _ => none, tabB (.cells true (rowsV n)) X []⟩ := by
  have hXl := hs.len
  have hgr : ∀ i, Hp.bare.get i ≠ none → (⟨fun _ => none, tabB (.cells true (rowsV n)) X []⟩ : Hp).get i ≠ none := fun i hi => absurd (by cases i <;> rfl) hi
  refine VC.body Try.func52 rfl Try.ntmps52 Try.call52 hgr rfl ?_
  conv => whnf
  repeat' (first | ((first | refine zs1 ?_ | refine zs2 ?_ | refine zs3 ?_ | refine zs4 ?_ | refine zs5 ?_); conv => whnf) | ((first | apply zi1 | apply zi2 | apply zi3 | apply zi4 | apply zi5) <;> intro _ <;> conv => whnf))
  refine VCode.lp (outer := Hp.bare.lift) (marks := []) (fun k : Nat => [(3, .gl (.loc 0) 1 k), (6, intss X), (7, I X.length), (8, I k)]) (fun k => tabF (.cells true (rowsV k)) X k []) (fun k => k ≤ n) (fun k => n - k) 0 (Nat.zero_le _) ?_ ?_
  · conv => whnf
    refine Retell.trans (b := ⟨19, Fr.set (Fr.set (Fr.set (Fr.set .leaf 3 (.gl (.loc 0) 1 0)) 6 (intss X)) 7 (I X.length)) 8 (I 0), ⟨Hp.bare.lift, [.flat true [], .flat true [], .flat true [], .flat true [], .flat true [], .flat true [], .flat true [], .flat true [], .flat true [], .flat true [], .flat true []]⟩, []⟩) ?_ ?_
    · conv => whnf
      refine Retell.turn ⟨[0, 1, 2, 3, 4, 5, 6, 7, 8, 9, 10], 0, [], []⟩ (TurnOk.mk' _ _ [] [] (OutOk.lift _) rfl (by decide) (BTos.new rfl (BTos.new rfl (BTos.new rfl (BTos.new rfl (BTos.new rfl (BTos.new rfl (BTos.new rfl (BTos.new rfl (BTos.new rfl (BTos.new rfl (BTos.new rfl BTos.nil))))))))))) trivial trivial rfl) zw zm
    · conv => whnf
      refine Retell.turn ⟨[0, 1, 2, 3, 4, 5, 6, 7, 8, 9, 10], 11, [], []⟩ (TurnOk.mk' _ _ [] [] (OutOk.lift _) rfl (by decide) (BTos.cells rfl rfl rfl VTos.nil (BTos.flat rfl rfl rfl (BTos.flat rfl rfl rfl (BTos.flat rfl rfl rfl (BTos.flat rfl rfl rfl (BTos.flat rfl rfl rfl (BTos.flat rfl rfl rfl (BTos.flat rfl rfl rfl (BTos.flat rfl rfl rfl (BTos.flat rfl rfl rfl (BTos.flat rfl rfl rfl (BTos.nil)))))))))))) trivial trivial rfl) zw zm
  · intro k hk
    rcases Nat.lt_or_ge k n with h3 | h3
    · have hrl : (rowsV k).length = k := by simp [rowsV]
      have h10 : k < 10 := by omega
      have hw := getD_at (X := X) (k := k) (by omega)
      have hwl : (X.getD k []).length = 16 := hs.row _ (List.mem_of_getElem? hw)
      have c := fun h => vc_kcloneO (X.getD k []) h (by omega)
      rw [hwl] at c
      conv => whnf
      repeat' (first | ((first | refine zs1 ?_ | refine zs2 ?_ | refine zs3 ?_ | refine zs4 ?_ | refine zs5 ?_); conv => whnf) | ((first | apply zi1 | apply zi2 | apply zi3 | apply zi4 | apply zi5) <;> intro _ <;> conv => whnf) | (refine VAny.ix encL_len k rfl rfl hw ?_; conv => whnf) | (refine VCall.intro (c _) ?_; conv => whnf) | (refine VMem.appCell (l := rowsV k) (v := .gl (.loc 11) 1 16) rfl rfl rfl rfl hrl.symm rfl (by omega) ?_; conv => whnf))
      all_goals try (exfalso; omega)
      refine LEnd.intro (k + 1) (by omega) (by omega) ?_
      clear hrl c hw hwl
      rcases ten h10 with rfl | rfl | rfl | rfl | rfl | rfl | rfl | rfl | rfl | rfl
      · conv => whnf
        refine Retell.turn ⟨pmO 13 0, 14, [], []⟩ (TurnOk.mk' _ _ [] [] (OutOk.lift _) rfl (by decide) (BTos.cells rfl rfl rfl zw (BTos.flat rfl rfl rfl (BTos.flat rfl rfl rfl (BTos.flat rfl rfl rfl (BTos.flat rfl rfl rfl (BTos.flat rfl rfl rfl (BTos.flat rfl rfl rfl (BTos.flat rfl rfl rfl (BTos.flat rfl rfl rfl (BTos.flat rfl rfl rfl (BTos.flat rfl rfl rfl (BTos.nil)))))))))))) trivial trivial rfl) zw zm
      · conv => whnf
        refine Retell.turn ⟨pmO 13 1, 14, [], []⟩ (TurnOk.mk' _ _ [] [] (OutOk.lift _) rfl (by decide) (BTos.cells rfl rfl rfl zw (BTos.flat rfl rfl rfl (BTos.flat rfl rfl rfl (BTos.flat rfl rfl rfl (BTos.flat rfl rfl rfl (BTos.flat rfl rfl rfl (BTos.flat rfl rfl rfl (BTos.flat rfl rfl rfl (BTos.flat rfl rfl rfl (BTos.flat rfl rfl rfl (BTos.flat rfl rfl rfl (BTos.nil)))))))))))) trivial trivial rfl) zw zm
      · conv => whnf
        refine Retell.turn ⟨pmO 13 2, 14, [], []⟩ (TurnOk.mk' _ _ [] [] (OutOk.lift _) rfl (by decide) (BTos.cells rfl rfl rfl zw (BTos.flat rfl rfl rfl (BTos.flat rfl rfl rfl (BTos.flat rfl rfl rfl (BTos.flat rfl rfl rfl (BTos.flat rfl rfl rfl (BTos.flat rfl rfl rfl (BTos.flat rfl rfl rfl (BTos.flat rfl rfl rfl (BTos.flat rfl rfl rfl (BTos.flat rfl rfl rfl (BTos.nil)))))))))))) trivial trivial rfl) zw zm
      · conv => whnf
        refine Retell.turn ⟨pmO 13 3, 14, [], []⟩ (TurnOk.mk' _ _ [] [] (OutOk.lift _) rfl (by decide) (BTos.cells rfl rfl rfl zw (BTos.flat rfl rfl rfl (BTos.flat rfl rfl rfl (BTos.flat rfl rfl rfl (BTos.flat rfl rfl rfl (BTos.flat rfl rfl rfl (BTos.flat rfl rfl rfl (BTos.flat rfl rfl rfl (BTos.flat rfl rfl rfl (BTos.flat rfl rfl rfl (BTos.flat rfl rfl rfl (BTos.nil)))))))))))) trivial trivial rfl) zw zm
      · conv => whnf
        refine Retell.turn ⟨pmO 13 4, 14, [], []⟩ (TurnOk.mk' _ _ [] [] (OutOk.lift _) rfl (by decide) (BTos.cells rfl rfl rfl zw (BTos.flat rfl rfl rfl (BTos.flat rfl rfl rfl (BTos.flat rfl rfl rfl (BTos.flat rfl rfl rfl (BTos.flat rfl rfl rfl (BTos.flat rfl rfl rfl (BTos.flat rfl rfl rfl (BTos.flat rfl rfl rfl (BTos.flat rfl rfl rfl (BTos.flat rfl rfl rfl (BTos.nil)))))))))))) trivial trivial rfl) zw zm
      · conv => whnf
        refine Retell.turn ⟨pmO 13 5, 14, [], []⟩ (TurnOk.mk' _ _ [] [] (OutOk.lift _) rfl (by decide) (BTos.cells rfl rfl rfl zw (BTos.flat rfl rfl rfl (BTos.flat rfl rfl rfl (BTos.flat rfl rfl rfl (BTos.flat rfl rfl rfl (BTos.flat rfl rfl rfl (BTos.flat rfl rfl rfl (BTos.flat rfl rfl rfl (BTos.flat rfl rfl rfl (BTos.flat rfl rfl rfl (BTos.flat rfl rfl rfl (BTos.nil)))))))))))) trivial trivial rfl) zw zm
      · conv => whnf
        refine Retell.turn ⟨pmO 13 6, 14, [], []⟩ (TurnOk.mk' _ _ [] [] (OutOk.lift _) rfl (by decide) (BTos.cells rfl rfl rfl zw (BTos.flat rfl rfl rfl (BTos.flat rfl rfl rfl (BTos.flat rfl rfl rfl (BTos.flat rfl rfl rfl (BTos.flat rfl rfl rfl (BTos.flat rfl rfl rfl (BTos.flat rfl rfl rfl (BTos.flat rfl rfl rfl (BTos.flat rfl rfl rfl (BTos.flat rfl rfl rfl (BTos.nil)))))))))))) trivial trivial rfl) zw zm
      · conv => whnf
        refine Retell.turn ⟨pmO 13 7, 14, [], []⟩ (TurnOk.mk' _ _ [] [] (OutOk.lift _) rfl (by decide) (BTos.cells rfl rfl rfl zw (BTos.flat rfl rfl rfl (BTos.flat rfl rfl rfl (BTos.flat rfl rfl rfl (BTos.flat rfl rfl rfl (BTos.flat rfl rfl rfl (BTos.flat rfl rfl rfl (BTos.flat rfl rfl rfl (BTos.flat rfl rfl rfl (BTos.flat rfl rfl rfl (BTos.flat rfl rfl rfl (BTos.nil)))))))))))) trivial trivial rfl) zw zm
      · conv => whnf
        refine Retell.turn ⟨pmO 13 8, 14, [], []⟩ (TurnOk.mk' _ _ [] [] (OutOk.lift _) rfl (by decide) (BTos.cells rfl rfl rfl zw (BTos.flat rfl rfl rfl (BTos.flat rfl rfl rfl (BTos.flat rfl rfl rfl (BTos.flat rfl rfl rfl (BTos.flat rfl rfl rfl (BTos.flat rfl rfl rfl (BTos.flat rfl rfl rfl (BTos.flat rfl rfl rfl (BTos.flat rfl rfl rfl (BTos.flat rfl rfl rfl (BTos.nil)))))))))))) trivial trivial rfl) zw zm
      · conv => whnf
        refine Retell.turn ⟨pmO 13 9, 14, [], []⟩ (TurnOk.mk' _ _ [] [] (OutOk.lift _) rfl (by decide) (BTos.cells rfl rfl rfl zw (BTos.flat rfl rfl rfl (BTos.flat rfl rfl rfl (BTos.flat rfl rfl rfl (BTos.flat rfl rfl rfl (BTos.flat rfl rfl rfl (BTos.flat rfl rfl rfl (BTos.flat rfl rfl rfl (BTos.flat rfl rfl rfl (BTos.flat rfl rfl rfl (BTos.flat rfl rfl rfl (BTos.nil)))))))))))) trivial trivial rfl) zw zm
    · obtain rfl : k = n := by omega
      rw [tabF_all _ hXl]
      conv => whnf
      repeat' (first | ((first | refine zs1 ?_ | refine zs2 ?_ | refine zs3 ?_ | refine zs4 ?_ | refine zs5 ?_); conv => whnf) | ((first | apply zi1 | apply zi2 | apply zi3 | apply zi4 | apply zi5) <;> intro _ <;> conv => whnf))
      all_goals try (exfalso; omega)
      exact VOut.tab hn rfl
end Go.Proofs.Ytoeendggmalcpaa

open Go.Vm
open Psg
namespace Go.Proofs.Ytoeendggmalcpaa
set_option maxRecDepth 20000
set_option maxHeartbeats 4000000

theorem VOut.tabT {n : Nat} {X : Rw} {loc : List Blk} (hn : n ≤ 10) (hl : loc = tabB (.cells true (rowsV n)) X []) : VOut Hp.bare ⟨Hp.bare.lift, loc⟩ (.tuple [.gl (.loc 0) 1 n, I 0]) (.tuple [.gl (.loc 0) 1 n, I 0]) ⟨fun _ => none, tabB (.cells true (rowsV n)) X []⟩ := by
  subst hl
  have hb : ∀ q, q < 11 → backR 0 [0, 1, 2, 3, 4, 5, 6, 7, 8, 9, 10] 11 (.loc q) = .loc q := by
    intro q hq
    have : q = 0 ∨ q = 1 ∨ q = 2 ∨ q = 3 ∨ q = 4 ∨ q = 5 ∨ q = 6 ∨ q = 7 ∨ q = 8 ∨ q = 9 ∨ q = 10 := by omega
    rcases this with rfl | rfl | rfl | rfl | rfl | rfl | rfl | rfl | rfl | rfl | rfl <;> rfl
  have hrw : (rowsV n).map (V.ren (backR 0 [0, 1, 2, 3, 4, 5, 6, 7, 8, 9, 10] 11)) = rowsV n := by
    unfold rowsV
    rw [List.map_map]
    refine List.map_congr_left fun q hq => ?_
    have := List.mem_range.1 hq
    show V.gl (backR 0 _ 11 (.loc (q + 1))) 1 16 = _
    rw [hb (q + 1) (by omega)]
  have key := VOut.upd (h := Hp.bare) (loc := tabB (.cells true (rowsV n)) X []) (r1 := .tuple [.gl (.loc 0) 1 n, I 0]) (r := .tuple [.gl (.loc 0) 1 n, I 0]) [] (tabB (.cells true (rowsV n)) X []) [0, 1, 2, 3, 4, 5, 6, 7, 8, 9, 10] 11 rfl (by intro p hp; cases hp) (by decide) rfl (fun k b hk => by
    have hk11 : k < 11 := (List.getElem?_eq_some_iff.1 hk).1
    have : k = 0 ∨ k = 1 ∨ k = 2 ∨ k = 3 ∨ k = 4 ∨ k = 5 ∨ k = 6 ∨ k = 7 ∨ k = 8 ∨ k = 9 ∨ k = 10 := by omega
    rcases this with rfl | rfl | rfl | rfl | rfl | rfl | rfl | rfl | rfl | rfl | rfl
    · cases hk
      refine ⟨0, rfl, ?_⟩
      show some (Blk.cells true (rowsV n)) = some (Blk.cells true ((rowsV n).map (V.ren (backR 0 [0, 1, 2, 3, 4, 5, 6, 7, 8, 9, 10] 11))))
      rw [hrw]
    all_goals (cases hk; exact ⟨_, rfl, rfl⟩)) (fun σ x hx => by
    have : (V.tuple [.gl (.loc 0) 1 n, I 0]).ren (backR Hp.bare.loc.length [0, 1, 2, 3, 4, 5, 6, 7, 8, 9, 10] 11) = .tuple [.gl (.loc 0) 1 n, I 0] := by
      show V.tuple [V.gl (backR 0 _ 11 (.loc 0)) 1 n, I 0] = _
      rw [hb 0 (by decide)]
    rw [this]; exact hx) (outer := Hp.bare.lift) rfl
  exact key
theorem vc_CalendarO {n : Nat} (N : Nt) (x : Hd) (hN : NOk n N) (hx : HOk n x) : VC Try.prog 55 [vN N, vHd x] Hp.bare (.tuple [.gl (.loc 0) 1 n, I 0]) ⟨fun _ => none, tabB (.cells true (rowsV n)) (clV N x) []⟩ := by
  obtain ⟨X, hX⟩ : ∃ X, X = clV N x := ⟨_, rfl⟩
  rw [← hX]
  unfold clV at hX
  have hwl := hN.len
  have cH := fun h => vc_herded N x h (by omega)
  have h0 : hrd N x = 0 := hN.hrd hx
  rw [h0] at cH
  rw [if_pos h0] at hX
  have hp := hN.p
  have hn1 := hN.n1
  have cB := fun h => vc_begun0 N x h hN hx
  have hbl := bgn_len hN hx
  rw [show N.p.toNat = n by omega] at hX
  generalize bgn N.ws x = b at *
  obtain ⟨D, c, q⟩ := b
  dsimp only at *
  have hsz : Sz n X := by rw [hX]; exact cal_sz hbl hn1.2
  have hXl := hsz.len
  have hXg : ∀ k, k < n → X.getD k [] = rowD D k := fun k hk => by
    rw [hX]
    unfold calR
    rw [List.getD_eq_getElem?_getD, List.getElem?_map, List.getElem?_range hk]; rfl
  have hgr : ∀ i, Hp.bare.get i ≠ none → (⟨fun _ => none, tabB (.cells true (rowsV n)) X []⟩ : Hp).get i ≠ none := fun i hi => absurd (by cases i <;> rfl) hi
  clear hX
  refine VC.body Try.func55 rfl Try.ntmps55 Try.call55 hgr rfl ?_
  conv => whnf
  repeat' (first | ((first | refine zs1 ?_ | refine zs2 ?_ | refine zs3 ?_ | refine zs4 ?_ | refine zs5 ?_); conv => whnf) | ((first | apply zi1 | apply zi2 | apply zi3 | apply zi4 | apply zi5) <;> intro _ <;> conv => whnf) | (refine VCall.intro (cH _) ?_; conv => whnf) | (refine VCall.intro (cB _) ?_; conv => whnf))
  refine VCode.lp (outer := Hp.bare.lift) (marks := []) (fun k : Nat => [(7, .fp (encTr N x D c)), (8, .gl (.loc 0) 1 k), (20, I N.p), (21, I k)]) (fun k => tabF (.cells true (rowsV k)) X k []) (fun k => k ≤ n) (fun k => n - k) 0 (Nat.zero_le _) ?_ ?_
  · conv => whnf
    refine Retell.trans (b := ⟨36, Fr.set (Fr.set (Fr.set (Fr.set .leaf 7 (.fp (encTr N x D c))) 8 .nilslice) 20 (I N.p)) 21 (I 0), ⟨Hp.bare.lift, []⟩, []⟩) ?_ ?_
    · conv => whnf
      refine Retell.turn ⟨[], 4, [(2, encTr N x D c)], [(3, ksC c, vsC c)]⟩ (TurnOk.mk' _ _ [(2, encTr N x D c)] [(3, ksC c, vsC c)] (OutOk.lift _) rfl (by decide) zb ⟨fz_trip rfl (VTo.fmMap rfl), trivial⟩ ⟨fm_trip rfl, trivial⟩ rfl) zw zm
    refine Retell.trans (b := ⟨36, Fr.set (Fr.set (Fr.set (Fr.set .leaf 7 (.fp (encTr N x D c))) 8 (.gl (.loc 0) 1 0)) 20 (I N.p)) 21 (I 0), ⟨Hp.bare.lift, [.flat true [], .flat true [], .flat true [], .flat true [], .flat true [], .flat true [], .flat true [], .flat true [], .flat true [], .flat true [], .flat true []]⟩, []⟩) ?_ ?_
    · conv => whnf
      refine Retell.turn ⟨[0, 1, 2, 3, 4, 5, 6, 7, 8, 9, 10], 0, [], []⟩ (TurnOk.mk' _ _ [] [] (OutOk.lift _) rfl (by decide) (BTos.new rfl (BTos.new rfl (BTos.new rfl (BTos.new rfl (BTos.new rfl (BTos.new rfl (BTos.new rfl (BTos.new rfl (BTos.new rfl (BTos.new rfl (BTos.new rfl BTos.nil))))))))))) trivial trivial rfl) zw zm
    · conv => whnf
      refine Retell.turn ⟨[0, 1, 2, 3, 4, 5, 6, 7, 8, 9, 10], 11, [], []⟩ (TurnOk.mk' _ _ [] [] (OutOk.lift _) rfl (by decide) (BTos.cells rfl rfl rfl VTos.nil (BTos.flat rfl rfl rfl (BTos.flat rfl rfl rfl (BTos.flat rfl rfl rfl (BTos.flat rfl rfl rfl (BTos.flat rfl rfl rfl (BTos.flat rfl rfl rfl (BTos.flat rfl rfl rfl (BTos.flat rfl rfl rfl (BTos.flat rfl rfl rfl (BTos.flat rfl rfl rfl (BTos.nil)))))))))))) trivial trivial rfl) zw zm
  · intro k hk
    rcases Nat.lt_or_ge k n with h1 | h1
    · have hrl : (rowsV k).length = k := by simp [rowsV]
      have h10 : k < 10 := by omega
      have hg := hXg k h1
      have hr16 := rowD_len (D := D) hbl (p := k) (by omega)
      have hdr := fun post => tr_drop (post := post) hbl (k := k) (by omega)
      rw [← hg] at hr16 hdr
      have e16 : V.fs 1 16 ((X.getD k []).flatMap Vm.encI) = ints (X.getD k []) := by unfold ints; rw [hr16]
      have cF := fun h => vc_cloneI (X.getD k []) h (by omega) (by omega)
      rw [hr16] at cF
      conv => whnf
      repeat' (first | ((first | refine zs1 ?_ | refine zs2 ?_ | refine zs3 ?_ | refine zs4 ?_ | refine zs5 ?_); conv => whnf) | ((first | apply zi1 | apply zi2 | apply zi3 | apply zi4 | apply zi5) <;> intro _ <;> conv => whnf))
      all_goals try (exfalso; omega)
      refine VAny.intro (v := .fp ((X.getD k []).flatMap Vm.encI)) ⟨by omega, (X.getD k []).flatMap Vm.encI, (D.drop (16 * k + 16)).map DI ++ [.mp (ksC c) (vsC c)], (by show (D.map DI ++ [Vm.D.mp (ksC c) (vsC c)]).drop ((k : Int).toNat * 16) = _; exact hdr _), rfl⟩ ?_
      conv => whnf
      repeat' (first | ((first | refine zs1 ?_ | refine zs2 ?_ | refine zs3 ?_ | refine zs4 ?_ | refine zs5 ?_); conv => whnf) | ((first | apply zi1 | apply zi2 | apply zi3 | apply zi4 | apply zi5) <;> intro _ <;> conv => whnf))
      refine VMem.sliceFp (n := 16) (esz := 1) rfl rfl rfl (by rw [flat_len encI_len, hr16]) ?_
      rw [e16]
      conv => whnf
      repeat' (first | ((first | refine zs1 ?_ | refine zs2 ?_ | refine zs3 ?_ | refine zs4 ?_ | refine zs5 ?_); conv => whnf) | ((first | apply zi1 | apply zi2 | apply zi3 | apply zi4 | apply zi5) <;> intro _ <;> conv => whnf) | (refine VCall.intro (cF _) ?_; conv => whnf) | (refine VMem.appCell (l := rowsV k) (v := .gl (.loc 11) 1 16) rfl rfl rfl rfl hrl.symm rfl (by omega) ?_; conv => whnf))
      refine LEnd.intro (k + 1) (by omega) (by omega) ?_
      clear hrl cF hg hr16 hdr e16 hXg
      rcases ten h10 with rfl | rfl | rfl | rfl | rfl | rfl | rfl | rfl | rfl | rfl
      · conv => whnf
        refine Retell.turn ⟨pmO 13 0, 14, [], []⟩ (TurnOk.mk' _ _ [] [] (OutOk.lift _) rfl (by decide) (BTos.cells rfl rfl rfl zw (BTos.flat rfl rfl rfl (BTos.flat rfl rfl rfl (BTos.flat rfl rfl rfl (BTos.flat rfl rfl rfl (BTos.flat rfl rfl rfl (BTos.flat rfl rfl rfl (BTos.flat rfl rfl rfl (BTos.flat rfl rfl rfl (BTos.flat rfl rfl rfl (BTos.flat rfl rfl rfl (BTos.nil)))))))))))) trivial trivial rfl) zw zm
      · conv => whnf
        refine Retell.turn ⟨pmO 13 1, 14, [], []⟩ (TurnOk.mk' _ _ [] [] (OutOk.lift _) rfl (by decide) (BTos.cells rfl rfl rfl zw (BTos.flat rfl rfl rfl (BTos.flat rfl rfl rfl (BTos.flat rfl rfl rfl (BTos.flat rfl rfl rfl (BTos.flat rfl rfl rfl (BTos.flat rfl rfl rfl (BTos.flat rfl rfl rfl (BTos.flat rfl rfl rfl (BTos.flat rfl rfl rfl (BTos.flat rfl rfl rfl (BTos.nil)))))))))))) trivial trivial rfl) zw zm
      · conv => whnf
        refine Retell.turn ⟨pmO 13 2, 14, [], []⟩ (TurnOk.mk' _ _ [] [] (OutOk.lift _) rfl (by decide) (BTos.cells rfl rfl rfl zw (BTos.flat rfl rfl rfl (BTos.flat rfl rfl rfl (BTos.flat rfl rfl rfl (BTos.flat rfl rfl rfl (BTos.flat rfl rfl rfl (BTos.flat rfl rfl rfl (BTos.flat rfl rfl rfl (BTos.flat rfl rfl rfl (BTos.flat rfl rfl rfl (BTos.flat rfl rfl rfl (BTos.nil)))))))))))) trivial trivial rfl) zw zm
      · conv => whnf
        refine Retell.turn ⟨pmO 13 3, 14, [], []⟩ (TurnOk.mk' _ _ [] [] (OutOk.lift _) rfl (by decide) (BTos.cells rfl rfl rfl zw (BTos.flat rfl rfl rfl (BTos.flat rfl rfl rfl (BTos.flat rfl rfl rfl (BTos.flat rfl rfl rfl (BTos.flat rfl rfl rfl (BTos.flat rfl rfl rfl (BTos.flat rfl rfl rfl (BTos.flat rfl rfl rfl (BTos.flat rfl rfl rfl (BTos.flat rfl rfl rfl (BTos.nil)))))))))))) trivial trivial rfl) zw zm
      · conv => whnf
        refine Retell.turn ⟨pmO 13 4, 14, [], []⟩ (TurnOk.mk' _ _ [] [] (OutOk.lift _) rfl (by decide) (BTos.cells rfl rfl rfl zw (BTos.flat rfl rfl rfl (BTos.flat rfl rfl rfl (BTos.flat rfl rfl rfl (BTos.flat rfl rfl rfl (BTos.flat rfl rfl rfl (BTos.flat rfl rfl rfl (BTos.flat rfl rfl rfl (BTos.flat rfl rfl rfl (BTos.flat rfl rfl rfl (BTos.flat rfl rfl rfl (BTos.nil)))))))))))) trivial trivial rfl) zw zm
      · conv => whnf
        refine Retell.turn ⟨pmO 13 5, 14, [], []⟩ (TurnOk.mk' _ _ [] [] (OutOk.lift _) rfl (by decide) (BTos.cells rfl rfl rfl zw (BTos.flat rfl rfl rfl (BTos.flat rfl rfl rfl (BTos.flat rfl rfl rfl (BTos.flat rfl rfl rfl (BTos.flat rfl rfl rfl (BTos.flat rfl rfl rfl (BTos.flat rfl rfl rfl (BTos.flat rfl rfl rfl (BTos.flat rfl rfl rfl (BTos.flat rfl rfl rfl (BTos.nil)))))))))))) trivial trivial rfl) zw zm
      · conv => whnf
        refine Retell.turn ⟨pmO 13 6, 14, [], []⟩ (TurnOk.mk' _ _ [] [] (OutOk.lift _) rfl (by decide) (BTos.cells rfl rfl rfl zw (BTos.flat rfl rfl rfl (BTos.flat rfl rfl rfl (BTos.flat rfl rfl rfl (BTos.flat rfl rfl rfl (BTos.flat rfl rfl rfl (BTos.flat rfl rfl rfl (BTos.flat rfl rfl rfl (BTos.flat rfl rfl rfl (BTos.flat rfl rfl rfl (BTos.flat rfl rfl rfl (BTos.nil)))))))))))) trivial trivial rfl) zw zm
      · conv => whnf
        refine Retell.turn ⟨pmO 13 7, 14, [], []⟩ (TurnOk.mk' _ _ [] [] (OutOk.lift _) rfl (by decide) (BTos.cells rfl rfl rfl zw (BTos.flat rfl rfl rfl (BTos.flat rfl rfl rfl (BTos.flat rfl rfl rfl (BTos.flat rfl rfl rfl (BTos.flat rfl rfl rfl (BTos.flat rfl rfl rfl (BTos.flat rfl rfl rfl (BTos.flat rfl rfl rfl (BTos.flat rfl rfl rfl (BTos.flat rfl rfl rfl (BTos.nil)))))))))))) trivial trivial rfl) zw zm
      · conv => whnf
        refine Retell.turn ⟨pmO 13 8, 14, [], []⟩ (TurnOk.mk' _ _ [] [] (OutOk.lift _) rfl (by decide) (BTos.cells rfl rfl rfl zw (BTos.flat rfl rfl rfl (BTos.flat rfl rfl rfl (BTos.flat rfl rfl rfl (BTos.flat rfl rfl rfl (BTos.flat rfl rfl rfl (BTos.flat rfl rfl rfl (BTos.flat rfl rfl rfl (BTos.flat rfl rfl rfl (BTos.flat rfl rfl rfl (BTos.flat rfl rfl rfl (BTos.nil)))))))))))) trivial trivial rfl) zw zm
      · conv => whnf
        refine Retell.turn ⟨pmO 13 9, 14, [], []⟩ (TurnOk.mk' _ _ [] [] (OutOk.lift _) rfl (by decide) (BTos.cells rfl rfl rfl zw (BTos.flat rfl rfl rfl (BTos.flat rfl rfl rfl (BTos.flat rfl rfl rfl (BTos.flat rfl rfl rfl (BTos.flat rfl rfl rfl (BTos.flat rfl rfl rfl (BTos.flat rfl rfl rfl (BTos.flat rfl rfl rfl (BTos.flat rfl rfl rfl (BTos.flat rfl rfl rfl (BTos.nil)))))))))))) trivial trivial rfl) zw zm
    · obtain rfl : k = n := by omega
      rw [tabF_all _ hXl]
      conv => whnf
      repeat' (first | ((first | refine zs1 ?_ | refine zs2 ?_ | refine zs3 ?_ | refine zs4 ?_ | refine zs5 ?_); conv => whnf) | ((first | apply zi1 | apply zi2 | apply zi3 | apply zi4 | apply zi5) <;> intro _ <;> conv => whnf))
      all_goals try (exfalso; omega)
      exact VOut.tabT hn1.2 rfl
end Go.Proofs.Ytoeendggmalcpaa

open Go.Vm
open Psg
namespace Go.Vm
theorem VCode.lpK {P : Program} {ro : Option Nat} {c : Code} {n : Nat} {fr : Fr} {outer : Id → Option Blk} {loc0 : List Blk} {marks marks0 : List Id} {Q : X → St → Prop} {Y : Type} (m : Nat) (slots : Y → List (Nat × V)) (loc : Y → List Blk) (Inv : Y → Prop) (μ : Y → Nat) (x0 : Y)
    (h0 : Inv x0) (hst : frSK (slots x0) .leaf fun fr' => Retell isOut ⟨n, fr, ⟨outer, loc0⟩, marks0⟩ ⟨n, fr', ⟨outer, loc x0⟩, marks⟩)
    (hb : ∀ x, Inv x → frSK (slots x) .leaf fun fr' => vcut P ro isOut m c ⟨n, fr', ⟨outer, loc x⟩, marks⟩ (fun e st' => match e with
      | .normal => LEndO n marks slots (fun _ => outer) loc Inv μ x st'
      | .exit i => Q (.exit i) st'
      | .ret => Q .ret st')) : VCode P ro isOut (.loop c) ⟨n, fr, ⟨outer, loc0⟩, marks0⟩ Q :=
  VCode.lpoC m slots (fun _ => outer) loc Inv μ x0 h0 hst hb
end Go.Vm
namespace Go.Proofs.Ytoeendggmalcpaa
set_option maxRecDepth 20000
set_option maxHeartbeats 4000000

/-! ### Two tables of one's own behind a deck: read, written, lent -/
theorem VLd.rowO {n o q off : Nat} {h : Hp} {K : V → Prop} (hb : h.get (.loc o) = some (.cells true (rowsO o n))) (hq : q < n) (ho : off = q) (hK : K (.gl (.loc (q + 1 + o)) 1 16)) : VLd (tiOf Try.prog) 32 (.ptr (.loc o) off) h K := by
  subst ho
  exact VLd.cell rfl rfl hb (rowsO_at hq) hK
theorem tab1_get (d b : Blk) (X : Rw) (r : List Blk) {p : Nat} (hp : p < 10) : (d :: tabB b X r)[p + 1 + 1]? = some (.flat true ((X.getD p []).flatMap Vm.encI)) := tab_get b X r hp
theorem tab2_get (d b b2 : Blk) (X Y : Rw) (r : List Blk) {p : Nat} (hp : p < 10) : (d :: tabB b X (tabB b2 Y r))[p + 1 + 12]? = some (.flat true ((Y.getD p []).flatMap Vm.encI)) := tab_get b2 Y r hp
theorem tab1_set (d b : Blk) {X : Rw} (r : List Blk) {p s : Nat} {v : Int} (hp : p < X.length) (hn : p < 10) : (d :: tabB b X r).set (p + 1 + 1) (.flat true (((X.getD p []).set s v).flatMap Vm.encI)) = d :: tabB b (setR X p s v) r := by
  rw [← tab_set b r hp hn]; rfl
theorem tab2_set (d b b2 : Blk) (X : Rw) {Y : Rw} (r : List Blk) {p s : Nat} {v : Int} (hp : p < Y.length) (hn : p < 10) : (d :: tabB b X (tabB b2 Y r)).set (p + 1 + 12) (.flat true (((Y.getD p []).set s v).flatMap Vm.encI)) = d :: tabB b X (tabB b2 (setR Y p s v) r) := by
  rw [← tab_set b2 r hp hn]; rfl
theorem VMem.setTab1 {d b : Blk} {X : Rw} {r : List Blk} {h : Hp} {p off : Nat} {v : Int} {K : V → Hp → Prop} (s : Nat) (hl : h.loc = d :: tabB b X r) (hp : p < X.length) (h10 : p < 10) (hs : s < (X.getD p []).length) (ho : off = s) (hK : K .undef ⟨h.outer, d :: tabB b (setR X p s v) r⟩) : VMem Try.prog (opStore 3) [.ptr (.loc (p + 1 + 1)) off, I v] h K := by
  have hb : h.get (.loc (p + 1 + 1)) = some (.flat true ((X.getD p []).flatMap Vm.encI)) := by
    show h.loc[p + 1 + 1]? = _
    rw [hl]; exact tab1_get d b X r h10
  refine VMem.setRec Vm.encI_len s 0 v rfl rfl hb (List.getElem?_eq_getElem hs) (by decide) rfl (by omega) ?_
  have e : h.set (.loc (p + 1 + 1)) (.flat true (((X.getD p []).set s v).flatMap Vm.encI)) = ⟨h.outer, d :: tabB b (setR X p s v) r⟩ := by
    show (⟨h.outer, h.loc.set (p + 1 + 1) _⟩ : Hp) = _
    rw [hl, tab1_set d b r hp h10]
  rw [e]
  exact hK
theorem VMem.setTab2 {d b b2 : Blk} {X Y : Rw} {r : List Blk} {h : Hp} {p off : Nat} {v : Int} {K : V → Hp → Prop} (s : Nat) (hl : h.loc = d :: tabB b X (tabB b2 Y r)) (hp : p < Y.length) (h10 : p < 10) (hs : s < (Y.getD p []).length) (ho : off = s) (hK : K .undef ⟨h.outer, d :: tabB b X (tabB b2 (setR Y p s v) r)⟩) : VMem Try.prog (opStore 3) [.ptr (.loc (p + 1 + 12)) off, I v] h K := by
  have hb : h.get (.loc (p + 1 + 12)) = some (.flat true ((Y.getD p []).flatMap Vm.encI)) := by
    show h.loc[p + 1 + 12]? = _
    rw [hl]; exact tab2_get d b b2 X Y r h10
  refine VMem.setRec Vm.encI_len s 0 v rfl rfl hb (List.getElem?_eq_getElem hs) (by decide) rfl (by omega) ?_
  have e : h.set (.loc (p + 1 + 12)) (.flat true (((Y.getD p []).set s v).flatMap Vm.encI)) = ⟨h.outer, d :: tabB b X (tabB b2 (setR Y p s v) r)⟩ := by
    show (⟨h.outer, h.loc.set (p + 1 + 12) _⟩ : Hp) = _
    rw [hl, tab2_set d b b2 X r hp h10]
  rw [e]
  exact hK
theorem VMem.setTab1' {d b : Blk} {X X2 : Rw} {r : List Blk} {h : Hp} {p off : Nat} {v : Int} {K : V → Hp → Prop} (s : Nat) (hl : h.loc = d :: tabB b X r) (hp : p < X.length) (h10 : p < 10) (hs : s < (X.getD p []).length) (ho : off = s) (hX : X2 = setR X p s v) (hK : K .undef ⟨h.outer, d :: tabB b X2 r⟩) : VMem Try.prog (opStore 3) [.ptr (.loc (p + 1 + 1)) off, I v] h K := by
  subst hX; exact VMem.setTab1 s hl hp h10 hs ho hK
theorem VMem.setTab2' {d b b2 : Blk} {X Y Y2 : Rw} {r : List Blk} {h : Hp} {p off : Nat} {v : Int} {K : V → Hp → Prop} (s : Nat) (hl : h.loc = d :: tabB b X (tabB b2 Y r)) (hp : p < Y.length) (h10 : p < 10) (hs : s < (Y.getD p []).length) (ho : off = s) (hY : Y2 = setR Y p s v) (hK : K .undef ⟨h.outer, d :: tabB b X (tabB b2 Y2 r)⟩) : VMem Try.prog (opStore 3) [.ptr (.loc (p + 1 + 12)) off, I v] h K := by
  subst hY; exact VMem.setTab2 s hl hp h10 hs ho hK
theorem rowE {p q : Nat} (h : p = q) : (p : Int).toNat * (0 + 1) = q := by omega
theorem rowL {p q n : Nat} (h : p = q) (hp : p < n) : q < n := by omega
theorem eight {p : Nat} (h : p < 8) : p = 0 ∨ p = 1 ∨ p = 2 ∨ p = 3 ∨ p = 4 ∨ p = 5 ∨ p = 6 ∨ p = 7 := by omega
theorem VTos.rowsO {c : TCtx} {o n : Nat} (h : ∀ q, q < n → c.ρ (.loc (q + 1 + o)) = .loc (q + 1 + o)) : VTos c (rowsO o n) (rowsO o n) := by
  have key : ∀ l : List Nat, (∀ q ∈ l, q < n) → VTos c (l.map fun q => V.gl (.loc (q + 1 + o)) 1 16) (l.map fun q => V.gl (.loc (q + 1 + o)) 1 16) := by
    intro l
    induction l with
    | nil => intro _; exact VTos.nil
    | cons a l ih =>
      intro hl
      exact VTos.cons (VTo.gl (h a (hl a List.mem_cons_self)).symm) (ih fun q hq => hl q (List.mem_cons_of_mem _ hq))
  exact key (List.range n) fun q hq => List.mem_range.1 hq
theorem BTos.tabO {c : TCtx} {loc : List Blk} {pm : List Nat} {bs : List Blk} {n : Nat} {X : Rw} (o : Nat) (hn : n ≤ 10) (hpm : ∀ q, q < 10 → c.pm[q + 1 + o]? = some (q + 1 + o)) (hL : 11 + o ≤ c.L) (hc : loc[o]? = some (.cells true (rowsO o n))) (hr : ∀ q, q < 10 → loc[q + 1 + o]? = some (rB X q)) (r : BTos c loc pm bs) :
    BTos c loc (o :: (0 + 1 + o) :: (1 + 1 + o) :: (2 + 1 + o) :: (3 + 1 + o) :: (4 + 1 + o) :: (5 + 1 + o) :: (6 + 1 + o) :: (7 + 1 + o) :: (8 + 1 + o) :: (9 + 1 + o) :: pm) (tabB (.cells true (rowsO o n)) X bs) := by
  have hb : ∀ q, q ≤ 10 + o → Nat.blt q c.L = true := fun q hq => blt_of (by omega)
  refine BTos.cells (hb o (by omega)) hc rfl (VTos.rowsO (fun q hq => by unfold TCtx.ρ; simp only [hpm q (by omega)])) ?_
  have h0 := hr 0 (by decide)
  have h1 := hr 1 (by decide)
  have h2 := hr 2 (by decide)
  have h3 := hr 3 (by decide)
  have h4 := hr 4 (by decide)
  have h5 := hr 5 (by decide)
  have h6 := hr 6 (by decide)
  have h7 := hr 7 (by decide)
  have h8 := hr 8 (by decide)
  have h9 := hr 9 (by decide)
  exact BTos.flat (hb _ (by omega)) h0 rfl (BTos.flat (hb _ (by omega)) h1 rfl (BTos.flat (hb _ (by omega)) h2 rfl (BTos.flat (hb _ (by omega)) h3 rfl (BTos.flat (hb _ (by omega)) h4 rfl (BTos.flat (hb _ (by omega)) h5 rfl (BTos.flat (hb _ (by omega)) h6 rfl (BTos.flat (hb _ (by omega)) h7 rfl (BTos.flat (hb _ (by omega)) h8 rfl (BTos.flat (hb _ (by omega)) h9 rfl r)))))))))
def fzO (o : Nat) (X : Rw) : List (Nat × List Vm.D) := (o, X.map dRow) :: (List.range X.length).map fun q => (q + 1 + o, (X.getD q []).flatMap Vm.encI)
theorem assoc_mapO {α : Type} (o : Nat) (f : Nat → α) {k : Nat} : ∀ {l : List Nat}, k ∈ l → assoc (l.map fun q => (q + 1 + o, f q)) (k + 1 + o) = some (f k)
  | a :: l, h => by
    rw [List.map_cons, assoc]
    cases hb : Nat.beq (a + 1 + o) (k + 1 + o) with
    | true =>
      have := Nat.eq_of_beq_eq_true hb
      have : a = k := by omega
      subst this; rfl
    | false =>
      have hne := Nat.ne_of_beq_eq_false hb
      refine assoc_mapO o f ?_
      rcases List.mem_cons.1 h with h | h
      · omega
      · exact h
theorem beq_lt {a b : Nat} (h : a ≠ b) : Nat.beq a b = false := by
  cases hb : Nat.beq a b with
  | false => rfl
  | true => exact absurd (Nat.eq_of_beq_eq_true hb) h
theorem fzO_row {o : Nat} {X : Rw} {q : Nat} (hq : q < X.length) : assoc (fzO o X) (q + 1 + o) = some ((X.getD q []).flatMap Vm.encI) := by
  unfold fzO
  rw [assoc, beq_lt (show o ≠ q + 1 + o by omega)]
  exact assoc_mapO o (fun q => (X.getD q []).flatMap Vm.encI) (List.mem_range.2 hq)
theorem fzO_tab {o : Nat} {X : Rw} : assoc (fzO o X) o = some (X.map dRow) := by
  unfold fzO
  rw [assoc, Nat.beq_refl]
theorem fzO_all {n o L : Nat} {X : Rw} {loc : List Blk} (hz : Sz n X) (hc : loc[o]? = some (.cells true (rowsO o n))) (hr : ∀ q, q < n → loc[q + 1 + o]? = some (.flat true ((X.getD q []).flatMap Vm.encI))) : FzAll ⟨[], L, fzO o X, []⟩ loc (fzO o X) := by
  have hl := hz.len
  refine FzAll.of fun e he => ?_
  rcases List.mem_cons.1 he with rfl | he
  · refine ⟨_, rowsO o n, hc, rfl, by simp [rowsO, hl], fun i v' hv => ?_⟩
    dsimp only at hv
    rw [List.getElem?_map, List.getElem?_map] at hv
    cases hi : X[i]? with
    | none => rw [hi] at hv; cases hv
    | some r =>
      rw [hi] at hv
      have hlt := (List.getElem?_eq_some_iff.1 hi).1
      have hr16 := hz.row r (List.mem_of_getElem? hi)
      have e : X.getD i [] = r := by rw [List.getD_eq_getElem?_getD, hi]; rfl
      simp only [Option.map_some, Option.some.injEq] at hv
      subst hv
      refine ⟨_, rowsO_at (by omega), ?_⟩
      show VTo _ _ (.fs 1 r.length (r.flatMap Vm.encI))
      rw [hr16]
      refine VTo.fsGl ?_ (by rw [flat_len Vm.encI_len, hr16])
      have := fzO_row (o := o) hlt
      rw [e] at this
      exact this
  · obtain ⟨q, hq, rfl⟩ := List.mem_map.1 he
    have hq := List.mem_range.1 hq
    exact ⟨_, ((X.getD q []).flatMap Vm.encI).map Vm.D.v, hr q (by omega), rfl, RowTo.dv _ _⟩
def dNt (N : Nt) : Vm.D := .agg [DI N.p, .sl 8 N.ws.length (N.ws.flatMap encWy)]
def dHd (x : Hd) : Vm.D := .agg [DI x.p, DI x.d, DI x.s]
theorem vto_tab {n o L : Nat} {X : Rw} (hz : Sz n X) : VTo ⟨[], L, fzO o X, []⟩ (.gl (.loc o) 1 n) (intss X) := by
  rw [← rws_intss]
  unfold rws
  rw [hz.len]
  exact VTo.fsGl fzO_tab (by rw [List.length_map, hz.len, Nat.mul_one])
theorem vc_ProvesL {n o : Nat} (N : Nt) (x : Hd) (X : Rw) (p : Int) (outer : Vm.Id → Option Blk) (loc : List Blk) (hw : N.ws.length ≤ 4000000) (hz : Sz n X) (hn : n ≤ 10) (hc : loc[o]? = some (.cells true (rowsO o n))) (hr : ∀ q, q < n → loc[q + 1 + o]? = some (.flat true ((X.getD q []).flatMap Vm.encI))) :
    VC Try.prog 53 [vN N, vHd x, .gl (.loc o) 1 n, I p] ⟨outer, loc⟩ (.tuple [I (prV N x X p), I (prE N x X p)]) ⟨outer, loc⟩ := by
  have c := vc_Proves N x X p Hp.bare hw (by have := hz.len; omega)
  have hv : VTos ⟨[], loc.length, fzO o X, []⟩ [vN N, vHd x, .gl (.loc o) 1 n, I p] [vN N, vHd x, intss X, I p] :=
    VTos.cons (VTo_dv _ (dNt N)) (VTos.cons (VTo_dv _ (dHd x)) (VTos.cons (vto_tab hz) (VTos.cons (VTo_dv _ (DI p)) VTos.nil)))
  exact VC.lendS [dNt N, dHd x, .sl 1 X.length (X.flatMap encL), DI p] (fzO o X) [] (fzO_all hz hc hr) trivial hv c
theorem vc_cloneL {n : Nat} (X : Rw) (hz : Sz n X) (hn : n ≤ 10) (d : Blk) (outer : Vm.Id → Option Blk) :
    VC Try.prog 52 [.gl (.loc 1) 1 n] ⟨outer, d :: tabB (.cells true (rowsO 1 n)) X []⟩ (.gl (.loc 12) 1 n) ⟨outer, d :: tabB (.cells true (rowsO 1 n)) X (tabB (.cells true (rowsO 12 n)) X [])⟩ := by
  have c := vc_kcloneAO X hz hn
  have hv : VTos ⟨[], (d :: tabB (.cells true (rowsO 1 n)) X []).length, fzO 1 X, []⟩ [.gl (.loc 1) 1 n] [intss X] := VTos.cons (vto_tab hz) VTos.nil
  have := VC.lendG (outer := outer) (loc := d :: tabB (.cells true (rowsO 1 n)) X []) [.sl 1 X.length (X.flatMap encL)] (fzO 1 X) [] (fzO_all hz rfl (fun q hq => tab1_get d _ X [] (by omega))) trivial hv (BareV.gl _ _ _) (bare_tab n X) c
  have e : (d :: tabB (.cells true (rowsO 1 n)) X []).length = 12 := rfl
  rw [e, ren_tab] at this
  exact this
theorem vc_CalendarL {n : Nat} (N : Nt) (x : Hd) (hN : NOk n N) (hx : HOk n x) (d : Blk) (outer : Vm.Id → Option Blk) :
    VC Try.prog 55 [vN N, vHd x] ⟨outer, [d]⟩ (.tuple [.gl (.loc 1) 1 n, I 0]) ⟨outer, d :: tabB (.cells true (rowsO 1 n)) (clV N x) []⟩ := by
  have c := vc_CalendarO N x hN hx
  have hv : VTos ⟨[], [d].length, [], []⟩ [vN N, vHd x] [vN N, vHd x] := VTos.cons (VTo_dv _ (dNt N)) (VTos.cons (VTo_dv _ (dHd x)) VTos.nil)
  have := VC.lendG (outer := outer) (loc := [d]) [dNt N, dHd x] [] [] trivial trivial hv (BareV.tup _ _ _ _) (bare_tab n (clV N x)) c
  have e : [d].length = 1 := rfl
  rw [e, ren_tab] at this
  exact this
end Go.Proofs.Ytoeendggmalcpaa


/- Part 7 of the proof that the laws of chapter 05 that are dealt hold of the given program. No condition. -/
import Derived.Test.YtkbbfeljlepgoaaBb6
set_option linter.unusedVariables false
set_option linter.unusedSimpArgs false
open Go.Vm
open Riv
namespace Go.Proofs.Ytkbbfeljlepgoaa
set_option maxRecDepth 20000
set_option maxHeartbeats 4000000

structure Rvd (l : List Int) (k : Nat) (m : List Int) : Prop where
  len : m.length = l.length
  le : 2 * k ≤ l.length + 1
  at' : ∀ j, j < l.length → m[j]? = if j < k ∨ l.length - k ≤ j then l[l.length - 1 - j]? else l[j]?
theorem Rvd.step {l m : List Int} {k : Nat} {a b : Int} (h : Rvd l k m) (hk : 2 * k + 1 < l.length) (ha : m[k]? = some a) (hb : m[l.length - 1 - k]? = some b) : Rvd l (k + 1) ((m.set k b).set (l.length - 1 - k) a) where
  len := by simp [h.len]
  le := by omega
  at' := fun j hj => by
    have hl := h.len
    have e1 := h.at' k (by omega)
    have e2 := h.at' (l.length - 1 - k) (by omega)
    rw [ha, if_neg (by omega)] at e1
    rw [hb, if_neg (by omega)] at e2
    rw [List.getElem?_set, List.length_set]
    by_cases h1 : l.length - 1 - k = j
    · rw [if_pos h1, if_pos (by omega), if_pos (by omega), e1]
      congr 1; omega
    · rw [if_neg h1, List.getElem?_set]
      by_cases h2 : k = j
      · rw [if_pos h2, if_pos (by omega), if_pos (by omega), e2]
        subst h2; rfl
      · rw [if_neg h2, h.at' j hj]
        have : (j < k ∨ l.length - k ≤ j) ↔ (j < k + 1 ∨ l.length - (k + 1) ≤ j) := by omega
        simp only [this]
theorem Rvd.done {l m : List Int} {k : Nat} (h : Rvd l k m) (hk : l.length ≤ 2 * k + 1) : m = l.reverse := by
  apply List.ext_getElem?
  intro j
  have hl := h.len
  rcases Nat.lt_or_ge j l.length with h1 | h1
  · rw [h.at' j h1, List.getElem?_reverse h1]
    split
    · rfl
    · congr 1; omega
  · rw [List.getElem?_eq_none (by omega), List.getElem?_eq_none (by simpa using h1)]
theorem vc_reverse (l : List Int) (i : Vm.Id) (h : Hp) (hb : h.get i = some (.flat true (l.flatMap encI))) (hn : l.length ≤ 4000000) :
    VC Try.prog 77 [.gl i 1 l.length] h (.tuple []) (h.set i (.flat true (l.reverse.flatMap encI))) := by
  have hd : ∀ p ∈ [(i, Blk.flat true (l.reverse.flatMap encI))], h.get p.1 ≠ none := by
    intro p hp
    simp only [List.mem_cons, List.not_mem_nil, or_false] at hp
    subst hp; simp only; rw [hb]; simp
  have hgr : h.grows (h.set i (.flat true (l.reverse.flatMap encI))) := h.grows_set _ _
  refine VC.body Try.func77 rfl Try.ntmps77 Try.call77 hgr rfl ?_; conv => whnf
  repeat (first | ((first | refine zs1 ?_ | refine zs2 ?_ | refine zs3 ?_ | refine zs4 ?_ | refine zs5 ?_ | refine zs6 [] ?_); conv => whnf))
  have hlift : h.lift i = some (.flat true (l.flatMap encI)) := get_out hb []
  refine VCode.lpo (fun x : Nat × List Int => [(0, .gl (.out i) 1 l.length), (2, I x.1), (3, I ((l.length : Int) - 1 - x.1))]) (fun x => outW h.lift i (.flat true (x.2.flatMap encI))) (fun _ => []) (fun x => Rvd l x.1 x.2) (fun x => l.length - x.1) (0, l) ⟨rfl, by omega, fun j hj => ?_⟩ (outW_id hlift) ?_ ?_
  · rw [if_neg (by omega)]
  · conv => whnf
    refine Retell.turn ⟨[], 0, [], []⟩ (TurnOk.mk' _ _ [] [] (OutOk.outW (OutOk.lift _) rfl) rfl (by decide) zb trivial trivial rfl) zw zm
  · rintro ⟨k, m⟩ hr
    simp only at hr ⊢
    have hl := hr.len
    conv => whnf
    refine VIte.dec (fun h3 => ?_) (fun h3 => ?_)
    · have ha : m[k]? = some m[k] := List.getElem?_eq_getElem (by omega)
      have hc : m[l.length - 1 - k]? = some m[l.length - 1 - k] := List.getElem?_eq_getElem (by omega)
      generalize m[k] = a at ha
      generalize m[l.length - 1 - k] = c at hc
      have hst := hr.step (by omega) ha hc
      have hc2 : (m.set k c)[l.length - 1 - k]? = some c := by rw [List.getElem?_set, if_neg (by omega)]; exact hc
      conv => whnf
      repeat' (first | ((first | refine zs1 ?_ | refine zs2 ?_ | refine zs3 ?_ | refine zs4 ?_ | refine zs5 ?_ | refine zs6 [] ?_); conv => whnf) | ((first | apply zi1 | apply zi2 | apply zi3 | apply zi4 | apply zi5) <;> intro _ <;> conv => whnf) | (refine VLd.recc encI_len (l.length - 1 - k) 0 rfl rfl (outW_get _ _ _ _) hc (by decide) rfl (by simp only [Nat.zero_add, Nat.mul_one]; omega) ?_; conv => whnf) | (refine VLd.recc encI_len k 0 rfl rfl (outW_get _ _ _ _) ha (by decide) rfl (by simp only [Nat.zero_add, Nat.mul_one]; omega) ?_; conv => whnf))
      refine VMem.setRec encI_len k 0 c rfl rfl (outW_get _ _ _ _) ha (by decide) rfl (by simp only [Nat.zero_add, Nat.mul_one]; omega) ?_
      conv => whnf
      repeat (first | ((first | refine zs1 ?_ | refine zs2 ?_ | refine zs3 ?_ | refine zs4 ?_ | refine zs5 ?_ | refine zs6 [] ?_); conv => whnf))
      refine VMem.setRec encI_len (l.length - 1 - k) 0 a rfl rfl (outW_get _ _ _ _) hc2 (by decide) rfl (by simp only [Nat.zero_add, Nat.mul_one]; omega) ?_
      conv => whnf
      repeat (first | ((first | refine zs1 ?_ | refine zs2 ?_ | refine zs3 ?_ | refine zs4 ?_ | refine zs5 ?_ | refine zs6 [] ?_); conv => whnf))
      refine LEndO.intro (k + 1, (m.set k c).set (l.length - 1 - k) a) hst (by simp only; omega) ((outW_same (outW _ _ _) _ _ _).trans (outW_same _ _ _ _)) ?_
      conv => whnf
      refine Retell.turn ⟨[], 0, [], []⟩ (TurnOk.mk' _ _ [] [] (OutOk.outW (OutOk.lift _) rfl) rfl (by decide) zb trivial trivial rfl) zw zm
    · conv => whnf
      have hm := hr.done (by omega)
      subst hm
      have := VOut.upd (loc := []) (r1 := .tuple []) (r := .tuple []) [(i, .flat true (l.reverse.flatMap encI))] [] [] 0 rfl hd (by simp) rfl (by intro k b hk; simp at hk) (fun σ x hx => hx) (outer := outW h.lift i (.flat true (l.reverse.flatMap encI))) rfl
      have he : (h.sets [(i, Blk.flat true (l.reverse.flatMap encI))]).pushes [] = h.set i (.flat true (l.reverse.flatMap encI)) := by simp [Hp.sets, Hp.pushes]
      rw [he] at this
      exact this
/-! ### Ways -/
def natI (l : List Nat) : List Int := l.map fun n : Nat => (n : Int)
def wyE (m : Mp) (s cell : Int) : Int := if lkE m s = 0 then (if 0 ≤ cell ∧ cell ≤ (m.c.length : Int) - 1 then (if at0 (frL m s) cell.toNat < 1 then 7 else 0) else 2) else lkE m s
def wyN (m : Mp) (s cell : Int) : List Nat := cell.toNat :: wback m.c m.w.toNat s (frL m s) m.c.length cell.toNat
def wyL (m : Mp) (s cell : Int) : List Int := if wyE m s cell = 0 then natI (wyN m s cell).reverse else []
theorem vc_Long (m : Mp) (s cell : Int) (h : Hp) (hl : m.c.length ≤ 4000000) : VC Try.prog 41 [vM m, I s, I cell] h (.tuple [I (if wyE m s cell = 0 then at0 (frL m s) cell.toNat else 0), I (wyE m s cell)]) h := by
  have c := fun h => vc_Shore m s h hl
  obtain ⟨E, hE⟩ : ∃ E, E = wyE m s cell := ⟨_, rfl⟩
  rw [← hE]
  unfold wyE at hE
  by_cases h0 : lkE m s = 0
  · obtain ⟨W, H, e1, _, o, hs⟩ := lkE_ok h0
    rw [frL_ok h0 e1] at hE ⊢
    rw [if_pos h0] at hE
    have cT := fun h => vc_rfar m s h o e1 hs
    have hb : (bfs m.c W s).length = m.c.length := bfsK_len _ _ _ _
    rw [h0] at c
    generalize bfs m.c W s = F at cT hb hE
    obtain ⟨mw, mh, mc⟩ := m
    dsimp only at hE hb hl
    have cb := fun h => vc_rbeside cell 0 ((mc.length : Int) - 1) h
    by_cases h1 : 0 ≤ cell ∧ cell ≤ (mc.length : Int) - 1
    · rw [if_pos h1] at hE
      rw [decide_eq_false (show ¬ (cell < 0 ∨ (mc.length : Int) - 1 < cell) by omega)] at cb
      obtain ⟨k, rfl⟩ : ∃ k : Nat, cell = k := ⟨cell.toNat, by omega⟩
      rw [Int.toNat_natCast] at hE ⊢
      have ha := at0_get (l := F) (n := k) (by omega)
      generalize at0 F k = a at ha hE
      by_cases h2 : a < 1
      · rw [if_pos h2] at hE
        subst hE
        refine VC.body Try.func41 rfl Try.ntmps41 Try.call41 (h.grows_refl) rfl ?_; conv => whnf
        repeat' (first | ((first | refine zs1 ?_ | refine zs2 ?_ | refine zs3 ?_ | refine zs4 ?_ | refine zs5 ?_); conv => whnf) | ((first | apply zi1 | apply zi2 | apply zi3 | apply zi4 | apply zi5) <;> intro _ <;> first | (exfalso; omega) | contradiction | (conv => whnf)) | (refine VCall.intro (c _) ?_; conv => whnf) | (refine VCall.intro (cb _) ?_; conv => whnf) | (refine VCall.intro (cT _) ?_; conv => whnf) | (refine VAny.ix encI_len k (by omega) rfl ha ?_; conv => whnf))
        exact VOut.same rfl
      · rw [if_neg h2] at hE
        subst hE
        refine VC.body Try.func41 rfl Try.ntmps41 Try.call41 (h.grows_refl) rfl ?_; conv => whnf
        repeat' (first | ((first | refine zs1 ?_ | refine zs2 ?_ | refine zs3 ?_ | refine zs4 ?_ | refine zs5 ?_); conv => whnf) | ((first | apply zi1 | apply zi2 | apply zi3 | apply zi4 | apply zi5) <;> intro _ <;> first | (exfalso; omega) | contradiction | (conv => whnf)) | (refine VCall.intro (c _) ?_; conv => whnf) | (refine VCall.intro (cb _) ?_; conv => whnf) | (refine VCall.intro (cT _) ?_; conv => whnf) | (refine VAny.ix encI_len k (by omega) rfl ha ?_; conv => whnf))
        exact VOut.same rfl
    · rw [if_neg h1] at hE
      rw [decide_eq_true (show (cell < 0 ∨ (mc.length : Int) - 1 < cell) by omega)] at cb
      subst hE
      refine VC.body Try.func41 rfl Try.ntmps41 Try.call41 (h.grows_refl) rfl ?_; conv => whnf
      repeat' (first | ((first | refine zs1 ?_ | refine zs2 ?_ | refine zs3 ?_ | refine zs4 ?_ | refine zs5 ?_); conv => whnf) | ((first | apply zi1 | apply zi2 | apply zi3 | apply zi4 | apply zi5) <;> intro _ <;> first | (exfalso; omega) | contradiction | (conv => whnf)) | (refine VCall.intro (c _) ?_; conv => whnf) | (refine VCall.intro (cb _) ?_; conv => whnf))
      exact VOut.same rfl
  · rw [if_neg h0] at hE
    rw [← hE] at c h0
    rw [if_neg h0]
    clear hE
    obtain ⟨mw, mh, mc⟩ := m
    refine VC.body Try.func41 rfl Try.ntmps41 Try.call41 (h.grows_refl) rfl ?_; conv => whnf
    repeat' (first | ((first | refine zs1 ?_ | refine zs2 ?_ | refine zs3 ?_ | refine zs4 ?_ | refine zs5 ?_); conv => whnf) | ((first | apply zi1 | apply zi2 | apply zi3 | apply zi4 | apply zi5) <;> intro _ <;> first | (exfalso; omega) | contradiction | (conv => whnf)) | (refine VCall.intro (c _) ?_; conv => whnf))
    exact VOut.same rfl
end Go.Proofs.Ytkbbfeljlepgoaa

open Go.Vm
open Riv
namespace Go.Proofs.Ytkbbfeljlepgoaa
set_option maxRecDepth 20000
set_option maxHeartbeats 4000000

structure WJ (o : Vm.Id → Option Blk) (n : Nat) (out : List Int) (p : Nat) (g : Hp) : Prop where
  o : g.outer = o
  b0 : g.get (.loc 0) = some (.flat true [DI n])
  b1 : g.get (.loc 1) = some (.flat true (out.flatMap encI))
  b2 : g.get (.loc 2) = some (.flat true [DI p])
  b3 : g.get (.loc 3) = some .mark
def prS (c : List Int) (s : Int) (T : List Int) (n o k : Nat) : Nat := if at0 T k = at0 T n - 1 ∧ Thr c s k then k else o
theorem prS_lt {c : List Int} {s : Int} {T : List Int} {W L n : Nat} (h : ∀ k ∈ nbs W L n, k < L) (hn : n < L) : ∀ k, k ≤ 4 → nbF (prS c s T n) W L n n k < L
  | 0, _ => hn
  | k + 1, hk => by
    have ih := prS_lt (c := c) (s := s) (T := T) h hn k (by omega)
    cases hq : nbO W L n k with
    | none => rw [nbF_none hq]; exact ih
    | some q =>
      rw [nbF_some hq]
      unfold prS
      split
      · exact h q (nbO_mem (by omega) hq)
      · exact ih
theorem vc_Way (m : Mp) (s cell : Int) (h : Hp) (hl : m.c.length ≤ 4000000) : VC Try.prog 40 [vM m, I s, I cell] h (.tuple [ints (wyL m s cell), I (wyE m s cell)]) h := by
  have c := fun h => vc_looked m s h hl
  have cc := fun h => vc_cell m cell h hl
  obtain ⟨E, hE⟩ : ∃ E, E = wyE m s cell := ⟨_, rfl⟩
  obtain ⟨R, hR⟩ : ∃ R, R = wyL m s cell := ⟨_, rfl⟩
  rw [← hE, ← hR]
  unfold wyL at hR
  rw [← hE] at hR
  unfold wyE at hE
  by_cases h0 : lkE m s = 0
  · obtain ⟨W, H, e1, _, o, hs⟩ := lkE_ok h0
    have hm144 := MOk.le o
    have hWb := o.w
    have hHb := o.h
    have hL := o.len
    unfold wyN at hR
    rw [frL_ok h0 e1] at hE hR
    rw [e1, Int.toNat_natCast] at hR
    rw [if_pos h0] at hE
    have cT := fun h => vc_table m s h o e1 hs
    have hb : (bfs m.c W s).length = m.c.length := bfsK_len _ _ _ _
    have hH := bfs_hld (s := s) (show 2 ≤ W by omega) hL
    have hlt := fun n => bfs_lt (s := s) (show 2 ≤ W by omega) hL n
    rw [h0] at c
    have cTh := fun k x hk h => vc_through m s x k h hk
    have cB := fun n h => vc_beside m n h
    have itB := fun n hn => iter_beside m W n (by omega) e1 hn (by omega)
    have hprev := fun n hn h0 => prev_ok (s := s) (T := bfs m.c W s) (n := n) (show 2 ≤ W by omega) hL hH hn h0
    have hnb := fun n hn k => nbs_iff (k := k) (show 2 ≤ W by omega) hL (n := n) hn
    generalize bfs m.c W s = F at cT hb hE hR hH hlt hprev
    obtain ⟨mw, mh, mc⟩ := m
    dsimp only at hE hb hl hR hH hlt e1 cTh cB itB hprev hnb cc hm144
    subst e1
    by_cases h1 : 0 ≤ cell ∧ cell ≤ (mc.length : Int) - 1
    · rw [if_pos h1] at hE
      rw [decide_eq_true h1] at cc
      obtain ⟨k, rfl⟩ : ∃ k : Nat, cell = k := ⟨cell.toNat, by omega⟩
      rw [Int.toNat_natCast] at hE hR
      have ha := at0_get (l := F) (n := k) (by omega)
      obtain ⟨a, hae⟩ : ∃ a, a = at0 F k := ⟨_, rfl⟩
      rw [← hae] at ha hE
      by_cases h2 : a < 1
      · rw [if_pos h2] at hE
        subst hE
        rw [if_neg (by decide)] at hR
        subst hR
        clear hae
        refine VC.bodyC 2 Try.func40 rfl Try.ntmps40 Try.call40 (h.grows_refl) rfl ?_; conv => whnf
        repeat' (first | ((first | refine zs1 ?_ | refine zs2 ?_ | refine zs3 ?_ | refine zs4 ?_ | refine zs5 ?_); conv => whnf) | ((first | apply zi1 | apply zi2 | apply zi3 | apply zi4 | apply zi5) <;> intro _ <;> first | (exfalso; omega) | contradiction | (conv => whnf)) | (refine VCall.intro (c _) ?_; conv => whnf) | (refine VCall.intro (cc _) ?_; conv => whnf))
        refine VCut.at' (outer := h.lift) (marks := []) 99 [(3, .fp [DI W, DI mh, dints mc]), (5, .fp [DI k]), (8, .fp [DI W, DI mh, dints mc, DI s]), (9, I 0)] [] ?_ ?_
        · conv => whnf
          refine Retell.turn ⟨[], 4, [(0, [DI W, DI mh, dints mc]), (1, [DI k]), (2, [DI W, DI mh, dints mc, DI s])], []⟩ (TurnOk.mk' _ _ [(0, [DI W, DI mh, dints mc]), (1, [DI k]), (2, [DI W, DI mh, dints mc, DI s])] [] (OutOk.lift _) rfl (by decide) zb zf trivial rfl) zw zm
        conv => whnf
        repeat' (first | ((first | refine zs1 ?_ | refine zs2 ?_ | refine zs3 ?_ | refine zs4 ?_ | refine zs5 ?_); conv => whnf) | ((first | apply zi1 | apply zi2 | apply zi3 | apply zi4 | apply zi5) <;> intro _ <;> first | (exfalso; omega) | contradiction | (conv => whnf)) | (refine VCall.intro (cc _) ?_; conv => whnf) | (refine VCall.intro (cT _) ?_; conv => whnf) | (refine VAny.ix encI_len k (by omega) (by omega) ha ?_; conv => whnf))
        refine VOut.data 1 [] [] rfl zf (by exact FmAll.nil) zw
      · rw [if_neg h2] at hE
        subst hE
        rw [if_pos rfl] at hR
        refine VC.bodyC 2 Try.func40 rfl Try.ntmps40 Try.call40 (h.grows_refl) rfl ?_; conv => whnf
        repeat' (first | ((first | refine zs1 ?_ | refine zs2 ?_ | refine zs3 ?_ | refine zs4 ?_ | refine zs5 ?_); conv => whnf) | ((first | apply zi1 | apply zi2 | apply zi3 | apply zi4 | apply zi5) <;> intro _ <;> first | (exfalso; omega) | contradiction | (conv => whnf)) | (refine VCall.intro (c _) ?_; conv => whnf) | (refine VCall.intro (cc _) ?_; conv => whnf))
        refine VCut.at' (outer := h.lift) (marks := []) 99 [(3, .fp [DI W, DI mh, dints mc]), (5, .ptr (.loc 0) 0), (8, .fp [DI W, DI mh, dints mc, DI s]), (9, I 0)] [.flat true [DI k]] ?_ ?_
        · conv => whnf
          refine Retell.turn ⟨[1], 4, [(0, [DI W, DI mh, dints mc]), (2, [DI W, DI mh, dints mc, DI s])], []⟩ (TurnOk.mk' _ _ [(0, [DI W, DI mh, dints mc]), (2, [DI W, DI mh, dints mc, DI s])] [] (OutOk.lift _) rfl (by decide) zb zf trivial rfl) zw zm
        conv => whnf
        repeat' (first | ((first | refine zs1 ?_ | refine zs2 ?_ | refine zs3 ?_ | refine zs4 ?_ | refine zs5 ?_); conv => whnf) | ((first | apply zi1 | apply zi2 | apply zi3 | apply zi4 | apply zi5) <;> intro _ <;> first | (exfalso; omega) | contradiction | (conv => whnf)) | (refine VCall.intro (cc _) ?_; conv => whnf) | (refine VCall.intro (cT _) ?_; conv => whnf) | (refine VAny.ix encI_len k (by omega) (by omega) ha ?_; conv => whnf))
        refine VCode.lpC (outer := h.lift) (marks := []) 99 (fun y : Nat × List Int => [(3, .fp [DI W, DI mh, dints mc]), (5, .ptr (.loc 0) 0), (8, .fp [DI W, DI mh, dints mc, DI s]), (10, .fp [dints F]), (11, .gl (.loc 1) 1 y.2.length)]) (fun y => [.flat true [DI y.1], .flat true (y.2.flatMap encI)]) (fun y => y.1 < mc.length ∧ y.2.length ≤ 1000 ∧ ∃ N : Nat, at0 F y.1 < N ∧ y.2.length + N ≤ 1000 ∧ R = (y.2 ++ natI (wback mc W s F N y.1)).reverse) (fun y => (at0 F y.1).toNat) (k, [(k : Int)]) ⟨by omega, by simp, mc.length, ?_, by simp; omega, ?_⟩ ?_ ?_
        · have := hlt k; dsimp only; omega
        · rw [hR, natI, natI, List.map_reverse]; rfl
        · conv => whnf
          refine Retell.turn ⟨[0,2], 3, [(1, [dints F])], []⟩ (TurnOk.mk' _ _ [(1, [dints F])] [] (OutOk.lift _) rfl (by decide) zb zf trivial rfl) zw zm
        · rintro ⟨n, out⟩ ⟨y1, y2, N, y3, y4, y5⟩
          dsimp only at y1 y2 y3 y4 y5
          clear hae ha hR
          have ha := at0_get (l := F) (n := n) (by omega)
          have hlow := hH.low n
          by_cases hpos : 0 < at0 F n
          · have hpv := hprev n y1 hpos
            obtain ⟨N, rfl⟩ : ∃ M, N = M + 1 := ⟨N - 1, by omega⟩
            rw [wback, if_pos hpos] at y5
            have hpr : prevW mc W s F n = nbF (prS mc s F n) W mc.length n n 4 := by rw [nbF_all]; rfl
            have hplt := prS_lt (c := mc) (s := s) (T := F) (W := W) (L := mc.length) (n := n) (fun k hk => ((hnb n y1 k).1 hk).1) y1
            have hp0 : nbF (prS mc s F n) W mc.length n n 0 = n := rfl
            obtain ⟨a, hae⟩ : ∃ a, a = at0 F n := ⟨_, rfl⟩
            rw [← hae] at ha
            have hab : -1 ≤ a ∧ a ≤ 1000 := by have := hlt n; omega
            conv => whnf
            repeat' (first | ((first | refine zs1 ?_ | refine zs2 ?_ | refine zs3 ?_ | refine zs4 ?_ | refine zs5 ?_); conv => whnf) | ((first | apply zi1 | apply zi2 | apply zi3 | apply zi4 | apply zi5) <;> intro _ <;> first | (exfalso; omega) | contradiction | (conv => whnf)) | (refine VAny.ix encI_len n (by omega) (by omega) ha ?_; conv => whnf) | (refine VCall.intro (cB n _) ?_; conv => whnf))
            refine VCode.tell [(3, .fp [DI W, DI mh, dints mc]), (5, .ptr (.loc 0) 0), (8, .fp [DI W, DI mh, dints mc, DI s]), (10, .fp [dints F]), (11, .gl (.loc 1) 1 out.length), (12, .ptr (.loc 2) 0), (48, vBes ⟨W, mh, mc⟩ n)] [.flat true [DI n], .flat true (out.flatMap encI), .flat true [DI n]] (marks' := []) ?_ ?_
            · conv => whnf
              refine Retell.turn ⟨[0,1,2], 3, [], []⟩ (TurnOk.mk' _ _ [] [] (OutOk.lift _) rfl (by decide) zb trivial trivial rfl) zw zm
            · conv => whnf
              refine VCode.iterS 4 (nbY W mc.length n) (fun j g => WJ h.lift n out (nbF (prS mc s F n) W mc.length n n j) g) _ (.loc 4) rfl (itB n y1) rfl rfl ⟨rfl, rfl, rfl, rfl, rfl⟩ ?_ ?_ ?_
              · rintro j g hj hy hJ
                rw [nbF_none (nbY_none hy)]; exact hJ
              · rintro j g vs hj hy ⟨j0, j1, j2, j3, j4⟩ hlp
                obtain ⟨q, hq, rfl⟩ := nbY_some hy
                rw [nbF_some hq]
                have hqL := ((hnb n y1 q).1 (nbO_mem hj hq)).1
                generalize nbF (prS mc s F n) W mc.length n n j = p at j3
                have hx := at0_get hqL
                have hb2 := at0_get (l := F) (n := q) (by omega)
                have cTq := cTh q _ hx
                unfold prS
                have hthr : Thr mc s q ↔ (at0 mc q = 0 ∨ at0 mc q = s) := by unfold Thr; exact Iff.rfl
                rw [← hae]
                by_cases hc : at0 F q = a - 1 ∧ Thr mc s q
                · rw [if_pos hc]
                  rw [decide_eq_true (hthr.1 hc.2)] at cTq
                  have h9 := hc.1
                  clear hthr hc hae
                  generalize at0 F q = b at hb2 h9
                  have n1 : g.get (.loc 2) ≠ none := by rw [j3]; simp
                  refine ⟨g.set (.loc 2) (.flat true [DI q]), ?_, ⟨j0, ?_, ?_, ?_, ?_⟩, ?_⟩
                  · refine VRound.vy' hlp rfl rfl rfl (Hp.grows_set _ _ _) fun l0 => ?_
                    refine VRound.tell [(5, .ptr (.out (.loc 0)) 0), (8, .fp [DI W, DI mh, dints mc, DI s]), (10, .fp [dints F]), (12, .ptr (.out (.loc 2)) 0), (49, I q)] ?_ ?_
                    · conv => whnf
                      refine Retell.turn ⟨[], 0, [], []⟩ (TurnOk.mk' _ _ [] [] (OutOk.lift _) rfl (by decide) zb trivial trivial rfl) zw zm
                    · conv => whnf
                      repeat (first | ((first | refine zs1 ?_ | refine zs2 ?_ | refine zs3 ?_ | refine zs4 ?_ | refine zs5 ?_ | refine zs6 [] ?_); conv => whnf))
                      refine VBegin.intro (get_out hlp _) rfl ?_
                      conv => whnf
                      repeat' (first | ((first | refine zs1 ?_ | refine zs2 ?_ | refine zs3 ?_ | refine zs4 ?_ | refine zs5 ?_); conv => whnf) | ((first | apply zi1 | apply zi2 | apply zi3 | apply zi4 | apply zi5) <;> intro _ <;> conv => whnf))
                      refine zs6 [] ?_
                      conv => whnf
                      repeat' (first | ((first | refine zs1 ?_ | refine zs2 ?_ | refine zs3 ?_ | refine zs4 ?_ | refine zs5 ?_); conv => whnf) | ((first | apply zi1 | apply zi2 | apply zi3 | apply zi4 | apply zi5) <;> intro _ <;> first | (exfalso; omega) | contradiction | (conv => whnf)) | (refine VCall.intro (cTq _) ?_; conv => whnf) | (refine VAny.ix encI_len q (by omega) (by omega) hb2 ?_; conv => whnf) | (refine VAny.ix encI_len n (by omega) (by omega) ha ?_; conv => whnf) | (refine VLd.flat rfl rfl (get_setO (by decide) j1 _) rfl ?_; conv => whnf) | (refine VMem.st1 rfl rfl rfl (get_setO (by decide) j3 _) rfl ?_; conv => whnf))
                      all_goals (
                        refine RFin.on (get_outNe (by decide) (outW_get _ _ _ _)) (VOut.liftS ?_ (Hp.grows_set _ _ _))
                        rw [lift_set n1]
                        exact outer_fix1 (get_out hlp []) (by decide))
                  · rw [Hp.get_set _ _ _ _ n1, if_neg (by decide)]; exact j1
                  · rw [Hp.get_set _ _ _ _ n1, if_neg (by decide)]; exact j2
                  · rw [Hp.get_set _ _ _ _ n1, if_pos rfl]
                  · rw [Hp.get_set _ _ _ _ n1, if_neg (by decide)]; exact j4
                  · rw [Hp.get_set _ _ _ _ n1, if_neg (by decide)]; exact hlp
                · rw [if_neg hc]
                  have h9 : ¬ (at0 F q = a - 1 ∧ (at0 mc q = 0 ∨ at0 mc q = s)) := fun h => hc ⟨h.1, hthr.2 h.2⟩
                  clear hthr hc hae
                  generalize at0 F q = b at hb2 h9
                  refine ⟨g, ?_, ⟨j0, j1, j2, j3, j4⟩, hlp⟩
                  by_cases h8 : at0 mc q = 0 ∨ at0 mc q = s
                  · rw [decide_eq_true h8] at cTq
                    refine VRound.vy' hlp rfl rfl rfl g.grows_refl fun l0 => ?_
                    refine VRound.tell [(5, .ptr (.out (.loc 0)) 0), (8, .fp [DI W, DI mh, dints mc, DI s]), (10, .fp [dints F]), (12, .ptr (.out (.loc 2)) 0), (49, I q)] ?_ ?_
                    · conv => whnf
                      refine Retell.turn ⟨[], 0, [], []⟩ (TurnOk.mk' _ _ [] [] (OutOk.lift _) rfl (by decide) zb trivial trivial rfl) zw zm
                    · conv => whnf
                      repeat (first | ((first | refine zs1 ?_ | refine zs2 ?_ | refine zs3 ?_ | refine zs4 ?_ | refine zs5 ?_ | refine zs6 [] ?_); conv => whnf))
                      refine VBegin.intro (get_out hlp _) rfl ?_
                      conv => whnf
                      repeat' (first | ((first | refine zs1 ?_ | refine zs2 ?_ | refine zs3 ?_ | refine zs4 ?_ | refine zs5 ?_); conv => whnf) | ((first | apply zi1 | apply zi2 | apply zi3 | apply zi4 | apply zi5) <;> intro _ <;> conv => whnf))
                      refine zs6 [] ?_
                      conv => whnf
                      repeat' (first | ((first | refine zs1 ?_ | refine zs2 ?_ | refine zs3 ?_ | refine zs4 ?_ | refine zs5 ?_); conv => whnf) | ((first | apply zi1 | apply zi2 | apply zi3 | apply zi4 | apply zi5) <;> intro _ <;> first | (exfalso; omega) | contradiction | (conv => whnf)) | (refine VCall.intro (cTq _) ?_; conv => whnf) | (refine VAny.ix encI_len q (by omega) (by omega) hb2 ?_; conv => whnf) | (refine VAny.ix encI_len n (by omega) (by omega) ha ?_; conv => whnf) | (refine VLd.flat rfl rfl (get_setO (by decide) j1 _) rfl ?_; conv => whnf))
                      all_goals first
                        | exact RFin.on (outW_get _ _ _ _) (VOut.back (get_out hlp []) rfl)
                        | (exfalso; omega)
                  · rw [decide_eq_false h8] at cTq
                    refine VRound.vy' hlp rfl rfl rfl g.grows_refl fun l0 => ?_
                    refine VRound.tell [(5, .ptr (.out (.loc 0)) 0), (8, .fp [DI W, DI mh, dints mc, DI s]), (10, .fp [dints F]), (12, .ptr (.out (.loc 2)) 0), (49, I q)] ?_ ?_
                    · conv => whnf
                      refine Retell.turn ⟨[], 0, [], []⟩ (TurnOk.mk' _ _ [] [] (OutOk.lift _) rfl (by decide) zb trivial trivial rfl) zw zm
                    · conv => whnf
                      repeat (first | ((first | refine zs1 ?_ | refine zs2 ?_ | refine zs3 ?_ | refine zs4 ?_ | refine zs5 ?_ | refine zs6 [] ?_); conv => whnf))
                      refine VBegin.intro (get_out hlp _) rfl ?_
                      conv => whnf
                      repeat' (first | ((first | refine zs1 ?_ | refine zs2 ?_ | refine zs3 ?_ | refine zs4 ?_ | refine zs5 ?_); conv => whnf) | ((first | apply zi1 | apply zi2 | apply zi3 | apply zi4 | apply zi5) <;> intro _ <;> conv => whnf))
                      refine zs6 [] ?_
                      conv => whnf
                      repeat' (first | ((first | refine zs1 ?_ | refine zs2 ?_ | refine zs3 ?_ | refine zs4 ?_ | refine zs5 ?_); conv => whnf) | ((first | apply zi1 | apply zi2 | apply zi3 | apply zi4 | apply zi5) <;> intro _ <;> first | (exfalso; omega) | contradiction | (conv => whnf)) | (refine VCall.intro (cTq _) ?_; conv => whnf) | (refine VAny.ix encI_len q (by omega) (by omega) hb2 ?_; conv => whnf) | (refine VAny.ix encI_len n (by omega) (by omega) ha ?_; conv => whnf) | (refine VLd.flat rfl rfl (get_setO (by decide) j1 _) rfl ?_; conv => whnf))
                      all_goals first
                        | exact RFin.on (outW_get _ _ _ _) (VOut.back (get_out hlp []) rfl)
                        | (exfalso; omega)
              · rintro ⟨go, gl⟩ ⟨j0, j1, j2, j3, j4⟩ hlp
                dsimp only at j0
                subst j0
                rw [← hpr] at j3
                generalize prevW mc W s F n = p at j3 hpv y5
                have j1 : gl[0]? = some _ := j1
                have j2 : gl[1]? = some _ := j2
                have j3 : gl[2]? = some _ := j3
                have j4 : gl[3]? = some _ := j4
                have l0 := (List.getElem?_eq_some_iff.1 j1).1
                have l1 := (List.getElem?_eq_some_iff.1 j2).1
                have l2 := (List.getElem?_eq_some_iff.1 j3).1
                have key : ∀ (x : Nat) (A : Blk), x ≠ 4 → (gl.set 4 A)[x]? = gl[x]? := fun x A hx => List.getElem?_set_ne (Ne.symm hx)
                refine Told.mk [(3, .fp [DI W, DI mh, dints mc]), (5, .ptr (.loc 0) 0), (8, .fp [DI W, DI mh, dints mc, DI s]), (10, .fp [dints F]), (11, .gl (.loc 1) 1 out.length), (12, .ptr (.loc 2) 0)] [.flat true [DI n], .flat true (out.flatMap encI), .flat true [DI p]] (marks' := []) ?_ ?_
                · conv => whnf
                  refine Retell.turn ⟨[0, 1, 2], gl.length, [], []⟩ (TurnOk.mk' _ _ [] [] (OutOk.lift _) (Nat.ble_eq_true_of_le (by simp)) (by simp) (BTos.flat (blt_of l0) ((key 0 _ (by decide)).trans j1) rfl (BTos.flat (blt_of l1) ((key 1 _ (by decide)).trans j2) rfl (BTos.flat (blt_of l2) ((key 2 _ (by decide)).trans j3) rfl BTos.nil))) trivial trivial rfl) zw (MkTo.drop (show 3 ∉ ([0, 1, 2] : List Nat) by decide) ((key 3 _ (by decide)).trans j4) MkTo.nil)
                · conv => whnf
                  repeat' (first | ((first | refine zs1 ?_ | refine zs2 ?_ | refine zs3 ?_ | refine zs4 ?_ | refine zs5 ?_ | refine zs6 [] ?_); conv => whnf) | ((first | apply zi1 | apply zi2 | apply zi3 | apply zi4 | apply zi5) <;> intro _ <;> conv => whnf) | (refine VMem.app1 (l := out) (p : Int) encI_len rfl rfl rfl rfl rfl (by omega) ?_; conv => whnf))
                  refine LEnd.intro (p, out ++ [(p : Int)]) ⟨hpv.1, by simp; omega, N, ?_, by simp; omega, ?_⟩ ?_ ?_
                  · have := hpv.2.2.2
                    dsimp only
                    omega
                  · rw [y5]
                    unfold natI
                    simp
                  · have := hpv.2.2.2
                    dsimp only
                    omega
                  · rw [List.length_append, List.length_singleton]
                    generalize out ++ [(p : Int)] = out2
                    conv => whnf
                    refine Retell.turn ⟨[0,4], 5, [], []⟩ (TurnOk.mk' _ _ [] [] (OutOk.lift _) rfl (by decide) zb trivial trivial rfl) zw zm
          · have hz : N = 0 ∨ wback mc W s F N n = [] := by
              cases N with
              | zero => exact .inl rfl
              | succ N => right; rw [wback, if_neg hpos]
            have hw : wback mc W s F N n = [] := by
              rcases hz with rfl | h
              · rfl
              · exact h
            rw [hw, show natI [] = [] from rfl, List.append_nil] at y5
            subst y5
            rw [show ints out.reverse = .fs 1 out.length (out.reverse.flatMap encI) by unfold ints; rw [List.length_reverse]]
            generalize at0 F n = a at ha hpos
            conv => whnf
            repeat' (first | ((first | refine zs1 ?_ | refine zs2 ?_ | refine zs3 ?_ | refine zs4 ?_ | refine zs5 ?_); conv => whnf) | ((first | apply zi1 | apply zi2 | apply zi3 | apply zi4 | apply zi5) <;> intro _ <;> first | (exfalso; omega) | contradiction | (conv => whnf)) | (refine VAny.ix encI_len n (by omega) (by omega) ha ?_; conv => whnf))
            refine VCall.intro (vc_reverse out (.loc 1) _ rfl (by omega)) ?_
            have hRf : (out.reverse.flatMap encI).length = out.length * 1 := by rw [flat_len encI_len, List.length_reverse]
            conv => whnf
            repeat' (first | ((first | refine zs1 ?_ | refine zs2 ?_ | refine zs3 ?_ | refine zs4 ?_ | refine zs5 ?_ | refine zs6 [] ?_); conv => whnf) | ((first | apply zi1 | apply zi2 | apply zi3 | apply zi4 | apply zi5) <;> intro _ <;> conv => whnf))
            refine VOut.data 2 [(1, out.reverse.flatMap encI)] [] rfl zf (by exact FmAll.nil) zw
    · rw [if_neg h1] at hE
      rw [decide_eq_false h1] at cc
      subst hE
      rw [if_neg (by decide)] at hR
      subst hR
      refine VC.body Try.func40 rfl Try.ntmps40 Try.call40 (h.grows_refl) rfl ?_; conv => whnf
      repeat' (first | ((first | refine zs1 ?_ | refine zs2 ?_ | refine zs3 ?_ | refine zs4 ?_ | refine zs5 ?_); conv => whnf) | ((first | apply zi1 | apply zi2 | apply zi3 | apply zi4 | apply zi5) <;> intro _ <;> first | (exfalso; omega) | contradiction | (conv => whnf)) | (refine VCall.intro (c _) ?_; conv => whnf) | (refine VCall.intro (cc _) ?_; conv => whnf))
      refine VOut.data 3 [] [] rfl zf (by exact FmAll.nil) zw
  · rw [if_neg h0] at hE
    rw [← hE] at c h0
    rw [if_neg h0] at hR
    subst hR
    clear hE cc
    obtain ⟨mw, mh, mc⟩ := m
    refine VC.body Try.func40 rfl Try.ntmps40 Try.call40 (h.grows_refl) rfl ?_; conv => whnf
    repeat' (first | ((first | refine zs1 ?_ | refine zs2 ?_ | refine zs3 ?_ | refine zs4 ?_ | refine zs5 ?_); conv => whnf) | ((first | apply zi1 | apply zi2 | apply zi3 | apply zi4 | apply zi5) <;> intro _ <;> first | (exfalso; omega) | contradiction | (conv => whnf)) | (refine VCall.intro (c _) ?_; conv => whnf))
    refine VOut.data 3 [] [] rfl zf (by exact FmAll.nil) zw
end Go.Proofs.Ytkbbfeljlepgoaa

open Go.Vm
open Riv
namespace Go.Proofs.Ytkbbfeljlepgoaa
set_option maxRecDepth 20000
set_option maxHeartbeats 4000000

structure IsW (c : List Int) (W : Nat) (s : Int) (ks : List Nat) (cell : Nat) : Prop where
  len : 2 ≤ ks.length ∧ ks.length ≤ 1000
  last : ks.getD (ks.length - 1) 0 = cell
  at' : ∀ i, i < ks.length → ks.getD i 0 < c.length ∧ (i = 0 → at0 c (ks.getD i 0) = s) ∧ (0 < i → Nb W (ks.getD (i - 1) 0) (ks.getD i 0) ∧ Opn c (ks.getD i 0) ∧ (i + 1 < ks.length → at0 c (ks.getD i 0) = 0))
theorem natI_at {ks : List Nat} {i : Nat} (hi : i < ks.length) : (natI ks)[i]? = some ((ks.getD i 0 : Nat) : Int) := by
  unfold natI
  rw [List.getElem?_map, List.getD_eq_getElem?_getD, List.getElem?_eq_getElem hi]; rfl
theorem natI_len (ks : List Nat) : (natI ks).length = ks.length := by unfold natI; rw [List.length_map]
theorem vc_IsWay {W H : Nat} (m : Mp) (s : Int) (cell : Nat) (ks : List Nat) (h : Hp) (o : MOk W H m.c) (hw : m.w = W) (hk : IsW m.c W s ks cell) : VC Try.prog 42 [vM m, I s, I cell, ints (natI ks)] h (B true) h := by
  have hWb := o.w
  have hm144 := MOk.le o
  have cN := fun a b h ha hb => vc_rnext m W a b h (by omega) hw ha hb (by omega)
  have hl := natI_len ks
  have hat := fun i hi => natI_at (ks := ks) (i := i) hi
  generalize natI ks = l at hl hat
  have hlen := hk.len
  have hA := hk.at'
  have hfirst := hA 0 (by omega)
  have hlast := hat (ks.length - 1) (by omega)
  rw [hk.last] at hlast
  obtain ⟨mw, mh, mc⟩ := m
  dsimp only at hw cN hA hfirst hm144
  subst hw
  have cb := fun (k : Nat) (hk : k < mc.length) h => vc_rbeside k 0 ((mc.length : Int) - 1) h
  have hf0 := hat 0 (by omega)
  have hx0 := at0_get hfirst.1
  rw [hfirst.2.1 rfl] at hx0
  have cb0 := cb _ hfirst.1
  rw [decide_eq_false (by omega)] at cb0
  have hfl := hfirst.1
  clear hfirst
  generalize ks.getD 0 0 = k0 at hf0 hx0 cb0 hfl
  refine VC.bodyC 2 Try.func42 rfl Try.ntmps42 Try.call42 (h.grows_refl) rfl ?_; conv => whnf
  repeat' (first | ((first | refine zs1 ?_ | refine zs2 ?_ | refine zs3 ?_ | refine zs4 ?_ | refine zs5 ?_); conv => whnf) | ((first | apply zi1 | apply zi2 | apply zi3 | apply zi4 | apply zi5) <;> intro _ <;> conv => whnf))
  refine zs6 [] ?_
  conv => whnf
  repeat' (first | ((first | refine zs1 ?_ | refine zs2 ?_ | refine zs3 ?_ | refine zs4 ?_ | refine zs5 ?_); conv => whnf) | ((first | apply zi1 | apply zi2 | apply zi3 | apply zi4 | apply zi5) <;> intro _ <;> first | (exfalso; omega) | contradiction | (conv => whnf)) | (refine VAny.ix encI_len (ks.length - 1) (by omega) rfl hlast ?_; conv => whnf) | (refine VAny.ix encI_len 0 (by omega) rfl hf0 ?_; conv => whnf) | (refine VCall.intro (cb0 _) ?_; conv => whnf) | (refine VAny.ix encI_len k0 (by omega) rfl hx0 ?_; conv => whnf))
  refine VCut.at' (outer := h.lift) (marks := []) 99 [(1, I s), (3, ints l), (4, .fp [DI W, DI mh, dints mc])] [] ?_ ?_
  · conv => whnf
    refine Retell.turn ⟨[], 1, [(0, [DI W, DI mh, dints mc])], []⟩ (TurnOk.mk' _ _ [(0, [DI W, DI mh, dints mc])] [] (OutOk.lift _) rfl (by decide) zb zf trivial rfl) zw zm
  conv => whnf
  repeat' (first | ((first | refine zs1 ?_ | refine zs2 ?_ | refine zs3 ?_ | refine zs4 ?_ | refine zs5 ?_); conv => whnf) | ((first | apply zi1 | apply zi2 | apply zi3 | apply zi4 | apply zi5) <;> intro _ <;> first | (exfalso; omega) | contradiction | (conv => whnf)))
  refine VCode.lpC (outer := h.lift) (marks := []) 99 (fun i : Nat => [(1, I s), (3, ints l), (4, .fp [DI W, DI mh, dints mc]), (9, I i)]) (fun _ => []) (fun i => 1 ≤ i ∧ i ≤ l.length) (fun i => l.length - i) 1 ⟨Nat.le_refl _, by omega⟩ ?_ ?_
  · conv => whnf
    refine Retell.turn ⟨[], 0, [], []⟩ (TurnOk.mk' _ _ [] [] (OutOk.lift _) rfl (by decide) zb trivial trivial rfl) zw zm
  · rintro i ⟨i1, i2⟩
    rcases Nat.lt_or_ge i l.length with i3 | i3
    · have hAi := hA i (by omega)
      have hAp := (hA (i - 1) (by omega)).1
      obtain ⟨hq1, _, hq3⟩ := hAi
      obtain ⟨hnb, hop, hmid⟩ := hq3 (by omega)
      have hq := hat i (by omega)
      have hp := hat (i - 1) (by omega)
      have hx := at0_get hq1
      have cbq := cb _ hq1
      rw [decide_eq_false (by omega)] at cbq
      have cNq := fun h => cN (ks.getD (i - 1) 0) (ks.getD i 0) h (by omega) (by omega)
      rw [decide_eq_true hnb] at cNq
      unfold Opn at hop
      generalize ks.getD (i - 1) 0 = p at hp cNq hAp
      generalize ks.getD i 0 = q at hq cNq hq1 hop hmid hx cbq
      generalize at0 mc q = x at hx hop hmid
      conv => whnf
      repeat' (first | ((first | refine zs1 ?_ | refine zs2 ?_ | refine zs3 ?_ | refine zs4 ?_ | refine zs5 ?_); conv => whnf) | ((first | apply zi1 | apply zi2 | apply zi3 | apply zi4 | apply zi5) <;> intro _ <;> conv => whnf))
      all_goals try (exfalso; omega)
      refine zs6 [] ?_
      conv => whnf
      repeat' (first | ((first | refine zs1 ?_ | refine zs2 ?_ | refine zs3 ?_ | refine zs4 ?_ | refine zs5 ?_); conv => whnf) | ((first | apply zi1 | apply zi2 | apply zi3 | apply zi4 | apply zi5) <;> intro _ <;> first | (exfalso; omega) | contradiction | (conv => whnf)) | (refine VAny.ix encI_len i (by omega) rfl hq ?_; conv => whnf) | (refine VAny.ix encI_len (i - 1) (by omega) rfl hp ?_; conv => whnf) | (refine VCall.intro (cbq _) ?_; conv => whnf) | (refine VCall.intro (cNq _) ?_; conv => whnf))
      refine zs6 [] ?_
      conv => whnf
      repeat' (first | ((first | refine zs1 ?_ | refine zs2 ?_ | refine zs3 ?_ | refine zs4 ?_ | refine zs5 ?_); conv => whnf) | ((first | apply zi1 | apply zi2 | apply zi3 | apply zi4 | apply zi5) <;> intro _ <;> first | (exfalso; omega) | contradiction | (conv => whnf)) | (refine VAny.ix encI_len i (by omega) rfl hq ?_; conv => whnf) | (refine VAny.ix encI_len q (by omega) rfl hx ?_; conv => whnf))
      all_goals first
        | (exfalso; omega)
        | (refine LEnd.intro (i + 1) ⟨by omega, by omega⟩ (by omega) ?_
           conv => whnf
           refine Retell.turn ⟨[], 0, [], []⟩ (TurnOk.mk' _ _ [] [] (OutOk.lift _) rfl (by decide) zb trivial trivial rfl) zw zm)
    · conv => whnf
      repeat' (first | ((first | refine zs1 ?_ | refine zs2 ?_ | refine zs3 ?_ | refine zs4 ?_ | refine zs5 ?_); conv => whnf) | ((first | apply zi1 | apply zi2 | apply zi3 | apply zi4 | apply zi5) <;> intro _ <;> first | (exfalso; omega) | contradiction | (conv => whnf)))
      exact VOut.same rfl
theorem vc_leads {W H : Nat} (m : Mp) (s : Int) (cell : Nat) (ks : List Nat) (h : Hp) (o : MOk W H m.c) (hw : m.w = W) (hk : IsW m.c W s ks cell) : VC Try.prog 43 [vM m, I s, I cell, ints (natI ks)] h (B true) h := by
  have hWb := o.w
  have hm144 := MOk.le o
  have cN := fun a b h ha hb => vc_next m W a b h (by omega) hw ha hb (by omega)
  have hl := natI_len ks
  have hat := fun i hi => natI_at (ks := ks) (i := i) hi
  generalize natI ks = l at hl hat
  have hlen := hk.len
  have hA := hk.at'
  have hlast := hat (ks.length - 1) (by omega)
  rw [hk.last] at hlast
  obtain ⟨mw, mh, mc⟩ := m
  dsimp only at hw cN hA hm144
  subst hw
  refine VC.bodyC 1 Try.func43 rfl Try.ntmps43 Try.call43 (h.grows_refl) rfl ?_; conv => whnf
  repeat' (first | ((first | refine zs1 ?_ | refine zs2 ?_ | refine zs3 ?_ | refine zs4 ?_ | refine zs5 ?_); conv => whnf) | ((first | apply zi1 | apply zi2 | apply zi3 | apply zi4 | apply zi5) <;> intro _ <;> conv => whnf))
  refine VCut.at' (outer := h.lift) (marks := []) 99 [(1, I s), (2, I cell), (3, ints l), (4, .fp [DI W, DI mh, dints mc])] [] ?_ ?_
  · conv => whnf
    refine Retell.turn ⟨[], 1, [(0, [DI W, DI mh, dints mc])], []⟩ (TurnOk.mk' _ _ [(0, [DI W, DI mh, dints mc])] [] (OutOk.lift _) rfl (by decide) zb zf trivial rfl) zw zm
  conv => whnf
  repeat' (first | ((first | refine zs1 ?_ | refine zs2 ?_ | refine zs3 ?_ | refine zs4 ?_ | refine zs5 ?_); conv => whnf) | ((first | apply zi1 | apply zi2 | apply zi3 | apply zi4 | apply zi5) <;> intro _ <;> first | (exfalso; omega) | contradiction | (conv => whnf)))
  refine VCode.lpC (outer := h.lift) (marks := []) 99 (fun i : Nat => [(1, I s), (2, I cell), (3, ints l), (4, .fp [DI W, DI mh, dints mc]), (12, ints l), (13, I l.length), (14, I i)]) (fun _ => []) (fun i => i ≤ l.length) (fun i => l.length - i) 0 (Nat.zero_le _) ?_ ?_
  · conv => whnf
    refine Retell.turn ⟨[], 0, [], []⟩ (TurnOk.mk' _ _ [] [] (OutOk.lift _) rfl (by decide) zb trivial trivial rfl) zw zm
  · rintro i i2
    rcases Nat.lt_or_ge i l.length with i3 | i3
    · have hAi := hA i (by omega)
      have hAp := (hA (i - 1) (by omega)).1
      obtain ⟨hq1, hq2, hq3⟩ := hAi
      have hq := hat i (by omega)
      have hp := hat (i - 1) (by omega)
      have hx := at0_get hq1
      have cNq := fun h => cN (ks.getD (i - 1) 0) (ks.getD i 0) h (by omega) (by omega)
      unfold Opn at hq3
      generalize ks.getD (i - 1) 0 = p at hp cNq hAp hq3
      generalize ks.getD i 0 = q at hq cNq hq1 hx hq2 hq3
      generalize at0 mc q = x at hx hq2 hq3
      rcases Nat.eq_zero_or_pos i with h0 | h0
      · have hxs := hq2 h0
        clear hq3 cNq
        conv => whnf
        repeat' (first | ((first | refine zs1 ?_ | refine zs2 ?_ | refine zs3 ?_ | refine zs4 ?_ | refine zs5 ?_); conv => whnf) | ((first | apply zi1 | apply zi2 | apply zi3 | apply zi4 | apply zi5) <;> intro _ <;> conv => whnf) | (refine VAny.ix encI_len i (by omega) rfl hq ?_; conv => whnf))
        all_goals try (exfalso; omega)
        refine zs6 [] ?_
        conv => whnf
        repeat' (first | ((first | refine zs1 ?_ | refine zs2 ?_ | refine zs3 ?_ | refine zs4 ?_ | refine zs5 ?_); conv => whnf) | ((first | apply zi1 | apply zi2 | apply zi3 | apply zi4 | apply zi5) <;> intro _ <;> first | (exfalso; omega) | contradiction | (conv => whnf)) | (refine VAny.ix encI_len i (by omega) rfl hq ?_; conv => whnf) | (refine VAny.ix encI_len q (by omega) rfl hx ?_; conv => whnf))
        all_goals first
          | (exfalso; omega)
          | (refine LEnd.intro (i + 1) (by omega) (by omega) ?_
             conv => whnf
             refine Retell.turn ⟨[], 0, [], []⟩ (TurnOk.mk' _ _ [] [] (OutOk.lift _) rfl (by decide) zb trivial trivial rfl) zw zm)
      · obtain ⟨hnb, hop, hmid⟩ := hq3 h0
        rw [decide_eq_true hnb] at cNq
        clear hq3
        conv => whnf
        repeat' (first | ((first | refine zs1 ?_ | refine zs2 ?_ | refine zs3 ?_ | refine zs4 ?_ | refine zs5 ?_); conv => whnf) | ((first | apply zi1 | apply zi2 | apply zi3 | apply zi4 | apply zi5) <;> intro _ <;> conv => whnf) | (refine VAny.ix encI_len i (by omega) rfl hq ?_; conv => whnf))
        all_goals try (exfalso; omega)
        refine zs6 [] ?_
        conv => whnf
        repeat' (first | ((first | refine zs1 ?_ | refine zs2 ?_ | refine zs3 ?_ | refine zs4 ?_ | refine zs5 ?_); conv => whnf) | ((first | apply zi1 | apply zi2 | apply zi3 | apply zi4 | apply zi5) <;> intro _ <;> first | (exfalso; omega) | contradiction | (conv => whnf)) | (refine VAny.ix encI_len i (by omega) rfl hq ?_; conv => whnf) | (refine VAny.ix encI_len (i - 1) (by omega) rfl hp ?_; conv => whnf) | (refine VCall.intro (cNq _) ?_; conv => whnf) | (refine VAny.ix encI_len q (by omega) rfl hx ?_; conv => whnf))
        all_goals first
          | (exfalso; omega)
          | (refine LEnd.intro (i + 1) (by omega) (by omega) ?_
             conv => whnf
             refine Retell.turn ⟨[], 0, [], []⟩ (TurnOk.mk' _ _ [] [] (OutOk.lift _) rfl (by decide) zb trivial trivial rfl) zw zm)
    · conv => whnf
      repeat' (first | ((first | refine zs1 ?_ | refine zs2 ?_ | refine zs3 ?_ | refine zs4 ?_ | refine zs5 ?_); conv => whnf) | ((first | apply zi1 | apply zi2 | apply zi3 | apply zi4 | apply zi5) <;> intro _ <;> first | (exfalso; omega) | contradiction | (conv => whnf)) | (refine VAny.ix encI_len (ks.length - 1) (by omega) rfl hlast ?_; conv => whnf))
      all_goals first
        | (exfalso; omega)
        | (refine VOut.same ?_; simp [V.ren]; done)
        | exact VOut.same rfl
end Go.Proofs.Ytkbbfeljlepgoaa

open Go.Vm
open Riv
namespace Go.Vm
theorem VCut.atO {P : Program} {ro : Option Nat} {c : Code} {n : Nat} {fr : Fr} {outer0 : Id → Option Blk} {loc0 : List Blk} {marks : List Id} {Q : X → St → Prop} (m : Nat) (slots : List (Nat × V)) (outer : Id → Option Blk) (loc : List Blk) (ho : outer0 = outer)
    (hst : frSK slots .leaf fun fr' => Retell isOut ⟨n, fr, ⟨outer, loc0⟩, marks⟩ ⟨n, fr', ⟨outer, loc⟩, marks⟩)
    (hb : frSK slots .leaf fun fr' => vcut P ro isOut m c ⟨n, fr', ⟨outer, loc⟩, marks⟩ Q) : VCut P ro isOut c ⟨n, fr, ⟨outer0, loc0⟩, marks⟩ Q := by
  subst ho
  exact VCut.at' m slots loc hst hb
end Go.Vm
namespace Go.Proofs.Ytkbbfeljlepgoaa
set_option maxRecDepth 20000
set_option maxHeartbeats 4000000

def encB (b : Bool) : List D := [DB b]
theorem encB_len (b : Bool) : (encB b).length = 1 := rfl
def bools (l : List Bool) : V := .fs 1 l.length (l.flatMap encB)
def dbools (l : List Bool) : D := .sl 1 l.length (l.flatMap encB)
def metB (L : Nat) (M : List Nat) : List Bool := (List.range L).map fun k => decide (k ∈ M)
theorem metB_len (L : Nat) (M : List Nat) : (metB L M).length = L := by simp [metB]
theorem metB_at {L k : Nat} (M : List Nat) (hk : k < L) : (metB L M)[k]? = some (decide (k ∈ M)) := by
  unfold metB; rw [List.getElem?_map, List.getElem?_range hk]; rfl
theorem metB_nil (L : Nat) : metB L [] = List.replicate L false := by
  apply List.ext_getElem?
  intro k
  rcases Nat.lt_or_ge k L with h | h
  · rw [metB_at [] h, List.getElem?_replicate, if_pos h]; simp
  · rw [List.getElem?_eq_none (by rw [metB_len]; exact h), List.getElem?_eq_none (by simpa using h)]
theorem metB_set {L n : Nat} (M : List Nat) (hn : n < L) : (metB L M).set n true = metB L (M ++ [n]) := by
  apply List.ext_getElem?
  intro k
  rcases Nat.lt_or_ge k L with h | h
  · rw [metB_at _ h]
    by_cases e : n = k
    · subst e
      rw [List.getElem?_set_self (by rw [metB_len]; exact h)]; simp
    · rw [List.getElem?_set_ne e, metB_at _ h]
      have : (k ∈ M ++ [n]) ↔ k ∈ M := by simp; exact fun e2 => absurd e2.symm e
      simp only [this]
  · rw [List.getElem?_eq_none (by rw [List.length_set, metB_len]; exact h), List.getElem?_eq_none (by rw [metB_len]; exact h)]
def folS (mk : List Bool) (rec : Nat → List Nat → List Nat) (M : List Nat) (k : Nat) : List Nat := if k ∉ M ∧ bat mk k = true then rec k M else M
theorem folL_fold (mk : List Bool) (rec : Nat → List Nat → List Nat) : ∀ (ks M : List Nat), ks.foldl (folS mk rec) M = folL mk rec ks M
  | [], _ => rfl
  | k :: ks, M => by
    rw [List.foldl_cons, folL_fold mk rec ks, folL]
    unfold folS
    split <;> rfl
structure MI (L : Nat) (M1 M : List Nat) : Prop where
  pre : M1 <+: M
  nd : M.Nodup
  lt : ∀ x ∈ M, x < L
theorem MI.len {L : Nat} {M1 M : List Nat} (h : MI L M1 M) : M1.length ≤ M.length ∧ M.length ≤ L := ⟨h.pre.length_le, nodup_len L M h.nd h.lt⟩
theorem folW_mi {mk : List Bool} {W H N n : Nat} {M : List Nat} (hW : 2 ≤ W) (hL : mk.length = W * H) (h1 : bat mk n = true) (h2 : n ∉ M) (h3 : M.Nodup) (h4 : ∀ x ∈ M, x < mk.length) (h5 : mk.length ≤ N + M.length) : MI mk.length M (folW mk W N n M) ∧ n ∈ folW mk W N n M := by
  have h := folW_ok hW hL N n M h1 h2 h3 h4 h5
  refine ⟨⟨h.pre, h.nd, fun x hx => ?_⟩, h.own⟩
  by_cases hm : x ∈ M
  · exact h4 x hm
  · exact bat_lt (h.mrk x hx hm).1
theorem nbM_ok {mk : List Bool} {W H N n : Nat} {M1 : List Nat} (hW : 2 ≤ W) (hL : mk.length = W * H) (h0 : MI mk.length M1 M1) (h5 : mk.length ≤ N + M1.length) : ∀ k, k ≤ 4 → MI mk.length M1 (nbF (folS mk (folW mk W N)) W mk.length n M1 k)
  | 0, _ => h0
  | k + 1, hk => by
    have ih := nbM_ok (n := n) hW hL h0 h5 k (by omega)
    cases hq : nbO W mk.length n k with
    | none => rw [nbF_none hq]; exact ih
    | some q =>
      rw [nbF_some hq]
      generalize nbF (folS mk (folW mk W N)) W mk.length n M1 k = U at ih
      unfold folS
      split
      · rename_i hc
        have h := (folW_mi hW hL (N := N) hc.2 hc.1 ih.nd ih.lt (by have := ih.len.1; omega)).1
        exact ⟨ih.pre.trans h.pre, h.nd, h.lt⟩
      · exact ih
def ownF (own : List Int) (M R : List Nat) : List Int := own ++ natI (R.drop M.length)
theorem ownF_len (own : List Int) {M R : List Nat} (h : M.length ≤ R.length) : (ownF own M R).length = own.length + (R.length - M.length) := by
  unfold ownF; rw [List.length_append, natI_len, List.length_drop]
theorem ownF_one (own : List Int) (M : List Nat) (n : Nat) : ownF own M (M ++ [n]) = own ++ [(n : Int)] := by
  unfold ownF
  rw [List.drop_append_of_le_length (Nat.le_refl _), List.drop_of_length_le (Nat.le_refl _)]; rfl
theorem ownF_ownF (own : List Int) {M R S : List Nat} (h1 : M <+: R) (h2 : R <+: S) : ownF (ownF own M R) R S = ownF own M S := by
  obtain ⟨a, rfl⟩ := h1
  obtain ⟨b, rfl⟩ := h2
  unfold ownF natI
  simp
def oF (o : Vm.Id → Option Blk) (mI oI : Vm.Id) (L : Nat) (M : List Nat) : Vm.Id → Option Blk := outW (outW o mI (.flat true ((metB L M).flatMap encB))) oI .dead
theorem oF_set {o : Vm.Id → Option Blk} {mI oI : Vm.Id} {L : Nat} {M R : List Nat} (hne : mI ≠ oI) : outW (oF o mI oI L M) mI (.flat true ((metB L R).flatMap encB)) = oF o mI oI L R := by
  unfold oF
  rw [outW_comm (o := outW o mI _) (i := oI) (j := mI) (fun e => hne e.symm), outW_same]
theorem oF_met {o : Vm.Id → Option Blk} {mI oI : Vm.Id} {L : Nat} {M : List Nat} (hne : mI ≠ oI) (loc : List Blk) : (⟨oF o mI oI L M, loc⟩ : Hp).get (.out mI) = some (.flat true ((metB L M).flatMap encB)) := by
  show oF o mI oI L M mI = _
  unfold oF outW
  rw [if_neg hne, if_pos rfl]
theorem oF_oth {o : Vm.Id → Option Blk} {mI oI i : Vm.Id} {L : Nat} {M : List Nat} {r : Option Blk} (h1 : i ≠ mI) (h2 : i ≠ oI) (loc : List Blk) (h : o i = r) : (⟨oF o mI oI L M, loc⟩ : Hp).get (.out i) = r := by
  show oF o mI oI L M i = _
  unfold oF outW
  rw [if_neg h2, if_neg h1]; exact h
theorem OutOk.oF {h : Hp} {mI oI : Vm.Id} {L : Nat} {M : List Nat} : OutOk (oF h.lift mI oI L M) := OutOk.outW (OutOk.outW (OutOk.lift _) rfl) rfl
def upF (mI : Vm.Id) (L : Nat) (R : List Nat) (m : Nat) (b : Blk) : List (Vm.Id × Blk) := [(.out mI, .flat true ((metB L R).flatMap encB)), (.loc m, .dead), (.loc 0, b)]
theorem upF_ok {mI : Vm.Id} {L m : Nat} {R : List Nat} {b b0 b' b2 : Blk} {g : Hp} (jI : g.get (.out mI) = some b0) (jm : g.get (.loc m) = some b2) (j0 : g.get (.loc 0) = some b') : ∀ p ∈ upF mI L R m b, g.get p.1 ≠ none := by
  intro p hp
  simp only [upF, List.mem_cons, List.not_mem_nil, or_false] at hp
  rcases hp with rfl | rfl | rfl <;> simp only
  · rw [jI]; simp
  · rw [jm]; simp
  · rw [j0]; simp
theorem FJ.step {o : Vm.Id → Option Blk} {mI oI : Vm.Id} {L : Nat} {M R : List Nat} {l l' : List Int} {g : Hp} {m : Nat} (hne : mI ≠ oI) (jo : g.outer = oF o mI oI L M) (j0 : g.get (.loc 0) = some (.cells true [.gl (.loc m) 1 l.length])) (jm : g.get (.loc m) = some (.flat true (l.flatMap encI))) (j2 : g.get (.loc 2) = some .mark) (hm : m = 1 ∨ 4 ≤ m) {b6 : Blk} (j3 : g.get (.loc 3) = some b6) :
    g.grows ((g.sets (upF mI L R m (.cells true [.gl g.fresh 1 l'.length]))).pushes [.flat true (l'.flatMap encI)]) ∧
    GJ (oF o mI oI L R) l' ((g.sets (upF mI L R m (.cells true [.gl g.fresh 1 l'.length]))).pushes [.flat true (l'.flatMap encI)]) ∧
    ((g.sets (upF mI L R m (.cells true [.gl g.fresh 1 l'.length]))).pushes [.flat true (l'.flatMap encI)]).get (.loc 3) = some b6 := by
  obtain ⟨go, gl⟩ := g
  dsimp only at jo
  subst jo
  have jI := oF_met (o := o) (L := L) (M := M) hne gl
  have hgr := Hp.grows_sets (news := [.flat true (l'.flatMap encI)]) (upF_ok (L := L) (R := R) (b := .cells true [.gl (Hp.fresh ⟨oF o mI oI L M, gl⟩) 1 l'.length]) jI jm j0)
  simp only [Hp.get] at j0 j2 jm j3
  have l0 := (List.getElem?_eq_some_iff.1 j0).1
  have l2 := (List.getElem?_eq_some_iff.1 j2).1
  have l3 := (List.getElem?_eq_some_iff.1 j3).1
  have key : ∀ y, y < gl.length → y ≠ m → y ≠ 0 → ∀ (A B G : Blk), (((gl.set m A).set 0 B) ++ [G])[y]? = gl[y]? := by
    intro y hy h1 h2 A B G
    rw [List.getElem?_append_left (by simpa using hy), List.getElem?_set_ne (Ne.symm h2), List.getElem?_set_ne (Ne.symm h1)]
  refine ⟨hgr, ⟨?_, ⟨gl.length, .inr (by omega), ?_, ?_⟩, ?_⟩, ?_⟩
  · exact oF_set hne
  · show (((gl.set m _).set 0 _) ++ [_])[0]? = _
    rw [List.getElem?_append_left (by simpa using l0), List.getElem?_set_self (by simpa using l0)]
    simp [Hp.fresh]
  · show (((gl.set m _).set 0 _) ++ [_])[gl.length]? = _
    rw [List.getElem?_append_right (by simp)]
    simp
  · exact (key 2 l2 (by omega) (by omega) _ _ _).trans j2
  · exact (key 3 l3 (by omega) (by omega) _ _ _).trans j3
end Go.Proofs.Ytkbbfeljlepgoaa

open Go.Vm
open Riv
namespace Go.Proofs.Ytkbbfeljlepgoaa
set_option maxRecDepth 20000
set_option maxHeartbeats 4000000

theorem vc_isl1 (x : Int) (h : Hp) : VC Try.prog 81 [I x] h (B (decide (x = 3))) h := by
  refine VC.body Try.func81 rfl Try.ntmps81 Try.call81 (h.grows_refl) rfl ?_; conv => whnf
  repeat' (first | ((first | refine zs1 ?_ | refine zs2 ?_ | refine zs3 ?_ | refine zs4 ?_ | refine zs5 ?_ | refine zs6 [] ?_); conv => whnf) | ((first | apply zi1 | apply zi2 | apply zi3 | apply zi4 | apply zi5) <;> intro _ <;> conv => whnf))
  refine VOut.same ?_
  have : (x == 3) = decide (x = 3) := by rw [Bool.eq_iff_iff, decide_eq_true_eq, beq_iff_eq]
  simp only [V.ren, this]
def vFolI (w hh : Int) (c : List Int) (mC fC : Vm.Id) : V := .func (.func 97) [] [.ptr mC 0, .fp [DI w, DI hh, dints c], .fp [.func (.func 81) [] []], .fp [dints c], .ptr fC 0]
structure MemI (w hh : Int) (c : List Int) (mC mI fC : Vm.Id) (M : List Nat) (h : Hp) : Prop where
  mc : h.get mC = some (.cells true [.gl mI 1 c.length])
  mi : h.get mI = some (.flat true ((metB c.length M).flatMap encB))
  fc : h.get fC = some (.cells true [vFolI w hh c mC fC])
structure DjtI (mC mI fC oI : Vm.Id) : Prop where
  cI : mC ≠ mI
  co : mC ≠ oI
  fI : fC ≠ mI
  fo : fC ≠ oI
  Io : mI ≠ oI
def effI (h : Hp) (mI oI : Vm.Id) (L : Nat) (R : List Nat) (l : List Int) : Hp := (h.sets [(mI, .flat true ((metB L R).flatMap encB)), (oI, .dead)]).pushes [.flat true (l.flatMap encI)]
theorem vc_folI {W H : Nat} (m : Mp) (o : MOk W H m.c) (hw : m.w = W) : ∀ (N n : Nat) (M : List Nat) (own : List Int) (mC mI fC oI : Vm.Id) (h : Hp), bat (marks m.c) n = true → n ∉ M → M.Nodup → (∀ x ∈ M, x < m.c.length) → m.c.length ≤ N + M.length → own.length ≤ M.length →
    MemI m.w m.h m.c mC mI fC M h → h.get oI = some (.flat true (own.flatMap encI)) → DjtI mC mI fC oI →
    VC Try.prog 97 [I n, .gl oI 1 own.length, .ptr mC 0, .fp (encM m), .fp [.func (.func 81) [] []], .fp [dints m.c], .ptr fC 0] h (.gl h.fresh 1 (ownF own M (folW (marks m.c) W N n M)).length) (effI h mI oI m.c.length (folW (marks m.c) W N n M) (ownF own M (folW (marks m.c) W N n M)))
  | 0, n, M, own, mC, mI, fC, oI, h, h1, h2, h3, h4, h5, h6, h7, h8, h9 => by
    have h10 := nodup_len m.c.length (M ++ [n]) (by
      rw [List.nodup_append]
      exact ⟨h3, by simp, fun a ha b hb => by simp at hb; subst hb; intro e; subst e; exact h2 ha⟩) fun x hx => by
      rcases List.mem_append.1 hx with hx | hx
      · exact h4 x hx
      · simp at hx; subst hx; have := bat_lt h1; rw [marks_len] at this; exact this
    rw [List.length_append, List.length_singleton] at h10
    omega
  | N + 1, n, M, own, mC, mI, fC, oI, h, h1, h2, h3, h4, h5, h6, h7, h8, h9 => by
    have IH := fun n M own mC mI fC oI h => vc_folI m o hw N n M own mC mI fC oI h
    have hWb := o.w
    have hHb := o.h
    have hL := o.len
    have hm144 := MOk.le o
    have cB := fun n h => vc_beside m n h
    have itB := fun n hn => iter_beside m W n (by omega) hw hn (by omega)
    have hmkl := marks_len m.c
    have hnl := bat_lt h1
    have hR : folW (marks m.c) W (N + 1) n M = folL (marks m.c) (folW (marks m.c) W N) (nbs W (marks m.c).length n) (M ++ [n]) := rfl
    rw [← folL_fold, ← nbF_all] at hR
    have hmi0 : MI (marks m.c).length (M ++ [n]) (M ++ [n]) := by
      refine ⟨List.prefix_refl _, ?_, fun x hx => ?_⟩
      · rw [List.nodup_append]
        exact ⟨h3, by simp, fun a ha b hb => by simp at hb; subst hb; intro e; subst e; exact h2 ha⟩
      · rcases List.mem_append.1 hx with hx | hx
        · rw [hmkl]; exact h4 x hx
        · simp at hx; subst hx; exact hnl
    have hMI := fun j hj => nbM_ok (mk := (marks m.c)) (N := N) (n := n) (W := W) (H := H) (by omega) (by rw [hmkl]; exact hL) hmi0 (by rw [List.length_append, List.length_singleton, hmkl]; omega) j hj
    have hMl : (M ++ [n]).length = M.length + 1 := by simp
    have hfo : ∀ k M, bat (marks m.c) k = true → k ∉ M → M.Nodup → (∀ x ∈ M, x < (marks m.c).length) → (marks m.c).length ≤ N + M.length → M <+: folW (marks m.c) W N k M := fun k M a1 a2 a3 a4 a5 => (folW_mi (by omega) (by rw [hmkl]; exact hL) a1 a2 a3 a4 a5).1.pre
    have hpre0 : M <+: M ++ [n] := List.prefix_append _ _
    obtain ⟨R, hRe⟩ : ∃ R, R = folW (marks m.c) W (N + 1) n M := ⟨_, rfl⟩
    rw [← hRe] at hR ⊢
    clear hRe
    have hset := metB_set (L := m.c.length) M (n := n) (by omega)
    have hmat := metB_at (L := m.c.length) (k := n) M (by omega)
    have hown1 := ownF_one own M n
    have hgrow : h.grows (effI h mI oI m.c.length R (ownF own M R)) := by
      refine Hp.grows_sets fun e he => ?_
      simp only [List.mem_cons, List.not_mem_nil, or_false] at he
      rcases he with rfl | rfl <;> simp only
      · rw [h7.mi]; simp
      · rw [h8]; simp
    obtain ⟨mw, mh, c⟩ := m
    dsimp only at *
    subst hw
    show VC Try.prog 97 [I n, .gl oI 1 own.length, .ptr mC 0, .fp [DI W, DI mh, dints c], .fp [.func (.func 81) [] []], .fp [dints c], .ptr fC 0] h _ _
    refine VC.bodyC 3 Try.func97 rfl Try.ntmps97 Try.call97 hgrow rfl ?_
    conv => whnf
    have hno : ∀ (i : Vm.Id) (j : Nat), Vm.Id.out i ≠ .loc j := fun _ _ e => by cases e
    have hMle := hmi0.len.2
    repeat' (first | ((first | refine zs1 ?_ | refine zs2 ?_ | refine zs3 ?_ | refine zs4 ?_ | refine zs5 ?_); conv => whnf) | ((first | apply zi1 | apply zi2 | apply zi3 | apply zi4 | apply zi5) <;> intro _ <;> conv => whnf) | (refine VLd.cell rfl rfl (get_out h7.mc _) rfl ?_; conv => whnf))
    refine VMem.setRec encB_len n 0 true rfl rfl (get_out h7.mi _) hmat (by decide) rfl (ofs _) ?_
    rw [hset]
    conv => whnf
    repeat' (first | ((first | refine zs1 ?_ | refine zs2 ?_ | refine zs3 ?_ | refine zs4 ?_ | refine zs5 ?_); conv => whnf) | ((first | apply zi1 | apply zi2 | apply zi3 | apply zi4 | apply zi5) <;> intro _ <;> conv => whnf))
    refine VMem.app1B (α := Int) (l := own) (n : Int) encI_len rfl (get_outNe (fun e => h9.Io e.symm) (get_out h8 _)) rfl rfl rfl (by omega) ?_
    rw [← hown1]
    conv => whnf
    repeat' (first | ((first | refine zs1 ?_ | refine zs2 ?_ | refine zs3 ?_ | refine zs4 ?_ | refine zs5 ?_); conv => whnf) | ((first | apply zi1 | apply zi2 | apply zi3 | apply zi4 | apply zi5) <;> intro _ <;> conv => whnf))
    have hol : own.length + 1 = (ownF own M (M ++ [n])).length := by rw [hown1, List.length_append, List.length_singleton]
    refine VCut.atO (outer := oF h.lift mI oI c.length (M ++ [n])) (marks := []) 99 [(0, I n), (2, .ptr (.out mC) 0), (3, .fp [DI W, DI mh, dints c]), (4, .fp [.func (.func 81) [] []]), (5, .fp [dints c]), (6, .ptr (.out fC) 0), (8, .ptr (.loc 0) 0)] [.cells true [.gl (.loc 1) 1 (own.length + 1)], .flat true ((ownF own M (M ++ [n])).flatMap encI)] rfl ?_ ?_
    · generalize ownF own M (M ++ [n]) = o1
      conv => whnf
      refine Retell.turn ⟨[0, 2], 3, [], []⟩ (TurnOk.mk' _ _ [] [] OutOk.oF rfl (by decide) zb trivial trivial rfl) zw zm
    · conv => whnf
      repeat' (first | ((first | refine zs1 ?_ | refine zs2 ?_ | refine zs3 ?_ | refine zs4 ?_ | refine zs5 ?_); conv => whnf) | ((first | apply zi1 | apply zi2 | apply zi3 | apply zi4 | apply zi5) <;> intro _ <;> conv => whnf) | (refine VCall.intro (cB n _) ?_; conv => whnf))
      refine VCode.tell [(2, .ptr (.out mC) 0), (4, .fp [.func (.func 81) [] []]), (5, .fp [dints c]), (6, .ptr (.out fC) 0), (8, .ptr (.loc 0) 0), (20, vBes ⟨W, mh, c⟩ n)] [.cells true [.gl (.loc 1) 1 (own.length + 1)], .flat true ((ownF own M (M ++ [n])).flatMap encI)] (marks' := []) ?_ ?_
      · generalize ownF own M (M ++ [n]) = o1
        conv => whnf
        refine Retell.turn ⟨[0, 1], 2, [], []⟩ (TurnOk.mk' _ _ [] [] OutOk.oF rfl (by decide) zb trivial trivial rfl) zw zm
      · conv => whnf
        refine VCode.iterS 4 (nbY W c.length n) (fun j g => GJ (oF h.lift mI oI c.length (nbF (folS (marks c) (folW (marks c) W N)) W (marks c).length n (M ++ [n]) j)) (ownF own M (nbF (folS (marks c) (folW (marks c) W N)) W (marks c).length n (M ++ [n]) j)) g) _ (.loc 3) rfl (itB n (by omega)) rfl rfl ⟨rfl, ⟨1, .inl rfl, by rw [nbF_zero, ← hol]; rfl, rfl⟩, rfl⟩ ?_ ?_ ?_
        · rintro j g hj hy hJ
          rw [nbF_none (by rw [hmkl]; exact nbY_none hy)]; exact hJ
        · rintro j g vs hj hy hJ hlp
          obtain ⟨q, hq, rfl⟩ := nbY_some hy
          have hqc : q < c.length := by
            have := ((nbs_iff (by omega) hL (by omega)).1 (nbO_mem hj hq)).1
            exact this
          rw [← hmkl] at hq
          rw [nbF_some hq]
          have hI := hMI j (by omega)
          generalize nbF (folS (marks c) (folW (marks c) W N)) W (marks c).length n (M ++ [n]) j = Mk at hJ hI
          have hpreM : M <+: Mk := hpre0.trans hI.pre
          have hlenM := hI.len
          have hlown := ownF_len own hpreM.length_le
          have hpp := fun S (hS : Mk <+: S) => ownF_ownF own hpreM hS
          obtain ⟨jo, ⟨m, hm, j0, jm⟩, j2⟩ := hJ
          obtain ⟨l, hl0⟩ : ∃ l, l = ownF own M Mk := ⟨_, rfl⟩
          rw [← hl0] at j0 jm hlown
          simp only [← hl0] at hpp
          have kmc : g.get (.out mC) = some ((Blk.cells true [.gl mI 1 c.length]).ren .out) := by
            show g.outer mC = _
            rw [jo]; exact oF_oth h9.cI h9.co [] (get_out h7.mc [])
          have kfc : g.get (.out fC) = some ((Blk.cells true [vFolI W mh c mC fC]).ren .out) := by
            show g.outer fC = _
            rw [jo]; exact oF_oth h9.fI h9.fo [] (get_out h7.fc [])
          have kmi : g.get (.out mI) = some (.flat true ((metB c.length Mk).flatMap encB)) := by
            show g.outer mI = _
            rw [jo]; exact oF_met h9.Io []
          have hqm := metB_at Mk hqc
          have hx := at0_get hqc
          have cSq := fun h => vc_isl1 (at0 c q) h
          rw [← bat_marks] at cSq
          unfold folS
          have hm0 : Vm.Id.loc m ≠ .loc 0 := by intro h0; injection h0; omega
          have hm3 : Vm.Id.loc m ≠ .loc 3 := by intro h0; injection h0; omega
          by_cases hgo : q ∉ Mk ∧ bat (marks c) q = true
          · rw [if_pos hgo]
            rw [decide_eq_false hgo.1] at hqm
            rw [hgo.2] at cSq
            have hfp := hfo q Mk hgo.2 hgo.1 hI.nd hI.lt (by omega)
            have IHq := fun H hM hb => IH q Mk l (.out (.out mC)) (.out (.out mI)) (.out (.out fC)) (.out (.loc m)) H hgo.2 hgo.1 hI.nd (fun x hx => by have := hI.lt x hx; omega) (by omega) (by omega) hM hb ⟨fun e => h9.cI (by injection e with e; injection e), (fun e => by injection e with e; cases e), fun e => h9.fI (by injection e with e; injection e), (fun e => by injection e with e; cases e), (fun e => by injection e with e; cases e)⟩
            have hown2 := hpp _ hfp
            have hfl := hfp.length_le
            have hl2 := ownF_len l hfl
            generalize folW (marks c) W N q Mk = S at IHq hown2 hfl hl2
            rw [← hown2]
            generalize ownF l Mk S = l' at IHq hl2
            obtain ⟨s1, s2, s3⟩ := FJ.step (R := S) (l' := l') h9.Io jo j0 jm j2 hm hlp
            refine ⟨_, ?_, s2, s3⟩
            refine VRound.vy' hlp rfl rfl rfl s1 fun l0 => ?_
            refine VRound.tell [(2, .ptr (.out (.out mC)) 0), (4, .fp [.func (.func 81) [] []]), (5, .fp [dints c]), (6, .ptr (.out (.out fC)) 0), (8, .ptr (.out (.loc 0)) 0), (21, I q)] ?_ ?_
            · conv => whnf
              refine Retell.turn ⟨[], 0, [], []⟩ (TurnOk.mk' _ _ [] [] (OutOk.lift _) rfl (by decide) zb trivial trivial rfl) zw zm
            · conv => whnf
              repeat (first | ((first | refine zs1 ?_ | refine zs2 ?_ | refine zs3 ?_ | refine zs4 ?_ | refine zs5 ?_ | refine zs6 [] ?_); conv => whnf))
              refine VBegin.intro (get_out hlp _) rfl ?_
              conv => whnf
              refine zs6 [] ?_
              conv => whnf
              repeat' (first | ((first | refine zs1 ?_ | refine zs2 ?_ | refine zs3 ?_ | refine zs4 ?_ | refine zs5 ?_); conv => whnf) | ((first | apply zi1 | apply zi2 | apply zi3 | apply zi4 | apply zi5) <;> intro _ <;> conv => whnf) | (refine VLd.cell rfl rfl (get_setO (hno _ _) kmc _) rfl ?_; conv => whnf) | (refine VLd.recc encB_len q 0 rfl rfl (get_setO (hno _ _) kmi _) hqm (by decide) rfl (ofs _) ?_; conv => whnf) | (refine VAny.ix encI_len q rfl rfl hx ?_; conv => whnf) | (refine VCall.intro (cSq _) ?_; conv => whnf))
              repeat' (first | ((first | refine zs1 ?_ | refine zs2 ?_ | refine zs3 ?_ | refine zs4 ?_ | refine zs5 ?_); conv => whnf) | ((first | apply zi1 | apply zi2 | apply zi3 | apply zi4 | apply zi5) <;> intro _ <;> conv => whnf) | (refine VLd.cell rfl rfl (get_setO (hno _ _) kfc _) rfl ?_; conv => whnf) | (refine VLd.cell rfl rfl (get_setO (by decide) j0 _) rfl ?_; conv => whnf))
              refine VCall.intro (IHq _ ⟨get_setO (hno _ _) kmc _, get_setO (hno _ _) kmi _, get_setO (hno _ _) kfc _⟩ (get_setO hm3 jm _)) ?_
              conv => whnf
              repeat' (first | ((first | refine zs1 ?_ | refine zs2 ?_ | refine zs3 ?_ | refine zs4 ?_ | refine zs5 ?_); conv => whnf) | ((first | apply zi1 | apply zi2 | apply zi3 | apply zi4 | apply zi5) <;> intro _ <;> conv => whnf))
              refine VMem.st1 rfl rfl rfl (b := .cells true [.gl (.out (.loc m)) 1 l.length]) (get_outNe (fun e => hm0 e.symm) (get_outNe (fun e => by cases e) (get_setO (by decide) j0 _))) rfl ?_
              conv => whnf
              repeat' (first | ((first | refine zs1 ?_ | refine zs2 ?_ | refine zs3 ?_ | refine zs4 ?_ | refine zs5 ?_); conv => whnf) | ((first | apply zi1 | apply zi2 | apply zi3 | apply zi4 | apply zi5) <;> intro _ <;> conv => whnf))
              refine RFin.on (get_outNe (by decide) (get_outNe (fun e => hm3 e.symm) (get_outNe (fun e => by cases e) (outW_get _ _ _ _)))) ?_
              refine VOut.upd (upF mI c.length S m (.cells true [.gl g.fresh 1 l'.length])) [.flat true (l'.flatMap encI)] [0] 1 ?_ (upF_ok kmi jm j0) ?_ ?_ ?_ ?_ ?_
              · rfl
              · decide
              · rfl
              · intro k' b' hk'
                cases k' with
                | zero => rw [List.getElem?_cons_zero, Option.some.injEq] at hk'; subst hk'; exact ⟨0, rfl, rfl⟩
                | succ k' => simp at hk'
              · intro σ x hx; exact hx
              · have e1 : (Blk.cells true [V.gl g.fresh 1 l'.length]).ren (backR g.loc.length [0] 1) = .cells true [.gl (.loc 0) 1 l'.length] := by simp [Blk.ren, V.ren, backR, Hp.fresh]
                simp only [upF, List.map_cons, List.map_nil, e1]
                exact outer_fix3 (get_out hlp []) (fun e => by cases e) (fun e => hm3 e.symm) (by decide)
          · rw [if_neg hgo, ← hl0]
            refine ⟨g, ?_, ⟨jo, ⟨m, hm, j0, jm⟩, j2⟩, hlp⟩
            have hgo2 : q ∈ Mk ∨ bat (marks c) q = false := by
              by_cases hqM : q ∈ Mk
              · exact .inl hqM
              · right
                cases hb : bat (marks c) q with
                | false => rfl
                | true => exact absurd ⟨hqM, hb⟩ hgo
            rcases hgo2 with hb | hb
            all_goals (
              first | rw [decide_eq_true hb] at hqm | rw [hb] at cSq
              refine VRound.vy' hlp rfl rfl rfl g.grows_refl fun l0 => ?_
              refine VRound.tell [(2, .ptr (.out (.out mC)) 0), (4, .fp [.func (.func 81) [] []]), (5, .fp [dints c]), (21, I q)] ?_ ?_
              · conv => whnf
                refine Retell.turn ⟨[], 0, [], []⟩ (TurnOk.mk' _ _ [] [] (OutOk.lift _) rfl (by decide) zb trivial trivial rfl) zw zm
              · conv => whnf
                repeat (first | ((first | refine zs1 ?_ | refine zs2 ?_ | refine zs3 ?_ | refine zs4 ?_ | refine zs5 ?_ | refine zs6 [] ?_); conv => whnf))
                refine VBegin.intro (get_out hlp _) rfl ?_
                conv => whnf
                refine zs6 [] ?_
                conv => whnf
                repeat' (first | ((first | refine zs1 ?_ | refine zs2 ?_ | refine zs3 ?_ | refine zs4 ?_ | refine zs5 ?_); conv => whnf) | ((first | apply zi1 | apply zi2 | apply zi3 | apply zi4 | apply zi5) <;> intro _ <;> conv => whnf) | (refine VLd.cell rfl rfl (get_setO (hno _ _) kmc _) rfl ?_; conv => whnf) | (refine VLd.recc encB_len q 0 rfl rfl (get_setO (hno _ _) kmi _) hqm (by decide) rfl (ofs _) ?_; conv => whnf) | (refine VAny.ix encI_len q rfl rfl hx ?_; conv => whnf) | (refine VCall.intro (cSq _) ?_; conv => whnf))
                all_goals first
                  | exact RFin.on (outW_get _ _ _ _) (VOut.back (get_out hlp []) rfl)
                  | contradiction
                  | skip)
        · rintro ⟨go, gl⟩ ⟨jo, ⟨m, hm, j0, jm⟩, j2⟩ hlp
          dsimp only at jo
          subst jo
          rw [← hR] at j0 jm ⊢
          have hlR : M.length ≤ R.length := by
            have := hMI 4 (by omega)
            rw [← hR] at this
            have := this.len
            omega
          have hol2 := ownF_len own hlR
          generalize ownF own M R = l at j0 jm hol2 hgrow ⊢
          have j0 : gl[0]? = some _ := j0
          have jm : gl[m]? = some _ := jm
          have j2 : gl[2]? = some _ := j2
          have l0 := (List.getElem?_eq_some_iff.1 j0).1
          have lm := (List.getElem?_eq_some_iff.1 jm).1
          have key : ∀ (x : Nat) (A : Blk), x ≠ 3 → (gl.set 3 A)[x]? = gl[x]? := fun x A hx => List.getElem?_set_ne (Ne.symm hx)
          have hmn : ([0, m] : List Nat).Nodup := by simp; omega
          have hm4 : 2 ∉ ([0, m] : List Nat) := by simp; omega
          refine Told.mk [(8, .ptr (.loc 0) 0)] [.cells true [.gl (.loc 1) 1 l.length], .flat true (l.flatMap encI)] (marks' := []) ?_ ?_
          · conv => whnf
            refine Retell.turn ⟨[0, m], gl.length, [], []⟩ (TurnOk.mk' _ _ [] [] OutOk.oF (Nat.ble_eq_true_of_le (by simp)) hmn (BTos.cells (blt_of l0) ((key 0 _ (by decide)).trans j0) rfl zw (BTos.flat (blt_of lm) ((key m _ (by omega)).trans jm) rfl BTos.nil)) trivial trivial rfl) zw (MkTo.drop hm4 ((key 2 _ (by decide)).trans j2) MkTo.nil)
          · conv => whnf
            repeat' (first | ((first | refine zs1 ?_ | refine zs2 ?_ | refine zs3 ?_ | refine zs4 ?_ | refine zs5 ?_); conv => whnf) | ((first | apply zi1 | apply zi2 | apply zi3 | apply zi4 | apply zi5) <;> intro _ <;> conv => whnf))
            refine VOut.upd [(mI, .flat true ((metB c.length R).flatMap encB)), (oI, .dead)] [.flat true (l.flatMap encI)] [1] 2 ?_ ?_ ?_ ?_ ?_ ?_ ?_
            · rfl
            · intro e he
              simp only [List.mem_cons, List.not_mem_nil, or_false] at he
              rcases he with rfl | rfl <;> simp only
              · rw [h7.mi]; simp
              · rw [h8]; simp
            · decide
            · rfl
            · intro k' b' hk'
              cases k' with
              | zero => rw [List.getElem?_cons_zero, Option.some.injEq] at hk'; subst hk'; exact ⟨1, rfl, rfl⟩
              | succ k' => simp at hk'
            · intro σ x hx
              have : (V.gl h.fresh 1 l.length).ren (backR h.loc.length [1] 2) = .gl (.loc 1) 1 l.length := by simp [V.ren, backR, Hp.fresh]
              rw [this]; exact hx
            · rfl
end Go.Proofs.Ytkbbfeljlepgoaa

open Go.Vm
open Riv
namespace Go.Proofs.Ytkbbfeljlepgoaa
set_option maxRecDepth 20000
set_option maxHeartbeats 4000000

theorem vc_chg1 (b : Bool) (h : Hp) : VC Try.prog 89 [B b] h (B b) h := by
  refine VC.body Try.func89 rfl Try.ntmps89 Try.call89 (h.grows_refl) rfl ?_; conv => whnf
  repeat' (first | ((first | refine zs1 ?_ | refine zs2 ?_ | refine zs3 ?_ | refine zs4 ?_ | refine zs5 ?_ | refine zs6 [] ?_); conv => whnf) | ((first | apply zi1 | apply zi2 | apply zi3 | apply zi4 | apply zi5) <;> intro _ <;> conv => whnf))
  exact VOut.same rfl
theorem bat_get {mk : List Bool} {q : Nat} (h : q < mk.length) : mk[q]? = some (bat mk q) := by
  unfold bat; rw [List.getD_eq_getElem?_getD, List.getElem?_eq_getElem h]; rfl
def vFolB (w hh : Int) (c : List Int) (mk : List Bool) (mC fC : Vm.Id) : V := .func (.func 98) [] [.ptr mC 0, .fp [DI w, DI hh, dints c], .fp [.func (.func 89) [] []], .fp [dbools mk], .ptr fC 0]
structure MemB (w hh : Int) (c : List Int) (mk : List Bool) (mC mI fC : Vm.Id) (M : List Nat) (h : Hp) : Prop where
  mc : h.get mC = some (.cells true [.gl mI 1 mk.length])
  mi : h.get mI = some (.flat true ((metB mk.length M).flatMap encB))
  fc : h.get fC = some (.cells true [vFolB w hh c mk mC fC])
structure DjtB (mC mI fC oI : Vm.Id) : Prop where
  cI : mC ≠ mI
  co : mC ≠ oI
  fI : fC ≠ mI
  fo : fC ≠ oI
  Io : mI ≠ oI
def effB (h : Hp) (mI oI : Vm.Id) (L : Nat) (R : List Nat) (l : List Int) : Hp := (h.sets [(mI, .flat true ((metB L R).flatMap encB)), (oI, .dead)]).pushes [.flat true (l.flatMap encI)]
theorem vc_folB {W H : Nat} (m : Mp) (mk : List Bool) (o : MOk W H m.c) (hw : m.w = W) (hmk : mk.length = m.c.length) : ∀ (N n : Nat) (M : List Nat) (own : List Int) (mC mI fC oI : Vm.Id) (h : Hp), bat mk n = true → n ∉ M → M.Nodup → (∀ x ∈ M, x < m.c.length) → m.c.length ≤ N + M.length → own.length ≤ M.length →
    MemB m.w m.h m.c mk mC mI fC M h → h.get oI = some (.flat true (own.flatMap encI)) → DjtB mC mI fC oI →
    VC Try.prog 98 [I n, .gl oI 1 own.length, .ptr mC 0, .fp (encM m), .fp [.func (.func 89) [] []], .fp [dbools mk], .ptr fC 0] h (.gl h.fresh 1 (ownF own M (folW mk W N n M)).length) (effB h mI oI mk.length (folW mk W N n M) (ownF own M (folW mk W N n M)))
  | 0, n, M, own, mC, mI, fC, oI, h, h1, h2, h3, h4, h5, h6, h7, h8, h9 => by
    have h10 := nodup_len m.c.length (M ++ [n]) (by
      rw [List.nodup_append]
      exact ⟨h3, by simp, fun a ha b hb => by simp at hb; subst hb; intro e; subst e; exact h2 ha⟩) fun x hx => by
      rcases List.mem_append.1 hx with hx | hx
      · exact h4 x hx
      · simp at hx; subst hx; have := bat_lt h1; omega
    rw [List.length_append, List.length_singleton] at h10
    omega
  | N + 1, n, M, own, mC, mI, fC, oI, h, h1, h2, h3, h4, h5, h6, h7, h8, h9 => by
    have IH := fun n M own mC mI fC oI h => vc_folB m mk o hw hmk N n M own mC mI fC oI h
    have hWb := o.w
    have hHb := o.h
    have hL := o.len
    have hm144 := MOk.le o
    have cB := fun n h => vc_beside m n h
    have itB := fun n hn => iter_beside m W n (by omega) hw hn (by omega)
    have hnl := bat_lt h1
    have hR : folW mk W (N + 1) n M = folL mk (folW mk W N) (nbs W mk.length n) (M ++ [n]) := rfl
    rw [← folL_fold, ← nbF_all] at hR
    have hmi0 : MI mk.length (M ++ [n]) (M ++ [n]) := by
      refine ⟨List.prefix_refl _, ?_, fun x hx => ?_⟩
      · rw [List.nodup_append]
        exact ⟨h3, by simp, fun a ha b hb => by simp at hb; subst hb; intro e; subst e; exact h2 ha⟩
      · rcases List.mem_append.1 hx with hx | hx
        · rw [hmk]; exact h4 x hx
        · simp at hx; subst hx; exact hnl
    have hMI := fun j hj => nbM_ok (mk := mk) (N := N) (n := n) (W := W) (H := H) (by omega) (by rw [hmk]; exact hL) hmi0 (by rw [List.length_append, List.length_singleton, hmk]; omega) j hj
    have hMl : (M ++ [n]).length = M.length + 1 := by simp
    have hfo : ∀ k M, bat mk k = true → k ∉ M → M.Nodup → (∀ x ∈ M, x < mk.length) → mk.length ≤ N + M.length → M <+: folW mk W N k M := fun k M a1 a2 a3 a4 a5 => (folW_mi (by omega) (by rw [hmk]; exact hL) a1 a2 a3 a4 a5).1.pre
    have hpre0 : M <+: M ++ [n] := List.prefix_append _ _
    obtain ⟨R, hRe⟩ : ∃ R, R = folW mk W (N + 1) n M := ⟨_, rfl⟩
    rw [← hRe] at hR ⊢
    clear hRe
    have hset := metB_set (L := mk.length) M (n := n) (by exact hnl)
    have hmat := metB_at (L := mk.length) (k := n) M (by exact hnl)
    have hown1 := ownF_one own M n
    have hgrow : h.grows (effB h mI oI mk.length R (ownF own M R)) := by
      refine Hp.grows_sets fun e he => ?_
      simp only [List.mem_cons, List.not_mem_nil, or_false] at he
      rcases he with rfl | rfl <;> simp only
      · rw [h7.mi]; simp
      · rw [h8]; simp
    obtain ⟨mw, mh, c⟩ := m
    dsimp only at *
    subst hw
    show VC Try.prog 98 [I n, .gl oI 1 own.length, .ptr mC 0, .fp [DI W, DI mh, dints c], .fp [.func (.func 89) [] []], .fp [dbools mk], .ptr fC 0] h _ _
    refine VC.bodyC 3 Try.func98 rfl Try.ntmps98 Try.call98 hgrow rfl ?_
    conv => whnf
    have hno : ∀ (i : Vm.Id) (j : Nat), Vm.Id.out i ≠ .loc j := fun _ _ e => by cases e
    have hMle := hmi0.len.2
    repeat' (first | ((first | refine zs1 ?_ | refine zs2 ?_ | refine zs3 ?_ | refine zs4 ?_ | refine zs5 ?_); conv => whnf) | ((first | apply zi1 | apply zi2 | apply zi3 | apply zi4 | apply zi5) <;> intro _ <;> conv => whnf) | (refine VLd.cell rfl rfl (get_out h7.mc _) rfl ?_; conv => whnf))
    refine VMem.setRec encB_len n 0 true rfl rfl (get_out h7.mi _) hmat (by decide) rfl (ofs _) ?_
    rw [hset]
    conv => whnf
    repeat' (first | ((first | refine zs1 ?_ | refine zs2 ?_ | refine zs3 ?_ | refine zs4 ?_ | refine zs5 ?_); conv => whnf) | ((first | apply zi1 | apply zi2 | apply zi3 | apply zi4 | apply zi5) <;> intro _ <;> conv => whnf))
    refine VMem.app1B (α := Int) (l := own) (n : Int) encI_len rfl (get_outNe (fun e => h9.Io e.symm) (get_out h8 _)) rfl rfl rfl (by omega) ?_
    rw [← hown1]
    conv => whnf
    repeat' (first | ((first | refine zs1 ?_ | refine zs2 ?_ | refine zs3 ?_ | refine zs4 ?_ | refine zs5 ?_); conv => whnf) | ((first | apply zi1 | apply zi2 | apply zi3 | apply zi4 | apply zi5) <;> intro _ <;> conv => whnf))
    have hol : own.length + 1 = (ownF own M (M ++ [n])).length := by rw [hown1, List.length_append, List.length_singleton]
    refine VCut.atO (outer := oF h.lift mI oI mk.length (M ++ [n])) (marks := []) 99 [(0, I n), (2, .ptr (.out mC) 0), (3, .fp [DI W, DI mh, dints c]), (4, .fp [.func (.func 89) [] []]), (5, .fp [dbools mk]), (6, .ptr (.out fC) 0), (8, .ptr (.loc 0) 0)] [.cells true [.gl (.loc 1) 1 (own.length + 1)], .flat true ((ownF own M (M ++ [n])).flatMap encI)] rfl ?_ ?_
    · generalize ownF own M (M ++ [n]) = o1
      conv => whnf
      refine Retell.turn ⟨[0, 2], 3, [], []⟩ (TurnOk.mk' _ _ [] [] OutOk.oF rfl (by decide) zb trivial trivial rfl) zw zm
    · conv => whnf
      repeat' (first | ((first | refine zs1 ?_ | refine zs2 ?_ | refine zs3 ?_ | refine zs4 ?_ | refine zs5 ?_); conv => whnf) | ((first | apply zi1 | apply zi2 | apply zi3 | apply zi4 | apply zi5) <;> intro _ <;> conv => whnf) | (refine VCall.intro (cB n _) ?_; conv => whnf))
      refine VCode.tell [(2, .ptr (.out mC) 0), (4, .fp [.func (.func 89) [] []]), (5, .fp [dbools mk]), (6, .ptr (.out fC) 0), (8, .ptr (.loc 0) 0), (20, vBes ⟨W, mh, c⟩ n)] [.cells true [.gl (.loc 1) 1 (own.length + 1)], .flat true ((ownF own M (M ++ [n])).flatMap encI)] (marks' := []) ?_ ?_
      · generalize ownF own M (M ++ [n]) = o1
        conv => whnf
        refine Retell.turn ⟨[0, 1], 2, [], []⟩ (TurnOk.mk' _ _ [] [] OutOk.oF rfl (by decide) zb trivial trivial rfl) zw zm
      · conv => whnf
        refine VCode.iterS 4 (nbY W c.length n) (fun j g => GJ (oF h.lift mI oI mk.length (nbF (folS mk (folW mk W N)) W mk.length n (M ++ [n]) j)) (ownF own M (nbF (folS mk (folW mk W N)) W mk.length n (M ++ [n]) j)) g) _ (.loc 3) rfl (itB n (by omega)) rfl rfl ⟨rfl, ⟨1, .inl rfl, by rw [nbF_zero, ← hol]; rfl, rfl⟩, rfl⟩ ?_ ?_ ?_
        · rintro j g hj hy hJ
          rw [nbF_none (by rw [hmk]; exact nbY_none hy)]; exact hJ
        · rintro j g vs hj hy hJ hlp
          obtain ⟨q, hq, rfl⟩ := nbY_some hy
          have hqc : q < mk.length := by
            have := ((nbs_iff (by omega) hL (by omega)).1 (nbO_mem hj hq)).1
            omega
          rw [← hmk] at hq
          rw [nbF_some hq]
          have hI := hMI j (by omega)
          generalize nbF (folS mk (folW mk W N)) W mk.length n (M ++ [n]) j = Mk at hJ hI
          have hpreM : M <+: Mk := hpre0.trans hI.pre
          have hlenM := hI.len
          have hlown := ownF_len own hpreM.length_le
          have hpp := fun S (hS : Mk <+: S) => ownF_ownF own hpreM hS
          obtain ⟨jo, ⟨m, hm, j0, jm⟩, j2⟩ := hJ
          obtain ⟨l, hl0⟩ : ∃ l, l = ownF own M Mk := ⟨_, rfl⟩
          rw [← hl0] at j0 jm hlown
          simp only [← hl0] at hpp
          have kmc : g.get (.out mC) = some ((Blk.cells true [.gl mI 1 mk.length]).ren .out) := by
            show g.outer mC = _
            rw [jo]; exact oF_oth h9.cI h9.co [] (get_out h7.mc [])
          have kfc : g.get (.out fC) = some ((Blk.cells true [vFolB W mh c mk mC fC]).ren .out) := by
            show g.outer fC = _
            rw [jo]; exact oF_oth h9.fI h9.fo [] (get_out h7.fc [])
          have kmi : g.get (.out mI) = some (.flat true ((metB mk.length Mk).flatMap encB)) := by
            show g.outer mI = _
            rw [jo]; exact oF_met h9.Io []
          have hqm := metB_at Mk hqc
          have hx := bat_get hqc
          have cSq := fun h => vc_chg1 (bat mk q) h
          unfold folS
          have hm0 : Vm.Id.loc m ≠ .loc 0 := by intro h0; injection h0; omega
          have hm3 : Vm.Id.loc m ≠ .loc 3 := by intro h0; injection h0; omega
          by_cases hgo : q ∉ Mk ∧ bat mk q = true
          · rw [if_pos hgo]
            rw [decide_eq_false hgo.1] at hqm
            rw [hgo.2] at hx cSq
            have hfp := hfo q Mk hgo.2 hgo.1 hI.nd hI.lt (by omega)
            have IHq := fun H hM hb => IH q Mk l (.out (.out mC)) (.out (.out mI)) (.out (.out fC)) (.out (.loc m)) H hgo.2 hgo.1 hI.nd (fun x hx => by have := hI.lt x hx; omega) (by omega) (by omega) hM hb ⟨fun e => h9.cI (by injection e with e; injection e), (fun e => by injection e with e; cases e), fun e => h9.fI (by injection e with e; injection e), (fun e => by injection e with e; cases e), (fun e => by injection e with e; cases e)⟩
            have hown2 := hpp _ hfp
            have hfl := hfp.length_le
            have hl2 := ownF_len l hfl
            generalize folW mk W N q Mk = S at IHq hown2 hfl hl2
            rw [← hown2]
            generalize ownF l Mk S = l' at IHq hl2
            obtain ⟨s1, s2, s3⟩ := FJ.step (R := S) (l' := l') h9.Io jo j0 jm j2 hm hlp
            refine ⟨_, ?_, s2, s3⟩
            refine VRound.vy' hlp rfl rfl rfl s1 fun l0 => ?_
            refine VRound.tell [(2, .ptr (.out (.out mC)) 0), (4, .fp [.func (.func 89) [] []]), (5, .fp [dbools mk]), (6, .ptr (.out (.out fC)) 0), (8, .ptr (.out (.loc 0)) 0), (21, I q)] ?_ ?_
            · conv => whnf
              refine Retell.turn ⟨[], 0, [], []⟩ (TurnOk.mk' _ _ [] [] (OutOk.lift _) rfl (by decide) zb trivial trivial rfl) zw zm
            · conv => whnf
              repeat (first | ((first | refine zs1 ?_ | refine zs2 ?_ | refine zs3 ?_ | refine zs4 ?_ | refine zs5 ?_ | refine zs6 [] ?_); conv => whnf))
              refine VBegin.intro (get_out hlp _) rfl ?_
              conv => whnf
              refine zs6 [] ?_
              conv => whnf
              repeat' (first | ((first | refine zs1 ?_ | refine zs2 ?_ | refine zs3 ?_ | refine zs4 ?_ | refine zs5 ?_); conv => whnf) | ((first | apply zi1 | apply zi2 | apply zi3 | apply zi4 | apply zi5) <;> intro _ <;> conv => whnf) | (refine VLd.cell rfl rfl (get_setO (hno _ _) kmc _) rfl ?_; conv => whnf) | (refine VLd.recc encB_len q 0 rfl rfl (get_setO (hno _ _) kmi _) hqm (by decide) rfl (ofs _) ?_; conv => whnf) | (refine VAny.ix encB_len q rfl rfl hx ?_; conv => whnf) | (refine VCall.intro (cSq _) ?_; conv => whnf))
              repeat' (first | ((first | refine zs1 ?_ | refine zs2 ?_ | refine zs3 ?_ | refine zs4 ?_ | refine zs5 ?_); conv => whnf) | ((first | apply zi1 | apply zi2 | apply zi3 | apply zi4 | apply zi5) <;> intro _ <;> conv => whnf) | (refine VLd.cell rfl rfl (get_setO (hno _ _) kfc _) rfl ?_; conv => whnf) | (refine VLd.cell rfl rfl (get_setO (by decide) j0 _) rfl ?_; conv => whnf))
              refine VCall.intro (IHq _ ⟨get_setO (hno _ _) kmc _, get_setO (hno _ _) kmi _, get_setO (hno _ _) kfc _⟩ (get_setO hm3 jm _)) ?_
              conv => whnf
              repeat' (first | ((first | refine zs1 ?_ | refine zs2 ?_ | refine zs3 ?_ | refine zs4 ?_ | refine zs5 ?_); conv => whnf) | ((first | apply zi1 | apply zi2 | apply zi3 | apply zi4 | apply zi5) <;> intro _ <;> conv => whnf))
              refine VMem.st1 rfl rfl rfl (b := .cells true [.gl (.out (.loc m)) 1 l.length]) (get_outNe (fun e => hm0 e.symm) (get_outNe (fun e => by cases e) (get_setO (by decide) j0 _))) rfl ?_
              conv => whnf
              repeat' (first | ((first | refine zs1 ?_ | refine zs2 ?_ | refine zs3 ?_ | refine zs4 ?_ | refine zs5 ?_); conv => whnf) | ((first | apply zi1 | apply zi2 | apply zi3 | apply zi4 | apply zi5) <;> intro _ <;> conv => whnf))
              refine RFin.on (get_outNe (by decide) (get_outNe (fun e => hm3 e.symm) (get_outNe (fun e => by cases e) (outW_get _ _ _ _)))) ?_
              refine VOut.upd (upF mI mk.length S m (.cells true [.gl g.fresh 1 l'.length])) [.flat true (l'.flatMap encI)] [0] 1 ?_ (upF_ok kmi jm j0) ?_ ?_ ?_ ?_ ?_
              · rfl
              · decide
              · rfl
              · intro k' b' hk'
                cases k' with
                | zero => rw [List.getElem?_cons_zero, Option.some.injEq] at hk'; subst hk'; exact ⟨0, rfl, rfl⟩
                | succ k' => simp at hk'
              · intro σ x hx; exact hx
              · have e1 : (Blk.cells true [V.gl g.fresh 1 l'.length]).ren (backR g.loc.length [0] 1) = .cells true [.gl (.loc 0) 1 l'.length] := by simp [Blk.ren, V.ren, backR, Hp.fresh]
                simp only [upF, List.map_cons, List.map_nil, e1]
                exact outer_fix3 (get_out hlp []) (fun e => by cases e) (fun e => hm3 e.symm) (by decide)
          · rw [if_neg hgo, ← hl0]
            refine ⟨g, ?_, ⟨jo, ⟨m, hm, j0, jm⟩, j2⟩, hlp⟩
            have hgo2 : q ∈ Mk ∨ bat mk q = false := by
              by_cases hqM : q ∈ Mk
              · exact .inl hqM
              · right
                cases hb : bat mk q with
                | false => rfl
                | true => exact absurd ⟨hqM, hb⟩ hgo
            rcases hgo2 with hb | hb
            all_goals (
              first | rw [decide_eq_true hb] at hqm | rw [hb] at hx cSq
              refine VRound.vy' hlp rfl rfl rfl g.grows_refl fun l0 => ?_
              refine VRound.tell [(2, .ptr (.out (.out mC)) 0), (4, .fp [.func (.func 89) [] []]), (5, .fp [dbools mk]), (21, I q)] ?_ ?_
              · conv => whnf
                refine Retell.turn ⟨[], 0, [], []⟩ (TurnOk.mk' _ _ [] [] (OutOk.lift _) rfl (by decide) zb trivial trivial rfl) zw zm
              · conv => whnf
                repeat (first | ((first | refine zs1 ?_ | refine zs2 ?_ | refine zs3 ?_ | refine zs4 ?_ | refine zs5 ?_ | refine zs6 [] ?_); conv => whnf))
                refine VBegin.intro (get_out hlp _) rfl ?_
                conv => whnf
                refine zs6 [] ?_
                conv => whnf
                repeat' (first | ((first | refine zs1 ?_ | refine zs2 ?_ | refine zs3 ?_ | refine zs4 ?_ | refine zs5 ?_); conv => whnf) | ((first | apply zi1 | apply zi2 | apply zi3 | apply zi4 | apply zi5) <;> intro _ <;> conv => whnf) | (refine VLd.cell rfl rfl (get_setO (hno _ _) kmc _) rfl ?_; conv => whnf) | (refine VLd.recc encB_len q 0 rfl rfl (get_setO (hno _ _) kmi _) hqm (by decide) rfl (ofs _) ?_; conv => whnf) | (refine VAny.ix encB_len q rfl rfl hx ?_; conv => whnf) | (refine VCall.intro (cSq _) ?_; conv => whnf))
                all_goals first
                  | exact RFin.on (outW_get _ _ _ _) (VOut.back (get_out hlp []) rfl)
                  | contradiction
                  | skip)
        · rintro ⟨go, gl⟩ ⟨jo, ⟨m, hm, j0, jm⟩, j2⟩ hlp
          dsimp only at jo
          subst jo
          rw [← hR] at j0 jm ⊢
          have hlR : M.length ≤ R.length := by
            have := hMI 4 (by omega)
            rw [← hR] at this
            have := this.len
            omega
          have hol2 := ownF_len own hlR
          generalize ownF own M R = l at j0 jm hol2 hgrow ⊢
          have j0 : gl[0]? = some _ := j0
          have jm : gl[m]? = some _ := jm
          have j2 : gl[2]? = some _ := j2
          have l0 := (List.getElem?_eq_some_iff.1 j0).1
          have lm := (List.getElem?_eq_some_iff.1 jm).1
          have key : ∀ (x : Nat) (A : Blk), x ≠ 3 → (gl.set 3 A)[x]? = gl[x]? := fun x A hx => List.getElem?_set_ne (Ne.symm hx)
          have hmn : ([0, m] : List Nat).Nodup := by simp; omega
          have hm4 : 2 ∉ ([0, m] : List Nat) := by simp; omega
          refine Told.mk [(8, .ptr (.loc 0) 0)] [.cells true [.gl (.loc 1) 1 l.length], .flat true (l.flatMap encI)] (marks' := []) ?_ ?_
          · conv => whnf
            refine Retell.turn ⟨[0, m], gl.length, [], []⟩ (TurnOk.mk' _ _ [] [] OutOk.oF (Nat.ble_eq_true_of_le (by simp)) hmn (BTos.cells (blt_of l0) ((key 0 _ (by decide)).trans j0) rfl zw (BTos.flat (blt_of lm) ((key m _ (by omega)).trans jm) rfl BTos.nil)) trivial trivial rfl) zw (MkTo.drop hm4 ((key 2 _ (by decide)).trans j2) MkTo.nil)
          · conv => whnf
            repeat' (first | ((first | refine zs1 ?_ | refine zs2 ?_ | refine zs3 ?_ | refine zs4 ?_ | refine zs5 ?_); conv => whnf) | ((first | apply zi1 | apply zi2 | apply zi3 | apply zi4 | apply zi5) <;> intro _ <;> conv => whnf))
            refine VOut.upd [(mI, .flat true ((metB mk.length R).flatMap encB)), (oI, .dead)] [.flat true (l.flatMap encI)] [1] 2 ?_ ?_ ?_ ?_ ?_ ?_ ?_
            · rfl
            · intro e he
              simp only [List.mem_cons, List.not_mem_nil, or_false] at he
              rcases he with rfl | rfl <;> simp only
              · rw [h7.mi]; simp
              · rw [h8]; simp
            · decide
            · rfl
            · intro k' b' hk'
              cases k' with
              | zero => rw [List.getElem?_cons_zero, Option.some.injEq] at hk'; subst hk'; exact ⟨1, rfl, rfl⟩
              | succ k' => simp at hk'
            · intro σ x hx
              have : (V.gl h.fresh 1 l.length).ren (backR h.loc.length [1] 2) = .gl (.loc 1) 1 l.length := by simp [V.ren, backR, Hp.fresh]
              rw [this]; exact hx
            · rfl
end Go.Proofs.Ytkbbfeljlepgoaa


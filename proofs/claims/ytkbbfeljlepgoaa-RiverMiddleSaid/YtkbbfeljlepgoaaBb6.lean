/- Part 6 of the proof that the laws of chapter 05 that are dealt hold of the given program. No condition. -/
import Derived.Test.YtkbbfeljlepgoaaBb5
set_option linter.unusedVariables false
set_option linter.unusedSimpArgs false
namespace Riv
def sideB (c : List Int) (W : Nat) (y : Nat) : Bool := decide (at0 c (y * W) = 1 ∧ at0 c (y * W + W - 1) = 2)
def kindB (c : List Int) : Bool := c.all fun x => decide (0 ≤ x ∧ x ≤ 3)
def chkM (m : Mp) : Int :=
  if ((3 ≤ m.w ∧ m.w ≤ 12) ∧ 1 ≤ m.h ∧ m.h ≤ 12) ∧ (m.c.length : Int) = m.w * m.h then
    (bif kindB m.c then (bif (List.range m.h.toNat).all (sideB m.c m.w.toNat) then 0 else 9) else 4)
  else 3
def chkL : List Mp → Int
  | [] => 0
  | m :: l => if chkM m = 0 then chkL l else chkM m
def sameB (m : Mp) (l : List Mp) : Bool := l.all fun x => decide (x.w = m.w ∧ x.h = m.h)
def chkY (l : List Mp) : Int := if 1 ≤ l.length ∧ l.length ≤ 10 then (if chkL l = 0 then (bif sameB (l.headD ⟨0, 0, []⟩) l then 0 else 2) else chkL l) else 3
theorem chkM_cases (m : Mp) : chkM m = 0 ∨ chkM m = 3 ∨ chkM m = 4 ∨ chkM m = 9 := by
  unfold chkM
  split
  · cases kindB m.c
    · exact .inr (.inr (.inl rfl))
    · cases (List.range m.h.toNat).all (sideB m.c m.w.toNat)
      · exact .inr (.inr (.inr rfl))
      · exact .inl rfl
  · exact .inr (.inl rfl)
theorem chkM_ok {m : Mp} (h : chkM m = 0) : ∃ W H : Nat, m.w = W ∧ m.h = H ∧ MOk W H m.c := by
  unfold chkM at h
  split at h
  · rename_i h1
    obtain ⟨W, eW⟩ : ∃ W : Nat, m.w = W := ⟨m.w.toNat, by omega⟩
    obtain ⟨H, eH⟩ : ∃ H : Nat, m.h = H := ⟨m.h.toNat, by omega⟩
    cases hk : kindB m.c with
    | false => rw [hk] at h; simp at h
    | true =>
      rw [hk, cond_true] at h
      cases hs : (List.range m.h.toNat).all (sideB m.c m.w.toNat) with
      | false => rw [hs] at h; simp at h
      | true =>
        rw [eW, eH, Int.toNat_natCast, Int.toNat_natCast] at hs
        rw [eW, eH] at h1
        refine ⟨W, H, eW, eH, ⟨by omega, by omega⟩, ⟨by omega, by omega⟩, ?_, fun n hn => ?_, fun y hy => ?_⟩
        · have := h1.2
          have e : ((W * H : Nat) : Int) = (W : Int) * H := by rw [Int.natCast_mul]
          omega
        · unfold kindB at hk
          rw [List.all_eq_true] at hk
          have e : at0 m.c n = m.c[n] := by unfold at0; rw [List.getD_eq_getElem?_getD, List.getElem?_eq_getElem hn]; rfl
          rw [e]
          exact of_decide_eq_true (hk _ (List.getElem_mem hn))
        · rw [List.all_eq_true] at hs
          exact of_decide_eq_true (hs y (List.mem_range.2 hy))
  · simp at h
theorem chkM_of {W H : Nat} {c : List Int} (h : MOk W H c) : chkM ⟨W, H, c⟩ = 0 := by
  unfold chkM
  have h1 := h.w; have h2 := h.h; have h3 := h.len
  have e : ((W * H : Nat) : Int) = (W : Int) * H := by rw [Int.natCast_mul]
  rw [if_pos (by dsimp only; refine ⟨by omega, ?_⟩; omega)]
  have hk : kindB c = true := by
    unfold kindB
    rw [List.all_eq_true]
    intro x hx
    obtain ⟨n, hn, rfl⟩ := List.getElem_of_mem hx
    have e : at0 c n = c[n] := by unfold at0; rw [List.getD_eq_getElem?_getD, List.getElem?_eq_getElem hn]; rfl
    rw [← e]
    exact decide_eq_true (h.kind n hn)
  have hs : (List.range H).all (sideB c W) = true := by
    rw [List.all_eq_true]
    intro y hy
    exact decide_eq_true (h.side y (List.mem_range.1 hy))
  dsimp only
  rw [hk, Int.toNat_natCast, Int.toNat_natCast, hs]
  rfl
theorem chkL_zero : ∀ {l : List Mp}, chkL l = 0 → ∀ m ∈ l, chkM m = 0
  | [], _, m, h => by cases h
  | x :: l, h, m, hm => by
    rw [chkL] at h
    by_cases hx : chkM x = 0
    · rw [if_pos hx] at h
      rcases List.mem_cons.1 hm with rfl | hm
      · exact hx
      · exact chkL_zero h m hm
    · rw [if_neg hx] at h; exact absurd h hx
theorem chkL_of : ∀ {l : List Mp}, (∀ m ∈ l, chkM m = 0) → chkL l = 0
  | [], _ => rfl
  | x :: l, h => by rw [chkL, if_pos (h x List.mem_cons_self)]; exact chkL_of fun m hm => h m (List.mem_cons_of_mem _ hm)
theorem chkY_ok {l : List Mp} (h : chkY l = 0) : ∃ W H : Nat, (1 ≤ l.length ∧ l.length ≤ 10) ∧ ∀ m ∈ l, m.w = W ∧ m.h = H ∧ MOk W H m.c := by
  unfold chkY at h
  split at h
  · rename_i h1
    split at h
    · rename_i h2
      cases hs : sameB (l.headD ⟨0, 0, []⟩) l with
      | false => rw [hs] at h; simp at h
      | true =>
        cases l with
        | nil => simp at h1
        | cons m l =>
          obtain ⟨W, H, eW, eH, _⟩ := chkM_ok (chkL_zero h2 m List.mem_cons_self)
          refine ⟨W, H, h1, fun x hx => ?_⟩
          unfold sameB at hs
          rw [List.all_eq_true] at hs
          have g := of_decide_eq_true (hs x hx)
          have g1 : x.w = m.w := g.1
          have g2 : x.h = m.h := g.2
          obtain ⟨W', H', e1, e2, hm⟩ := chkM_ok (chkL_zero h2 x hx)
          have a1 : W' = W := by omega
          have a2 : H' = H := by omega
          subst a1; subst a2
          exact ⟨e1, e2, hm⟩
    · rename_i h2; exact absurd h h2
  · simp at h
theorem chkY_of {W H : Nat} {l : List Mp} (h1 : 1 ≤ l.length ∧ l.length ≤ 10) (h : ∀ m ∈ l, m.w = W ∧ m.h = H ∧ MOk W H m.c) : chkY l = 0 := by
  unfold chkY
  have hz : ∀ m ∈ l, chkM m = 0 := fun m hm => by
    obtain ⟨e1, e2, g⟩ := h m hm
    have := chkM_of g
    rw [← e1, ← e2] at this
    exact this
  rw [if_pos h1, if_pos (chkL_of hz)]
  have hs : sameB (l.headD ⟨0, 0, []⟩) l = true := by
    cases l with
    | nil => simp at h1
    | cons m l =>
      unfold sameB
      rw [List.all_eq_true]
      intro x hx
      have g := h x hx
      have f := h m List.mem_cons_self
      exact decide_eq_true ⟨g.1.trans f.1.symm, g.2.1.trans f.2.1.symm⟩
  rw [hs]; rfl
def cellsY (l : List Mp) : List (List Int) := l.map fun m => m.c
theorem cellsY_ok {W H : Nat} {l : List Mp} (h : ∀ m ∈ l, m.w = W ∧ m.h = H ∧ MOk W H m.c) : ∀ c ∈ cellsY l, MOk W H c := by
  intro c hc
  obtain ⟨m, hm, rfl⟩ := List.mem_map.1 hc
  exact (h m hm).2.2
end Riv

open Go.Vm
open Riv
namespace Go.Proofs.Ytkbbfeljlepgoaa
set_option maxRecDepth 20000
set_option maxHeartbeats 2000000

def vM (m : Mp) : V := .agg [I m.w, I m.h, ints m.c]
def encM (m : Mp) : List D := [DI m.w, DI m.h, .sl 1 m.c.length (m.c.flatMap encI)]
theorem encM_len (m : Mp) : (encM m).length = 3 := rfl
def vSd (m : Mp) (s : Int) : V := .agg [I m.w, I m.h, ints m.c, I s]
def vSh (x : Riv.Sh) : V := .agg [I x.f, I x.o, B x.nr]
end Go.Proofs.Ytkbbfeljlepgoaa

open Go.Vm
open Riv
namespace Go.Proofs.Ytkbbfeljlepgoaa
set_option maxRecDepth 20000
set_option maxHeartbeats 4000000

theorem vc_from (n a b : Int) (h : Hp) : VC Try.prog 59 [I n, I a, I b] h (B (decide (a ≤ n ∧ n ≤ b))) h := by
  refine VC.body Try.func59 rfl Try.ntmps59 Try.call59 (h.grows_refl) rfl ?_; conv => whnf
  repeat' (first | ((first | refine zs1 ?_ | refine zs2 ?_ | refine zs3 ?_ | refine zs4 ?_ | refine zs5 ?_ | refine zs6 [] ?_); conv => whnf) | ((first | apply zi1 | apply zi2 | apply zi3 | apply zi4 | apply zi5) <;> intro _ <;> conv => whnf))
  all_goals (refine VOut.same ?_; simp [V.ren]; try omega)
theorem vc_rbeside (n a b : Int) (h : Hp) : VC Try.prog 71 [I n, I a, I b] h (B (decide (n < a ∨ b < n))) h := by
  refine VC.body Try.func71 rfl Try.ntmps71 Try.call71 (h.grows_refl) rfl ?_; conv => whnf
  repeat' (first | ((first | refine zs1 ?_ | refine zs2 ?_ | refine zs3 ?_ | refine zs4 ?_ | refine zs5 ?_ | refine zs6 [] ?_); conv => whnf) | ((first | apply zi1 | apply zi2 | apply zi3 | apply zi4 | apply zi5) <;> intro _ <;> conv => whnf))
  all_goals (refine VOut.same ?_; simp [V.ren]; try omega)
theorem vc_cell (m : Mp) (n : Int) (h : Hp) (hl : m.c.length ≤ 4000000) : VC Try.prog 57 [vM m, I n] h (B (decide (0 ≤ n ∧ n ≤ (m.c.length : Int) - 1))) h := by
  refine VC.body Try.func57 rfl Try.ntmps57 Try.call57 (h.grows_refl) rfl ?_; conv => whnf
  repeat' (first | ((first | refine zs1 ?_ | refine zs2 ?_ | refine zs3 ?_ | refine zs4 ?_ | refine zs5 ?_ | refine zs6 [] ?_); conv => whnf) | ((first | apply zi1 | apply zi2 | apply zi3 | apply zi4 | apply zi5) <;> intro _ <;> conv => whnf) | (refine VCall.intro (vc_from _ _ _ _) ?_; conv => whnf))
  exact VOut.same rfl
theorem vc_whose (a b : Int) (h : Hp) : VC Try.prog 86 [I a, I b] h (I (ownr a b)) h := by
  obtain ⟨E, hE⟩ : ∃ E, E = ownr a b := ⟨_, rfl⟩
  rw [← hE]
  unfold ownr at hE
  refine VC.body Try.func86 rfl Try.ntmps86 Try.call86 (h.grows_refl) rfl ?_; conv => whnf
  repeat' (first | ((first | refine zs1 ?_ | refine zs2 ?_ | refine zs3 ?_ | refine zs4 ?_ | refine zs5 ?_ | refine zs6 [] ?_); conv => whnf) | ((first | apply zi1 | apply zi2 | apply zi3 | apply zi4 | apply zi5) <;> intro _ <;> conv => whnf))
  all_goals first
    | (rw [if_pos (by omega)] at hE; rw [hE]; exact VOut.same rfl)
    | (rw [if_neg (by omega), if_pos (by omega)] at hE; rw [hE]; exact VOut.same rfl)
    | (rw [if_neg (by omega), if_neg (by omega), if_pos (by omega)] at hE; rw [hE]; exact VOut.same rfl)
    | (rw [if_neg (by omega), if_neg (by omega), if_neg (by omega)] at hE; rw [hE]; exact VOut.same rfl)
theorem vc_lesser (a b : Int) (h : Hp) : VC Try.prog 85 [I a, I b] h (I (if a = -1 ∨ (b ≠ -1 ∧ b < a) then b else a)) h := by
  obtain ⟨E, hE⟩ : ∃ E, E = (if a = -1 ∨ (b ≠ -1 ∧ b < a) then b else a) := ⟨_, rfl⟩
  rw [← hE]
  refine VC.body Try.func85 rfl Try.ntmps85 Try.call85 (h.grows_refl) rfl ?_; conv => whnf
  repeat' (first | ((first | refine zs1 ?_ | refine zs2 ?_ | refine zs3 ?_ | refine zs4 ?_ | refine zs5 ?_ | refine zs6 [] ?_); conv => whnf) | ((first | apply zi1 | apply zi2 | apply zi3 | apply zi4 | apply zi5) <;> intro _ <;> conv => whnf))
  all_goals first
    | (rw [if_pos (by omega)] at hE; rw [hE]; exact VOut.same rfl)
    | (rw [if_neg (by omega)] at hE; rw [hE]; exact VOut.same rfl)
theorem vc_least (l : List Int) (h : Hp) (hl : l.length ≤ 4000000) : VC Try.prog 76 [ints l] h (I (leastL l)) h := by
  obtain ⟨E, hE⟩ : ∃ E, E = leastL l := ⟨_, rfl⟩
  rw [← hE]
  unfold leastL at hE
  refine VC.body Try.func76 rfl Try.ntmps76 Try.call76 (h.grows_refl) rfl ?_; conv => whnf
  repeat' (first | ((first | refine zs1 ?_ | refine zs2 ?_ | refine zs3 ?_ | refine zs4 ?_ | refine zs5 ?_ | refine zs6 [] ?_); conv => whnf) | ((first | apply zi1 | apply zi2 | apply zi3 | apply zi4 | apply zi5) <;> intro _ <;> conv => whnf))
  refine VCode.lp (fun y : Nat × Int => [(3, I y.2), (6, ints l), (7, I l.length), (8, I y.1)]) (fun _ => []) (fun y => y.1 ≤ l.length ∧ E = (l.drop y.1).foldl ls1 y.2) (fun y => l.length - y.1) (0, -1) ⟨Nat.zero_le _, hE⟩ ?_ ?_
  · conv => whnf
    refine Retell.turn ⟨[], 0, [], []⟩ (TurnOk.mk' _ _ [] [] (OutOk.lift _) rfl (by decide) zb trivial trivial rfl) zw zm
  · rintro ⟨k, o⟩ ⟨h4, h5⟩
    dsimp only at h4 h5
    conv => whnf
    refine VIte.dec (fun h6 => ?_) (fun h6 => ?_)
    · have hk : l[k]? = some l[k] := List.getElem?_eq_getElem (by omega)
      rw [List.drop_eq_getElem_cons (by omega), List.foldl_cons] at h5
      generalize l[k] = x at hk h5
      have hs : ls1 o x = if x ≠ -1 ∧ (o = -1 ∨ x < o) then x else o := rfl
      conv => whnf
      refine VAny.ix encI_len k rfl rfl hk ?_
      conv => whnf
      repeat' (first | ((first | refine zs1 ?_ | refine zs2 ?_ | refine zs3 ?_ | refine zs4 ?_ | refine zs5 ?_ | refine zs6 [] ?_); conv => whnf) | ((first | apply zi1 | apply zi2 | apply zi3 | apply zi4 | apply zi5) <;> intro _ <;> conv => whnf))
      all_goals first
        | (rw [if_pos (by omega)] at hs; rw [hs] at h5
           refine LEnd.intro (k + 1, x) ⟨by dsimp only; omega, h5⟩ (by dsimp only; omega) ?_
           conv => whnf
           refine Retell.turn ⟨[], 0, [], []⟩ (TurnOk.mk' _ _ [] [] (OutOk.lift _) rfl (by decide) zb trivial trivial rfl) zw zm)
        | (rw [if_neg (by omega)] at hs; rw [hs] at h5
           refine LEnd.intro (k + 1, o) ⟨by dsimp only; omega, h5⟩ (by dsimp only; omega) ?_
           conv => whnf
           refine Retell.turn ⟨[], 0, [], []⟩ (TurnOk.mk' _ _ [] [] (OutOk.lift _) rfl (by decide) zb trivial trivial rfl) zw zm)
    · rw [List.drop_of_length_le (by omega)] at h5
      rw [h5]
      conv => whnf
      repeat' (first | ((first | refine zs1 ?_ | refine zs2 ?_ | refine zs3 ?_ | refine zs4 ?_ | refine zs5 ?_ | refine zs6 [] ?_); conv => whnf) | ((first | apply zi1 | apply zi2 | apply zi3 | apply zi4 | apply zi5) <;> intro _ <;> conv => whnf))
      exact VOut.same rfl
end Go.Proofs.Ytkbbfeljlepgoaa

open Go.Vm
open Riv
namespace Go.Proofs.Ytkbbfeljlepgoaa
set_option maxRecDepth 20000
set_option maxHeartbeats 4000000

theorem vc_nearer (a b : Int) (h : Hp) : VC Try.prog 82 [I a, I b] h (I (ownr a b)) h := by
  obtain ⟨E, hE⟩ : ∃ E, E = ownr a b := ⟨_, rfl⟩
  rw [← hE]
  have hl := ownr_least a b
  obtain ⟨m, hm⟩ : ∃ m, m = leastL [a, b] := ⟨_, rfl⟩
  rw [← hm] at hl
  rw [← hE] at hl
  have cL := fun h => vc_least [a, b] h (by simp)
  rw [← hm] at cL
  unfold ownr at hE
  refine VC.body Try.func82 rfl Try.ntmps82 Try.call82 (h.grows_refl) rfl ?_; conv => whnf
  repeat' (first | ((first | refine zs1 ?_ | refine zs2 ?_ | refine zs3 ?_ | refine zs4 ?_ | refine zs5 ?_ | refine zs6 [] ?_); conv => whnf) | ((first | apply zi1 | apply zi2 | apply zi3 | apply zi4 | apply zi5) <;> intro _ <;> conv => whnf))
  all_goals try (
    refine VCall.intro (VC.give (args' := [ints [a, b]]) (loc' := [.dead]) [(0, [a, b].flatMap Vm.encI)] [] (OutOk.lift _) zb zf (by exact FmAll.nil) rfl zw (cL _)) ?_
    conv => whnf
    repeat' (first | ((first | refine zs1 ?_ | refine zs2 ?_ | refine zs3 ?_ | refine zs4 ?_ | refine zs5 ?_ | refine zs6 [] ?_); conv => whnf) | ((first | apply zi1 | apply zi2 | apply zi3 | apply zi4 | apply zi5) <;> intro _ <;> conv => whnf)))
  all_goals first
    | (rw [if_pos (by omega)] at hE; rw [hE]; exact VOut.same rfl)
    | (rw [if_neg (by omega), if_pos (by omega)] at hE; rw [hE]; exact VOut.same rfl)
    | (rw [hl (by omega), if_pos (by omega)]; exact VOut.same rfl)
    | (rw [hl (by omega), if_neg (by omega)]; exact VOut.same rfl)
end Go.Proofs.Ytkbbfeljlepgoaa

open Go.Vm
open Riv
namespace Go.Proofs.Ytkbbfeljlepgoaa
set_option maxRecDepth 20000
set_option maxHeartbeats 4000000

theorem vc_through (m : Mp) (s x : Int) (k : Nat) (h : Hp) (hk : m.c[k]? = some x) : VC Try.prog 75 [vSd m s, I k] h (B (decide (x = 0 ∨ x = s))) h := by
  refine VC.body Try.func75 rfl Try.ntmps75 Try.call75 (h.grows_refl) rfl ?_; conv => whnf
  repeat' (first | ((first | refine zs1 ?_ | refine zs2 ?_ | refine zs3 ?_ | refine zs4 ?_ | refine zs5 ?_ | refine zs6 [] ?_); conv => whnf) | ((first | apply zi1 | apply zi2 | apply zi3 | apply zi4 | apply zi5) <;> intro _ <;> conv => whnf) | (refine VAny.ix encI_len k rfl rfl hk ?_; conv => whnf))
  all_goals (refine VOut.same ?_; simp [V.ren]; try omega)
  all_goals (rename_i hx; rw [Bool.eq_iff_iff]; simp [hx])
end Go.Proofs.Ytkbbfeljlepgoaa

open Go.Vm
open Riv
namespace Go.Proofs.Ytkbbfeljlepgoaa
set_option maxRecDepth 20000
set_option maxHeartbeats 4000000

theorem vc_next (m : Mp) (W a b : Nat) (h : Hp) (hW : 2 ≤ W) (hm : m.w = W) (ha : a ≤ 4000000) (hb : b ≤ 4000000) (hW2 : W ≤ 4000000) : VC Try.prog 29 [vM m, I a, I b] h (B (decide (Nb W a b))) h := by
  obtain ⟨E, hE⟩ : ∃ E, E = decide (Nb W a b) := ⟨_, rfl⟩
  rw [← hE]
  have k1 : (b : Int) < a → (E = true ↔ a = b + W ∨ (a = b + 1 ∧ a % W ≠ 0)) := fun h0 => by
    rw [hE, decide_eq_true_eq, ← nb_law (by omega) hW]
    exact ⟨Nb.symm, Nb.symm⟩
  have k2 : ¬ (b : Int) < a → (E = true ↔ b = a + W ∨ (b = a + 1 ∧ b % W ≠ 0)) := fun h0 => by
    rw [hE, decide_eq_true_eq, ← nb_law (by omega) hW]
  have e1 : (a : Int).tmod (W : Int) = ((a % W : Nat) : Int) := Int.ofNat_tmod a W
  have e2 : (b : Int).tmod (W : Int) = ((b % W : Nat) : Int) := Int.ofNat_tmod b W
  obtain ⟨mw, mh, mc⟩ := m
  dsimp only at hm
  subst hm
  refine VC.body Try.func29 rfl Try.ntmps29 Try.call29 (h.grows_refl) rfl ?_; conv => whnf
  repeat' (first | ((first | refine zs1 ?_ | refine zs2 ?_ | refine zs3 ?_ | refine zs4 ?_ | refine zs5 ?_ | refine zs6 [] ?_); conv => whnf) | ((first | apply zi1 | apply zi2 | apply zi3 | apply zi4 | apply zi5) <;> intro _ <;> conv => whnf))
  all_goals (
    refine VOut.same ?_
    dsimp only at *
    show V.s (S.bool _) = V.s (S.bool E)
    congr 2
    rw [Bool.eq_iff_iff]
    first
      | (rw [k1 (by omega)]; try rw [e1])
      | (rw [k2 (by omega)]; try rw [e2])
    generalize a % W = p at *
    generalize b % W = q at *
    simp
    omega)
end Go.Proofs.Ytkbbfeljlepgoaa

open Go.Vm
open Riv
namespace Go.Proofs.Ytkbbfeljlepgoaa
set_option maxRecDepth 20000
set_option maxHeartbeats 4000000

theorem vc_rnext (m : Mp) (W a b : Nat) (h : Hp) (hW : 2 ≤ W) (hm : m.w = W) (ha : a ≤ 4000000) (hb : b ≤ 4000000) (hW2 : W ≤ 4000000) : VC Try.prog 78 [vM m, I a, I b] h (B (decide (Nb W a b))) h := by
  obtain ⟨E, hE⟩ : ∃ E, E = decide (Nb W a b) := ⟨_, rfl⟩
  rw [← hE]
  have k1 : E = true ↔ (a % W = b % W ∧ (a / W = b / W + 1 ∨ b / W = a / W + 1)) ∨ (a / W = b / W ∧ (a % W = b % W + 1 ∨ b % W = a % W + 1)) := by
    rw [hE, decide_eq_true_eq, nb_ref hW]
  have e1 : (a : Int).tmod (W : Int) = ((a % W : Nat) : Int) := Int.ofNat_tmod a W
  have e2 : (b : Int).tmod (W : Int) = ((b % W : Nat) : Int) := Int.ofNat_tmod b W
  have e3 : (a : Int).tdiv (W : Int) = ((a / W : Nat) : Int) := Int.ofNat_tdiv a W
  have e4 : (b : Int).tdiv (W : Int) = ((b / W : Nat) : Int) := Int.ofNat_tdiv b W
  have d1 := Nat.div_le_self a W
  have d2 := Nat.div_le_self b W
  have d3 := Nat.mod_le a W
  have d4 := Nat.mod_le b W
  generalize a % W = p at *
  generalize b % W = q at *
  generalize a / W = r at *
  generalize b / W = t at *
  have w3 : IntKind.i64.wrap ((a : Int).tdiv (W : Int)) = (r : Int) := by rw [e3]; unfold IntKind.wrap; simp [IntKind.bits, IntKind.signed]; omega
  have w4 : IntKind.i64.wrap ((b : Int).tdiv (W : Int)) = (t : Int) := by rw [e4]; unfold IntKind.wrap; simp [IntKind.bits, IntKind.signed]; omega
  obtain ⟨mw, mh, mc⟩ := m
  dsimp only at hm
  subst hm
  refine VC.body Try.func78 rfl Try.ntmps78 Try.call78 (h.grows_refl) rfl ?_; conv => whnf
  repeat' (first | ((first | refine zs1 ?_ | refine zs2 ?_ | refine zs3 ?_ | refine zs4 ?_ | refine zs5 ?_ | refine zs6 [] ?_); conv => whnf) | ((first | apply zi1 | apply zi2 | apply zi3 | apply zi4 | apply zi5) <;> intro _ <;> conv => whnf) | (rw [w4]; refine VArith.ok (by omega) ?_; conv => whnf) | (rw [w3]; refine VArith.ok (by omega) ?_; conv => whnf))
  all_goals (
    refine VOut.same ?_
    dsimp only at *
    show V.s (S.bool _) = V.s (S.bool E)
    congr 2
    rw [Bool.eq_iff_iff, k1]
    generalize IntKind.i64.wrap ((a : Int).tdiv (W : Int)) = A at *
    generalize IntKind.i64.wrap ((b : Int).tdiv (W : Int)) = B at *
    generalize (a : Int).tmod (W : Int) = C at *
    generalize (b : Int).tmod (W : Int) = D at *
    simp
    omega)
end Go.Proofs.Ytkbbfeljlepgoaa

open Go.Vm
open Riv
namespace Go.Proofs.Ytkbbfeljlepgoaa
set_option maxRecDepth 20000
set_option maxHeartbeats 4000000

def fidx {α : Type} (q : α → Bool) : List α → Int → Int
  | [], _ => -1
  | a :: l, i => bif q a then i else fidx q l (i + 1)
theorem fidx_at {α : Type} {q : α → Bool} {l : List α} {k : Nat} {a : α} {i : Int} (h : l[k]? = some a) : fidx q (l.drop k) i = bif q a then i else fidx q (l.drop (k + 1)) (i + 1) := by
  obtain ⟨hlt, rfl⟩ := List.getElem?_eq_some_iff.1 h
  rw [List.drop_eq_getElem_cons hlt, fidx]
theorem fidx_nn {α : Type} {q : α → Bool} : ∀ (l : List α) (i : Int), 0 ≤ i → (0 ≤ fidx q l i ↔ l.any q = true)
  | [], i, _ => by simp [fidx]
  | a :: l, i, hi => by
    rw [fidx, List.any_cons]
    cases q a
    · rw [cond_false, Bool.false_or]; exact fidx_nn l (i + 1) (by omega)
    · rw [cond_true, Bool.true_or]; simp [hi]
theorem vc_IndexFI (l : List Int) (q : Int → Bool) (g : FuncId) (hl : l.length ≤ 4000000) (hso : ∀ (e : Int) (h : Hp), VC Try.prog g [I e] h (B (q e)) h) (h : Hp) :
    VC Try.prog 93 [ints l, .func (.func g) [] []] h (I (fidx q l 0)) h := by
  obtain ⟨E, hE⟩ : ∃ E, E = fidx q l 0 := ⟨_, rfl⟩
  rw [← hE]
  refine VC.body Try.func93 rfl Try.ntmps93 Try.call93 (h.grows_refl) rfl ?_; conv => whnf
  repeat (first | ((first | refine zs1 ?_ | refine zs2 ?_ | refine zs3 ?_ | refine zs4 ?_ | refine zs5 ?_ | refine zs6 [] ?_); conv => whnf))
  refine VCode.lp (fun k : Nat => [(0, ints l), (1, .func (.func g) [] []), (7, I l.length), (8, I k)]) (fun _ => []) (fun k => k ≤ l.length ∧ E = fidx q (l.drop k) k) (fun k => l.length - k) 0 ⟨Nat.zero_le _, hE⟩ ?_ ?_
  · conv => whnf
    refine Retell.turn ⟨[], 0, [], []⟩ (TurnOk.mk' _ _ [] [] (OutOk.lift _) rfl (by decide) zb trivial trivial rfl) zw zm
  · rintro k ⟨h1, h2⟩
    conv => whnf
    refine VIte.dec (fun h3 => ?_) (fun h3 => ?_)
    · have ha : l[k]? = some l[k] := List.getElem?_eq_getElem (by omega)
      have hm := hso l[k]
      generalize l[k] = a at ha hm
      rw [fidx_at ha] at h2
      conv => whnf
      repeat' (first | ((first | refine zs1 ?_ | refine zs2 ?_ | refine zs3 ?_ | refine zs4 ?_ | refine zs5 ?_ | refine zs6 [] ?_); conv => whnf) | ((first | apply zi1 | apply zi2 | apply zi3 | apply zi4 | apply zi5) <;> intro _ <;> conv => whnf) | (refine VAny.ix encI_len k (by omega) rfl ha ?_; conv => whnf))
      refine VCall.intro (hm _) ?_
      conv => whnf
      cases hq : q a
      · rw [hq] at h2
        conv => whnf
        repeat (first | ((first | refine zs1 ?_ | refine zs2 ?_ | refine zs3 ?_ | refine zs4 ?_ | refine zs5 ?_ | refine zs6 [] ?_); conv => whnf))
        refine LEnd.intro (k + 1) ⟨by omega, h2⟩ (by omega) ?_
        conv => whnf
        refine Retell.turn ⟨[], 0, [], []⟩ (TurnOk.mk' _ _ [] [] (OutOk.lift _) rfl (by decide) zb trivial trivial rfl) zw zm
      · rw [hq] at h2
        rw [h2]
        conv => whnf
        repeat (first | ((first | refine zs1 ?_ | refine zs2 ?_ | refine zs3 ?_ | refine zs4 ?_ | refine zs5 ?_ | refine zs6 [] ?_); conv => whnf))
        exact VOut.same rfl
    · rw [List.drop_of_length_le (by omega), fidx] at h2
      rw [h2]
      conv => whnf
      repeat (first | ((first | refine zs1 ?_ | refine zs2 ?_ | refine zs3 ?_ | refine zs4 ?_ | refine zs5 ?_ | refine zs6 [] ?_); conv => whnf))
      exact VOut.same rfl
theorem vc_ContFI (l : List Int) (q : Int → Bool) (g : FuncId) (hl : l.length ≤ 4000000) (hso : ∀ (e : Int) (h : Hp), VC Try.prog g [I e] h (B (q e)) h) (h : Hp) :
    VC Try.prog 68 [ints l, .func (.func g) [] []] h (B (l.any q)) h := by
  have e := fidx_nn (q := q) l 0 (Int.le_refl _)
  have c := fun h => vc_IndexFI l q g hl hso h
  generalize fidx q l 0 = E at e c
  refine VC.body Try.func68 rfl Try.ntmps68 Try.call68 (h.grows_refl) rfl ?_; conv => whnf
  repeat' (first | ((first | refine zs1 ?_ | refine zs2 ?_ | refine zs3 ?_ | refine zs4 ?_ | refine zs5 ?_ | refine zs6 [] ?_); conv => whnf) | ((first | apply zi1 | apply zi2 | apply zi3 | apply zi4 | apply zi5) <;> intro _ <;> conv => whnf) | (refine VCall.intro (c _) ?_; conv => whnf))
  refine VOut.same ?_
  show B (decide (0 ≤ E)) = _
  congr 1
  rw [Bool.eq_iff_iff, decide_eq_true_eq]
  exact e
theorem vc_Check1 (x : Int) (h : Hp) : VC Try.prog 69 [I x] h (B (!decide (0 ≤ x ∧ x ≤ 3))) h := by
  refine VC.body Try.func69 rfl Try.ntmps69 Try.call69 (h.grows_refl) rfl ?_; conv => whnf
  repeat' (first | ((first | refine zs1 ?_ | refine zs2 ?_ | refine zs3 ?_ | refine zs4 ?_ | refine zs5 ?_ | refine zs6 [] ?_); conv => whnf) | ((first | apply zi1 | apply zi2 | apply zi3 | apply zi4 | apply zi5) <;> intro _ <;> conv => whnf) | (refine VCall.intro (vc_from _ _ _ _) ?_; conv => whnf))
  exact VOut.same rfl
theorem any_kind (c : List Int) : (c.any fun x => !decide (0 ≤ x ∧ x ≤ 3)) = !kindB c := by
  unfold kindB
  rw [List.all_eq_not_any_not, Bool.not_not]
/-! ### The rows of a map -/
def vChunk (c : List Int) (W : Nat) : V := .func (.func 94) [] [.fp [dints c], .fp [DI W]]
theorem vc_Chunk (c : List Int) (W : Nat) (h : Hp) (hW : 1 ≤ W) : VC Try.prog 70 [ints c, I W] h (vChunk c W) h := by
  refine VC.body Try.func70 rfl Try.ntmps70 Try.call70 (h.grows_refl) rfl ?_; conv => whnf
  repeat' (first | ((first | refine zs1 ?_ | refine zs2 ?_ | refine zs3 ?_ | refine zs4 ?_ | refine zs5 ?_ | refine zs6 [] ?_); conv => whnf) | ((first | apply zi1 | apply zi2 | apply zi3 | apply zi4 | apply zi5) <;> intro _ <;> conv => whnf))
  · exfalso; omega
  · refine VOut.data 2 [(0, [dints c]), (1, [DI W])] [] rfl zf (by exact FmAll.nil) zw
def rowL (c : List Int) (W y : Nat) : List Int := (c.drop (y * W)).take W
theorem rowL_at {c : List Int} {W y k : Nat} (hk : k < W) (hc : y * W + k < c.length) : (rowL c W y)[k]? = some (at0 c (y * W + k)) := by
  unfold rowL at0
  rw [List.getElem?_take, if_pos hk, List.getElem?_drop, List.getD_eq_getElem?_getD, List.getElem?_eq_getElem hc]; rfl
theorem rowL_len {c : List Int} {W H y : Nat} (hL : c.length = W * H) (hy : y < H) : (rowL c W y).length = W := by
  have h1 : (y + 1) * W ≤ H * W := Nat.mul_le_mul_right _ hy
  rw [Nat.add_mul, Nat.one_mul, Nat.mul_comm H] at h1
  unfold rowL
  rw [List.length_take, List.length_drop]; omega
theorem iter_Chunk (c : List Int) (W H : Nat) (hW : 1 ≤ W ∧ W ≤ 100000) (hL : c.length = W * H) (hc : c.length ≤ 4000000) : IterN Try.prog 94 [] [.fp [dints c], .fp [DI W]] H (fun y => some [ints (rowL c W y)]) := by
  intro h i J E hs h0
  obtain ⟨S, g, g0, hS, g1, g2⟩ := iterN_seq (ys := fun y => some [ints (rowL c W y)]) H hs h0
  have hgr : ∀ j, j ≤ S → h.grows (g j) := by
    intro j
    induction j with
    | zero => intro _; rw [g0]; exact h.grows_refl
    | succ j ih =>
      intro hj
      rcases g1 j (by omega) with ⟨e, _⟩ | ⟨vs, _, hv⟩
      · cases e
      · exact fun k hk => hv.1 k (ih (by omega) k hk)
  have hrow : ∀ y, y < H → (rowL c W y).length = W := fun y hy => rowL_len hL hy
  have hle : ∀ y, y ≤ H → y * W ≤ c.length := fun y hy => by
    have h1 : y * W ≤ H * W := Nat.mul_le_mul_right _ hy
    rw [Nat.mul_comm H] at h1; omega
  have hlt : ∀ y, y < H → y * W + W ≤ c.length := fun y hy => by
    have h1 : (y + 1) * W ≤ H * W := Nat.mul_le_mul_right _ hy
    rw [Nat.add_mul, Nat.one_mul, Nat.mul_comm H] at h1; omega
  have hsub : ∀ y, rowL c W y = (c.drop (y * W)).take W := fun _ => rfl
  have hX : ∀ A : Nat, A ≤ c.length → (((c.drop (A : Int).toNat).take ((c.length : Int) - (A : Int)).toNat).length) = c.length - A := fun A hA => by rw [List.length_take, List.length_drop]; omega
  have hR : ∀ (A : Nat) (X : Nat), A + W ≤ c.length → X = c.length - A → (c.drop (A : Int).toNat).take ((A : Int) + min (W : Int) (X : Int) - (A : Int)).toNat = (c.drop A).take W := fun A X hA hx => by
    rw [Int.toNat_natCast, show ((A : Int) + min (W : Int) (X : Int) - (A : Int)).toNat = W by omega]
  rcases g2 with ⟨hSm, hI⟩ | ⟨hSm, vs, gE, e1, e2, e3⟩
  · refine ⟨g H, ?_, .inl hI⟩
    refine VC.body Try.func94 rfl Try.ntmps94 Try.call94 (hgr _ (by omega)) rfl ?_
    conv => whnf
    repeat' (first | ((first | refine zs1 ?_ | refine zs2 ?_ | refine zs3 ?_ | refine zs4 ?_ | refine zs5 ?_ | refine zs6 [] ?_); conv => whnf) | ((first | apply zi1 | apply zi2 | apply zi3 | apply zi4 | apply zi5) <;> intro _ <;> conv => whnf))
    refine VCode.lpo (fun y : Nat => [(0, .yld (.out i)), (1, .fp [dints c]), (2, .fp [DI W]), (4, I (y * W : Nat))]) (fun y => (g y).lift) (fun _ => []) (fun y => y ≤ H) (fun y => H - y) 0 (Nat.zero_le _) (by rw [g0]) ?_ ?_
    · rw [Nat.zero_mul]
      conv => whnf
      refine Retell.turn ⟨[], 0, [], []⟩ (TurnOk.mk' _ _ [] [] (OutOk.lift _) rfl (by decide) zb trivial trivial rfl) zw zm
    · rintro y hy
      have hs1 : y < H → ((y + 1) * W : Nat) = y * W + W := fun _ => by rw [Nat.add_mul, Nat.one_mul]
      have hy1 := hle y hy
      have hy2 := hlt y
      have hy3 := hsub y
      have hst := g1 y
      obtain ⟨A, hA⟩ : ∃ A, A = y * W := ⟨_, rfl⟩
      rw [← hA] at hs1 hy1 hy2 hy3 ⊢
      have hend : ¬ y < H → A = c.length := fun hh => by
        obtain rfl : y = H := by omega
        rw [hA, hL, Nat.mul_comm]
      conv => whnf
      repeat (first | ((first | refine zs1 ?_ | refine zs2 ?_ | refine zs3 ?_ | refine zs4 ?_ | refine zs5 ?_ | refine zs6 [] ?_); conv => whnf))
      refine VIte.dec (fun h3 => ?_) (fun h3 => ?_)
      · have hyH : y < H := Decidable.byContradiction fun hh => by have := hend hh; omega
        rcases hst (by omega) with ⟨e, _⟩ | ⟨vs, e, hv⟩
        · cases e
        · cases e
          have hs2 := hs1 hyH
          have hy5 := hy2 hyH
          have e7 := hX A hy1
          have e8 := hR A _ hy5 e7
          rw [← hy3] at e8
          generalize rowL c W y = R at hv hy3 e8
          conv => whnf
          repeat' (first | ((first | refine zs1 ?_ | refine zs2 ?_ | refine zs3 ?_ | refine zs4 ?_ | refine zs5 ?_ | refine zs6 [] ?_); conv => whnf) | ((first | apply zi1 | apply zi2 | apply zi3 | apply zi4 | apply zi5) <;> intro _ <;> conv => whnf) | (refine VAny.sub encI_len rfl (by omega) ?_; conv => whnf) | (refine VAny.subM encI_len rfl rfl (by omega) ?_; conv => whnf))
          rw [e8]
          refine VYield.intro (VY.lift _ hv) ?_
          conv => whnf
          repeat' (first | ((first | refine zs1 ?_ | refine zs2 ?_ | refine zs3 ?_ | refine zs4 ?_ | refine zs5 ?_ | refine zs6 [] ?_); conv => whnf) | ((first | apply zi1 | apply zi2 | apply zi3 | apply zi4 | apply zi5) <;> intro _ <;> conv => whnf) | (refine VAny.sub encI_len rfl (by omega) ?_; conv => whnf) | (refine VAny.subM encI_len rfl rfl (by omega) ?_; conv => whnf))
          refine LEndO.intro (y + 1) (by omega) (by omega) rfl ?_
          rw [hs2]
          conv => whnf
          refine Retell.turn ⟨[], 0, [], []⟩ (TurnOk.mk' _ _ [] [] (OutOk.lift _) rfl (by decide) zb trivial trivial rfl) zw zm
      · have hyH : y = H := by
          refine Decidable.byContradiction fun hh => ?_
          have := hy2 (by omega)
          omega
        subst hyH
        conv => whnf
        exact VOut.lifted (r := .tuple []) (hgr _ (by omega))
  · refine ⟨gE, ?_, .inr e3⟩
    have hgE : h.grows gE := fun k hk => e2.1 k (hgr S (Nat.le_refl _) k hk)
    refine VC.body Try.func94 rfl Try.ntmps94 Try.call94 hgE rfl ?_
    conv => whnf
    repeat' (first | ((first | refine zs1 ?_ | refine zs2 ?_ | refine zs3 ?_ | refine zs4 ?_ | refine zs5 ?_ | refine zs6 [] ?_); conv => whnf) | ((first | apply zi1 | apply zi2 | apply zi3 | apply zi4 | apply zi5) <;> intro _ <;> conv => whnf))
    refine VCode.lpo (fun y : Nat => [(0, .yld (.out i)), (1, .fp [dints c]), (2, .fp [DI W]), (4, I (y * W : Nat))]) (fun y => (g y).lift) (fun _ => []) (fun y => y ≤ S) (fun y => S - y) 0 (Nat.zero_le _) (by rw [g0]) ?_ ?_
    · rw [Nat.zero_mul]
      conv => whnf
      refine Retell.turn ⟨[], 0, [], []⟩ (TurnOk.mk' _ _ [] [] (OutOk.lift _) rfl (by decide) zb trivial trivial rfl) zw zm
    · rintro y hy
      have hs2 : ((y + 1) * W : Nat) = y * W + W := by rw [Nat.add_mul, Nat.one_mul]
      have hy1 := hle y (by omega)
      have hy5 := hlt y (by omega)
      have hy3 := hsub y
      have hst := g1 y
      obtain ⟨A, hA⟩ : ∃ A, A = y * W := ⟨_, rfl⟩
      rw [← hA] at hs2 hy1 hy5 hy3 ⊢
      have e7 := hX A hy1
      have e8 := hR A _ hy5 e7
      rw [← hy3] at e8
      rcases Nat.eq_or_lt_of_le hy with hkS | hkS
      · subst hkS
        cases e1
        generalize rowL c W y = R at e2 hy3 e8
        conv => whnf
        repeat' (first | ((first | refine zs1 ?_ | refine zs2 ?_ | refine zs3 ?_ | refine zs4 ?_ | refine zs5 ?_ | refine zs6 [] ?_); conv => whnf) | ((first | apply zi1 | apply zi2 | apply zi3 | apply zi4 | apply zi5) <;> intro _ <;> conv => whnf) | (refine VAny.sub encI_len rfl (by omega) ?_; conv => whnf) | (refine VAny.subM encI_len rfl rfl (by omega) ?_; conv => whnf))
        · rw [e8]
          refine VYield.intro (VY.lift _ e2) ?_
          conv => whnf
          repeat' (first | ((first | refine zs1 ?_ | refine zs2 ?_ | refine zs3 ?_ | refine zs4 ?_ | refine zs5 ?_ | refine zs6 [] ?_); conv => whnf) | ((first | apply zi1 | apply zi2 | apply zi3 | apply zi4 | apply zi5) <;> intro _ <;> conv => whnf) | (refine VAny.sub encI_len rfl (by omega) ?_; conv => whnf) | (refine VAny.subM encI_len rfl rfl (by omega) ?_; conv => whnf))
          exact VOut.lifted (r := .tuple []) hgE
        · exfalso; omega
      · rcases hst hkS with ⟨e, _⟩ | ⟨vs, e, hv⟩
        · cases e
        · cases e
          generalize rowL c W y = R at hv hy3 e8
          conv => whnf
          repeat' (first | ((first | refine zs1 ?_ | refine zs2 ?_ | refine zs3 ?_ | refine zs4 ?_ | refine zs5 ?_ | refine zs6 [] ?_); conv => whnf) | ((first | apply zi1 | apply zi2 | apply zi3 | apply zi4 | apply zi5) <;> intro _ <;> conv => whnf) | (refine VAny.sub encI_len rfl (by omega) ?_; conv => whnf) | (refine VAny.subM encI_len rfl rfl (by omega) ?_; conv => whnf))
          · rw [e8]
            refine VYield.intro (VY.lift _ hv) ?_
            conv => whnf
            repeat' (first | ((first | refine zs1 ?_ | refine zs2 ?_ | refine zs3 ?_ | refine zs4 ?_ | refine zs5 ?_ | refine zs6 [] ?_); conv => whnf) | ((first | apply zi1 | apply zi2 | apply zi3 | apply zi4 | apply zi5) <;> intro _ <;> conv => whnf) | (refine VAny.sub encI_len rfl (by omega) ?_; conv => whnf) | (refine VAny.subM encI_len rfl rfl (by omega) ?_; conv => whnf))
            refine LEndO.intro (y + 1) (by omega) (by omega) rfl ?_
            rw [hs2]
            conv => whnf
            refine Retell.turn ⟨[], 0, [], []⟩ (TurnOk.mk' _ _ [] [] (OutOk.lift _) rfl (by decide) zb trivial trivial rfl) zw zm
          · exfalso; omega
end Go.Proofs.Ytkbbfeljlepgoaa

open Go.Vm
open Riv
namespace Go.Proofs.Ytkbbfeljlepgoaa
set_option maxRecDepth 20000
set_option maxHeartbeats 4000000

/-! ### The neighbours of a cell, handed on one by one -/
def vBes (m : Mp) (n : Nat) : V := .func (.func 95) [] [.fp [DI n], .fp (encM m)]
theorem vc_beside (m : Mp) (n : Nat) (h : Hp) : VC Try.prog 74 [vM m, I n] h (vBes m n) h := by
  refine VC.body Try.func74 rfl Try.ntmps74 Try.call74 (h.grows_refl) rfl ?_; conv => whnf
  repeat' (first | ((first | refine zs1 ?_ | refine zs2 ?_ | refine zs3 ?_ | refine zs4 ?_ | refine zs5 ?_ | refine zs6 [] ?_); conv => whnf) | ((first | apply zi1 | apply zi2 | apply zi3 | apply zi4 | apply zi5) <;> intro _ <;> conv => whnf))
  refine VOut.data 2 [(0, encM m), (1, [DI n])] [] rfl zf (by exact FmAll.nil) zw
def nbO (W L n : Nat) : Nat → Option Nat
  | 0 => if n < W then none else some (n - W)
  | 1 => if n % W = 0 then none else some (n - 1)
  | 2 => if n % W = W - 1 then none else some (n + 1)
  | 3 => if L ≤ n + W then none else some (n + W)
  | _ => none
def nbY (W L n k : Nat) : Option (List V) := (nbO W L n k).map fun q : Nat => [I q]
theorem fm4 (a b c d : Prop) [Decidable a] [Decidable b] [Decidable c] [Decidable d] (x y z t : Nat) : [(if a then none else some x), (if b then none else some y), (if c then none else some z), (if d then none else some t)].filterMap id = (if a then [] else [x]) ++ (if b then [] else [y]) ++ (if c then [] else [z]) ++ (if d then [] else [t]) := by
  by_cases h1 : a <;> by_cases h2 : b <;> by_cases h3 : c <;> by_cases h4 : d <;> simp [h1, h2, h3, h4]
theorem nbO_list (W L n : Nat) : (List.range 4).filterMap (nbO W L n) = nbs W L n := by
  have h := fm4 (n < W) (n % W = 0) (n % W = W - 1) (L ≤ n + W) (n - W) (n - 1) (n + 1) (n + W)
  unfold nbs
  rw [← h, show List.range 4 = [0, 1, 2, 3] from rfl]
  rfl
theorem nbO_mem {W L n k q : Nat} (hk : k < 4) (h : nbO W L n k = some q) : q ∈ nbs W L n := by
  rw [← nbO_list]
  exact List.mem_filterMap.2 ⟨k, List.mem_range.2 hk, h⟩
theorem nbY_some {W L n k : Nat} {vs : List V} (h : nbY W L n k = some vs) : ∃ q, nbO W L n k = some q ∧ vs = [I q] := by
  unfold nbY at h
  cases hq : nbO W L n k with
  | none => rw [hq] at h; cases h
  | some q => rw [hq] at h; cases h; exact ⟨q, rfl, rfl⟩
theorem nbY_none {W L n k : Nat} (h : nbY W L n k = none) : nbO W L n k = none := by
  unfold nbY at h
  cases hq : nbO W L n k with
  | none => rfl
  | some q => rw [hq] at h; cases h
def nbF {α : Type} (f : α → Nat → α) (W L n : Nat) (x : α) (k : Nat) : α := (((List.range k).filterMap (nbO W L n))).foldl f x
theorem nbF_zero {α : Type} (f : α → Nat → α) (W L n : Nat) (x : α) : nbF f W L n x 0 = x := rfl
theorem nbF_all {α : Type} (f : α → Nat → α) (W L n : Nat) (x : α) : nbF f W L n x 4 = (nbs W L n).foldl f x := by unfold nbF; rw [nbO_list]
theorem nbF_none {α : Type} {f : α → Nat → α} {W L n : Nat} {x : α} {k : Nat} (h : nbO W L n k = none) : nbF f W L n x (k + 1) = nbF f W L n x k := by
  unfold nbF
  rw [List.range_succ, List.filterMap_append]
  simp [h]
theorem nbF_some {α : Type} {f : α → Nat → α} {W L n q : Nat} {x : α} {k : Nat} (h : nbO W L n k = some q) : nbF f W L n x (k + 1) = f (nbF f W L n x k) q := by
  unfold nbF
  rw [List.range_succ, List.filterMap_append, List.foldl_append]
  simp [h]
theorem iter_beside (m : Mp) (W n : Nat) (hW : 2 ≤ W ∧ W ≤ 100000) (hm : m.w = W) (hn : n < m.c.length) (hc : m.c.length ≤ 4000000) : IterS Try.prog 95 [] [.fp [DI n], .fp (encM m)] 4 (nbY W m.c.length n) := by
  intro h i J hs h0
  obtain ⟨g, g0, g1, hI⟩ := iterS_seq (ys := nbY W m.c.length n) hs h0
  have hgr : ∀ j, j ≤ 4 → h.grows (g j) := by
    intro j
    induction j with
    | zero => intro _; rw [g0]; exact h.grows_refl
    | succ j ih =>
      intro hj
      rcases g1 j (by omega) with ⟨_, e⟩ | ⟨vs, _, hv⟩
      · rw [e]; exact ih (by omega)
      · exact fun k hk => hv.1 k (ih (by omega) k hk)
  have gA := g1 0 (by omega)
  have gB := g1 1 (by omega)
  have gC := g1 2 (by omega)
  have gD := g1 3 (by omega)
  have hend := hgr 4 (by omega)
  refine ⟨g 4, ?_, hI⟩
  clear hI hgr g1 hs h0
  generalize g 4 = h4 at *
  generalize g 3 = h3 at *
  generalize g 2 = h2 at *
  generalize g 1 = h1 at *
  obtain rfl : h = g 0 := g0.symm
  generalize g 0 = h0 at *
  clear g0
  have e1 : (n : Int).tmod (W : Int) = ((n % W : Nat) : Int) := Int.ofNat_tmod n W
  have hr := Nat.mod_lt n (show 0 < W by omega)
  simp only [nbY, nbO] at gA gB gC gD
  obtain ⟨mw, mh, mc⟩ := m
  dsimp only at hm hn hc gA gB gC gD
  subst hm
  rw [show encM ⟨(W : Int), mh, mc⟩ = [DI W, DI mh, .sl 1 mc.length (mc.flatMap encI)] from rfl]
  have key : ∀ {c : Prop} [Decidable c] {q : Nat} {a b : Hp}, (((if c then none else some q : Option Nat).map fun q : Nat => [I q]) = none ∧ b = a ∨ ∃ vs, ((if c then none else some q : Option Nat).map fun q : Nat => [I q]) = some vs ∧ VY Try.prog i vs a (.s (.bool true)) b) → (c ∧ b = a) ∨ (¬ c ∧ VY Try.prog i [I q] a (.s (.bool true)) b) := by
    intro c _ q a b h
    by_cases hc : c
    · rw [if_pos hc] at h
      rcases h with ⟨_, h⟩ | ⟨vs, h, _⟩
      · exact .inl ⟨hc, h⟩
      · cases h
    · rw [if_neg hc] at h
      rcases h with ⟨h, _⟩ | ⟨vs, h, hv⟩
      · cases h
      · cases h; exact .inr ⟨hc, hv⟩
  have gA := key gA
  have gB := key gB
  have gC := key gC
  have gD := key gD
  clear key
  have qA : ¬ n < W → ((n - W : Nat) : Int) = (n : Int) - W := fun h => by omega
  have qB : ¬ n % W = 0 → ((n - 1 : Nat) : Int) = (n : Int) - 1 := fun h => by
    have : n ≠ 0 := fun e => h (by rw [e]; exact Nat.zero_mod W)
    omega
  have qC : ((n + 1 : Nat) : Int) = (n : Int) + 1 := by omega
  have qD : ((n + W : Nat) : Int) = (n : Int) + W := by omega
  rw [qC] at gC
  rw [qD] at gD
  generalize n % W = r at *
  rcases gA with ⟨a1, rfl⟩ | ⟨a1, yA⟩ <;> rcases gB with ⟨b1, rfl⟩ | ⟨b1, yB⟩ <;> rcases gC with ⟨c1, rfl⟩ | ⟨c1, yC⟩ <;> rcases gD with ⟨d1, rfl⟩ | ⟨d1, yD⟩
  all_goals (
    (try rw [qA a1] at yA)
    (try rw [qB b1] at yB)
    refine VC.body Try.func95 rfl Try.ntmps95 Try.call95 hend rfl ?_
    conv => whnf)
  all_goals (
    refine zs6 [] ?_
    conv => whnf
    repeat' (first | ((first | refine zs1 ?_ | refine zs2 ?_ | refine zs3 ?_ | refine zs4 ?_ | refine zs5 ?_); conv => whnf) | ((first | apply zi1 | apply zi2 | apply zi3 | apply zi4 | apply zi5) <;> intro _ <;> first | (exfalso; omega) | contradiction | (conv => whnf)) | (refine VYield.intro (VY.lift _ yA) ?_; conv => whnf) | (refine VYield.intro (VY.lift _ yB) ?_; conv => whnf) | (refine VYield.intro (VY.lift _ yC) ?_; conv => whnf) | (refine VYield.intro (VY.lift _ yD) ?_; conv => whnf)))
  all_goals first
    | exact VOut.lifted (r := .tuple []) hend
    | (exfalso; omega)
end Go.Proofs.Ytkbbfeljlepgoaa

open Go.Vm
open Riv
namespace Go.Proofs.Ytkbbfeljlepgoaa
set_option maxRecDepth 20000
set_option maxHeartbeats 4000000

theorem sz_mul {W H : Int} (hW : 0 ≤ W ∧ W ≤ 12) (hH : 0 ≤ H ∧ H ≤ 12) : 0 ≤ W * H ∧ W * H ≤ 144 :=
  ⟨Int.mul_nonneg hW.1 hH.1, by have := Int.mul_le_mul hW.2 hH.2 hH.1 (show (0 : Int) ≤ 12 by decide); omega⟩
theorem outW_one {o : Vm.Id → Option Blk} {iy i0 : Vm.Id} {a c d : Blk} (n0 : i0 ≠ iy) : outW (outW (outW o iy c) i0 a) iy d = outW (outW o i0 a) iy d := by
  funext k
  unfold outW
  by_cases e : k = iy
  · subst e; simp only [if_true]
  · simp only [if_neg e]
structure CJ (o : Vm.Id → Option Blk) (e : Int) (g : Hp) : Prop where
  o : g.outer = o
  b0 : g.get (.loc 0) = some (.flat true [DI e])
  b1 : g.get (.loc 1) = some .mark
theorem vc_check (m : Mp) (h : Hp) (hl : m.c.length ≤ 4000000) : VC Try.prog 35 [vM m] h (I (chkM m)) h := by
  obtain ⟨E, hE⟩ : ∃ E, E = chkM m := ⟨_, rfl⟩
  rw [← hE]
  unfold chkM at hE
  have cC := fun h => vc_ContFI m.c (fun x => !decide (0 ≤ x ∧ x ≤ 3)) 69 hl vc_Check1 h
  rw [any_kind] at cC
  obtain ⟨mw, mh, mc⟩ := m
  dsimp only at hE hl cC
  show VC Try.prog 35 [.agg [I mw, I mh, ints mc]] h (I E) h
  by_cases h0 : ((3 ≤ mw ∧ mw ≤ 12) ∧ 1 ≤ mh ∧ mh ≤ 12) ∧ (mc.length : Int) = mw * mh
  · have hm := sz_mul (W := mw) (H := mh) (by omega) (by omega)
    rw [if_pos h0] at hE
    obtain ⟨⟨h1, h2⟩, h3⟩ := h0
    obtain ⟨W, rfl⟩ : ∃ W : Nat, mw = W := ⟨mw.toNat, by omega⟩
    obtain ⟨H, rfl⟩ : ∃ H : Nat, mh = H := ⟨mh.toNat, by omega⟩
    rw [Int.toNat_natCast, Int.toNat_natCast] at hE
    have hL : mc.length = W * H := by
      have e : ((W * H : Nat) : Int) = (W : Int) * H := by rw [Int.natCast_mul]
      omega
    have hit := iter_Chunk mc W H (by omega) hL hl
    have hrl := fun y hy => rowL_len (W := W) (y := y) hL hy
    have hlt : ∀ y, y < H → y * W + W ≤ mc.length := fun y hy => by
      have h1 : (y + 1) * W ≤ H * W := Nat.mul_le_mul_right _ hy
      rw [Nat.add_mul, Nat.one_mul, Nat.mul_comm H] at h1; omega
    have hr0 : ∀ y, y < H → (rowL mc W y)[0]? = some (at0 mc (y * W)) := fun y hy => by
      have := hlt y hy
      have := rowL_at (c := mc) (W := W) (y := y) (k := 0) (by omega) (by omega)
      rw [Nat.add_zero] at this; exact this
    have hr1 : ∀ y, y < H → (rowL mc W y)[W - 1]? = some (at0 mc (y * W + W - 1)) := fun y hy => by
      have := hlt y hy
      have := rowL_at (c := mc) (W := W) (y := y) (k := W - 1) (by omega) (by omega)
      rw [show y * W + W - 1 = y * W + (W - 1) by omega]; exact this
    have cK := fun h => vc_Chunk mc W h (by omega)
    clear hL
    cases hk : kindB mc
    · rw [hk] at hE cC
      rw [cond_false] at hE
      subst hE
      refine VC.body Try.func35 rfl Try.ntmps35 Try.call35 (h.grows_refl) rfl ?_; conv => whnf
      repeat' (first | ((first | refine zs1 ?_ | refine zs2 ?_ | refine zs3 ?_ | refine zs4 ?_ | refine zs5 ?_); conv => whnf) | ((first | apply zi1 | apply zi2 | apply zi3 | apply zi4 | apply zi5) <;> intro _ <;> first | (exfalso; omega) | contradiction | (conv => whnf)) | (refine VCall.intro (vc_from _ _ _ _) ?_; conv => whnf) | (refine VCall.intro (cC _) ?_; conv => whnf))
      all_goals first | exact VOut.same rfl | (exfalso; simp at *; omega)
    · rw [hk] at hE cC
      rw [cond_true] at hE
      refine VC.bodyC 3 Try.func35 rfl Try.ntmps35 Try.call35 (h.grows_refl) rfl ?_
      conv => whnf
      repeat' (first | ((first | refine zs1 ?_ | refine zs2 ?_ | refine zs3 ?_ | refine zs4 ?_ | refine zs5 ?_); conv => whnf) | ((first | apply zi1 | apply zi2 | apply zi3 | apply zi4 | apply zi5) <;> intro _ <;> first | (exfalso; omega) | contradiction | (conv => whnf)) | (refine VCall.intro (vc_from _ _ _ _) ?_; conv => whnf) | (refine VCall.intro (cC _) ?_; conv => whnf) | (refine VCall.intro (cK _) ?_; conv => whnf))
      refine VCode.tell [(1, .fp [DI W, DI H, dints mc]), (3, .ptr (.loc 0) 0), (33, vChunk mc W)] [.flat true [DI 0]] (marks' := []) ?_ ?_
      · conv => whnf
        refine Retell.turn ⟨[1], 2, [(0, [DI W, DI H, dints mc])], []⟩ (TurnOk.mk' _ _ [(0, [DI W, DI H, dints mc])] [] (OutOk.lift _) rfl (by decide) zb zf trivial rfl) zw zm
      · conv => whnf
        refine VCode.iterN H (fun y => some [ints (rowL mc W y)]) (fun y g => CJ h.lift 0 g ∧ ∀ z, z < y → sideB mc W z = true) (fun x g => x = .exit 0 ∧ CJ h.lift 9 g ∧ ∃ z, z < H ∧ sideB mc W z = false) _ (.loc 2) rfl hit rfl rfl ⟨⟨rfl, rfl, rfl⟩, fun z hz => by omega⟩ ?_ ?_ ?_ ?_
        · rintro y g hy hn _
          cases hn
        · rintro y g vs hy hvs ⟨⟨j0, j1, j2⟩, ha⟩ hlp
          cases hvs
          have hA := hr0 y hy
          have hB := hr1 y hy
          have hR := hrl y hy
          have hS : sideB mc W y = decide (at0 mc (y * W) = 1 ∧ at0 mc (y * W + W - 1) = 2) := rfl
          generalize at0 mc (y * W) = a at hA hS
          generalize at0 mc (y * W + W - 1) = b at hB hS
          generalize rowL mc W y = R at hA hB hR
          by_cases hs : a = 1 ∧ b = 2
          · left
            refine ⟨g, VRound.vy' hlp rfl rfl rfl g.grows_refl fun l0 => ?_, ⟨⟨j0, j1, j2⟩, fun z hz => ?_⟩, hlp⟩
            · refine VRound.tell [(1, .fp [DI W, DI H, dints mc]), (3, .ptr (.out (.loc 0)) 0), (34, ints R)] ?_ ?_
              · conv => whnf
                refine Retell.turn ⟨[], 0, [], []⟩ (TurnOk.mk' _ _ [] [] (OutOk.lift _) rfl (by decide) zb trivial trivial rfl) zw zm
              · conv => whnf
                repeat (first | ((first | refine zs1 ?_ | refine zs2 ?_ | refine zs3 ?_ | refine zs4 ?_ | refine zs5 ?_ | refine zs6 [] ?_); conv => whnf))
                refine VBegin.intro (get_out hlp _) rfl ?_
                conv => whnf
                repeat' (first | ((first | refine zs1 ?_ | refine zs2 ?_ | refine zs3 ?_ | refine zs4 ?_ | refine zs5 ?_); conv => whnf) | ((first | apply zi1 | apply zi2 | apply zi3 | apply zi4 | apply zi5) <;> intro _ <;> first | (exfalso; omega) | contradiction | (conv => whnf)) | (refine VAny.ix encI_len 0 (by omega) rfl hA ?_; conv => whnf) | (refine VAny.ix encI_len (W - 1) (by omega) rfl hB ?_; conv => whnf))
                exact RFin.on (outW_get _ _ _ _) (VOut.back (get_out hlp []) rfl)
            · rcases Nat.lt_or_ge z y with h5 | h5
              · exact ha z h5
              · obtain rfl : z = y := by omega
                rw [hS]; exact decide_eq_true hs
          · have n0 : g.get (.loc 0) ≠ none := by rw [j1]; simp
            have n2 : (g.set (.loc 0) (.flat true [DI 9])).get (.loc 2) ≠ none := by rw [Hp.get_set g _ _ _ n0, if_neg (by decide), hlp]; simp
            refine Rnd.stop (.exit 0) rfl hlp (g.set (.loc 0) (.flat true [DI 9])) n2 ?_ ⟨rfl, ⟨j0, ?_, ?_⟩, y, hy, by rw [hS]; exact decide_eq_false hs⟩
            · refine VRound.vy' hlp rfl rfl rfl grows_set2 fun l0 => ?_
              refine VRound.tell [(1, .fp [DI W, DI H, dints mc]), (3, .ptr (.out (.loc 0)) 0), (34, ints R)] ?_ ?_
              · conv => whnf
                refine Retell.turn ⟨[], 0, [], []⟩ (TurnOk.mk' _ _ [] [] (OutOk.lift _) rfl (by decide) zb trivial trivial rfl) zw zm
              · conv => whnf
                repeat (first | ((first | refine zs1 ?_ | refine zs2 ?_ | refine zs3 ?_ | refine zs4 ?_ | refine zs5 ?_ | refine zs6 [] ?_); conv => whnf))
                refine VBegin.intro (get_out hlp _) rfl ?_
                conv => whnf
                repeat' (first | ((first | refine zs1 ?_ | refine zs2 ?_ | refine zs3 ?_ | refine zs4 ?_ | refine zs5 ?_); conv => whnf) | ((first | apply zi1 | apply zi2 | apply zi3 | apply zi4 | apply zi5) <;> intro _ <;> first | (exfalso; omega) | contradiction | (conv => whnf)) | (refine VAny.ix encI_len 0 (by omega) rfl hA ?_; conv => whnf) | (refine VAny.ix encI_len (W - 1) (by omega) rfl hB ?_; conv => whnf) | (refine VMem.st1 rfl rfl rfl (get_outNe (by decide) (get_out j1 _)) rfl ?_; conv => whnf))
                all_goals (
                  refine RFin.off rfl (get_outNe (by decide) (outW_get _ _ _ _)) (VOut.liftS ?_ grows_set2)
                  rw [lift_set n2, lift_set n0]
                  exact outW_one (by decide))
            · rw [Hp.get_set _ _ _ _ n2, if_neg (by decide), Hp.get_set _ _ _ _ n0, if_pos rfl]
            · rw [Hp.get_set _ _ _ _ n2, if_neg (by decide), Hp.get_set _ _ _ _ n0, if_neg (by decide)]; exact j2
        · rintro ⟨go, gl⟩ ⟨⟨j0, j1, j2⟩, ha⟩ hlp
          dsimp only at j0
          subst j0
          have j1 : gl[0]? = some _ := j1
          have j2 : gl[1]? = some _ := j2
          have l0 := (List.getElem?_eq_some_iff.1 j1).1
          have key : ∀ (x : Nat) (A : Blk), x ≠ 2 → (gl.set 2 A)[x]? = gl[x]? := fun x A hx => List.getElem?_set_ne (Ne.symm hx)
          have hE0 : E = 0 := by
            rw [hE]
            have : (List.range H).all (sideB mc W) = true := by
              rw [List.all_eq_true]
              exact fun z hz => ha z (List.mem_range.1 hz)
            rw [this]; rfl
          subst hE0
          refine Told.mk [(3, .ptr (.loc 0) 0)] [.flat true [DI 0]] (marks' := []) ?_ ?_
          · conv => whnf
            refine Retell.turn ⟨[0], gl.length, [], []⟩ (TurnOk.mk' _ _ [] [] (OutOk.lift _) (Nat.ble_eq_true_of_le (by simp)) (by simp) (BTos.flat (blt_of l0) ((key 0 _ (by decide)).trans j1) rfl BTos.nil) trivial trivial rfl) zw (MkTo.drop (show 1 ∉ ([0] : List Nat) by decide) ((key 1 _ (by decide)).trans j2) MkTo.nil)
          · conv => whnf
            repeat' (first | ((first | refine zs1 ?_ | refine zs2 ?_ | refine zs3 ?_ | refine zs4 ?_ | refine zs5 ?_ | refine zs6 [] ?_); conv => whnf) | ((first | apply zi1 | apply zi2 | apply zi3 | apply zi4 | apply zi5) <;> intro _ <;> conv => whnf))
            exact VOut.same rfl
        · rintro x ⟨go, gl⟩ _ ⟨rfl, ⟨j0, j1, j2⟩, z, hz, hb⟩ hlp
          dsimp only at j0
          subst j0
          have j1 : gl[0]? = some _ := j1
          have j2 : gl[1]? = some _ := j2
          have l0 := (List.getElem?_eq_some_iff.1 j1).1
          have key : ∀ (x : Nat) (A : Blk), x ≠ 2 → (gl.set 2 A)[x]? = gl[x]? := fun x A hx => List.getElem?_set_ne (Ne.symm hx)
          have hE0 : E = 9 := by
            rw [hE]
            have : (List.range H).all (sideB mc W) = false := by
              cases hx : (List.range H).all (sideB mc W) with
              | false => rfl
              | true =>
                rw [List.all_eq_true] at hx
                rw [hx z (List.mem_range.2 hz)] at hb; cases hb
            rw [this]; rfl
          subst hE0
          refine Told.mk [(3, .ptr (.loc 0) 0)] [.flat true [DI 9]] (marks' := []) ?_ ?_
          · conv => whnf
            refine Retell.turn ⟨[0], gl.length, [], []⟩ (TurnOk.mk' _ _ [] [] (OutOk.lift _) (Nat.ble_eq_true_of_le (by simp)) (by simp) (BTos.flat (blt_of l0) ((key 0 _ (by decide)).trans j1) rfl BTos.nil) trivial trivial rfl) zw (MkTo.drop (show 1 ∉ ([0] : List Nat) by decide) ((key 1 _ (by decide)).trans j2) MkTo.nil)
          · conv => whnf
            repeat' (first | ((first | refine zs1 ?_ | refine zs2 ?_ | refine zs3 ?_ | refine zs4 ?_ | refine zs5 ?_ | refine zs6 [] ?_); conv => whnf) | ((first | apply zi1 | apply zi2 | apply zi3 | apply zi4 | apply zi5) <;> intro _ <;> conv => whnf))
            exact VOut.same rfl
  · rw [if_neg h0] at hE
    subst hE
    have hm : (0 ≤ mw ∧ mw ≤ 12) → (0 ≤ mh ∧ mh ≤ 12) → 0 ≤ mw * mh ∧ mw * mh ≤ 144 := sz_mul
    refine VC.body Try.func35 rfl Try.ntmps35 Try.call35 (h.grows_refl) rfl ?_; conv => whnf
    repeat' (first | ((first | refine zs1 ?_ | refine zs2 ?_ | refine zs3 ?_ | refine zs4 ?_ | refine zs5 ?_); conv => whnf) | ((first | apply zi1 | apply zi2 | apply zi3 | apply zi4 | apply zi5) <;> intro _ <;> first | (exfalso; omega) | contradiction | (conv => whnf)) | (refine VCall.intro (vc_from _ _ _ _) ?_; conv => whnf) | (refine VCall.intro (cC _) ?_; conv => whnf))
    all_goals first | exact VOut.same rfl | (exfalso; simp at *; omega)
end Go.Proofs.Ytkbbfeljlepgoaa

open Go.Vm
open Riv
namespace Go.Proofs.Ytkbbfeljlepgoaa
set_option maxRecDepth 20000
set_option maxHeartbeats 4000000

theorem vc_rcheck (m : Mp) (h : Hp) (hl : m.c.length ≤ 4000000) : VC Try.prog 36 [vM m] h (I (chkM m)) h := by
  obtain ⟨E, hE⟩ : ∃ E, E = chkM m := ⟨_, rfl⟩
  rw [← hE]
  unfold chkM at hE
  obtain ⟨mw, mh, mc⟩ := m
  dsimp only at hE hl
  show VC Try.prog 36 [.agg [I mw, I mh, ints mc]] h (I E) h
  by_cases h0 : ((3 ≤ mw ∧ mw ≤ 12) ∧ 1 ≤ mh ∧ mh ≤ 12) ∧ (mc.length : Int) = mw * mh
  · have hm := sz_mul (W := mw) (H := mh) (by omega) (by omega)
    rw [if_pos h0] at hE
    obtain ⟨⟨h1, h2⟩, h3⟩ := h0
    obtain ⟨W, rfl⟩ : ∃ W : Nat, mw = W := ⟨mw.toNat, by omega⟩
    obtain ⟨H, rfl⟩ : ∃ H : Nat, mh = H := ⟨mh.toNat, by omega⟩
    rw [Int.toNat_natCast, Int.toNat_natCast] at hE
    have hL : mc.length = W * H := by
      have e : ((W * H : Nat) : Int) = (W : Int) * H := by rw [Int.natCast_mul]
      omega
    have hlt : ∀ y, y < H → y * W + W ≤ mc.length := fun y hy => by
      have h1 : (y + 1) * W ≤ H * W := Nat.mul_le_mul_right _ hy
      rw [Nat.add_mul, Nat.one_mul, Nat.mul_comm H] at h1; omega
    have hat : ∀ n, n < mc.length → mc[n]? = some (at0 mc n) := fun n hn => by
      unfold at0; rw [List.getD_eq_getElem?_getD, List.getElem?_eq_getElem hn]; rfl
    refine VC.bodyC 4 Try.func36 rfl Try.ntmps36 Try.call36 (h.grows_refl) rfl ?_
    conv => whnf
    repeat' (first | ((first | refine zs1 ?_ | refine zs2 ?_ | refine zs3 ?_ | refine zs4 ?_ | refine zs5 ?_); conv => whnf) | ((first | apply zi1 | apply zi2 | apply zi3 | apply zi4 | apply zi5) <;> intro _ <;> first | (exfalso; omega) | contradiction | (conv => whnf)))
    all_goals try (exfalso; simp at *; omega)
    refine VCode.lpC (outer := h.lift) (marks := []) 99 (fun k : Nat => [(1, .fp [DI W, DI H, dints mc]), (3, I k)]) (fun _ => []) (fun k => k ≤ mc.length ∧ kindB mc = kindB (mc.drop k)) (fun k => mc.length - k) 0 ⟨Nat.zero_le _, rfl⟩ ?_ ?_
    · conv => whnf
      refine Retell.turn ⟨[], 1, [(0, [DI W, DI H, dints mc])], []⟩ (TurnOk.mk' _ _ [(0, [DI W, DI H, dints mc])] [] (OutOk.lift _) rfl (by decide) zb zf trivial rfl) zw zm
    · rintro k ⟨k1, k2⟩
      rcases Nat.lt_or_ge k mc.length with k3 | k3
      · have hx := hat k k3
        have hd : kindB (mc.drop k) = (decide (0 ≤ at0 mc k ∧ at0 mc k ≤ 3) && kindB (mc.drop (k + 1))) := by
          rw [List.getElem?_eq_getElem k3, Option.some.injEq] at hx
          rw [List.drop_eq_getElem_cons k3, hx]; rfl
        generalize at0 mc k = x at hx hd
        by_cases hb : 0 ≤ x ∧ x ≤ 3
        · rw [decide_eq_true hb, Bool.true_and] at hd
          conv => whnf
          repeat' (first | ((first | refine zs1 ?_ | refine zs2 ?_ | refine zs3 ?_ | refine zs4 ?_ | refine zs5 ?_); conv => whnf) | ((first | apply zi1 | apply zi2 | apply zi3 | apply zi4 | apply zi5) <;> intro _ <;> first | (exfalso; omega) | contradiction | (conv => whnf)) | (refine VAny.ix encI_len k (by omega) rfl hx ?_; conv => whnf) | (refine VCall.intro (vc_rbeside _ _ _ _) ?_; conv => whnf))
          refine LEnd.intro (k + 1) ⟨by omega, by rw [k2, hd]⟩ (by omega) ?_
          conv => whnf
          refine Retell.turn ⟨[], 0, [], []⟩ (TurnOk.mk' _ _ [] [] (OutOk.lift _) rfl (by decide) zb trivial trivial rfl) zw zm
        · rw [decide_eq_false hb, Bool.false_and] at hd
          rw [k2, hd, cond_false] at hE
          subst hE
          conv => whnf
          repeat' (first | ((first | refine zs1 ?_ | refine zs2 ?_ | refine zs3 ?_ | refine zs4 ?_ | refine zs5 ?_); conv => whnf) | ((first | apply zi1 | apply zi2 | apply zi3 | apply zi4 | apply zi5) <;> intro _ <;> first | (exfalso; omega) | contradiction | (conv => whnf)) | (refine VAny.ix encI_len k (by omega) rfl hx ?_; conv => whnf) | (refine VCall.intro (vc_rbeside _ _ _ _) ?_; conv => whnf))
          exact VOut.same rfl
      · rw [List.drop_of_length_le k3, show kindB [] = true from rfl] at k2
        rw [k2, cond_true] at hE
        conv => whnf
        repeat' (first | ((first | refine zs1 ?_ | refine zs2 ?_ | refine zs3 ?_ | refine zs4 ?_ | refine zs5 ?_); conv => whnf) | ((first | apply zi1 | apply zi2 | apply zi3 | apply zi4 | apply zi5) <;> intro _ <;> first | (exfalso; omega) | contradiction | (conv => whnf)))
        refine VCode.lp (outer := h.lift) (marks := []) (fun y : Nat => [(1, .fp [DI W, DI H, dints mc]), (4, I y)]) (fun _ => []) (fun y => y ≤ H ∧ ∀ z, z < y → sideB mc W z = true) (fun y => H - y) 0 ⟨Nat.zero_le _, fun z hz => by omega⟩ ?_ ?_
        · conv => whnf
          refine Retell.turn ⟨[], 0, [], []⟩ (TurnOk.mk' _ _ [] [] (OutOk.lift _) rfl (by decide) zb trivial trivial rfl) zw zm
        · rintro y ⟨y1, y2⟩
          rcases Nat.lt_or_ge y H with y3 | y3
          · have hlty := hlt y y3
            have hA := hat (y * W) (by omega)
            have hB := hat (y * W + W - 1) (by omega)
            have hS : sideB mc W y = decide (at0 mc (y * W) = 1 ∧ at0 mc (y * W + W - 1) = 2) := rfl
            have eP : (y : Int) * (W : Int) = ((y * W : Nat) : Int) := by rw [Int.natCast_mul]
            generalize at0 mc (y * W) = a at hA hS
            generalize at0 mc (y * W + W - 1) = b at hB hS
            by_cases hs : a = 1 ∧ b = 2
            · conv => whnf
              repeat' (first | ((first | refine zs1 ?_ | refine zs2 ?_ | refine zs3 ?_ | refine zs4 ?_ | refine zs5 ?_); conv => whnf) | ((first | apply zi1 | apply zi2 | apply zi3 | apply zi4 | apply zi5) <;> intro _ <;> first | (exfalso; omega) | contradiction | (conv => whnf)) | (refine VAny.ix encI_len (y * W) (by omega) rfl hA ?_; conv => whnf) | (refine VAny.ix encI_len (y * W + W - 1) (by omega) rfl hB ?_; conv => whnf))
              refine LEnd.intro (y + 1) ⟨by omega, fun z hz => ?_⟩ (by omega) ?_
              · rcases Nat.lt_or_ge z y with h5 | h5
                · exact y2 z h5
                · obtain rfl : z = y := by omega
                  rw [hS]; exact decide_eq_true hs
              · conv => whnf
                refine Retell.turn ⟨[], 0, [], []⟩ (TurnOk.mk' _ _ [] [] (OutOk.lift _) rfl (by decide) zb trivial trivial rfl) zw zm
            · have hE0 : E = 9 := by
                rw [hE]
                have : (List.range H).all (sideB mc W) = false := by
                  cases hx : (List.range H).all (sideB mc W) with
                  | false => rfl
                  | true =>
                    rw [List.all_eq_true] at hx
                    have := hx y (List.mem_range.2 y3)
                    rw [hS, decide_eq_false hs] at this; cases this
                rw [this]; rfl
              subst hE0
              conv => whnf
              repeat' (first | ((first | refine zs1 ?_ | refine zs2 ?_ | refine zs3 ?_ | refine zs4 ?_ | refine zs5 ?_); conv => whnf) | ((first | apply zi1 | apply zi2 | apply zi3 | apply zi4 | apply zi5) <;> intro _ <;> first | (exfalso; omega) | contradiction | (conv => whnf)) | (refine VAny.ix encI_len (y * W) (by omega) rfl hA ?_; conv => whnf) | (refine VAny.ix encI_len (y * W + W - 1) (by omega) rfl hB ?_; conv => whnf))
              all_goals exact VOut.same rfl
          · have hE0 : E = 0 := by
              rw [hE]
              have : (List.range H).all (sideB mc W) = true := by
                rw [List.all_eq_true]
                exact fun z hz => y2 z (by have := List.mem_range.1 hz; omega)
              rw [this]; rfl
            subst hE0
            conv => whnf
            repeat' (first | ((first | refine zs1 ?_ | refine zs2 ?_ | refine zs3 ?_ | refine zs4 ?_ | refine zs5 ?_); conv => whnf) | ((first | apply zi1 | apply zi2 | apply zi3 | apply zi4 | apply zi5) <;> intro _ <;> first | (exfalso; omega) | contradiction | (conv => whnf)))
            refine VCut.at' (outer := h.lift) (marks := []) 99 [] [] ?_ ?_
            · conv => whnf
              refine Retell.turn ⟨[], 0, [], []⟩ (TurnOk.mk' _ _ [] [] (OutOk.lift _) rfl (by decide) zb trivial trivial rfl) zw zm
            · conv => whnf
              repeat' (first | ((first | refine zs1 ?_ | refine zs2 ?_ | refine zs3 ?_ | refine zs4 ?_ | refine zs5 ?_); conv => whnf) | ((first | apply zi1 | apply zi2 | apply zi3 | apply zi4 | apply zi5) <;> intro _ <;> first | (exfalso; omega) | contradiction | (conv => whnf)))
              exact VOut.same rfl
  · rw [if_neg h0] at hE
    subst hE
    have hm : (0 ≤ mw ∧ mw ≤ 12) → (0 ≤ mh ∧ mh ≤ 12) → 0 ≤ mw * mh ∧ mw * mh ≤ 144 := sz_mul
    refine VC.bodyC 3 Try.func36 rfl Try.ntmps36 Try.call36 (h.grows_refl) rfl ?_
    conv => whnf
    repeat' (first | ((first | refine zs1 ?_ | refine zs2 ?_ | refine zs3 ?_ | refine zs4 ?_ | refine zs5 ?_); conv => whnf) | ((first | apply zi1 | apply zi2 | apply zi3 | apply zi4 | apply zi5) <;> intro _ <;> first | (exfalso; omega) | contradiction | (conv => whnf)))
    all_goals first | exact VOut.same rfl | (exfalso; simp at *; omega)
end Go.Proofs.Ytkbbfeljlepgoaa

open Go.Vm
open Riv
namespace Go.Vm
theorem wrap_u64 {n : Int} (h : 0 ≤ n ∧ n < 18446744073709551616) : IntKind.u64.wrap n = n := by
  unfold IntKind.wrap
  simp [IntKind.bits, IntKind.signed]
  omega
theorem VArith.u64 {n : Int} {K : Int → Prop} (h : 0 ≤ n ∧ n < 18446744073709551616) (hk : K n) : VArith .u64 n K := VArith.wr (by rw [wrap_u64 h]; exact hk)
theorem VArith.mask {n : Nat} {K : Int → Prop} (h : n < 4294967296) (hk : K n) : VArith .u64 (((BitVec.ofInt IntKind.u64.bits (n : Int) &&& BitVec.ofInt IntKind.u64.bits 4294967295).toNat : Nat) : Int) K := by
  have e : (BitVec.ofInt IntKind.u64.bits (n : Int) &&& BitVec.ofInt IntKind.u64.bits 4294967295).toNat = n := by
    rw [BitVec.toNat_and]
    have e1 : (BitVec.ofInt IntKind.u64.bits 4294967295).toNat = 2 ^ 32 - 1 := by decide
    have e2 : (BitVec.ofInt IntKind.u64.bits (n : Int)).toNat = n := by
      rw [BitVec.toNat_ofInt]
      simp only [IntKind.bits]
      omega
    rw [e1, e2, Nat.and_two_pow_sub_one_eq_mod]
    omega
  rw [e]
  exact VArith.u64 (by omega) hk
theorem shr32 {n : Nat} (h : n < 4294967296) : (n : Int).fdiv (2 ^ (min (32 : Int).toNat IntKind.u64.bits)) = 0 := by
  rw [show (2 : Int) ^ (min (32 : Int).toNat IntKind.u64.bits) = 4294967296 by decide]
  rw [Int.fdiv_eq_ediv_of_nonneg _ (by decide)]
  omega
end Go.Vm
namespace Go.Proofs.Ytkbbfeljlepgoaa
set_option maxRecDepth 20000
set_option maxHeartbeats 4000000
abbrev U (n : Int) : V := .s (.int .u64 n)
theorem vc_Mul64 (n : Nat) (hn : n < 4294967296) (h : Hp) : VC Try.prog 119 [U 1, U n] h (.tuple [U 0, U n]) h := by
  have e := shr32 hn
  have e1 : Int.fdiv 1 (2 ^ (min (32 : Int).toNat IntKind.u64.bits)) = 0 := by decide
  have e0 : Int.fdiv 0 (2 ^ (min (32 : Int).toNat IntKind.u64.bits)) = 0 := by decide
  refine VC.body Try.func119 rfl Try.ntmps119 Try.call119 (h.grows_refl) rfl ?_; conv => whnf
  repeat' (first | ((first | refine zs1 ?_ | refine zs2 ?_ | refine zs3 ?_ | refine zs4 ?_ | refine zs5 ?_ | refine zs6 [] ?_); conv => whnf) | ((first | apply zi1 | apply zi2 | apply zi3 | apply zi4 | apply zi5) <;> intro _ <;> conv => whnf) | (refine VArith.mask hn ?_; conv => whnf) | (refine VArith.mask (n := 1) (by decide) ?_; simp only [Int.natCast_one]; conv => whnf) | (refine VArith.mask (n := 0) (by decide) ?_; simp only [Int.natCast_zero]; conv => whnf) | (simp only [e, e1, e0, Int.one_mul, Int.zero_mul, Int.zero_add, Int.add_zero]; conv => whnf) | (refine VArith.u64 (by omega) ?_; conv => whnf))
  exact VOut.same rfl
theorem vc_Mul (n : Nat) (hn : n < 4294967296) (h : Hp) : VC Try.prog 110 [U 1, U n] h (.tuple [U 0, U n]) h := by
  refine VC.body Try.func110 rfl Try.ntmps110 Try.call110 (h.grows_refl) rfl ?_; conv => whnf
  repeat' (first | ((first | refine zs1 ?_ | refine zs2 ?_ | refine zs3 ?_ | refine zs4 ?_ | refine zs5 ?_ | refine zs6 [] ?_); conv => whnf) | ((first | apply zi1 | apply zi2 | apply zi3 | apply zi4 | apply zi5) <;> intro _ <;> conv => whnf) | (refine VCall.intro (vc_Mul64 n hn _) ?_; conv => whnf))
  exact VOut.same rfl
end Go.Proofs.Ytkbbfeljlepgoaa
namespace Go.Vm
theorem flatI (l : List Int) : l.flatMap encI = l.map DI := by
  induction l with
  | nil => rfl
  | cons a l ih => rw [List.flatMap_cons, ih]; rfl
theorem VOut.own1 {h : Hp} {loc : List Blk} {esz n : Nat} {ds : List D} (j L : Nat) (hL : Nat.ble loc.length L = true) (hj : loc[j]? = some (.flat true ds)) : VOut h ⟨h.lift, loc⟩ (.gl (.loc j) esz n) (.gl h.fresh esz n) (h.push (.flat true ds)) := by
  refine VOut.upd [] [.flat true ds] [j] L hL (by intro p hp; cases hp) (by simp) rfl ?_ ?_ rfl
  · intro k b hk
    cases k with
    | zero => rw [List.getElem?_cons_zero, Option.some.injEq] at hk; subst hk; exact ⟨j, rfl, hj⟩
    | succ k => simp at hk
  · intro σ x hx
    have : (V.gl h.fresh esz n).ren (backR h.loc.length [j] L) = .gl (.loc j) esz n := by simp [V.ren, backR, Hp.fresh]
    rw [this]; exact hx
def repL (a z : Int) (n k : Nat) : List Int := List.replicate k a ++ List.replicate (n - k) z
theorem repL_len (a z : Int) {n k : Nat} (h : k ≤ n) : (repL a z n k).length = n := by unfold repL; simp; omega
theorem VMem.copyRep {P : Program} {t ty : TypeId} {e bytes : Nat} {zero : List V} {s_ : Nat} {a_ : Bool} {z_ : V} {h : Hp} {i : Id} {a z : Int} {n k o1 n1 n2 : Nat} {K : V → Hp → Prop} (hTt : tiOf P t = some ⟨.slice e 1 bytes zero, s_, a_, z_⟩)
    (hb : h.get i = some (.flat true ((repL a z n k).flatMap encI))) (hk : k ≤ n) (h1 : o1 = k) (h2 : n1 = n - k) (h3 : n2 = k)
    (hK : K (.s (.int .i64 (min k (n - k) : Nat))) (h.set i (.flat true ((repL a z n (k + min k (n - k))).flatMap encI)))) : VMem P (opCopy #[t, t] ty) [.slice i o1 1 n1 none, .gl i 1 n2] h K := by
  subst h1 h2 h3
  refine VMem.intro (does_copy (n := n2) (m := min n2 (n - n2)) (news := ((List.replicate n2 a).map DI).map D.v) (l := ((repL a z n n2).flatMap encI).map D.v) (tiOf_ok P) hTt hb rfl ?_ ?_ rfl ?_) hK
  · simp only [SegOf]
    refine ⟨trivial, trivial, _, true, _, hb, rfl, by rw [List.length_map, flat_len encI_len, repL_len a z hk]; omega, ?_⟩
    rw [flatI, ← List.map_take, ← List.map_take, repL, List.take_append_of_le_length (by simp), List.take_of_length_le (by simp)]
  · rw [List.length_map, flat_len encI_len, repL_len a z hk]; omega
  · simp only [Blk.row, flatI, ← List.map_take, ← List.map_drop]
    rw [← List.map_append, ← List.map_append, ← List.map_append, ← List.map_append]
    congr 3
    rw [Nat.mul_one]
    generalize hm : min n2 (n - n2) = m
    unfold repL
    rw [List.take_append_of_le_length (by simp), List.take_of_length_le (by simp), List.take_replicate, List.drop_append, List.drop_of_length_le (by simp), List.nil_append, List.length_replicate, List.drop_replicate, Nat.min_eq_left (by omega), ← List.replicate_append_replicate]
    congr 2
    rw [show n - (n2 + m) = n - n2 - (n2 + m - n2) by omega]
theorem VMem.copyOne {P : Program} {t ty : TypeId} {e bytes : Nat} {zero : List V} {s_ : Nat} {a_ : Bool} {z_ : V} {h : Hp} {i : Id} {a z : Int} {n : Nat} {K : V → Hp → Prop} (hTt : tiOf P t = some ⟨.slice e 1 bytes zero, s_, a_, z_⟩)
    (hb : h.get i = some (.flat true ((List.replicate n z).flatMap encI)))
    (hK : K (.s (.int .i64 (min 1 n : Nat))) (h.set i (.flat true ((repL a z n (min 1 n)).flatMap encI)))) : VMem P (opCopy #[t, t] ty) [.gl i 1 n, .fs 1 1 [DI a]] h K := by
  refine VMem.intro (does_copy_gl (k := 1) (m := min 1 n) (news := ([a].map DI).map D.v) (l := ((List.replicate n z).flatMap encI).map D.v) (tiOf_ok P) hTt hb rfl ?_ ?_ rfl ?_) hK
  · simp only [SegOf]
    exact ⟨trivial, trivial, by simp, rfl⟩
  · rw [List.length_map, flat_len encI_len, List.length_replicate]; omega
  · simp only [Blk.row, flatI, ← List.map_take, ← List.map_drop]
    rw [← List.map_append, ← List.map_append]
    congr 3
    rw [Nat.mul_one]
    unfold repL
    cases n with
    | zero => rfl
    | succ n =>
      rw [show min 1 (n + 1) = 1 by omega, List.drop_replicate]
      rfl
end Go.Vm
namespace Go.Proofs.Ytkbbfeljlepgoaa
set_option maxRecDepth 20000
set_option maxHeartbeats 4000000
theorem vc_Repeat (a : Int) (n : Nat) (h : Hp) (hn : n ≤ 1000000) : VC Try.prog 92 [ints [a], I n] h (.gl h.fresh 1 n) (h.push (.flat true ((List.replicate n a).flatMap encI))) := by
  show VC Try.prog 92 [.fs 1 1 [DI a], I n] h _ _
  refine VC.body Try.func92 rfl Try.ntmps92 Try.call92 (h.grows_push _) rfl ?_
  conv => whnf
  repeat' (first | ((first | refine zs1 ?_ | refine zs2 ?_ | refine zs3 ?_ | refine zs4 ?_ | refine zs5 ?_); conv => whnf) | ((first | apply zi1 | apply zi2 | apply zi3 | apply zi4 | apply zi5) <;> intro _ <;> first | (exfalso; omega) | contradiction | (conv => whnf)) | (refine VArith.u64 (by omega) ?_; conv => whnf) | (refine VCall.intro (vc_Mul n (by omega) _) ?_; conv => whnf) | (refine VMem.make (0 : Int) encI_len rfl rfl rfl rfl rfl rfl (by omega) ?_; conv => whnf) | (refine VMem.copyOne (a := a) (z := 0) (n := n) rfl rfl ?_; conv => whnf))
  refine VCode.lp (outer := h.lift) (marks := []) (fun k : Nat => [(7, .gl (.loc 0) 1 n), (8, I k)]) (fun k => [.flat true ((repL a 0 n k).flatMap encI)]) (fun k => k ≤ n ∧ (k = 0 → n = 0)) (fun k => n - k) (min 1 n) ⟨by omega, by omega⟩ ?_ ?_
  · generalize hm : min 1 n = m
    conv => whnf
    refine Retell.turn ⟨[0], 1, [], []⟩ (TurnOk.mk' _ _ [] [] (OutOk.lift _) rfl (by decide) zb trivial trivial rfl) zw zm
  · rintro k ⟨h1, h2⟩
    conv => whnf
    repeat (first | ((first | refine zs1 ?_ | refine zs2 ?_ | refine zs3 ?_ | refine zs4 ?_ | refine zs5 ?_ | refine zs6 [] ?_); conv => whnf))
    refine VIte.dec (fun h3 => ?_) (fun h3 => ?_)
    · conv => whnf
      refine zs6 [] ?_
      conv => whnf
      repeat (first | ((first | refine zs1 ?_ | refine zs2 ?_ | refine zs3 ?_ | refine zs4 ?_ | refine zs5 ?_ | refine zs6 [] ?_); conv => whnf))
      refine VAny.intro (v := .slice (.loc 0) (k * 1) 1 (n - k) none) ⟨by omega, n - k, by omega, .inr ⟨by omega, rfl⟩⟩ ?_
      conv => whnf
      repeat (first | ((first | refine zs1 ?_ | refine zs2 ?_ | refine zs3 ?_ | refine zs4 ?_ | refine zs5 ?_ | refine zs6 [] ?_); conv => whnf))
      refine VAny.intro (v := .gl (.loc 0) 1 k) ⟨by omega, k, by omega, .inl ⟨rfl, rfl⟩⟩ ?_
      conv => whnf
      repeat (first | ((first | refine zs1 ?_ | refine zs2 ?_ | refine zs3 ?_ | refine zs4 ?_ | refine zs5 ?_ | refine zs6 [] ?_); conv => whnf))
      refine VMem.copyRep (a := a) (z := 0) (n := n) (k := k) rfl rfl h1 (by omega) rfl rfl ?_
      generalize hm : min k (n - k) = m
      conv => whnf
      repeat (first | ((first | refine zs1 ?_ | refine zs2 ?_ | refine zs3 ?_ | refine zs4 ?_ | refine zs5 ?_ | refine zs6 [] ?_); conv => whnf))
      refine LEnd.intro (k + m) ⟨by omega, by omega⟩ (by omega) ?_
      conv => whnf
      refine Retell.turn ⟨[0], 1, [], []⟩ (TurnOk.mk' _ _ [] [] (OutOk.lift _) rfl (by decide) zb trivial trivial rfl) zw zm
    · obtain rfl : k = n := by omega
      rw [show repL a 0 k k = List.replicate k a by unfold repL; rw [Nat.sub_self]; simp]
      conv => whnf
      repeat' (first | ((first | refine zs1 ?_ | refine zs2 ?_ | refine zs3 ?_ | refine zs4 ?_ | refine zs5 ?_ | refine zs6 [] ?_); conv => whnf) | ((first | apply zi1 | apply zi2 | apply zi3 | apply zi4 | apply zi5) <;> intro _ <;> conv => whnf))
      exact VOut.own1 0 1 rfl rfl
end Go.Proofs.Ytkbbfeljlepgoaa

open Go.Vm
open Riv
namespace Go.Proofs.Ytkbbfeljlepgoaa
set_option maxRecDepth 20000
set_option maxHeartbeats 4000000

def lkE (m : Mp) (s : Int) : Int := if chkM m = 0 then (if s = 1 ∨ s = 2 then 0 else 4) else chkM m
def encSd (m : Mp) (s : Int) : List D := [DI m.w, DI m.h, dints m.c, DI s]
theorem vc_looked (m : Mp) (s : Int) (h : Hp) (hl : m.c.length ≤ 4000000) : VC Try.prog 65 [vM m, I s] h (.tuple [vSd m s, I (lkE m s)]) h := by
  have c := fun h => vc_check m h hl
  unfold lkE
  generalize chkM m = E at c
  obtain ⟨mw, mh, mc⟩ := m
  by_cases h0 : E = 0
  · subst h0
    rw [if_pos rfl]
    by_cases h1 : s = 1 ∨ s = 2
    · rw [if_pos h1]
      refine VC.body Try.func65 rfl Try.ntmps65 Try.call65 (h.grows_refl) rfl ?_; conv => whnf
      repeat' (first | ((first | refine zs1 ?_ | refine zs2 ?_ | refine zs3 ?_ | refine zs4 ?_ | refine zs5 ?_); conv => whnf) | ((first | apply zi1 | apply zi2 | apply zi3 | apply zi4 | apply zi5) <;> intro _ <;> first | (exfalso; omega) | contradiction | (conv => whnf)) | (refine VCall.intro (c _) ?_; conv => whnf))
      all_goals exact VOut.same rfl
    · rw [if_neg h1]
      refine VC.body Try.func65 rfl Try.ntmps65 Try.call65 (h.grows_refl) rfl ?_; conv => whnf
      repeat' (first | ((first | refine zs1 ?_ | refine zs2 ?_ | refine zs3 ?_ | refine zs4 ?_ | refine zs5 ?_); conv => whnf) | ((first | apply zi1 | apply zi2 | apply zi3 | apply zi4 | apply zi5) <;> intro _ <;> first | (exfalso; omega) | contradiction | (conv => whnf)) | (refine VCall.intro (c _) ?_; conv => whnf))
      all_goals exact VOut.same rfl
  · rw [if_neg h0]
    refine VC.body Try.func65 rfl Try.ntmps65 Try.call65 (h.grows_refl) rfl ?_; conv => whnf
    repeat' (first | ((first | refine zs1 ?_ | refine zs2 ?_ | refine zs3 ?_ | refine zs4 ?_ | refine zs5 ?_); conv => whnf) | ((first | apply zi1 | apply zi2 | apply zi3 | apply zi4 | apply zi5) <;> intro _ <;> first | (exfalso; omega) | contradiction | (conv => whnf)) | (refine VCall.intro (c _) ?_; conv => whnf))
    all_goals exact VOut.same rfl
theorem vc_Shore (m : Mp) (s : Int) (h : Hp) (hl : m.c.length ≤ 4000000) : VC Try.prog 72 [vM m, I s] h (I (lkE m s)) h := by
  have c := fun h => vc_rcheck m h hl
  unfold lkE
  generalize chkM m = E at c
  obtain ⟨mw, mh, mc⟩ := m
  by_cases h0 : E = 0
  · subst h0
    rw [if_pos rfl]
    by_cases h1 : s = 1 ∨ s = 2
    · rw [if_pos h1]
      refine VC.body Try.func72 rfl Try.ntmps72 Try.call72 (h.grows_refl) rfl ?_; conv => whnf
      repeat' (first | ((first | refine zs1 ?_ | refine zs2 ?_ | refine zs3 ?_ | refine zs4 ?_ | refine zs5 ?_); conv => whnf) | ((first | apply zi1 | apply zi2 | apply zi3 | apply zi4 | apply zi5) <;> intro _ <;> first | (exfalso; omega) | contradiction | (conv => whnf)) | (refine VCall.intro (c _) ?_; conv => whnf))
      all_goals exact VOut.same rfl
    · rw [if_neg h1]
      refine VC.body Try.func72 rfl Try.ntmps72 Try.call72 (h.grows_refl) rfl ?_; conv => whnf
      repeat' (first | ((first | refine zs1 ?_ | refine zs2 ?_ | refine zs3 ?_ | refine zs4 ?_ | refine zs5 ?_); conv => whnf) | ((first | apply zi1 | apply zi2 | apply zi3 | apply zi4 | apply zi5) <;> intro _ <;> first | (exfalso; omega) | contradiction | (conv => whnf)) | (refine VCall.intro (c _) ?_; conv => whnf))
      all_goals exact VOut.same rfl
  · rw [if_neg h0]
    refine VC.body Try.func72 rfl Try.ntmps72 Try.call72 (h.grows_refl) rfl ?_; conv => whnf
    repeat' (first | ((first | refine zs1 ?_ | refine zs2 ?_ | refine zs3 ?_ | refine zs4 ?_ | refine zs5 ?_); conv => whnf) | ((first | apply zi1 | apply zi2 | apply zi3 | apply zi4 | apply zi5) <;> intro _ <;> first | (exfalso; omega) | contradiction | (conv => whnf)) | (refine VCall.intro (c _) ?_; conv => whnf))
    all_goals exact VOut.same rfl
end Go.Proofs.Ytkbbfeljlepgoaa

open Go.Vm
open Riv
namespace Go.Proofs.Ytkbbfeljlepgoaa
set_option maxRecDepth 20000
set_option maxHeartbeats 4000000

/-! ### Lists that are written place by place -/
theorem at0_get {l : List Int} {n : Nat} (hn : n < l.length) : l[n]? = some (at0 l n) := by
  unfold at0; rw [List.getD_eq_getElem?_getD, List.getElem?_eq_getElem hn]; rfl
def t0k (c : List Int) (s : Int) (k : Nat) : List Int := t0 (c.take k) s ++ List.replicate (c.length - k) (-1)
theorem t0_len (c : List Int) (s : Int) : (t0 c s).length = c.length := by unfold t0; rw [List.length_map]
theorem t0k_len {c : List Int} {s : Int} {k : Nat} (h : k ≤ c.length) : (t0k c s k).length = c.length := by
  unfold t0k; rw [List.length_append, t0_len, List.length_take, List.length_replicate]; omega
theorem t0k_zero (c : List Int) (s : Int) : t0k c s 0 = List.replicate c.length (-1) := rfl
theorem t0k_all (c : List Int) (s : Int) : t0k c s c.length = t0 c s := by
  unfold t0k; rw [List.take_of_length_le (Nat.le_refl _), Nat.sub_self]; simp
theorem t0k_step {c : List Int} {s x : Int} {k : Nat} (h : c[k]? = some x) : t0k c s (k + 1) = if x = s then (t0k c s k).set k 0 else t0k c s k := by
  obtain ⟨hlt, rfl⟩ := List.getElem?_eq_some_iff.1 h
  have e : List.replicate (c.length - k) (-1 : Int) = -1 :: List.replicate (c.length - (k + 1)) (-1) := by
    rw [show c.length - k = (c.length - (k + 1)) + 1 by omega]; rfl
  have hl : (t0 (c.take k) s).length = k := by rw [t0_len, List.length_take]; omega
  have e2 : t0 (c.take (k + 1)) s = t0 (c.take k) s ++ [if c[k] = s then 0 else -1] := by
    unfold t0
    rw [List.take_add_one, List.getElem?_eq_getElem hlt, List.map_append]; rfl
  unfold t0k
  rw [e2, e]
  split
  · rw [List.set_append_right _ _ (by omega), hl, Nat.sub_self, List.set_cons_zero]; simp
  · simp
theorem putB_len (c : List Int) (st : Int) (T : List Int) (k : Nat) : (putB c st T k).length = T.length := by
  unfold putB; split <;> simp
theorem nbF_len {f : List Int → Nat → List Int} (hf : ∀ T k, (f T k).length = T.length) (W L n : Nat) (T : List Int) (k : Nat) : (nbF f W L n T k).length = T.length := by
  unfold nbF
  generalize (List.range k).filterMap (nbO W L n) = l
  induction l generalizing T with
  | nil => rfl
  | cons a l ih => rw [List.foldl_cons, ih, hf]
theorem fold_len {f : List Int → Nat → List Int} (hf : ∀ T k, (f T k).length = T.length) : ∀ (l : List Nat) (T : List Int), (l.foldl f T).length = T.length
  | [], _ => rfl
  | a :: l, T => by rw [List.foldl_cons, fold_len hf l, hf]
theorem cellB_len (c : List Int) (W : Nat) (s st : Int) (T : List Int) (n : Nat) : (cellB c W s st T n).length = T.length := by
  unfold cellB
  split
  · exact fold_len (putB_len c st) _ T
  · rfl
theorem stepB_len (c : List Int) (W : Nat) (s : Int) (T : List Int) (st : Nat) : (stepB c W s T st).length = T.length := fold_len (cellB_len c W s st) _ T
def bfsK (c : List Int) (W : Nat) (s : Int) (k : Nat) : List Int := (List.range k).foldl (stepB c W s) (t0 c s)
theorem bfsK_len (c : List Int) (W : Nat) (s : Int) (k : Nat) : (bfsK c W s k).length = c.length := by unfold bfsK; rw [fold_len (stepB_len c W s), t0_len]
theorem bfsK_step (c : List Int) (W : Nat) (s : Int) (k : Nat) : bfsK c W s (k + 1) = stepB c W s (bfsK c W s k) k := by unfold bfsK; rw [List.range_succ, List.foldl_append]; rfl
def stepK (c : List Int) (W : Nat) (s : Int) (T : List Int) (st k : Nat) : List Int := (List.range k).foldl (cellB c W s st) T
theorem stepK_len (c : List Int) (W : Nat) (s : Int) (T : List Int) (st k : Nat) : (stepK c W s T st k).length = T.length := fold_len (cellB_len c W s st) _ T
theorem stepK_step (c : List Int) (W : Nat) (s : Int) (T : List Int) (st k : Nat) : stepK c W s T st (k + 1) = cellB c W s st (stepK c W s T st k) k := by unfold stepK; rw [List.range_succ, List.foldl_append]; rfl
structure TJ (o : Vm.Id → Option Blk) (L : Nat) (T : List Int) (g : Hp) : Prop where
  o : g.outer = o
  b0 : g.get (.loc 0) = some (.cells true [.gl (.loc 1) 1 L])
  b1 : g.get (.loc 1) = some (.flat true (T.flatMap encI))
  b2 : g.get (.loc 2) = some .mark
theorem vc_table {W H : Nat} (m : Mp) (s : Int) (h : Hp) (o : MOk W H m.c) (hw : m.w = W) (hs : s = 1 ∨ s = 2) : VC Try.prog 66 [vSd m s] h (ints (bfs m.c W s)) h := by
  have hWb := o.w
  have hHb := o.h
  have hL := o.len
  have hlen : m.c.length ≤ 144 := by
    rw [hL]
    exact Nat.le_trans (Nat.mul_le_mul hWb.2 hHb.2) (by decide)
  obtain ⟨R, hR⟩ : ∃ R, R = bfs m.c W s := ⟨_, rfl⟩
  have hRl : R.length = m.c.length := by rw [hR]; exact bfsK_len _ _ _ _
  rw [← hR]
  have cT := fun k x hk h => vc_through m s x k h hk
  have cB := fun n h => vc_beside m n h
  have itB := fun n hn => iter_beside m W n (by omega) hw hn (by omega)
  obtain ⟨mw, mh, c⟩ := m
  dsimp only at hw o hL hlen hR hRl cT itB
  subst hw
  show VC Try.prog 66 [.agg [I W, I mh, ints c, I s]] h (ints R) h
  obtain ⟨mapD, hmapD⟩ : ∃ l, l = [DI W, DI mh, dints c, DI s] := ⟨_, rfl⟩
  refine VC.bodyC 2 Try.func66 rfl Try.ntmps66 Try.call66 (h.grows_refl) rfl ?_
  conv => whnf
  repeat' (first | ((first | refine zs1 ?_ | refine zs2 ?_ | refine zs3 ?_ | refine zs4 ?_ | refine zs5 ?_); conv => whnf) | ((first | apply zi1 | apply zi2 | apply zi3 | apply zi4 | apply zi5) <;> intro _ <;> conv => whnf))
  refine VCut.at' (outer := h.lift) (marks := []) 99 [(1, .fp [DI W, DI mh, dints c, DI s]), (3, .func (.func 75) [.agg [I W, I mh, ints c, I s]] [])] [] ?_ ?_
  · conv => whnf
    refine Retell.turn ⟨[], 1, [(0, [DI W, DI mh, dints c, DI s])], []⟩ (TurnOk.mk' _ _ [(0, [DI W, DI mh, dints c, DI s])] [] (OutOk.lift _) rfl (by decide) zb zf trivial rfl) zw zm
  conv => whnf
  repeat' (first | ((first | refine zs1 ?_ | refine zs2 ?_ | refine zs3 ?_ | refine zs4 ?_ | refine zs5 ?_); conv => whnf) | ((first | apply zi1 | apply zi2 | apply zi3 | apply zi4 | apply zi5) <;> intro _ <;> conv => whnf))
  refine VCall.intro (VC.give (args' := [ints [-1], I c.length]) (loc' := [.dead]) [(0, [DI (-1)])] [] (OutOk.lift _) zb zf (by exact FmAll.nil) rfl zw (vc_Repeat (-1) c.length _ (by omega))) ?_
  conv => whnf
  repeat' (first | ((first | refine zs1 ?_ | refine zs2 ?_ | refine zs3 ?_ | refine zs4 ?_ | refine zs5 ?_); conv => whnf) | ((first | apply zi1 | apply zi2 | apply zi3 | apply zi4 | apply zi5) <;> intro _ <;> conv => whnf))
  refine VCode.lpC (outer := h.lift) (marks := []) 99 (fun k : Nat => [(1, .fp [DI W, DI mh, dints c, DI s]), (3, .func (.func 75) [.agg [I W, I mh, ints c, I s]] []), (4, .ptr (.loc 0) 0), (20, ints c), (21, I c.length), (22, I k)]) (fun k => [.cells true [.gl (.loc 1) 1 c.length], .flat true ((t0k c s k).flatMap encI)]) (fun k => k ≤ c.length) (fun k => c.length - k) 0 (Nat.zero_le _) ?_ ?_
  · rw [t0k_zero]
    conv => whnf
    refine Retell.turn ⟨[2,1], 3, [], []⟩ (TurnOk.mk' _ _ [] [] (OutOk.lift _) rfl (by decide) zb trivial trivial rfl) zw zm
  · rintro k hk
    rcases Nat.lt_or_ge k c.length with h3 | h3
    · have hx := at0_get h3
      have hst := t0k_step (s := s) hx
      have hkl : (t0k c s k)[k]? = some (at0 (t0k c s k) k) := at0_get (by rw [t0k_len hk]; exact h3)
      generalize at0 c k = x at hx hst
      generalize t0k c s k = T at hst hkl
      by_cases hxs : x = s
      · rw [if_pos hxs] at hst
        conv => whnf
        repeat' (first | ((first | refine zs1 ?_ | refine zs2 ?_ | refine zs3 ?_ | refine zs4 ?_ | refine zs5 ?_); conv => whnf) | ((first | apply zi1 | apply zi2 | apply zi3 | apply zi4 | apply zi5) <;> intro _ <;> first | (exfalso; omega) | contradiction | (conv => whnf)) | (refine VAny.ix encI_len k rfl rfl hx ?_; conv => whnf) | (refine VMem.setRec encI_len k 0 (0 : Int) rfl rfl rfl hkl (by decide) rfl (by simp) ?_; conv => whnf))
        refine LEnd.intro (k + 1) (by omega) (by omega) ?_
        rw [hst]
        conv => whnf
        refine Retell.turn ⟨[0,1], 2, [], []⟩ (TurnOk.mk' _ _ [] [] (OutOk.lift _) rfl (by decide) zb trivial trivial rfl) zw zm
      · rw [if_neg hxs] at hst
        conv => whnf
        repeat' (first | ((first | refine zs1 ?_ | refine zs2 ?_ | refine zs3 ?_ | refine zs4 ?_ | refine zs5 ?_); conv => whnf) | ((first | apply zi1 | apply zi2 | apply zi3 | apply zi4 | apply zi5) <;> intro _ <;> first | (exfalso; omega) | contradiction | (conv => whnf)) | (refine VAny.ix encI_len k rfl rfl hx ?_; conv => whnf))
        refine LEnd.intro (k + 1) (by omega) (by omega) ?_
        rw [hst]
        conv => whnf
        refine Retell.turn ⟨[0,1], 2, [], []⟩ (TurnOk.mk' _ _ [] [] (OutOk.lift _) rfl (by decide) zb trivial trivial rfl) zw zm
    · obtain rfl : k = c.length := by omega
      rw [t0k_all]
      conv => whnf
      repeat' (first | ((first | refine zs1 ?_ | refine zs2 ?_ | refine zs3 ?_ | refine zs4 ?_ | refine zs5 ?_); conv => whnf) | ((first | apply zi1 | apply zi2 | apply zi3 | apply zi4 | apply zi5) <;> intro _ <;> first | (exfalso; omega) | contradiction | (conv => whnf)))
      refine VCode.lpC (outer := h.lift) (marks := []) 99 (fun st : Nat => [(1, .fp [DI W, DI mh, dints c, DI s]), (3, .func (.func 75) [.agg [I W, I mh, ints c, I s]] []), (4, .ptr (.loc 0) 0), (38, I c.length), (39, I st)]) (fun st => [.cells true [.gl (.loc 1) 1 c.length], .flat true ((bfsK c W s st).flatMap encI)]) (fun st => st ≤ c.length) (fun st => c.length - st) 0 (Nat.zero_le _) ?_ ?_
      · rw [show bfsK c W s 0 = t0 c s from rfl]
        conv => whnf
        refine Retell.turn ⟨[0,1], 2, [], []⟩ (TurnOk.mk' _ _ [] [] (OutOk.lift _) rfl (by decide) zb trivial trivial rfl) zw zm
      · rintro st hst
        rcases Nat.lt_or_ge st c.length with h5 | h5
        · have hB := bfsK_step c W s st
          have hBl := bfsK_len c W s st
          have hst2 : stepB c W s (bfsK c W s st) st = stepK c W s (bfsK c W s st) st c.length := rfl
          rw [hst2] at hB
          have hSl := fun n => stepK_len c W s (bfsK c W s st) st n
          have hSt := fun n => stepK_step c W s (bfsK c W s st) st n
          have hS0 : stepK c W s (bfsK c W s st) st 0 = bfsK c W s st := rfl
          rw [← hS0]
          generalize bfsK c W s st = T0 at *
          conv => whnf
          repeat' (first | ((first | refine zs1 ?_ | refine zs2 ?_ | refine zs3 ?_ | refine zs4 ?_ | refine zs5 ?_); conv => whnf) | ((first | apply zi1 | apply zi2 | apply zi3 | apply zi4 | apply zi5) <;> intro _ <;> first | (exfalso; omega) | contradiction | (conv => whnf)))
          refine VCode.lpC (outer := h.lift) (marks := []) 99 (fun n : Nat => [(1, .fp [DI W, DI mh, dints c, DI s]), (3, .func (.func 75) [.agg [I W, I mh, ints c, I s]] []), (4, .ptr (.loc 0) 0), (38, I c.length), (39, I st), (7, .fp [DI st]), (45, I c.length), (46, I n)]) (fun n => [.cells true [.gl (.loc 1) 1 c.length], .flat true ((stepK c W s T0 st n).flatMap encI)]) (fun n => n ≤ c.length) (fun n => c.length - n) 0 (Nat.zero_le _) ?_ ?_
          · generalize stepK c W s T0 st 0 = T
            conv => whnf
            refine Retell.turn ⟨[0,1], 3, [(2, [DI st])], []⟩ (TurnOk.mk' _ _ [(2, [DI st])] [] (OutOk.lift _) rfl (by decide) zb zf trivial rfl) zw zm
          · rintro n hn
            rcases Nat.lt_or_ge n c.length with h6 | h6
            · have hx := at0_get h6
              have hSn := hSt n
              have hTl := hSl n
              rw [hBl] at hTl
              generalize stepK c W s T0 st n = T at hSn hTl
              have ha : T[n]? = some (at0 T n) := at0_get (by omega)
              have cTn := cT n _ hx
              unfold cellB at hSn
              obtain ⟨x, hxe⟩ : ∃ x, x = at0 c n := ⟨_, rfl⟩
              obtain ⟨a, hae⟩ : ∃ a, a = at0 T n := ⟨_, rfl⟩
              rw [← hxe] at hx cTn
              rw [← hae] at ha
              have hthr : Thr c s n ↔ x = 0 ∨ x = s := by unfold Thr; rw [← hxe]
              by_cases hcond : at0 T n = st ∧ Thr c s n
              · rw [if_pos hcond] at hSn
                rw [decide_eq_true (hthr.1 hcond.2)] at cTn
                have hast : a = st := by rw [hae]; exact hcond.1
                clear hcond hthr hxe hae
                conv => whnf
                repeat' (first | ((first | refine zs1 ?_ | refine zs2 ?_ | refine zs3 ?_ | refine zs4 ?_ | refine zs5 ?_); conv => whnf) | ((first | apply zi1 | apply zi2 | apply zi3 | apply zi4 | apply zi5) <;> intro _ <;> conv => whnf))
                all_goals try (exfalso; omega)
                refine zs6 [] ?_
                conv => whnf
                repeat' (first | ((first | refine zs1 ?_ | refine zs2 ?_ | refine zs3 ?_ | refine zs4 ?_ | refine zs5 ?_); conv => whnf) | ((first | apply zi1 | apply zi2 | apply zi3 | apply zi4 | apply zi5) <;> intro _ <;> first | (exfalso; omega) | contradiction | (conv => whnf)) | (refine VLd.recc encI_len n 0 rfl rfl rfl ha (by decide) rfl (by simp) ?_; conv => whnf) | (refine VCall.intro (cTn _) ?_; conv => whnf) | (refine VCall.intro (cB n _) ?_; conv => whnf))
                refine VCode.tell [(1, .fp [DI W, DI mh, dints c, DI s]), (3, .func (.func 75) [.agg [I W, I mh, ints c, I s]] []), (4, .ptr (.loc 0) 0), (38, I c.length), (39, I st), (7, .fp [DI st]), (45, I c.length), (46, I n), (64, vBes ⟨W, mh, c⟩ n)] [.cells true [.gl (.loc 1) 1 c.length], .flat true (T.flatMap encI)] (marks' := []) ?_ ?_
                · conv => whnf
                  refine Retell.turn ⟨[0,1], 2, [], []⟩ (TurnOk.mk' _ _ [] [] (OutOk.lift _) rfl (by decide) zb trivial trivial rfl) zw zm
                · conv => whnf
                  refine VCode.iterS 4 (nbY W c.length n) (fun k g => TJ h.lift c.length (nbF (putB c st) W c.length n T k) g) _ (.loc 3) rfl (itB n h6) rfl rfl ⟨rfl, rfl, rfl, rfl⟩ ?_ ?_ ?_
                  · rintro k g hk hy hJ
                    rw [nbF_none (nbY_none hy)]; exact hJ
                  · rintro k g vs hk hy ⟨j0, j1, j2, j3⟩ hlp
                    obtain ⟨q, hq, rfl⟩ := nbY_some hy
                    rw [nbF_some hq]
                    have hqL := ((nbs_iff (by omega) hL h6).1 (nbO_mem hk hq)).1
                    have hUl := nbF_len (putB_len c st) W c.length n T k
                    rw [hTl] at hUl
                    generalize nbF (putB c st) W c.length n T k = U at j2 hUl
                    have hb : U[q]? = some (at0 U q) := at0_get (by omega)
                    have hy := at0_get hqL
                    unfold putB
                    obtain ⟨y, hye⟩ : ∃ y, y = at0 c q := ⟨_, rfl⟩
                    obtain ⟨b, hbe⟩ : ∃ b, b = at0 U q := ⟨_, rfl⟩
                    rw [← hye] at hy
                    rw [← hbe] at hb
                    have hopn : Opn c q ↔ y = 0 ∨ y = 3 := by unfold Opn; rw [← hye]
                    by_cases hput : at0 U q = -1 ∧ Opn c q
                    · rw [if_pos hput]
                      have h8 : b = -1 := by rw [hbe]; exact hput.1
                      have h9 := hopn.1 hput.2
                      clear hput hopn hye hbe
                      have n1 : g.get (.loc 1) ≠ none := by rw [j2]; simp
                      refine ⟨g.set (.loc 1) (.flat true ((U.set q ((st : Int) + 1)).flatMap encI)), ?_, ⟨j0, ?_, ?_, ?_⟩, ?_⟩
                      · refine VRound.vy' hlp rfl rfl rfl (Hp.grows_set _ _ _) fun l0 => ?_
                        refine VRound.tell [(1, .fp [DI W, DI mh, dints c, DI s]), (4, .ptr (.out (.loc 0)) 0), (7, .fp [DI st]), (65, I q)] ?_ ?_
                        · conv => whnf
                          refine Retell.turn ⟨[], 0, [], []⟩ (TurnOk.mk' _ _ [] [] (OutOk.lift _) rfl (by decide) zb trivial trivial rfl) zw zm
                        · conv => whnf
                          repeat (first | ((first | refine zs1 ?_ | refine zs2 ?_ | refine zs3 ?_ | refine zs4 ?_ | refine zs5 ?_ | refine zs6 [] ?_); conv => whnf))
                          refine VBegin.intro (get_out hlp _) rfl ?_
                          conv => whnf
                          repeat' (first | ((first | refine zs1 ?_ | refine zs2 ?_ | refine zs3 ?_ | refine zs4 ?_ | refine zs5 ?_); conv => whnf) | ((first | apply zi1 | apply zi2 | apply zi3 | apply zi4 | apply zi5) <;> intro _ <;> first | (exfalso; omega) | contradiction | (conv => whnf)) | (refine VLd.cell rfl rfl (get_setO (by decide) j1 _) rfl ?_; conv => whnf) | (refine VLd.recc encI_len q 0 rfl rfl (get_setO (by decide) j2 _) hb (by decide) rfl (by simp) ?_; conv => whnf) | (refine VAny.ix encI_len q rfl rfl hy ?_; conv => whnf) | (refine VMem.setRec encI_len q 0 ((st : Int) + 1) rfl rfl (get_setO (by decide) j2 _) hb (by decide) rfl (by simp) ?_; conv => whnf))
                          all_goals (
                            refine RFin.on (get_outNe (by decide) (outW_get _ _ _ _)) (VOut.liftS ?_ (Hp.grows_set _ _ _))
                            rw [lift_set n1]
                            exact outer_fix1 (get_out hlp []) (by decide))
                      · rw [Hp.get_set _ _ _ _ n1, if_neg (by decide)]; exact j1
                      · rw [Hp.get_set _ _ _ _ n1, if_pos rfl]
                      · rw [Hp.get_set _ _ _ _ n1, if_neg (by decide)]; exact j3
                      · rw [Hp.get_set _ _ _ _ n1, if_neg (by decide)]; exact hlp
                    · rw [if_neg hput]
                      have h8 : ¬ (b = -1 ∧ (y = 0 ∨ y = 3)) := fun hh => hput ⟨by rw [← hbe]; exact hh.1, hopn.2 hh.2⟩
                      clear hput hopn hye hbe
                      refine ⟨g, ?_, ⟨j0, j1, j2, j3⟩, hlp⟩
                      · refine VRound.vy' hlp rfl rfl rfl g.grows_refl fun l0 => ?_
                        refine VRound.tell [(1, .fp [DI W, DI mh, dints c, DI s]), (4, .ptr (.out (.loc 0)) 0), (7, .fp [DI st]), (65, I q)] ?_ ?_
                        · conv => whnf
                          refine Retell.turn ⟨[], 0, [], []⟩ (TurnOk.mk' _ _ [] [] (OutOk.lift _) rfl (by decide) zb trivial trivial rfl) zw zm
                        · conv => whnf
                          repeat (first | ((first | refine zs1 ?_ | refine zs2 ?_ | refine zs3 ?_ | refine zs4 ?_ | refine zs5 ?_ | refine zs6 [] ?_); conv => whnf))
                          refine VBegin.intro (get_out hlp _) rfl ?_
                          conv => whnf
                          repeat' (first | ((first | refine zs1 ?_ | refine zs2 ?_ | refine zs3 ?_ | refine zs4 ?_ | refine zs5 ?_); conv => whnf) | ((first | apply zi1 | apply zi2 | apply zi3 | apply zi4 | apply zi5) <;> intro _ <;> first | (exfalso; omega) | contradiction | (conv => whnf)) | (refine VLd.cell rfl rfl (get_setO (by decide) j1 _) rfl ?_; conv => whnf) | (refine VLd.recc encI_len q 0 rfl rfl (get_setO (by decide) j2 _) hb (by decide) rfl (by simp) ?_; conv => whnf) | (refine VAny.ix encI_len q rfl rfl hy ?_; conv => whnf))
                          all_goals first
                            | exact RFin.on (outW_get _ _ _ _) (VOut.back (get_out hlp []) rfl)
                            | (exfalso; omega)
                  · rintro ⟨go, gl⟩ ⟨j0, j1, j2, j3⟩ hlp
                    dsimp only at j0
                    subst j0
                    rw [nbF_all, ← hSn] at j2
                    obtain ⟨U, hU⟩ : ∃ U, U = stepK c W s T0 st (n + 1) := ⟨_, rfl⟩
                    rw [← hU] at j2
                    have j1 : gl[0]? = some _ := j1
                    have j2 : gl[1]? = some _ := j2
                    have j3 : gl[2]? = some _ := j3
                    have l0 := (List.getElem?_eq_some_iff.1 j1).1
                    have l1 := (List.getElem?_eq_some_iff.1 j2).1
                    have key : ∀ (x : Nat) (A : Blk), x ≠ 3 → (gl.set 3 A)[x]? = gl[x]? := fun x A hx => List.getElem?_set_ne (Ne.symm hx)
                    refine Told.mk [(1, .fp [DI W, DI mh, dints c, DI s]), (3, .func (.func 75) [.agg [I W, I mh, ints c, I s]] []), (4, .ptr (.loc 0) 0), (38, I c.length), (39, I st), (7, .fp [DI st]), (45, I c.length), (46, I n)] [.cells true [.gl (.loc 1) 1 c.length], .flat true (U.flatMap encI)] (marks' := []) ?_ ?_
                    · conv => whnf
                      refine Retell.turn ⟨[0, 1], gl.length, [], []⟩ (TurnOk.mk' _ _ [] [] (OutOk.lift _) (Nat.ble_eq_true_of_le (by simp)) (by simp) (BTos.cells (blt_of l0) ((key 0 _ (by decide)).trans j1) rfl zw (BTos.flat (blt_of l1) ((key 1 _ (by decide)).trans j2) rfl BTos.nil)) trivial trivial rfl) zw (MkTo.drop (show 2 ∉ ([0, 1] : List Nat) by decide) ((key 2 _ (by decide)).trans j3) MkTo.nil)
                    · conv => whnf
                      repeat' (first | ((first | refine zs1 ?_ | refine zs2 ?_ | refine zs3 ?_ | refine zs4 ?_ | refine zs5 ?_ | refine zs6 [] ?_); conv => whnf) | ((first | apply zi1 | apply zi2 | apply zi3 | apply zi4 | apply zi5) <;> intro _ <;> conv => whnf))
                      refine LEnd.intro (n + 1) (by omega) (by omega) ?_
                      rw [← hU]
                      conv => whnf
                      refine Retell.turn ⟨[0,1], 2, [], []⟩ (TurnOk.mk' _ _ [] [] (OutOk.lift _) rfl (by decide) zb trivial trivial rfl) zw zm
              · rw [if_neg hcond] at hSn
                have hno : ¬ (a = st ∧ (x = 0 ∨ x = s)) := fun hh => hcond ⟨by rw [← hae]; exact hh.1, hthr.2 hh.2⟩
                clear hcond hxe hae
                by_cases hth : x = 0 ∨ x = s
                · rw [decide_eq_true hth] at cTn
                  conv => whnf
                  repeat' (first | ((first | refine zs1 ?_ | refine zs2 ?_ | refine zs3 ?_ | refine zs4 ?_ | refine zs5 ?_); conv => whnf) | ((first | apply zi1 | apply zi2 | apply zi3 | apply zi4 | apply zi5) <;> intro _ <;> conv => whnf))
                  all_goals try (exfalso; omega)
                  refine zs6 [] ?_
                  conv => whnf
                  repeat' (first | ((first | refine zs1 ?_ | refine zs2 ?_ | refine zs3 ?_ | refine zs4 ?_ | refine zs5 ?_); conv => whnf) | ((first | apply zi1 | apply zi2 | apply zi3 | apply zi4 | apply zi5) <;> intro _ <;> first | (exfalso; omega) | contradiction | (conv => whnf)) | (refine VLd.recc encI_len n 0 rfl rfl rfl ha (by decide) rfl (by simp) ?_; conv => whnf) | (refine VCall.intro (cTn _) ?_; conv => whnf) | (refine VCall.intro (cB n _) ?_; conv => whnf))
                  all_goals first
                    | (exfalso; omega)
                    | (refine LEnd.intro (n + 1) (by omega) (by omega) ?_
                       rw [hSn]
                       conv => whnf
                       refine Retell.turn ⟨[0,1], 2, [], []⟩ (TurnOk.mk' _ _ [] [] (OutOk.lift _) rfl (by decide) zb trivial trivial rfl) zw zm)
                · rw [decide_eq_false hth] at cTn
                  conv => whnf
                  repeat' (first | ((first | refine zs1 ?_ | refine zs2 ?_ | refine zs3 ?_ | refine zs4 ?_ | refine zs5 ?_); conv => whnf) | ((first | apply zi1 | apply zi2 | apply zi3 | apply zi4 | apply zi5) <;> intro _ <;> conv => whnf))
                  all_goals try (exfalso; omega)
                  refine zs6 [] ?_
                  conv => whnf
                  repeat' (first | ((first | refine zs1 ?_ | refine zs2 ?_ | refine zs3 ?_ | refine zs4 ?_ | refine zs5 ?_); conv => whnf) | ((first | apply zi1 | apply zi2 | apply zi3 | apply zi4 | apply zi5) <;> intro _ <;> first | (exfalso; omega) | contradiction | (conv => whnf)) | (refine VLd.recc encI_len n 0 rfl rfl rfl ha (by decide) rfl (by simp) ?_; conv => whnf) | (refine VCall.intro (cTn _) ?_; conv => whnf) | (refine VCall.intro (cB n _) ?_; conv => whnf))
                  all_goals first
                    | (exfalso; omega)
                    | (refine LEnd.intro (n + 1) (by omega) (by omega) ?_
                       rw [hSn]
                       conv => whnf
                       refine Retell.turn ⟨[0,1], 2, [], []⟩ (TurnOk.mk' _ _ [] [] (OutOk.lift _) rfl (by decide) zb trivial trivial rfl) zw zm)
            · obtain rfl : n = c.length := by omega
              rw [← hB]
              conv => whnf
              repeat' (first | ((first | refine zs1 ?_ | refine zs2 ?_ | refine zs3 ?_ | refine zs4 ?_ | refine zs5 ?_); conv => whnf) | ((first | apply zi1 | apply zi2 | apply zi3 | apply zi4 | apply zi5) <;> intro _ <;> first | (exfalso; omega) | contradiction | (conv => whnf)))
              refine LEnd.intro (st + 1) (by omega) (by omega) ?_
              generalize bfsK c W s (st + 1) = T
              conv => whnf
              refine Retell.turn ⟨[0,1], 2, [], []⟩ (TurnOk.mk' _ _ [] [] (OutOk.lift _) rfl (by decide) zb trivial trivial rfl) zw zm
        · obtain rfl : st = c.length := by omega
          rw [show bfsK c W s c.length = R by rw [hR]; rfl]
          conv => whnf
          repeat' (first | ((first | refine zs1 ?_ | refine zs2 ?_ | refine zs3 ?_ | refine zs4 ?_ | refine zs5 ?_); conv => whnf) | ((first | apply zi1 | apply zi2 | apply zi3 | apply zi4 | apply zi5) <;> intro _ <;> first | (exfalso; omega) | contradiction | (conv => whnf)))
          rw [show ints R = .fs 1 c.length (R.flatMap encI) by unfold ints; rw [hRl]]
          have hRf : (R.flatMap encI).length = c.length * 1 := by rw [flat_len encI_len, hRl]
          refine VOut.data 2 [(1, R.flatMap encI)] [] rfl zf (by exact FmAll.nil) zw
end Go.Proofs.Ytkbbfeljlepgoaa

open Go.Vm
open Riv
namespace Go.Proofs.Ytkbbfeljlepgoaa
set_option maxRecDepth 20000
set_option maxHeartbeats 4000000

theorem ofs (k : Nat) : ((k : Nat) : Int).toNat * (0 + 1) = k * 1 + 0 := by simp
def t0z (c : List Int) (s z : Int) (k : Nat) : List Int := t0 (c.take k) s ++ List.replicate (c.length - k) z
theorem t0z_len {c : List Int} {s z : Int} {k : Nat} (h : k ≤ c.length) : (t0z c s z k).length = c.length := by
  unfold t0z; rw [List.length_append, t0_len, List.length_take, List.length_replicate]; omega
theorem t0z_all (c : List Int) (s z : Int) : t0z c s z c.length = t0 c s := by
  unfold t0z; rw [List.take_of_length_le (Nat.le_refl _), Nat.sub_self]; simp
theorem t0z_step {c : List Int} {s x z : Int} {k : Nat} (h : c[k]? = some x) : t0z c s z (k + 1) = (t0z c s z k).set k (if x = s then 0 else -1) := by
  obtain ⟨hlt, rfl⟩ := List.getElem?_eq_some_iff.1 h
  have e : List.replicate (c.length - k) z = z :: List.replicate (c.length - (k + 1)) z := by
    rw [show c.length - k = (c.length - (k + 1)) + 1 by omega]; rfl
  have hl : (t0 (c.take k) s).length = k := by rw [t0_len, List.length_take]; omega
  have e2 : t0 (c.take (k + 1)) s = t0 (c.take k) s ++ [if c[k] = s then 0 else -1] := by
    unfold t0
    rw [List.take_add_one, List.getElem?_eq_getElem hlt, List.map_append]; rfl
  unfold t0z
  rw [e2, e, List.set_append_right _ _ (by omega), hl, Nat.sub_self, List.set_cons_zero]; simp
theorem _root_.Riv.RI.bd {c : List Int} {W : Nat} {s : Int} {T : List Int} (h : RI c W s T) (hL : c.length ≤ 160) (n : Nat) : -1 ≤ at0 T n ∧ at0 T n ≤ 160 := by
  refine ⟨h.low n, ?_⟩
  by_cases h0 : at0 T n = -1
  · omega
  · have h1 := h.cn n h0
    have h2 := cnt_le T
    rw [h.len] at h2
    omega
def rcK (c : List Int) (W : Nat) (T : List Int) (a : Nat) : TB := (List.range a).foldl (rcell c W) (T, false)
def rpK (c : List Int) (W a : Nat) (x : TB) (b : Nat) : TB := (List.range b).foldl (rput c W a) x
theorem rcK_step (c : List Int) (W : Nat) (T : List Int) (a : Nat) : rcK c W T (a + 1) = rcell c W (rcK c W T a) a := by unfold rcK; rw [List.range_succ, List.foldl_append]; rfl
theorem rpK_step (c : List Int) (W a : Nat) (x : TB) (b : Nat) : rpK c W a x (b + 1) = rput c W a (rpK c W a x b) b := by unfold rpK; rw [List.range_succ, List.foldl_append]; rfl
theorem vc_rfar {W H : Nat} (m : Mp) (s : Int) (h : Hp) (o : MOk W H m.c) (hw : m.w = W) (hs : s = 1 ∨ s = 2) : VC Try.prog 73 [vM m, I s] h (ints (bfs m.c W s)) h := by
  have hWb := o.w
  have hHb := o.h
  have hL := o.len
  have hlen : m.c.length ≤ 144 := by
    rw [hL]
    exact Nat.le_trans (Nat.mul_le_mul hWb.2 hHb.2) (by decide)
  rw [← rfar_eq (by omega) (by omega) hL (by omega)]
  obtain ⟨R, hR⟩ : ∃ R, R = rfar m.c W s := ⟨_, rfl⟩
  have hRl : R.length = m.c.length := by rw [hR]; exact (rfar_hld (by omega) (by omega) (by omega)).len
  have hW0 : wgt (t0 m.c s) < 40000 := by
    have h := bi0 (c := m.c) (W := W) (s := s)
    have := wgt_le (T := t0 m.c s) fun n => by have := (h.rng n).2; omega
    rw [h.len] at this
    omega
  have hI0 : RI m.c W s (t0 m.c s) := ri0
  rw [← hR]
  unfold rfar at hR
  have cN := fun a b h ha hb => vc_rnext m W a b h (by omega) hw ha hb (by omega)
  obtain ⟨mw, mh, c⟩ := m
  dsimp only at hw o hL hlen hR hRl hW0 hI0 cN
  subst hw
  show VC Try.prog 73 [.agg [I W, I mh, ints c], I s] h (ints R) h
  refine VC.bodyC 1 Try.func73 rfl Try.ntmps73 Try.call73 (h.grows_refl) rfl ?_
  conv => whnf
  repeat' (first | ((first | refine zs1 ?_ | refine zs2 ?_ | refine zs3 ?_ | refine zs4 ?_ | refine zs5 ?_); conv => whnf) | ((first | apply zi1 | apply zi2 | apply zi3 | apply zi4 | apply zi5) <;> intro _ <;> conv => whnf))
  refine VCut.at' (outer := h.lift) (marks := []) 99 [(1, I s), (2, .fp [DI W, DI mh, dints c])] [] ?_ ?_
  · conv => whnf
    refine Retell.turn ⟨[], 1, [(0, [DI W, DI mh, dints c])], []⟩ (TurnOk.mk' _ _ [(0, [DI W, DI mh, dints c])] [] (OutOk.lift _) rfl (by decide) zb zf trivial rfl) zw zm
  conv => whnf
  repeat' (first | ((first | refine zs1 ?_ | refine zs2 ?_ | refine zs3 ?_ | refine zs4 ?_ | refine zs5 ?_); conv => whnf) | ((first | apply zi1 | apply zi2 | apply zi3 | apply zi4 | apply zi5) <;> intro _ <;> conv => whnf) | (refine VMem.make (0 : Int) encI_len rfl rfl rfl rfl rfl rfl (by omega) ?_; conv => whnf))
  refine VCode.lpC (outer := h.lift) (marks := []) 99 (fun k : Nat => [(1, I s), (2, .fp [DI W, DI mh, dints c]), (5, .gl (.loc 0) 1 c.length), (6, I k)]) (fun k => [.flat true ((t0z c s 0 k).flatMap encI)]) (fun k => k ≤ c.length) (fun k => c.length - k) 0 (Nat.zero_le _) ?_ ?_
  · rw [show t0z c s 0 0 = List.replicate c.length 0 from rfl]
    conv => whnf
    refine Retell.turn ⟨[0], 1, [], []⟩ (TurnOk.mk' _ _ [] [] (OutOk.lift _) rfl (by decide) zb trivial trivial rfl) zw zm
  · rintro k hk
    rcases Nat.lt_or_ge k c.length with h3 | h3
    · have hx := at0_get h3
      have hst := t0z_step (s := s) (z := 0) hx
      have hkl : (t0z c s 0 k)[k]? = some (at0 (t0z c s 0 k) k) := at0_get (by rw [t0z_len hk]; exact h3)
      have hTl := t0z_len (c := c) (s := s) (z := 0) hk
      generalize at0 c k = x at hx hst
      generalize t0z c s 0 k = T at hst hkl hTl
      have hk2 : (T.set k (-1))[k]? = some (-1) := List.getElem?_set_self (by omega)
      by_cases hxs : x = s
      · rw [if_pos hxs] at hst
        conv => whnf
        repeat' (first | ((first | refine zs1 ?_ | refine zs2 ?_ | refine zs3 ?_ | refine zs4 ?_ | refine zs5 ?_); conv => whnf) | ((first | apply zi1 | apply zi2 | apply zi3 | apply zi4 | apply zi5) <;> intro _ <;> first | (exfalso; omega) | contradiction | (conv => whnf)) | (refine VAny.ix encI_len k rfl rfl hx ?_; conv => whnf) | (refine VMem.setRec encI_len k 0 (-1 : Int) rfl rfl rfl hkl (by decide) rfl (ofs _) ?_; conv => whnf) | (refine VMem.setRec encI_len k 0 (0 : Int) rfl rfl rfl hk2 (by decide) rfl (ofs _) ?_; conv => whnf))
        refine LEnd.intro (k + 1) (by omega) (by omega) ?_
        rw [hst, ← List.set_set (a := (-1 : Int))]
        conv => whnf
        refine Retell.turn ⟨[0], 1, [], []⟩ (TurnOk.mk' _ _ [] [] (OutOk.lift _) rfl (by decide) zb trivial trivial rfl) zw zm
      · rw [if_neg hxs] at hst
        conv => whnf
        repeat' (first | ((first | refine zs1 ?_ | refine zs2 ?_ | refine zs3 ?_ | refine zs4 ?_ | refine zs5 ?_); conv => whnf) | ((first | apply zi1 | apply zi2 | apply zi3 | apply zi4 | apply zi5) <;> intro _ <;> first | (exfalso; omega) | contradiction | (conv => whnf)) | (refine VAny.ix encI_len k rfl rfl hx ?_; conv => whnf) | (refine VMem.setRec encI_len k 0 (-1 : Int) rfl rfl rfl hkl (by decide) rfl (ofs _) ?_; conv => whnf))
        refine LEnd.intro (k + 1) (by omega) (by omega) ?_
        rw [hst]
        conv => whnf
        refine Retell.turn ⟨[0], 1, [], []⟩ (TurnOk.mk' _ _ [] [] (OutOk.lift _) rfl (by decide) zb trivial trivial rfl) zw zm
    · obtain rfl : k = c.length := by omega
      rw [t0z_all]
      conv => whnf
      repeat' (first | ((first | refine zs1 ?_ | refine zs2 ?_ | refine zs3 ?_ | refine zs4 ?_ | refine zs5 ?_); conv => whnf) | ((first | apply zi1 | apply zi2 | apply zi3 | apply zi4 | apply zi5) <;> intro _ <;> first | (exfalso; omega) | contradiction | (conv => whnf)))
      refine VCode.lpC (outer := h.lift) (marks := []) 99 (fun y : TB => [(2, .fp [DI W, DI mh, dints c]), (5, .gl (.loc 0) 1 c.length), (7, B y.2)]) (fun y => [.flat true (y.1.flatMap encI)]) (fun y => RI c W s y.1 ∧ ∃ N, wgt y.1 < N ∧ R = bif y.2 then rgo c W N y.1 else y.1) (fun y => 2 * wgt y.1 + (bif y.2 then 1 else 0)) (t0 c s, true) ⟨hI0, 40000, hW0, hR⟩ ?_ ?_
      · conv => whnf
        refine Retell.turn ⟨[0], 1, [], []⟩ (TurnOk.mk' _ _ [] [] (OutOk.lift _) rfl (by decide) zb trivial trivial rfl) zw zm
      · rintro ⟨T, ch⟩ ⟨y1, N, y2, y3⟩
        dsimp only at y1 y2 y3
        cases ch with
        | false =>
          rw [cond_false] at y3
          subst y3
          rw [show ints R = .fs 1 c.length (R.flatMap encI) by unfold ints; rw [hRl]]
          have hRf : (R.flatMap encI).length = c.length * 1 := by rw [flat_len encI_len, hRl]
          conv => whnf
          repeat' (first | ((first | refine zs1 ?_ | refine zs2 ?_ | refine zs3 ?_ | refine zs4 ?_ | refine zs5 ?_ | refine zs6 [] ?_); conv => whnf) | ((first | apply zi1 | apply zi2 | apply zi3 | apply zi4 | apply zi5) <;> intro _ <;> conv => whnf))
          refine VOut.data 1 [(0, R.flatMap encI)] [] rfl zf (by exact FmAll.nil) zw
        | true =>
          rw [cond_true] at y3
          have hrr := fun a ha => rround_ok (s := s) (by omega) (by omega) y1 (W := W) a ha
          have hst := rcK_step c W T
          have hro : rround c W T = rcK c W T c.length := rfl
          have hrp : ∀ a P, a < c.length → at0 c a ≠ 3 → ∀ x : TB, RJ c W s T x.1 x.2 P → at0 x.1 a ≠ -1 → ∀ b, b ≤ c.length → RI c W s (rpK c W a x b).1 := fun a P ha h3 x hx h0 b hb => (rputL_ok (by omega) (by omega) ha h3 hx h0 b hb).1.ri
          have hrk : ∀ a, a ≤ c.length → RJ c W s T (rcK c W T a).1 (rcK c W T a).2 (fun i _ => i < a) := hrr
          clear hrr
          have hN : ∀ y : TB, y = rcK c W T c.length → (RI c W s y.1 ∧ ∃ N, wgt y.1 < N ∧ R = bif y.2 then rgo c W N y.1 else y.1) ∧ 2 * wgt y.1 + (bif y.2 then 1 else 0) < 2 * wgt T + 1 := by
            rintro y rfl
            have h1 := hrk c.length (Nat.le_refl _)
            cases N with
            | zero => omega
            | succ N =>
              rw [rgo, hro] at y3
              cases hc : (rcK c W T c.length).2 with
              | true =>
                have h2 := h1.yes hc
                rw [hc] at y3
                exact ⟨⟨h1.ri, N, by omega, y3⟩, by rw [cond_true]; omega⟩
              | false =>
                have h2 := (h1.no hc).1
                rw [hc] at y3
                rw [h2] at y3 ⊢
                exact ⟨⟨y1, N + 1, by omega, y3⟩, by rw [cond_false]; omega⟩
          clear y3 y2 hro
          conv => whnf
          repeat' (first | ((first | refine zs1 ?_ | refine zs2 ?_ | refine zs3 ?_ | refine zs4 ?_ | refine zs5 ?_ | refine zs6 [] ?_); conv => whnf) | ((first | apply zi1 | apply zi2 | apply zi3 | apply zi4 | apply zi5) <;> intro _ <;> conv => whnf))
          refine VCode.lpC (outer := h.lift) (marks := []) 99 (fun a : Nat => [(2, .fp [DI W, DI mh, dints c]), (5, .gl (.loc 0) 1 c.length), (7, B (rcK c W T a).2), (8, I a)]) (fun a => [.flat true ((rcK c W T a).1.flatMap encI)]) (fun a => a ≤ c.length) (fun a => c.length - a) 0 (Nat.zero_le _) ?_ ?_
          · rw [show rcK c W T 0 = (T, false) from rfl]
            conv => whnf
            refine Retell.turn ⟨[0], 1, [], []⟩ (TurnOk.mk' _ _ [] [] (OutOk.lift _) rfl (by decide) zb trivial trivial rfl) zw zm
          · rintro a ha
            rcases Nat.lt_or_ge a c.length with h5 | h5
            · have hJ := hrk a ha
              have hsa := hst a
              have hx := at0_get h5
              generalize rcK c W T a = x0 at hJ hsa
              obtain ⟨U, cu⟩ := x0
              dsimp only at hJ
              have hUl := hJ.ri.len
              have hb := at0_get (l := U) (n := a) (by omega)
              have hbd := hJ.ri.bd (by omega) a
              unfold rcell at hsa
              obtain ⟨x, hxe⟩ : ∃ x, x = at0 c a := ⟨_, rfl⟩
              obtain ⟨v, hve⟩ : ∃ v, v = at0 U a := ⟨_, rfl⟩
              rw [← hxe] at hx hsa
              rw [← hve] at hb hbd
              by_cases hskip : v = -1 ∨ x = 3
              · rw [if_pos (by rw [← hve]; exact hskip)] at hsa
                clear hxe hve
                conv => whnf
                repeat' (first | ((first | refine zs1 ?_ | refine zs2 ?_ | refine zs3 ?_ | refine zs4 ?_ | refine zs5 ?_); conv => whnf) | ((first | apply zi1 | apply zi2 | apply zi3 | apply zi4 | apply zi5) <;> intro _ <;> first | (exfalso; omega) | contradiction | (conv => whnf)) | (refine VAny.ix encI_len a rfl rfl hx ?_; conv => whnf) | (refine VLd.recc encI_len a 0 rfl rfl rfl hb (by decide) rfl (ofs _) ?_; conv => whnf))
                all_goals first
                  | (exfalso; omega)
                  | (refine LEnd.intro (a + 1) (by omega) (by omega) ?_
                     rw [hsa]
                     conv => whnf
                     refine Retell.turn ⟨[0], 1, [], []⟩ (TurnOk.mk' _ _ [] [] (OutOk.lift _) rfl (by decide) zb trivial trivial rfl) zw zm)
              · rw [if_neg (by rw [← hve]; exact hskip)] at hsa
                have hrb := hrp a _ h5 (by rw [← hxe]; omega) (U, cu) hJ (by dsimp only; rw [← hve]; omega)
                have hrl := fun b hb => (rputL_ok (by omega) (by omega) h5 (by rw [← hxe]; omega) (x := (U, cu)) hJ (by dsimp only; rw [← hve]; omega) b hb).2
                dsimp only at hrl
                have hsb := rpK_step c W a (U, cu)
                have hse : (List.range c.length).foldl (rput c W a) (U, cu) = rpK c W a (U, cu) c.length := rfl
                rw [hse] at hsa
                have hra : ∀ b, b ≤ c.length → at0 (rpK c W a (U, cu) b).1 a = v := fun b hb => by rw [hve]; exact hrl b hb
                clear hrl hJ hse
                conv => whnf
                repeat' (first | ((first | refine zs1 ?_ | refine zs2 ?_ | refine zs3 ?_ | refine zs4 ?_ | refine zs5 ?_); conv => whnf) | ((first | apply zi1 | apply zi2 | apply zi3 | apply zi4 | apply zi5) <;> intro _ <;> first | (exfalso; omega) | contradiction | (conv => whnf)) | (refine VAny.ix encI_len a rfl rfl hx ?_; conv => whnf) | (refine VLd.recc encI_len a 0 rfl rfl rfl hb (by decide) rfl (ofs _) ?_; conv => whnf))
                refine VCode.lpC (outer := h.lift) (marks := []) 99 (fun b : Nat => [(2, .fp [DI W, DI mh, dints c]), (5, .gl (.loc 0) 1 c.length), (7, B (rpK c W a (U, cu) b).2), (8, I a), (9, I b)]) (fun b => [.flat true ((rpK c W a (U, cu) b).1.flatMap encI)]) (fun b => b ≤ c.length) (fun b => c.length - b) 0 (Nat.zero_le _) ?_ ?_
                · rw [show rpK c W a (U, cu) 0 = (U, cu) from rfl]
                  conv => whnf
                  refine Retell.turn ⟨[0], 1, [], []⟩ (TurnOk.mk' _ _ [] [] (OutOk.lift _) rfl (by decide) zb trivial trivial rfl) zw zm
                · rintro b hb'
                  rcases Nat.lt_or_ge b c.length with h6 | h6
                  · have hI := hrb b hb'
                    have hsb := hsb b
                    have hva := hra b hb'
                    have hy := at0_get h6
                    have cNb := fun h => cN a b h (by omega) (by omega)
                    generalize rpK c W a (U, cu) b = z at hI hsb hva
                    obtain ⟨Z, cz⟩ := z
                    dsimp only at hI hva
                    have hZl := hI.len
                    have hbdZ := hI.bd (by omega) b
                    have hzb := at0_get (l := Z) (n := b) (by omega)
                    have hza := at0_get (l := Z) (n := a) (by omega)
                    unfold rput at hsb
                    dsimp only at hsb
                    rw [hva] at hsb hza
                    obtain ⟨y, hye⟩ : ∃ y, y = at0 c b := ⟨_, rfl⟩
                    obtain ⟨w, hwe⟩ : ∃ w, w = at0 Z b := ⟨_, rfl⟩
                    rw [← hye] at hy
                    rw [← hwe] at hzb hbdZ hsb
                    have hopn : Opn c b ↔ y = 0 ∨ y = 3 := by unfold Opn; rw [← hye]
                    by_cases hput : Nb W a b ∧ Opn c b ∧ (w = -1 ∨ v + 1 < w)
                    · rw [if_pos hput] at hsb
                      rw [decide_eq_true hput.1] at cNb
                      have h7 := hopn.1 hput.2.1
                      have h8 := hput.2.2
                      clear hput hopn hye hwe hxe hve
                      conv => whnf
                      repeat' (first | ((first | refine zs1 ?_ | refine zs2 ?_ | refine zs3 ?_ | refine zs4 ?_ | refine zs5 ?_); conv => whnf) | ((first | apply zi1 | apply zi2 | apply zi3 | apply zi4 | apply zi5) <;> intro _ <;> conv => whnf))
                      all_goals try (exfalso; omega)
                      refine zs6 [] ?_
                      conv => whnf
                      repeat' (first | ((first | refine zs1 ?_ | refine zs2 ?_ | refine zs3 ?_ | refine zs4 ?_ | refine zs5 ?_); conv => whnf) | ((first | apply zi1 | apply zi2 | apply zi3 | apply zi4 | apply zi5) <;> intro _ <;> first | (exfalso; omega) | contradiction | (conv => whnf)) | (refine VCall.intro (cNb _) ?_; conv => whnf) | (refine VAny.ix encI_len b rfl rfl hy ?_; conv => whnf) | (refine VLd.recc encI_len a 0 rfl rfl rfl hza (by decide) rfl (ofs _) ?_; conv => whnf) | (refine VLd.recc encI_len b 0 rfl rfl rfl hzb (by decide) rfl (ofs _) ?_; conv => whnf) | (refine VMem.setRec encI_len b 0 (v + 1) rfl rfl rfl hzb (by decide) rfl (ofs _) ?_; conv => whnf))
                      all_goals (
                        refine LEnd.intro (b + 1) (by omega) (by omega) ?_
                        rw [hsb]
                        conv => whnf
                        refine Retell.turn ⟨[0], 1, [], []⟩ (TurnOk.mk' _ _ [] [] (OutOk.lift _) rfl (by decide) zb trivial trivial rfl) zw zm)
                    · rw [if_neg hput] at hsb
                      have h7 : ¬ (Nb W a b ∧ (y = 0 ∨ y = 3) ∧ (w = -1 ∨ v + 1 < w)) := fun hh => hput ⟨hh.1, hopn.2 hh.2.1, hh.2.2⟩
                      clear hput hopn hye hwe hxe hve
                      by_cases hnb : Nb W a b
                      · rw [decide_eq_true hnb] at cNb
                        have h8 : ¬ ((y = 0 ∨ y = 3) ∧ (w = -1 ∨ v + 1 < w)) := fun hh => h7 ⟨hnb, hh⟩
                        clear h7
                        conv => whnf
                        repeat' (first | ((first | refine zs1 ?_ | refine zs2 ?_ | refine zs3 ?_ | refine zs4 ?_ | refine zs5 ?_); conv => whnf) | ((first | apply zi1 | apply zi2 | apply zi3 | apply zi4 | apply zi5) <;> intro _ <;> conv => whnf))
                        all_goals try (exfalso; omega)
                        refine zs6 [] ?_
                        conv => whnf
                        repeat' (first | ((first | refine zs1 ?_ | refine zs2 ?_ | refine zs3 ?_ | refine zs4 ?_ | refine zs5 ?_); conv => whnf) | ((first | apply zi1 | apply zi2 | apply zi3 | apply zi4 | apply zi5) <;> intro _ <;> first | (exfalso; omega) | contradiction | (conv => whnf)) | (refine VCall.intro (cNb _) ?_; conv => whnf) | (refine VAny.ix encI_len b rfl rfl hy ?_; conv => whnf) | (refine VLd.recc encI_len a 0 rfl rfl rfl hza (by decide) rfl (ofs _) ?_; conv => whnf) | (refine VLd.recc encI_len b 0 rfl rfl rfl hzb (by decide) rfl (ofs _) ?_; conv => whnf))
                        all_goals first
                          | (exfalso; omega)
                          | (refine LEnd.intro (b + 1) (by omega) (by omega) ?_
                             rw [hsb]
                             conv => whnf
                             refine Retell.turn ⟨[0], 1, [], []⟩ (TurnOk.mk' _ _ [] [] (OutOk.lift _) rfl (by decide) zb trivial trivial rfl) zw zm)
                      · rw [decide_eq_false hnb] at cNb
                        clear h7
                        conv => whnf
                        repeat' (first | ((first | refine zs1 ?_ | refine zs2 ?_ | refine zs3 ?_ | refine zs4 ?_ | refine zs5 ?_); conv => whnf) | ((first | apply zi1 | apply zi2 | apply zi3 | apply zi4 | apply zi5) <;> intro _ <;> conv => whnf))
                        all_goals try (exfalso; omega)
                        refine zs6 [] ?_
                        conv => whnf
                        repeat' (first | ((first | refine zs1 ?_ | refine zs2 ?_ | refine zs3 ?_ | refine zs4 ?_ | refine zs5 ?_); conv => whnf) | ((first | apply zi1 | apply zi2 | apply zi3 | apply zi4 | apply zi5) <;> intro _ <;> first | (exfalso; omega) | contradiction | (conv => whnf)) | (refine VCall.intro (cNb _) ?_; conv => whnf))
                        refine LEnd.intro (b + 1) (by omega) (by omega) ?_
                        rw [hsb]
                        conv => whnf
                        refine Retell.turn ⟨[0], 1, [], []⟩ (TurnOk.mk' _ _ [] [] (OutOk.lift _) rfl (by decide) zb trivial trivial rfl) zw zm
                  · obtain rfl : b = c.length := by omega
                    rw [← hsa]
                    conv => whnf
                    repeat' (first | ((first | refine zs1 ?_ | refine zs2 ?_ | refine zs3 ?_ | refine zs4 ?_ | refine zs5 ?_); conv => whnf) | ((first | apply zi1 | apply zi2 | apply zi3 | apply zi4 | apply zi5) <;> intro _ <;> first | (exfalso; omega) | contradiction | (conv => whnf)))
                    refine LEnd.intro (a + 1) (by omega) (by omega) ?_
                    generalize rcK c W T (a + 1) = z
                    obtain ⟨Z, cz⟩ := z
                    conv => whnf
                    refine Retell.turn ⟨[0], 1, [], []⟩ (TurnOk.mk' _ _ [] [] (OutOk.lift _) rfl (by decide) zb trivial trivial rfl) zw zm
            · obtain rfl : a = c.length := by omega
              have hN := hN _ rfl
              generalize rcK c W T c.length = z at hN
              obtain ⟨Z, cz⟩ := z
              conv => whnf
              repeat' (first | ((first | refine zs1 ?_ | refine zs2 ?_ | refine zs3 ?_ | refine zs4 ?_ | refine zs5 ?_); conv => whnf) | ((first | apply zi1 | apply zi2 | apply zi3 | apply zi4 | apply zi5) <;> intro _ <;> first | (exfalso; omega) | contradiction | (conv => whnf)))
              refine LEnd.intro (Z, cz) hN.1 hN.2 ?_
              conv => whnf
              refine Retell.turn ⟨[0], 1, [], []⟩ (TurnOk.mk' _ _ [] [] (OutOk.lift _) rfl (by decide) zb trivial trivial rfl) zw zm
end Go.Proofs.Ytkbbfeljlepgoaa

open Go.Vm
open Riv
namespace Go.Proofs.Ytkbbfeljlepgoaa
set_option maxRecDepth 20000
set_option maxHeartbeats 4000000

theorem lkE_ok {m : Mp} {s : Int} (h : lkE m s = 0) : ∃ W H : Nat, m.w = W ∧ m.h = H ∧ MOk W H m.c ∧ (s = 1 ∨ s = 2) := by
  unfold lkE at h
  by_cases h0 : chkM m = 0
  · rw [if_pos h0] at h
    obtain ⟨W, H, e1, e2, o⟩ := chkM_ok h0
    refine ⟨W, H, e1, e2, o, Decidable.byContradiction fun h1 => ?_⟩
    rw [if_neg h1] at h; simp at h
  · rw [if_neg h0] at h; exact absurd h h0
theorem MOk.le {W H : Nat} {c : List Int} (o : MOk W H c) : c.length ≤ 144 := by
  rw [o.len]
  exact Nat.le_trans (Nat.mul_le_mul o.w.2 o.h.2) (by decide)
def frL (m : Mp) (s : Int) : List Int := if lkE m s = 0 then bfs m.c m.w.toNat s else []
theorem frL_ok {m : Mp} {s : Int} {W : Nat} (h : lkE m s = 0) (hw : m.w = W) : frL m s = bfs m.c W s := by unfold frL; rw [if_pos h, hw, Int.toNat_natCast]
theorem vc_Far (m : Mp) (s : Int) (h : Hp) (hl : m.c.length ≤ 4000000) : VC Try.prog 28 [vM m, I s] h (.tuple [ints (frL m s), I (lkE m s)]) h := by
  have c := fun h => vc_looked m s h hl
  by_cases h0 : lkE m s = 0
  · obtain ⟨W, H, e1, _, o, hs⟩ := lkE_ok h0
    rw [frL_ok h0 e1]
    have cT := fun h => vc_table m s h o e1 hs
    rw [h0] at c ⊢
    generalize bfs m.c W s = T at cT
    obtain ⟨mw, mh, mc⟩ := m
    refine VC.body Try.func28 rfl Try.ntmps28 Try.call28 (h.grows_refl) rfl ?_; conv => whnf
    repeat' (first | ((first | refine zs1 ?_ | refine zs2 ?_ | refine zs3 ?_ | refine zs4 ?_ | refine zs5 ?_); conv => whnf) | ((first | apply zi1 | apply zi2 | apply zi3 | apply zi4 | apply zi5) <;> intro _ <;> first | (exfalso; omega) | contradiction | (conv => whnf)) | (refine VCall.intro (c _) ?_; conv => whnf) | (refine VCall.intro (cT _) ?_; conv => whnf))
    exact VOut.same rfl
  · have e : frL m s = [] := if_neg h0
    rw [e]
    generalize lkE m s = E at c h0
    obtain ⟨mw, mh, mc⟩ := m
    refine VC.body Try.func28 rfl Try.ntmps28 Try.call28 (h.grows_refl) rfl ?_; conv => whnf
    repeat' (first | ((first | refine zs1 ?_ | refine zs2 ?_ | refine zs3 ?_ | refine zs4 ?_ | refine zs5 ?_); conv => whnf) | ((first | apply zi1 | apply zi2 | apply zi3 | apply zi4 | apply zi5) <;> intro _ <;> first | (exfalso; omega) | contradiction | (conv => whnf)) | (refine VCall.intro (c _) ?_; conv => whnf))
    refine VOut.data 2 [] [] rfl zf (by exact FmAll.nil) zw
theorem vc_rFar (m : Mp) (s : Int) (h : Hp) (hl : m.c.length ≤ 4000000) : VC Try.prog 37 [vM m, I s] h (.tuple [ints (frL m s), I (lkE m s)]) h := by
  have c := fun h => vc_Shore m s h hl
  by_cases h0 : lkE m s = 0
  · obtain ⟨W, H, e1, _, o, hs⟩ := lkE_ok h0
    rw [frL_ok h0 e1]
    have cT := fun h => vc_rfar m s h o e1 hs
    rw [h0] at c ⊢
    generalize bfs m.c W s = T at cT
    obtain ⟨mw, mh, mc⟩ := m
    refine VC.body Try.func37 rfl Try.ntmps37 Try.call37 (h.grows_refl) rfl ?_; conv => whnf
    repeat' (first | ((first | refine zs1 ?_ | refine zs2 ?_ | refine zs3 ?_ | refine zs4 ?_ | refine zs5 ?_); conv => whnf) | ((first | apply zi1 | apply zi2 | apply zi3 | apply zi4 | apply zi5) <;> intro _ <;> first | (exfalso; omega) | contradiction | (conv => whnf)) | (refine VCall.intro (c _) ?_; conv => whnf) | (refine VCall.intro (cT _) ?_; conv => whnf))
    exact VOut.same rfl
  · have e : frL m s = [] := if_neg h0
    rw [e]
    generalize lkE m s = E at c h0
    obtain ⟨mw, mh, mc⟩ := m
    refine VC.body Try.func37 rfl Try.ntmps37 Try.call37 (h.grows_refl) rfl ?_; conv => whnf
    repeat' (first | ((first | refine zs1 ?_ | refine zs2 ?_ | refine zs3 ?_ | refine zs4 ?_ | refine zs5 ?_); conv => whnf) | ((first | apply zi1 | apply zi2 | apply zi3 | apply zi4 | apply zi5) <;> intro _ <;> first | (exfalso; omega) | contradiction | (conv => whnf)) | (refine VCall.intro (c _) ?_; conv => whnf))
    refine VOut.data 1 [] [] rfl zf (by exact FmAll.nil) zw
end Go.Proofs.Ytkbbfeljlepgoaa

open Go.Vm
open Riv
namespace Go.Proofs.Ytkbbfeljlepgoaa
set_option maxRecDepth 20000
set_option maxHeartbeats 4000000

def hdE (m : Mp) (s : Int) (T : List Int) : Int := if lkE m s = 0 then (if T.length = m.c.length then 0 else 3) else lkE m s
def hdB (m : Mp) (s : Int) (T : List Int) : Bool := decide (hdE m s T = 0) && decide (T = frL m s)
theorem vc_rHolds (m : Mp) (s : Int) (T : List Int) (h : Hp) (hl : m.c.length ≤ 4000000) (hT : T.length ≤ 4000000) : VC Try.prog 39 [vM m, I s, ints T] h (.tuple [B (hdB m s T), I (hdE m s T)]) h := by
  have c := fun h => vc_Shore m s h hl
  obtain ⟨E, hE⟩ : ∃ E, E = hdE m s T := ⟨_, rfl⟩
  obtain ⟨R, hR⟩ : ∃ R, R = hdB m s T := ⟨_, rfl⟩
  rw [← hE, ← hR]
  unfold hdB at hR
  rw [← hE] at hR
  unfold hdE at hE
  by_cases h0 : lkE m s = 0
  · obtain ⟨W, H, e1, _, o, hs⟩ := lkE_ok h0
    rw [frL_ok h0 e1] at hR
    rw [if_pos h0] at hE
    have cT := fun h => vc_rfar m s h o e1 hs
    have hb : (bfs m.c W s).length = m.c.length := bfsK_len _ _ _ _
    rw [h0] at c
    have hm144 := MOk.le o
    generalize bfs m.c W s = F at cT hb hR
    obtain ⟨mw, mh, mc⟩ := m
    dsimp only at hE hb hm144
    by_cases hlen : T.length = mc.length
    · rw [if_pos hlen] at hE
      subst hE
      rw [decide_eq_true rfl, Bool.true_and] at hR
      refine VC.bodyC 3 Try.func39 rfl Try.ntmps39 Try.call39 (h.grows_refl) rfl ?_; conv => whnf
      repeat' (first | ((first | refine zs1 ?_ | refine zs2 ?_ | refine zs3 ?_ | refine zs4 ?_ | refine zs5 ?_); conv => whnf) | ((first | apply zi1 | apply zi2 | apply zi3 | apply zi4 | apply zi5) <;> intro _ <;> first | (exfalso; omega) | contradiction | (conv => whnf)) | (refine VCall.intro (c _) ?_; conv => whnf))
      all_goals try (exfalso; simp at *; omega)
      refine VCut.at' (outer := h.lift) (marks := []) 99 [(1, I s), (2, ints T), (3, .fp [DI mw, DI mh, dints mc])] [] ?_ ?_
      · conv => whnf
        refine Retell.turn ⟨[], 1, [(0, [DI mw, DI mh, dints mc])], []⟩ (TurnOk.mk' _ _ [(0, [DI mw, DI mh, dints mc])] [] (OutOk.lift _) rfl (by decide) zb zf trivial rfl) zw zm
      conv => whnf
      repeat' (first | ((first | refine zs1 ?_ | refine zs2 ?_ | refine zs3 ?_ | refine zs4 ?_ | refine zs5 ?_); conv => whnf) | ((first | apply zi1 | apply zi2 | apply zi3 | apply zi4 | apply zi5) <;> intro _ <;> first | (exfalso; omega) | contradiction | (conv => whnf)) | (refine VCall.intro (cT _) ?_; conv => whnf))
      refine VCode.lpC (outer := h.lift) (marks := []) 99 (fun k : Nat => [(2, ints T), (9, ints F), (10, I k)]) (fun _ => []) (fun k => k ≤ mc.length ∧ ∀ z, z < k → at0 F z = at0 T z) (fun k => mc.length - k) 0 ⟨Nat.zero_le _, fun z hz => by omega⟩ ?_ ?_
      · conv => whnf
        refine Retell.turn ⟨[], 0, [], []⟩ (TurnOk.mk' _ _ [] [] (OutOk.lift _) rfl (by decide) zb trivial trivial rfl) zw zm
      · rintro k ⟨k1, k2⟩
        rcases Nat.lt_or_ge k mc.length with k3 | k3
        · have ha := at0_get (l := F) (n := k) (by omega)
          have hb2 := at0_get (l := T) (n := k) (by omega)
          obtain ⟨a, hae⟩ : ∃ a, a = at0 F k := ⟨_, rfl⟩
          obtain ⟨b, hbe⟩ : ∃ b, b = at0 T k := ⟨_, rfl⟩
          rw [← hae] at ha
          rw [← hbe] at hb2
          by_cases he : a = b
          · conv => whnf
            repeat' (first | ((first | refine zs1 ?_ | refine zs2 ?_ | refine zs3 ?_ | refine zs4 ?_ | refine zs5 ?_); conv => whnf) | ((first | apply zi1 | apply zi2 | apply zi3 | apply zi4 | apply zi5) <;> intro _ <;> conv => whnf))
            all_goals try (exfalso; omega)
            refine zs6 [] ?_
            conv => whnf
            repeat' (first | ((first | refine zs1 ?_ | refine zs2 ?_ | refine zs3 ?_ | refine zs4 ?_ | refine zs5 ?_); conv => whnf) | ((first | apply zi1 | apply zi2 | apply zi3 | apply zi4 | apply zi5) <;> intro _ <;> first | (exfalso; omega) | contradiction | (conv => whnf)) | (refine VAny.ix encI_len k (by omega) rfl ha ?_; conv => whnf) | (refine VAny.ix encI_len k (by omega) rfl hb2 ?_; conv => whnf))
            refine LEnd.intro (k + 1) ⟨by omega, fun z hz => ?_⟩ (by omega) ?_
            · rcases Nat.lt_or_ge z k with h5 | h5
              · exact k2 z h5
              · obtain rfl : z = k := by omega
                rw [← hae, ← hbe, he]
            · conv => whnf
              refine Retell.turn ⟨[], 0, [], []⟩ (TurnOk.mk' _ _ [] [] (OutOk.lift _) rfl (by decide) zb trivial trivial rfl) zw zm
          · have hR2 : R = false := by
              rw [hR]
              refine decide_eq_false fun e => he ?_
              rw [hae, hbe, e]
            subst hR2
            conv => whnf
            repeat' (first | ((first | refine zs1 ?_ | refine zs2 ?_ | refine zs3 ?_ | refine zs4 ?_ | refine zs5 ?_); conv => whnf) | ((first | apply zi1 | apply zi2 | apply zi3 | apply zi4 | apply zi5) <;> intro _ <;> conv => whnf))
            all_goals try (exfalso; omega)
            refine zs6 [] ?_
            conv => whnf
            repeat' (first | ((first | refine zs1 ?_ | refine zs2 ?_ | refine zs3 ?_ | refine zs4 ?_ | refine zs5 ?_); conv => whnf) | ((first | apply zi1 | apply zi2 | apply zi3 | apply zi4 | apply zi5) <;> intro _ <;> first | (exfalso; omega) | contradiction | (conv => whnf)) | (refine VAny.ix encI_len k (by omega) rfl ha ?_; conv => whnf) | (refine VAny.ix encI_len k (by omega) rfl hb2 ?_; conv => whnf))
            exact VOut.same rfl
        · have hR2 : R = true := by
            rw [hR]
            refine decide_eq_true (ext0 (by rw [hlen, hb]) fun z hz => ?_)
            exact (k2 z (by omega)).symm
          subst hR2
          conv => whnf
          repeat' (first | ((first | refine zs1 ?_ | refine zs2 ?_ | refine zs3 ?_ | refine zs4 ?_ | refine zs5 ?_); conv => whnf) | ((first | apply zi1 | apply zi2 | apply zi3 | apply zi4 | apply zi5) <;> intro _ <;> first | (exfalso; omega) | contradiction | (conv => whnf)))
          exact VOut.same rfl
    · rw [if_neg hlen] at hE
      subst hE
      rw [show decide ((3 : Int) = 0) = false from rfl, Bool.false_and] at hR
      subst hR
      refine VC.body Try.func39 rfl Try.ntmps39 Try.call39 (h.grows_refl) rfl ?_; conv => whnf
      repeat' (first | ((first | refine zs1 ?_ | refine zs2 ?_ | refine zs3 ?_ | refine zs4 ?_ | refine zs5 ?_); conv => whnf) | ((first | apply zi1 | apply zi2 | apply zi3 | apply zi4 | apply zi5) <;> intro _ <;> first | (exfalso; omega) | contradiction | (conv => whnf)) | (refine VCall.intro (c _) ?_; conv => whnf))
      all_goals first | exact VOut.same rfl | (exfalso; dsimp only at *; omega)
  · rw [if_neg h0] at hE
    rw [hE, decide_eq_false h0, Bool.false_and] at hR
    rw [← hE] at c h0
    subst hR
    clear hE
    obtain ⟨mw, mh, mc⟩ := m
    refine VC.body Try.func39 rfl Try.ntmps39 Try.call39 (h.grows_refl) rfl ?_; conv => whnf
    repeat' (first | ((first | refine zs1 ?_ | refine zs2 ?_ | refine zs3 ?_ | refine zs4 ?_ | refine zs5 ?_); conv => whnf) | ((first | apply zi1 | apply zi2 | apply zi3 | apply zi4 | apply zi5) <;> intro _ <;> first | (exfalso; omega) | contradiction | (conv => whnf)) | (refine VCall.intro (c _) ?_; conv => whnf))
    all_goals exact VOut.same rfl
end Go.Proofs.Ytkbbfeljlepgoaa

open Go.Vm
open Riv
namespace Go.Proofs.Ytkbbfeljlepgoaa
set_option maxRecDepth 20000
set_option maxHeartbeats 4000000

/-! ### Tables of any numbers: a sum that wraps never helps one to hold -/
abbrev wr (n : Int) : Int := IntKind.i64.wrap n
theorem wr_bd (n : Int) : -9223372036854775808 ≤ wr n ∧ wr n ≤ 9223372036854775807 := by
  unfold wr IntKind.wrap; simp [IntKind.bits, IntKind.signed]; omega
theorem wr_id {n : Int} (h : -9223372036854775808 ≤ n ∧ n ≤ 9223372036854775807) : wr n = n := by
  unfold wr IntKind.wrap; simp [IntKind.bits, IntKind.signed]; omega
theorem wr_top {n : Int} (h : n = 9223372036854775808) : wr n = -9223372036854775808 := by
  subst h; decide
def lowN (c : List Int) (W : Nat) (s : Int) (T : List Int) (n : Nat) : Int := leastL (((nbs W c.length n).filter fun k => decide (Thr c s k)).map (at0 T))
def wantW (c : List Int) (W : Nat) (s : Int) (T : List Int) (n : Nat) : Int := if at0 c n = s then 0 else if Opn c n then (if lowN c W s T n = -1 then -1 else wr (lowN c W s T n + 1)) else -1
def hldW (c : List Int) (W : Nat) (s : Int) (T : List Int) : Bool := (List.range c.length).all fun n => decide (at0 T n = wantW c W s T n)
theorem wantW_bd (c : List Int) (W : Nat) (s : Int) (T : List Int) (n : Nat) : -9223372036854775808 ≤ wantW c W s T n ∧ wantW c W s T n ≤ 9223372036854775807 := by
  unfold wantW
  split
  · omega
  · split
    · split
      · omega
      · exact wr_bd _
    · omega
theorem lowN_mem {c : List Int} {W H : Nat} {s : Int} {T : List Int} {n : Nat} (hW : 2 ≤ W) (hL : c.length = W * H) (hn : n < c.length) (h : lowN c W s T n ≠ -1) : ∃ k, k < c.length ∧ Nb W n k ∧ Thr c s k ∧ at0 T k = lowN c W s T n := by
  have h1 := (leastL_some h).1
  obtain ⟨k, hk, e⟩ := List.mem_map.1 h1
  have h2 := List.mem_filter.1 hk
  have h3 := (nbs_iff hW hL hn).1 h2.1
  exact ⟨k, h3.1, h3.2, by simpa using h2.2, e⟩
theorem no_top {c : List Int} {W H : Nat} {s : Int} {T : List Int} (hW : 2 ≤ W) (hL : c.length = W * H) (hc : c.length ≤ 144) (h3 : s ≠ 3) (h : ∀ n, n < c.length → at0 T n = wantW c W s T n) {k : Nat} (hk : k < c.length) (ht : Thr c s k) : at0 T k ≠ 9223372036854775807 := by
  intro e
  have hall : ∀ j : Nat, j ≤ 200 → ∃ q, q < c.length ∧ Thr c s q ∧ at0 T q = 9223372036854775807 - j := by
    intro j
    induction j with
    | zero => intro _; exact ⟨k, hk, ht, by rw [e]; rfl⟩
    | succ j ih =>
      intro hj
      obtain ⟨q, hq, htq, eq⟩ := ih (by omega)
      have h1 := h q hq
      rw [eq] at h1
      unfold wantW at h1
      split at h1
      · omega
      · rename_i hs
        split at h1
        · split at h1
          · omega
          · rename_i hl
            obtain ⟨i, hi, _, hti, ei⟩ := lowN_mem hW hL hq hl
            refine ⟨i, hi, hti, ?_⟩
            rw [ei]
            have hb := wantW_bd c W s T i
            rw [← h i hi, ei] at hb
            by_cases h9 : lowN c W s T q = 9223372036854775807
            · rw [wr_top (by omega)] at h1; omega
            · rw [wr_id (by omega)] at h1; omega
        · omega
  have hex : ∃ f : Nat → Nat, ∀ j, j ≤ 200 → f j < c.length ∧ at0 T (f j) = 9223372036854775807 - j := by
    refine ⟨fun j => if hj : j ≤ 200 then (hall j hj).choose else 0, fun j hj => ?_⟩
    have hsp := (hall j hj).choose_spec
    simp only [dif_pos hj]
    exact ⟨hsp.1, hsp.2.2⟩
  obtain ⟨f, hf⟩ := hex
  have hnd : ((List.range 200).map f).Nodup := by
    rw [List.nodup_iff_pairwise_ne, List.pairwise_map]
    refine List.Pairwise.imp_of_mem ?_ (List.nodup_iff_pairwise_ne.1 List.nodup_range)
    intro a b ha hb hab e
    have h1 := hf a (by have := List.mem_range.1 ha; omega)
    have h2 := hf b (by have := List.mem_range.1 hb; omega)
    rw [e] at h1
    omega
  have := nodup_len c.length _ hnd fun x hx => by
    obtain ⟨j, hj, rfl⟩ := List.mem_map.1 hx
    exact (hf j (by have := List.mem_range.1 hj; omega)).1
  rw [List.length_map, List.length_range] at this
  omega
theorem want_eq (c : List Int) (W : Nat) (s : Int) (T : List Int) (n : Nat) : want c W s T n = if at0 c n = s then 0 else if Opn c n then (if lowN c W s T n = -1 then -1 else lowN c W s T n + 1) else -1 := rfl
theorem hldW_eq {c : List Int} {W H : Nat} {s : Int} {T : List Int} (hW : 2 ≤ W) (hL : c.length = W * H) (hc : c.length ≤ 144) (h3 : s ≠ 3) (hl : T.length = c.length) : hldW c W s T = decide (T = bfs c W s) := by
  rw [Bool.eq_iff_iff, decide_eq_true_eq, ← hldB_iff hW hL hl]
  unfold hldW hldB
  rw [List.all_eq_true, List.all_eq_true]
  constructor
  · intro h
    have h : ∀ n, n < c.length → at0 T n = wantW c W s T n := fun n hn => of_decide_eq_true (h n (List.mem_range.2 hn))
    intro n hn
    have hn := List.mem_range.1 hn
    refine decide_eq_true ?_
    rw [h n hn, want_eq]
    unfold wantW
    by_cases hl : lowN c W s T n = -1
    · rw [if_pos hl, if_pos hl]
    · rw [if_neg hl, if_neg hl]
      obtain ⟨k, a1, a2, a3, a4⟩ := lowN_mem hW hL hn hl
      have h5 := no_top hW hL hc h3 h a1 a3
      have h6 := wantW_bd c W s T k
      rw [← h k a1] at h6
      rw [wr_id (by omega)]
  · intro h
    have hT := (hldB_iff hW hL hl).1 (by unfold hldB; rw [List.all_eq_true]; exact h)
    have h : ∀ n, n < c.length → at0 T n = want c W s T n := fun n hn => of_decide_eq_true (h n (List.mem_range.2 hn))
    intro n hn
    have hn := List.mem_range.1 hn
    refine decide_eq_true ?_
    rw [h n hn, want_eq]
    unfold wantW
    by_cases hl : lowN c W s T n = -1
    · rw [if_pos hl, if_pos hl]
    · rw [if_neg hl, if_neg hl]
      obtain ⟨k, a1, a2, a3, a4⟩ := lowN_mem hW hL hn hl
      have h5 := bfs_lt (s := s) hW hL k
      have h7 := (bfs_hld (s := s) hW hL).low k
      rw [← hT] at h5 h7
      rw [wr_id (by omega)]
end Go.Proofs.Ytkbbfeljlepgoaa

open Go.Vm
open Riv
namespace Go.Proofs.Ytkbbfeljlepgoaa
set_option maxRecDepth 20000
set_option maxHeartbeats 4000000

structure GJ (o : Vm.Id → Option Blk) (l : List Int) (g : Hp) : Prop where
  o : g.outer = o
  li : ∃ m, (m = 1 ∨ 4 ≤ m) ∧ g.get (.loc 0) = some (.cells true [.gl (.loc m) 1 l.length]) ∧ g.get (.loc m) = some (.flat true (l.flatMap encI))
  b2 : g.get (.loc 2) = some .mark
def upG (m : Nat) (b : Blk) : List (Vm.Id × Blk) := [(.loc m, .dead), (.loc 0, b)]
theorem upG_ok {m : Nat} {b b' b2 : Blk} {g : Hp} (jm : g.get (.loc m) = some b2) (j0 : g.get (.loc 0) = some b') : ∀ p ∈ upG m b, g.get p.1 ≠ none := by
  intro p hp
  simp only [upG, List.mem_cons, List.not_mem_nil, or_false] at hp
  rcases hp with rfl | rfl <;> simp only
  · rw [jm]; simp
  · rw [j0]; simp
theorem GJ.step {o : Vm.Id → Option Blk} {l : List Int} {e : Int} {g : Hp} {m : Nat} (jo : g.outer = o) (j0 : g.get (.loc 0) = some (.cells true [.gl (.loc m) 1 l.length])) (jm : g.get (.loc m) = some (.flat true (l.flatMap encI))) (j2 : g.get (.loc 2) = some .mark) (hm : m = 1 ∨ 4 ≤ m) {b6 : Blk} (j3 : g.get (.loc 3) = some b6) :
    g.grows ((g.sets (upG m (.cells true [.gl g.fresh 1 (l.length + 1)]))).pushes [.flat true ((l ++ [e]).flatMap encI)]) ∧
    GJ o (l ++ [e]) ((g.sets (upG m (.cells true [.gl g.fresh 1 (l.length + 1)]))).pushes [.flat true ((l ++ [e]).flatMap encI)]) ∧
    ((g.sets (upG m (.cells true [.gl g.fresh 1 (l.length + 1)]))).pushes [.flat true ((l ++ [e]).flatMap encI)]).get (.loc 3) = some b6 := by
  have hgr := Hp.grows_sets (news := [.flat true ((l ++ [e]).flatMap encI)]) (upG_ok (b := .cells true [.gl g.fresh 1 (l.length + 1)]) jm j0)
  obtain ⟨go, gl⟩ := g
  simp only [Hp.get] at j0 j2 jm j3
  have l0 := (List.getElem?_eq_some_iff.1 j0).1
  have l2 := (List.getElem?_eq_some_iff.1 j2).1
  have l3 := (List.getElem?_eq_some_iff.1 j3).1
  have key : ∀ y, y < gl.length → y ≠ m → y ≠ 0 → ∀ (A B G : Blk), (((gl.set m A).set 0 B) ++ [G])[y]? = gl[y]? := by
    intro y hy h1 h2 A B G
    rw [List.getElem?_append_left (by simpa using hy), List.getElem?_set_ne (Ne.symm h2), List.getElem?_set_ne (Ne.symm h1)]
  refine ⟨hgr, ⟨jo, ⟨gl.length, .inr (by omega), ?_, ?_⟩, ?_⟩, ?_⟩
  · show (((gl.set m _).set 0 _) ++ [_])[0]? = _
    rw [List.getElem?_append_left (by simpa using l0), List.getElem?_set_self (by simpa using l0)]
    simp [Hp.fresh]
  · show (((gl.set m _).set 0 _) ++ [_])[gl.length]? = _
    rw [List.getElem?_append_right (by simp)]
    simp
  · exact (key 2 l2 (by omega) (by omega) _ _ _).trans j2
  · exact (key 3 l3 (by omega) (by omega) _ _ _).trans j3
def wtL (c : List Int) (s : Int) (T : List Int) (l : List Int) (k : Nat) : List Int := if Thr c s k then l ++ [at0 T k] else l
theorem wtL_fold (c : List Int) (s : Int) (T : List Int) : ∀ (ks : List Nat) (l : List Int), ks.foldl (wtL c s T) l = l ++ ((ks.filter fun k => decide (Thr c s k)).map (at0 T))
  | [], l => by simp
  | k :: ks, l => by
    rw [List.foldl_cons, wtL_fold c s T ks]
    unfold wtL
    by_cases h : Thr c s k
    · rw [if_pos h, List.filter_cons_of_pos (by simpa using h)]; simp
    · rw [if_neg h, List.filter_cons_of_neg (by simpa using h)]
theorem wtL_bd (c : List Int) (s : Int) (T : List Int) (W L n : Nat) : ∀ k, (nbF (wtL c s T) W L n [] k).length ≤ k
  | 0 => Nat.le_refl _
  | k + 1 => by
    have h := wtL_bd c s T W L n k
    cases hq : nbO W L n k with
    | none => rw [nbF_none hq]; omega
    | some q =>
      rw [nbF_some hq]
      generalize nbF (wtL c s T) W L n [] k = l at h
      unfold wtL
      split
      · rw [List.length_append, List.length_singleton]; omega
      · omega
theorem vc_Holds (m : Mp) (s : Int) (T : List Int) (h : Hp) (hl : m.c.length ≤ 4000000) (hT : T.length ≤ 4000000) : VC Try.prog 38 [vM m, I s, ints T] h (.tuple [B (hdB m s T), I (hdE m s T)]) h := by
  have c := fun h => vc_looked m s h hl
  obtain ⟨E, hE⟩ : ∃ E, E = hdE m s T := ⟨_, rfl⟩
  obtain ⟨R, hR⟩ : ∃ R, R = hdB m s T := ⟨_, rfl⟩
  rw [← hE, ← hR]
  unfold hdB at hR
  rw [← hE] at hR
  unfold hdE at hE
  by_cases h0 : lkE m s = 0
  · obtain ⟨W, H, e1, _, o, hs⟩ := lkE_ok h0
    rw [frL_ok h0 e1] at hR
    rw [if_pos h0] at hE
    rw [h0] at c
    have hm144 := MOk.le o
    have hWb := o.w
    have hHb := o.h
    have hL := o.len
    have hiff := fun hl => hldW_eq (s := s) (T := T) (by omega) hL hm144 (by omega) hl
    have cT := fun k x hk h => vc_through m s x k h hk
    have cB := fun n h => vc_beside m n h
    have itB := fun n hn => iter_beside m W n (by omega) e1 hn (by omega)
    obtain ⟨mw, mh, mc⟩ := m
    dsimp only at hE hR hm144 hL hiff o e1 cT cB itB
    subst e1
    by_cases hlen : T.length = mc.length
    · rw [if_pos hlen] at hE
      subst hE
      rw [decide_eq_true rfl, Bool.true_and] at hR
      have hiff := hiff hlen
      rw [← hiff] at hR
      clear hiff
      refine VC.bodyC 2 Try.func38 rfl Try.ntmps38 Try.call38 (h.grows_refl) rfl ?_; conv => whnf
      repeat' (first | ((first | refine zs1 ?_ | refine zs2 ?_ | refine zs3 ?_ | refine zs4 ?_ | refine zs5 ?_); conv => whnf) | ((first | apply zi1 | apply zi2 | apply zi3 | apply zi4 | apply zi5) <;> intro _ <;> first | (exfalso; omega) | contradiction | (conv => whnf)) | (refine VCall.intro (c _) ?_; conv => whnf))
      all_goals try (exfalso; simp at *; omega)
      refine VCut.at' (outer := h.lift) (marks := []) 99 [(1, I s), (3, .fp [DI W, DI mh, dints mc]), (5, .fp [dints T]), (8, .fp [DI W, DI mh, dints mc, DI s]), (9, I 0)] [] ?_ ?_
      · conv => whnf
        refine Retell.turn ⟨[], 4, [(0, [DI W, DI mh, dints mc]), (1, [dints T]), (2, [DI W, DI mh, dints mc, DI s])], []⟩ (TurnOk.mk' _ _ [(0, [DI W, DI mh, dints mc]), (1, [dints T]), (2, [DI W, DI mh, dints mc, DI s])] [] (OutOk.lift _) rfl (by decide) zb zf trivial rfl) zw zm
      conv => whnf
      repeat' (first | ((first | refine zs1 ?_ | refine zs2 ?_ | refine zs3 ?_ | refine zs4 ?_ | refine zs5 ?_); conv => whnf) | ((first | apply zi1 | apply zi2 | apply zi3 | apply zi4 | apply zi5) <;> intro _ <;> first | (exfalso; omega) | contradiction | (conv => whnf)))
      all_goals try (exfalso; simp at *; omega)
      refine VCode.lpC (outer := h.lift) (marks := []) 99 (fun n : Nat => [(1, I s), (3, .fp [DI W, DI mh, dints mc]), (5, .fp [dints T]), (8, .fp [DI W, DI mh, dints mc, DI s]), (33, ints mc), (34, I mc.length), (35, I n)]) (fun _ => []) (fun n => n ≤ mc.length ∧ ∀ z, z < n → at0 T z = wantW mc W s T z) (fun n => mc.length - n) 0 ⟨Nat.zero_le _, fun z hz => by omega⟩ ?_ ?_
      · conv => whnf
        refine Retell.turn ⟨[], 0, [], []⟩ (TurnOk.mk' _ _ [] [] (OutOk.lift _) rfl (by decide) zb trivial trivial rfl) zw zm
      · rintro n ⟨n1, n2⟩
        rcases Nat.lt_or_ge n mc.length with n3 | n3
        · have hx := at0_get n3
          have ha := at0_get (l := T) (n := n) (by omega)
          have hwd : wantW mc W s T n = if at0 mc n = s then 0 else if Opn mc n then (if lowN mc W s T n = -1 then -1 else wr (lowN mc W s T n + 1)) else -1 := rfl
          obtain ⟨wv, hwv⟩ : ∃ w, w = wantW mc W s T n := ⟨_, rfl⟩
          rw [← hwv] at hwd
          have hgo : at0 T n = wv → ∀ z, z < n + 1 → at0 T z = wantW mc W s T z := fun e z hz => by
            rcases Nat.lt_or_ge z n with h5 | h5
            · exact n2 z h5
            · obtain rfl : z = n := by omega
              rw [e, hwv]
          have hno : at0 T n ≠ wv → R = false := fun e => by
            rw [hR]
            cases hx : hldW mc W s T with
            | false => rfl
            | true =>
              unfold hldW at hx
              rw [List.all_eq_true] at hx
              have := of_decide_eq_true (hx n (List.mem_range.2 n3))
              exact absurd (this.trans hwv.symm) e
          clear hwv
          obtain ⟨x, hxe⟩ : ∃ x, x = at0 mc n := ⟨_, rfl⟩
          obtain ⟨a, hae⟩ : ∃ a, a = at0 T n := ⟨_, rfl⟩
          have hopn : Opn mc n ↔ x = 0 ∨ x = 3 := by unfold Opn; rw [← hxe]
          rw [← hxe] at hx hwd
          rw [← hae] at ha hgo hno
          by_cases hxs : x = s
          · rw [if_pos hxs] at hwd
            subst hwd
            clear hopn hxe hae
            conv => whnf
            repeat' (first | ((first | refine zs1 ?_ | refine zs2 ?_ | refine zs3 ?_ | refine zs4 ?_ | refine zs5 ?_); conv => whnf) | ((first | apply zi1 | apply zi2 | apply zi3 | apply zi4 | apply zi5) <;> intro _ <;> first | (exfalso; omega) | contradiction | (conv => whnf)) | (refine VAny.ix encI_len n rfl rfl hx ?_; conv => whnf) | (refine VAny.ix encI_len n rfl (by omega) ha ?_; conv => whnf))
            all_goals first
              | (refine LEnd.intro (n + 1) ⟨by omega, hgo (by omega)⟩ (by omega) ?_
                 conv => whnf
                 refine Retell.turn ⟨[], 0, [], []⟩ (TurnOk.mk' _ _ [] [] (OutOk.lift _) rfl (by decide) zb trivial trivial rfl) zw zm)
              | (rw [hno (by omega)]; exact VOut.same rfl)
          · rw [if_neg hxs] at hwd
            by_cases ho : x = 0 ∨ x = 3
            · rw [if_pos (hopn.2 ho)] at hwd
              clear hopn hxe hae
              have hrest : True := trivial
              conv => whnf
              repeat' (first | ((first | refine zs1 ?_ | refine zs2 ?_ | refine zs3 ?_ | refine zs4 ?_ | refine zs5 ?_); conv => whnf) | ((first | apply zi1 | apply zi2 | apply zi3 | apply zi4 | apply zi5) <;> intro _ <;> first | (exfalso; omega) | contradiction | (conv => whnf)) | (refine VAny.ix encI_len n rfl rfl hx ?_; conv => whnf) | (refine VCall.intro (cB n _) ?_; conv => whnf))
              all_goals try (exfalso; omega)
              all_goals (
                refine VCode.tell [(1, I s), (3, .fp [DI W, DI mh, dints mc]), (5, .fp [dints T]), (8, .fp [DI W, DI mh, dints mc, DI s]), (33, ints mc), (34, I mc.length), (35, I n), (10, I n), (13, .ptr (.loc 0) 0), (49, vBes ⟨W, mh, mc⟩ n)] [.cells true [.gl (.loc 1) 1 0], .flat true []] (marks' := []) ?_ ?_
                · conv => whnf
                  refine Retell.turn ⟨[0, 1], 1, [], []⟩ (TurnOk.mk' _ _ [] [] (OutOk.lift _) rfl (by decide) zb trivial trivial rfl) zw zm
                · conv => whnf
                  refine VCode.iterS 4 (nbY W mc.length n) (fun k g => GJ h.lift (nbF (wtL mc s T) W mc.length n [] k) g) _ (.loc 3) rfl (itB n n3) rfl rfl ⟨rfl, ⟨1, .inl rfl, rfl, rfl⟩, rfl⟩ ?_ ?_ ?_
                  · rintro k g hk hy hJ
                    rw [nbF_none (nbY_none hy)]; exact hJ
                  · rintro k g vs hk hy hJ hlp
                    obtain ⟨q, hq, rfl⟩ := nbY_some hy
                    rw [nbF_some hq]
                    have hqL := ((nbs_iff (by omega) hL n3).1 (nbO_mem hk hq)).1
                    have hlb := wtL_bd mc s T W mc.length n k
                    generalize nbF (wtL mc s T) W mc.length n [] k = l at hJ hlb
                    obtain ⟨jo, ⟨m, hm, j0, jm⟩, j2⟩ := hJ
                    have hy := at0_get hqL
                    have hb := at0_get (l := T) (n := q) (by omega)
                    have cTq := cT q _ hy
                    unfold wtL
                    have hthr : Thr mc s q ↔ (at0 mc q = 0 ∨ at0 mc q = s) := by unfold Thr; exact Iff.rfl
                    by_cases hth : Thr mc s q
                    · rw [if_pos hth]
                      rw [decide_eq_true (hthr.1 hth)] at cTq
                      clear hthr hth hy
                      generalize at0 T q = b at hb
                      obtain ⟨s1, s2, s3⟩ := GJ.step (e := b) jo j0 jm j2 hm hlp
                      have hm0 : Vm.Id.loc m ≠ .loc 0 := by intro h0; injection h0; omega
                      have hm3 : Vm.Id.loc m ≠ .loc 3 := by intro h0; injection h0; omega
                      have hm0' : Vm.Id.loc 0 ≠ .loc m := fun h0 => hm0 h0.symm
                      have hm3' : Vm.Id.loc 3 ≠ .loc m := fun h0 => hm3 h0.symm
                      refine ⟨_, ?_, s2, s3⟩
                      refine VRound.vy' hlp rfl rfl rfl s1 fun l0 => ?_
                      refine VRound.tell [(5, .fp [dints T]), (8, .fp [DI W, DI mh, dints mc, DI s]), (13, .ptr (.out (.loc 0)) 0), (50, I q)] ?_ ?_
                      · conv => whnf
                        refine Retell.turn ⟨[], 0, [], []⟩ (TurnOk.mk' _ _ [] [] (OutOk.lift _) rfl (by decide) zb trivial trivial rfl) zw zm
                      · conv => whnf
                        repeat (first | ((first | refine zs1 ?_ | refine zs2 ?_ | refine zs3 ?_ | refine zs4 ?_ | refine zs5 ?_ | refine zs6 [] ?_); conv => whnf))
                        refine VBegin.intro (get_out hlp _) rfl ?_
                        conv => whnf
                        repeat' (first | ((first | refine zs1 ?_ | refine zs2 ?_ | refine zs3 ?_ | refine zs4 ?_ | refine zs5 ?_); conv => whnf) | ((first | apply zi1 | apply zi2 | apply zi3 | apply zi4 | apply zi5) <;> intro _ <;> conv => whnf) | (refine VCall.intro (cTq _) ?_; conv => whnf))
                        refine zs6 [] ?_
                        conv => whnf
                        repeat' (first | ((first | refine zs1 ?_ | refine zs2 ?_ | refine zs3 ?_ | refine zs4 ?_ | refine zs5 ?_); conv => whnf) | ((first | apply zi1 | apply zi2 | apply zi3 | apply zi4 | apply zi5) <;> intro _ <;> conv => whnf) | (refine VLd.cell rfl rfl (get_setO (by decide) j0 _) rfl ?_; conv => whnf) | (refine VAny.ix encI_len q rfl (by omega) hb ?_; conv => whnf))
                        refine VMem.app1B (α := Int) (l := l) b encI_len rfl (get_setO hm3 jm _) rfl rfl rfl (by omega) ?_
                        conv => whnf
                        repeat' (first | ((first | refine zs1 ?_ | refine zs2 ?_ | refine zs3 ?_ | refine zs4 ?_ | refine zs5 ?_); conv => whnf) | ((first | apply zi1 | apply zi2 | apply zi3 | apply zi4 | apply zi5) <;> intro _ <;> conv => whnf))
                        refine VMem.st1 rfl rfl rfl (b := .cells true [.gl (.out (.loc m)) 1 l.length]) (get_outNe hm0' (get_setO (by decide) j0 _)) rfl ?_
                        conv => whnf
                        repeat' (first | ((first | refine zs1 ?_ | refine zs2 ?_ | refine zs3 ?_ | refine zs4 ?_ | refine zs5 ?_); conv => whnf) | ((first | apply zi1 | apply zi2 | apply zi3 | apply zi4 | apply zi5) <;> intro _ <;> conv => whnf))
                        refine RFin.on (get_outNe (by decide) (get_outNe hm3' (outW_get _ _ _ _))) ?_
                        refine VOut.upd (upG m (.cells true [.gl g.fresh 1 (l.length + 1)])) [.flat true ((l ++ [b]).flatMap encI)] [1] 2 ?_ (upG_ok jm j0) ?_ ?_ ?_ ?_ ?_
                        · rfl
                        · decide
                        · rfl
                        · intro k' b' hk'
                          cases k' with
                          | zero => rw [List.getElem?_cons_zero, Option.some.injEq] at hk'; subst hk'; exact ⟨1, rfl, rfl⟩
                          | succ k' => simp at hk'
                        · intro σ x hx; exact hx
                        · have e1 : (Blk.cells true [V.gl g.fresh 1 (l.length + 1)]).ren (backR g.loc.length [1] 2) = .cells true [.gl (.loc 1) 1 (l.length + 1)] := by simp [Blk.ren, V.ren, backR, Hp.fresh]
                          simp only [upG, List.map_cons, List.map_nil, e1]
                          exact outer_fix2 (get_out hlp []) hm3' (by decide)
                    · rw [if_neg hth]
                      rw [decide_eq_false (fun h => hth (hthr.2 h))] at cTq
                      refine ⟨g, ?_, ⟨jo, ⟨m, hm, j0, jm⟩, j2⟩, hlp⟩
                      refine VRound.vy' hlp rfl rfl rfl g.grows_refl fun l0 => ?_
                      refine VRound.tell [(5, .fp [dints T]), (8, .fp [DI W, DI mh, dints mc, DI s]), (13, .ptr (.out (.loc 0)) 0), (50, I q)] ?_ ?_
                      · conv => whnf
                        refine Retell.turn ⟨[], 0, [], []⟩ (TurnOk.mk' _ _ [] [] (OutOk.lift _) rfl (by decide) zb trivial trivial rfl) zw zm
                      · conv => whnf
                        repeat (first | ((first | refine zs1 ?_ | refine zs2 ?_ | refine zs3 ?_ | refine zs4 ?_ | refine zs5 ?_ | refine zs6 [] ?_); conv => whnf))
                        refine VBegin.intro (get_out hlp _) rfl ?_
                        conv => whnf
                        repeat' (first | ((first | refine zs1 ?_ | refine zs2 ?_ | refine zs3 ?_ | refine zs4 ?_ | refine zs5 ?_); conv => whnf) | ((first | apply zi1 | apply zi2 | apply zi3 | apply zi4 | apply zi5) <;> intro _ <;> conv => whnf) | (refine VCall.intro (cTq _) ?_; conv => whnf))
                        exact RFin.on (outW_get _ _ _ _) (VOut.back (get_out hlp []) rfl)
                  · rintro ⟨go, gl⟩ ⟨jo, ⟨m, hm, j0, jm⟩, j2⟩ hlp
                    dsimp only at jo
                    subst jo
                    have hlb := wtL_bd mc s T W mc.length n 4
                    have hlw : leastL (nbF (wtL mc s T) W mc.length n [] 4) = lowN mc W s T n := by rw [nbF_all, wtL_fold]; rfl
                    generalize nbF (wtL mc s T) W mc.length n [] 4 = l at j0 jm hlb hlw
                    have j0 : gl[0]? = some _ := j0
                    have jm : gl[m]? = some _ := jm
                    have j2 : gl[2]? = some _ := j2
                    have l0 := (List.getElem?_eq_some_iff.1 j0).1
                    have lm := (List.getElem?_eq_some_iff.1 jm).1
                    have key : ∀ (x : Nat) (A : Blk), x ≠ 3 → (gl.set 3 A)[x]? = gl[x]? := fun x A hx => List.getElem?_set_ne (Ne.symm hx)
                    have hmn : ([0, m] : List Nat).Nodup := by simp; omega
                    have hm4 : 2 ∉ ([0, m] : List Nat) := by simp; omega
                    have cLs := fun h => vc_least l h (by omega)
                    rw [hlw] at cLs
                    have hwd : wv = if lowN mc W s T n = -1 then -1 else IntKind.i64.wrap (lowN mc W s T n + 1) := hwd
                    generalize lowN mc W s T n = lo at hwd cLs
                    refine Told.mk [(1, I s), (3, .fp [DI W, DI mh, dints mc]), (5, .fp [dints T]), (8, .fp [DI W, DI mh, dints mc, DI s]), (33, ints mc), (34, I mc.length), (35, I n), (10, I n), (13, .ptr (.loc 0) 0)] [.cells true [.gl (.loc 1) 1 l.length], .flat true (l.flatMap encI)] (marks' := []) ?_ ?_
                    · conv => whnf
                      refine Retell.turn ⟨[0, m], gl.length, [], []⟩ (TurnOk.mk' _ _ [] [] (OutOk.lift _) (Nat.ble_eq_true_of_le (by simp)) hmn (BTos.cells (blt_of l0) ((key 0 _ (by decide)).trans j0) rfl zw (BTos.flat (blt_of lm) ((key m _ (by omega)).trans jm) rfl BTos.nil)) trivial trivial rfl) zw (MkTo.drop hm4 ((key 2 _ (by decide)).trans j2) MkTo.nil)
                    · conv => whnf
                      repeat' (first | ((first | refine zs1 ?_ | refine zs2 ?_ | refine zs3 ?_ | refine zs4 ?_ | refine zs5 ?_); conv => whnf) | ((first | apply zi1 | apply zi2 | apply zi3 | apply zi4 | apply zi5) <;> intro _ <;> conv => whnf))
                      refine VCall.intro (VC.give (args' := [ints l]) (loc' := [.dead, .dead]) [(1, l.flatMap Vm.encI)] [] (OutOk.lift _) zb zf (by exact FmAll.nil) rfl zw (cLs _)) ?_
                      conv => whnf
                      by_cases hlo : lo = -1
                      · rw [if_pos hlo] at hwd
                        subst hwd
                        repeat' (first | ((first | refine zs1 ?_ | refine zs2 ?_ | refine zs3 ?_ | refine zs4 ?_ | refine zs5 ?_); conv => whnf) | ((first | apply zi1 | apply zi2 | apply zi3 | apply zi4 | apply zi5) <;> intro _ <;> first | (exfalso; omega) | contradiction | (conv => whnf)) | (refine VAny.ix encI_len n rfl (by omega) ha ?_; conv => whnf))
                        all_goals first
                          | (refine LEnd.intro (n + 1) ⟨by omega, hgo (by omega)⟩ (by omega) ?_
                             conv => whnf
                             refine Retell.turn ⟨[], 2, [], []⟩ (TurnOk.mk' _ _ [] [] (OutOk.lift _) rfl (by decide) zb trivial trivial rfl) zw zm)
                          | (rw [hno (by omega)]; exact VOut.same rfl)
                      · rw [if_neg hlo] at hwd
                        repeat' (first | ((first | refine zs1 ?_ | refine zs2 ?_ | refine zs3 ?_ | refine zs4 ?_ | refine zs5 ?_); conv => whnf) | ((first | apply zi1 | apply zi2 | apply zi3 | apply zi4 | apply zi5) <;> intro _ <;> first | (exfalso; omega) | contradiction | (conv => whnf)) | (refine VArith.wr ?_; rw [← hwd]; conv => whnf) | (refine VAny.ix encI_len n rfl (by omega) ha ?_; conv => whnf))
                        all_goals first
                          | (refine LEnd.intro (n + 1) ⟨by omega, hgo (by omega)⟩ (by omega) ?_
                             conv => whnf
                             refine Retell.turn ⟨[], 2, [], []⟩ (TurnOk.mk' _ _ [] [] (OutOk.lift _) rfl (by decide) zb trivial trivial rfl) zw zm)
                          | (rw [hno (by omega)]; exact VOut.same rfl))
            · rw [if_neg (fun h => ho (hopn.1 h))] at hwd
              subst hwd
              clear hopn hxe hae
              conv => whnf
              repeat' (first | ((first | refine zs1 ?_ | refine zs2 ?_ | refine zs3 ?_ | refine zs4 ?_ | refine zs5 ?_); conv => whnf) | ((first | apply zi1 | apply zi2 | apply zi3 | apply zi4 | apply zi5) <;> intro _ <;> first | (exfalso; omega) | contradiction | (conv => whnf)) | (refine VAny.ix encI_len n rfl rfl hx ?_; conv => whnf) | (refine VAny.ix encI_len n rfl (by omega) ha ?_; conv => whnf))
              all_goals first
                | (exfalso; omega)
                | (refine LEnd.intro (n + 1) ⟨by omega, hgo (by omega)⟩ (by omega) ?_
                   conv => whnf
                   refine Retell.turn ⟨[], 0, [], []⟩ (TurnOk.mk' _ _ [] [] (OutOk.lift _) rfl (by decide) zb trivial trivial rfl) zw zm)
                | (rw [hno (by omega)]; exact VOut.same rfl)
        · have hR2 : R = true := by
            rw [hR]
            unfold hldW
            rw [List.all_eq_true]
            exact fun z hz => decide_eq_true (n2 z (by have := List.mem_range.1 hz; omega))
          subst hR2
          conv => whnf
          repeat' (first | ((first | refine zs1 ?_ | refine zs2 ?_ | refine zs3 ?_ | refine zs4 ?_ | refine zs5 ?_); conv => whnf) | ((first | apply zi1 | apply zi2 | apply zi3 | apply zi4 | apply zi5) <;> intro _ <;> first | (exfalso; omega) | contradiction | (conv => whnf)))
          exact VOut.same rfl
    · rw [if_neg hlen] at hE
      subst hE
      rw [show decide ((3 : Int) = 0) = false from rfl, Bool.false_and] at hR
      subst hR
      refine VC.body Try.func38 rfl Try.ntmps38 Try.call38 (h.grows_refl) rfl ?_; conv => whnf
      repeat' (first | ((first | refine zs1 ?_ | refine zs2 ?_ | refine zs3 ?_ | refine zs4 ?_ | refine zs5 ?_); conv => whnf) | ((first | apply zi1 | apply zi2 | apply zi3 | apply zi4 | apply zi5) <;> intro _ <;> first | (exfalso; omega) | contradiction | (conv => whnf)) | (refine VCall.intro (c _) ?_; conv => whnf))
      all_goals first | exact VOut.same rfl | (exfalso; dsimp only at *; omega)
  · rw [if_neg h0] at hE
    rw [hE, decide_eq_false h0, Bool.false_and] at hR
    rw [← hE] at c h0
    subst hR
    clear hE
    obtain ⟨mw, mh, mc⟩ := m
    refine VC.body Try.func38 rfl Try.ntmps38 Try.call38 (h.grows_refl) rfl ?_; conv => whnf
    repeat' (first | ((first | refine zs1 ?_ | refine zs2 ?_ | refine zs3 ?_ | refine zs4 ?_ | refine zs5 ?_); conv => whnf) | ((first | apply zi1 | apply zi2 | apply zi3 | apply zi4 | apply zi5) <;> intro _ <;> first | (exfalso; omega) | contradiction | (conv => whnf)) | (refine VCall.intro (c _) ?_; conv => whnf))
    all_goals exact VOut.same rfl
end Go.Proofs.Ytkbbfeljlepgoaa


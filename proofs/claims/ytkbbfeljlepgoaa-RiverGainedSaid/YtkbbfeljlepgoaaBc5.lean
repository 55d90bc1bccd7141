/- Part 5 of the proof that answers about rivers are as the given statements say. No condition. -/
import Derived.Test.YtkbbfeljlepgoaaBc4
import Derived.Test.YtkbbfeljlepgoaaRows
set_option linter.unusedVariables false
set_option linter.unusedSimpArgs false
namespace Riv
structure Mp where
  w : Int
  h : Int
  c : List Int
  deriving DecidableEq
def Nb (W a b : Nat) : Prop := a = b + W ∨ b = a + W ∨ (a = b + 1 ∧ a % W ≠ 0) ∨ (b = a + 1 ∧ b % W ≠ 0)
instance (W a b : Nat) : Decidable (Nb W a b) := by unfold Nb; infer_instance
theorem Nb.symm {W a b : Nat} (h : Nb W a b) : Nb W b a := by
  rcases h with h | h | h | h
  · exact .inr (.inl h)
  · exact .inl h
  · exact .inr (.inr (.inr h))
  · exact .inr (.inr (.inl h))
def nbs (W L n : Nat) : List Nat := (if n < W then [] else [n - W]) ++ (if n % W = 0 then [] else [n - 1]) ++ (if n % W = W - 1 then [] else [n + 1]) ++ (if L ≤ n + W then [] else [n + W])
theorem mod_succ {W n : Nat} (hW : 2 ≤ W) : (n + 1) % W = if n % W = W - 1 then 0 else n % W + 1 := by
  have h1 := Nat.div_add_mod n W
  have h2 := Nat.mod_lt n (show 0 < W by omega)
  generalize n % W = r at *
  generalize n / W = q at *
  subst h1
  split
  · rename_i h
    subst h
    rw [show W * q + (W - 1) + 1 = W * (q + 1) by rw [Nat.mul_succ]; omega, Nat.mul_mod_right]
  · rw [Nat.add_assoc, Nat.mul_add_mod, Nat.mod_eq_of_lt (by omega)]
theorem nbs_iff {W L H n k : Nat} (hW : 2 ≤ W) (hL : L = W * H) (hn : n < L) : k ∈ nbs W L n ↔ k < L ∧ Nb W n k := by
  have hm := mod_succ (n := n) hW
  have hr := Nat.mod_lt n (show 0 < W by omega)
  have hend : n % W ≠ W - 1 → n + 1 < L := by
    intro h
    rw [if_neg h] at hm
    have : n + 1 ≠ L := fun e => by
      rw [e, hL, Nat.mul_mod_right] at hm
      omega
    omega
  unfold nbs Nb
  simp only [List.mem_append]
  constructor
  · rintro (((h | h) | h) | h)
    · split at h
      · simp at h
      · simp at h; subst h; exact ⟨by omega, .inl (by omega)⟩
    · split at h
      · simp at h
      · rename_i h2
        simp at h; subst h
        have : n ≠ 0 := fun e => h2 (by rw [e]; exact Nat.zero_mod W)
        exact ⟨by omega, .inr (.inr (.inl ⟨by omega, h2⟩))⟩
    · split at h
      · simp at h
      · rename_i h2
        simp at h; subst h
        exact ⟨hend h2, .inr (.inr (.inr ⟨rfl, by rw [hm, if_neg h2]; omega⟩))⟩
    · split at h
      · simp at h
      · simp at h; subst h; exact ⟨by omega, .inr (.inl rfl)⟩
  · rintro ⟨h0, h | h | h | h⟩
    · refine .inl (.inl (.inl ?_))
      rw [if_neg (by omega)]; simp; omega
    · refine .inr ?_
      rw [if_neg (by omega)]; simp; omega
    · refine .inl (.inl (.inr ?_))
      rw [if_neg h.2]; simp; omega
    · refine .inl (.inr ?_)
      have h2 := h.2
      rw [h.1, hm] at h2
      rw [if_neg (fun e => h2 (by rw [if_pos e]))]
      simp; omega
theorem nb_ref {W a b : Nat} (hW : 2 ≤ W) : Nb W a b ↔ (a % W = b % W ∧ (a / W = b / W + 1 ∨ b / W = a / W + 1)) ∨ (a / W = b / W ∧ (a % W = b % W + 1 ∨ b % W = a % W + 1)) := by
  have key : ∀ x y : Nat, (y = x + W ↔ y % W = x % W ∧ y / W = x / W + 1) ∧ ((y = x + 1 ∧ y % W ≠ 0) ↔ y / W = x / W ∧ y % W = x % W + 1) := by
    intro x y
    have hx := Nat.div_add_mod x W
    have hx2 := Nat.mod_lt x (show 0 < W by omega)
    have hy := Nat.div_add_mod y W
    have hy2 := Nat.mod_lt y (show 0 < W by omega)
    constructor
    · constructor
      · intro h
        subst h
        exact ⟨Nat.add_mod_right x W, Nat.add_div_right x (by omega)⟩
      · rintro ⟨h1, h2⟩
        rw [h1, h2, Nat.mul_succ] at hy
        omega
    · constructor
      · rintro ⟨h1, h2⟩
        have hm := mod_succ (n := x) hW
        rw [← h1] at hm
        have h3 : x % W ≠ W - 1 := fun e => h2 (by rw [hm, if_pos e])
        rw [if_neg h3] at hm
        refine ⟨?_, hm⟩
        rw [h1, ← hx, Nat.add_assoc, Nat.mul_add_div (by omega), Nat.mul_add_div (by omega), Nat.div_eq_of_lt (show x % W + 1 < W by omega), Nat.div_eq_of_lt hx2]
      · rintro ⟨h1, h2⟩
        rw [h1, h2] at hy
        exact ⟨by omega, by omega⟩
  have k1 := key b a
  have k2 := key a b
  unfold Nb
  rw [k1.1, k2.1, k1.2, k2.2]
  constructor
  · rintro (h | h | h | h)
    · exact .inl ⟨h.1, .inl h.2⟩
    · exact .inl ⟨h.1.symm, .inr h.2⟩
    · exact .inr ⟨h.1, .inl h.2⟩
    · exact .inr ⟨h.1.symm, .inr h.2⟩
  · rintro (⟨h, h1 | h1⟩ | ⟨h, h1 | h1⟩)
    · exact .inl ⟨h, h1⟩
    · exact .inr (.inl ⟨h.symm, h1⟩)
    · exact .inr (.inr (.inl ⟨h, h1⟩))
    · exact .inr (.inr (.inr ⟨h.symm, h1⟩))
theorem nb_law {W a b : Nat} (hab : a ≤ b) (hW : 2 ≤ W) : Nb W a b ↔ b = a + W ∨ (b = a + 1 ∧ b % W ≠ 0) := by
  unfold Nb
  constructor
  · rintro (h | h | h | h)
    · omega
    · exact .inl h
    · omega
    · exact .inr h
  · rintro (h | h)
    · exact .inr (.inl h)
    · exact .inr (.inr (.inr h))
end Riv

namespace Riv
def at0 (l : List Int) (n : Nat) : Int := l.getD n (-1)
def Thr (c : List Int) (s : Int) (k : Nat) : Prop := at0 c k = 0 ∨ at0 c k = s
def Opn (c : List Int) (k : Nat) : Prop := at0 c k = 0 ∨ at0 c k = 3
instance (c : List Int) (s : Int) (k : Nat) : Decidable (Thr c s k) := by unfold Thr; infer_instance
instance (c : List Int) (k : Nat) : Decidable (Opn c k) := by unfold Opn; infer_instance
structure Fit (c : List Int) (W : Nat) (s : Int) (T : List Int) (n : Nat) : Prop where
  own : at0 c n = s → at0 T n = 0
  opn : at0 c n ≠ s → Opn c n → (at0 T n = -1 ∧ ∀ k, k < c.length → Nb W n k → Thr c s k → at0 T k = -1) ∨ ∃ k, k < c.length ∧ Nb W n k ∧ Thr c s k ∧ at0 T k ≠ -1 ∧ at0 T n = at0 T k + 1 ∧ ∀ j, j < c.length → Nb W n j → Thr c s j → at0 T j ≠ -1 → at0 T k ≤ at0 T j
  oth : at0 c n ≠ s → ¬ Opn c n → at0 T n = -1
structure Hld (c : List Int) (W : Nat) (s : Int) (T : List Int) : Prop where
  len : T.length = c.length
  fit : ∀ n, n < c.length → Fit c W s T n
theorem low_ex : ∀ T : List Int, ∃ B : Nat, ∀ n, -1 - (B : Int) ≤ at0 T n
  | [] => ⟨0, fun n => by simp [at0]⟩
  | x :: T => by
    obtain ⟨B, hB⟩ := low_ex T
    refine ⟨B + x.natAbs, fun n => ?_⟩
    cases n with
    | zero => simp [at0]; omega
    | succ n =>
      have := hB n
      simp only [at0, List.getD_cons_succ] at this ⊢
      omega
theorem at0_out {T : List Int} {n : Nat} (h : T.length ≤ n) : at0 T n = -1 := by
  unfold at0
  rw [List.getD_eq_getElem?_getD, List.getElem?_eq_none h]; rfl
theorem Hld.low {c : List Int} {W : Nat} {s : Int} {T : List Int} (h : Hld c W s T) (n : Nat) : -1 ≤ at0 T n := by
  obtain ⟨B, hB⟩ := low_ex T
  revert hB
  induction B with
  | zero => intro hB; have := hB n; omega
  | succ B ih =>
    intro hB
    refine ih fun m => ?_
    rcases Nat.lt_or_ge m c.length with hm | hm
    · have hf := h.fit m hm
      by_cases h1 : at0 c m = s
      · rw [hf.own h1]; omega
      · by_cases h2 : Opn c m
        · rcases hf.opn h1 h2 with h3 | ⟨k, _, _, _, _, h3, _⟩
          · rw [h3.1]; omega
          · have := hB k; omega
        · rw [hf.oth h1 h2]; omega
    · rw [at0_out (by rw [h.len]; exact hm)]; omega
theorem Hld.step {c : List Int} {W : Nat} {s : Int} {T : List Int} (h : Hld c W s T) {n : Nat} (hn : n < c.length) (k : Nat) : at0 T n = (k : Int) + 1 ↔ at0 c n ≠ s ∧ Opn c n ∧ (∃ j, j < c.length ∧ Nb W n j ∧ Thr c s j ∧ at0 T j = k) ∧ ∀ j, j < c.length → Nb W n j → Thr c s j → at0 T j ≠ -1 → (k : Int) ≤ at0 T j := by
  have hf := h.fit n hn
  constructor
  · intro h0
    have h1 : at0 c n ≠ s := fun e => by have := hf.own e; omega
    have h2 : Opn c n := Decidable.byContradiction fun e => by have := hf.oth h1 e; omega
    rcases hf.opn h1 h2 with h3 | ⟨j, a1, a2, a3, a4, a5, a6⟩
    · have := h3.1; omega
    · have e : at0 T j = k := by omega
      exact ⟨h1, h2, ⟨j, a1, a2, a3, e⟩, fun i b1 b2 b3 b4 => by have := a6 i b1 b2 b3 b4; omega⟩
  · rintro ⟨h1, h2, ⟨j, a1, a2, a3, a4⟩, h4⟩
    rcases hf.opn h1 h2 with h3 | ⟨i, b1, b2, b3, b4, b5, b6⟩
    · have := h3.2 j a1 a2 a3; omega
    · have e1 := b6 j a1 a2 a3 (by omega)
      have e2 := h4 i b1 b2 b3 b4
      omega
theorem Hld.zero {c : List Int} {W : Nat} {s : Int} {T : List Int} (h : Hld c W s T) {n : Nat} (hn : n < c.length) : at0 T n = 0 ↔ at0 c n = s := by
  have hf := h.fit n hn
  constructor
  · intro h0
    refine Decidable.byContradiction fun h1 => ?_
    by_cases h2 : Opn c n
    · rcases hf.opn h1 h2 with h3 | ⟨j, a1, a2, a3, a4, a5, a6⟩
      · have := h3.1; omega
      · have := h.low j; omega
    · have := hf.oth h1 h2; omega
  · exact hf.own
theorem Hld.same {c : List Int} {W : Nat} {s : Int} {T U : List Int} (h : Hld c W s T) (g : Hld c W s U) : ∀ (k : Nat) (n : Nat), n < c.length → (at0 T n = k ↔ at0 U n = k) := by
  intro k
  induction k using Nat.strongRecOn with
  | _ k ih =>
    intro n hn
    cases k with
    | zero => exact (h.zero hn).trans (g.zero hn).symm
    | succ k =>
      have half : ∀ {T U : List Int}, Hld c W s T → Hld c W s U → (∀ m, m < k + 1 → ∀ n, n < c.length → (at0 T n = (m : Int) ↔ at0 U n = (m : Int))) → at0 T n = (k : Int) + 1 → at0 U n = (k : Int) + 1 := by
        intro T U h g ih h0
        obtain ⟨h1, h2, ⟨j, a1, a2, a3, a4⟩, h4⟩ := (h.step hn k).1 h0
        refine (g.step hn k).2 ⟨h1, h2, ⟨j, a1, a2, a3, (ih k (by omega) j a1).1 a4⟩, fun i b1 b2 b3 b4 => ?_⟩
        rcases Int.lt_or_le (at0 U i) k with h5 | h5
        · exfalso
          have h6 := g.low i
          have h7 := (ih (at0 U i).toNat (by omega) i b1).2 (by omega)
          have := h4 i b1 b2 b3 (by omega)
          omega
        · exact h5
      rw [show ((k + 1 : Nat) : Int) = (k : Int) + 1 by omega]
      exact ⟨half h g ih, half g h fun m hm n hn => (ih m hm n hn).symm⟩
theorem ext0 {T U : List Int} (hl : T.length = U.length) (h : ∀ n, n < T.length → at0 T n = at0 U n) : T = U := by
  apply List.ext_getElem hl
  intro n h1 h2
  have := h n h1
  unfold at0 at this
  rw [List.getD_eq_getElem?_getD, List.getD_eq_getElem?_getD, List.getElem?_eq_getElem h1, List.getElem?_eq_getElem h2] at this
  exact this
theorem Hld.eq {c : List Int} {W : Nat} {s : Int} {T U : List Int} (h : Hld c W s T) (g : Hld c W s U) : T = U := by
  refine ext0 (by rw [h.len, g.len]) fun n hn => ?_
  rw [h.len] at hn
  have h1 := h.low n
  have h2 := g.low n
  rcases Int.lt_or_le (at0 T n) 0 with h3 | h3
  · rcases Int.lt_or_le (at0 U n) 0 with h4 | h4
    · omega
    · have := (h.same g (at0 U n).toNat n hn).2 (by omega)
      omega
  · have := (h.same g (at0 T n).toNat n hn).1 (by omega)
    omega
end Riv

namespace Riv
def t0 (c : List Int) (s : Int) : List Int := c.map fun x => if x = s then 0 else -1
def putB (c : List Int) (st : Int) (T : List Int) (k : Nat) : List Int := if at0 T k = -1 ∧ Opn c k then T.set k (st + 1) else T
def cellB (c : List Int) (W : Nat) (s st : Int) (T : List Int) (n : Nat) : List Int := if at0 T n = st ∧ Thr c s n then (nbs W c.length n).foldl (putB c st) T else T
def stepB (c : List Int) (W : Nat) (s : Int) (T : List Int) (st : Nat) : List Int := (List.range c.length).foldl (cellB c W s st) T
def bfs (c : List Int) (W : Nat) (s : Int) : List Int := (List.range c.length).foldl (stepB c W s) (t0 c s)
def cnt (T : List Int) : Nat := T.countP fun x => decide (x ≠ -1)
theorem at0_set {T : List Int} {k : Nat} {v : Int} (hk : k < T.length) (j : Nat) : at0 (T.set k v) j = if j = k then v else at0 T j := by
  unfold at0
  rw [List.getD_eq_getElem?_getD, List.getD_eq_getElem?_getD]
  split
  · rename_i h; subst h
    rw [List.getElem?_set_self hk]; rfl
  · rename_i h
    rw [List.getElem?_set_ne (fun e => h e.symm)]
theorem cnt_set : ∀ {T : List Int} {k : Nat} {v : Int}, k < T.length → at0 T k = -1 → v ≠ -1 → cnt (T.set k v) = cnt T + 1
  | x :: T, 0, v, _, h, hv => by
    have h : x = -1 := h
    subst h
    simp [cnt, hv]
  | x :: T, k + 1, v, hk, h, hv => by
    have := cnt_set (T := T) (k := k) (v := v) (by simpa using hk) (by simpa [at0] using h) hv
    unfold cnt at *
    rw [List.set_cons_succ, List.countP_cons, List.countP_cons, this]
    omega
theorem cnt_le (T : List Int) : cnt T ≤ T.length := List.countP_le_length
theorem cnt_pos : ∀ {T : List Int} {n : Nat}, at0 T n ≠ -1 → 1 ≤ cnt T := by
  intro T n h
  rcases Nat.lt_or_ge n T.length with hn | hn
  · unfold cnt
    refine List.countP_pos_iff.2 ⟨T[n], List.getElem_mem hn, ?_⟩
    unfold at0 at h
    rw [List.getD_eq_getElem?_getD, List.getElem?_eq_getElem hn] at h
    simpa using h
  · exact absurd (at0_out hn) h
theorem at0_t0 {c : List Int} {s : Int} {n : Nat} (hn : n < c.length) : at0 (t0 c s) n = if at0 c n = s then 0 else -1 := by
  unfold at0 t0
  rw [List.getD_eq_getElem?_getD, List.getD_eq_getElem?_getD, List.getElem?_map, List.getElem?_eq_getElem hn]
  rfl
structure BI (c : List Int) (W : Nat) (s : Int) (st : Nat) (T : List Int) (P : Nat → Prop) : Prop where
  len : T.length = c.length
  own : ∀ n, n < c.length → at0 c n = s → at0 T n = 0
  oth : ∀ n, n < c.length → at0 c n ≠ s → ¬ Opn c n → at0 T n = -1
  rng : ∀ n, -1 ≤ at0 T n ∧ at0 T n ≤ st + 1
  got : ∀ n, n < c.length → at0 c n ≠ s → at0 T n ≠ -1 → Opn c n ∧ ∃ k, k < c.length ∧ Nb W n k ∧ Thr c s k ∧ at0 T k = at0 T n - 1 ∧ 0 ≤ at0 T k ∧ ∀ j, j < c.length → Nb W n j → Thr c s j → at0 T j ≠ -1 → at0 T k ≤ at0 T j
  non : ∀ n, n < c.length → at0 c n ≠ s → Opn c n → at0 T n = -1 → ∀ k, k < c.length → Nb W n k → Thr c s k → at0 T k = -1 ∨ (st : Int) < at0 T k ∨ (at0 T k = st ∧ ¬ P k)
  cn : ∀ n, at0 T n ≠ -1 → at0 T n + 1 ≤ cnt T
theorem putB_ok {c : List Int} {W : Nat} {s : Int} {st : Nat} {T : List Int} {P : Nat → Prop} {n k : Nat} (h : BI c W s st T P) (hn : n < c.length) (hk : k < c.length) (hT : at0 T n = st) (ht : Thr c s n) (hnb : Nb W n k) :
    BI c W s st (putB c st T k) P ∧ (Opn c k → at0 (putB c st T k) k ≠ -1) ∧ ∀ j, at0 T j ≠ -1 → at0 (putB c st T k) j = at0 T j := by
  unfold putB
  split
  · rename_i hc
    have hkl : k < T.length := by rw [h.len]; exact hk
    have hat := fun j => at0_set (v := (st : Int) + 1) hkl j
    have hks : at0 c k ≠ s := fun e => by have := h.own k hk e; omega
    have hkeep : ∀ j, at0 T j ≠ -1 → at0 (T.set k ((st : Int) + 1)) j = at0 T j := fun j hj => by
      rw [hat, if_neg]
      intro e; subst e; exact hj hc.1
    have hself := hat k
    rw [if_pos rfl] at hself
    refine ⟨⟨by rw [List.length_set]; exact h.len, fun m hm e => ?_, fun m hm e e2 => ?_, fun m => ?_, fun m hm e e2 => ?_, fun m hm e e2 e3 j hj hnj htj => ?_, fun m hm => ?_⟩, fun _ => by rw [hself]; omega, hkeep⟩
    · have := h.own m hm e
      rw [hkeep m (by omega)]; exact this
    · rw [hat, if_neg]
      · exact h.oth m hm e e2
      · intro e3; subst e3; exact e2 hc.2
    · rw [hat]
      split
      · omega
      · exact h.rng m
    · by_cases hmk : m = k
      · subst hmk
        refine ⟨hc.2, n, hn, hnb.symm, ht, ?_, ?_, fun j hj hnj htj hj1 => ?_⟩
        · rw [hself, hkeep n (by omega)]; omega
        · rw [hkeep n (by omega)]; omega
        · rw [hkeep n (by omega), hT]
          rw [hat] at hj1 ⊢
          split
          · omega
          · rename_i hjm
            rw [if_neg hjm] at hj1
            rcases h.non m hm e hc.2 hc.1 j hj hnj htj with h1 | h1 | h1 <;> omega
      · rw [hat, if_neg hmk] at e2
        obtain ⟨g1, i, g2, g3, g4, g5, g6, g7⟩ := h.got m hm e e2
        refine ⟨g1, i, g2, g3, g4, ?_, ?_, fun j hj hnj htj hj1 => ?_⟩
        · rw [hkeep i (by omega), hkeep m e2]; exact g5
        · rw [hkeep i (by omega)]; exact g6
        · rw [hkeep i (by omega)]
          by_cases hjk : j = k
          · subst hjk
            rw [hself]
            have := (h.rng m).2
            omega
          · rw [hat, if_neg hjk] at hj1 ⊢
            exact g7 j hj hnj htj hj1
    · have hmk : m ≠ k := fun e4 => by subst e4; rw [hself] at e3; omega
      rw [hat, if_neg hmk] at e3
      by_cases hjk : j = k
      · subst hjk; rw [hself]; exact .inr (.inl (by omega))
      · rw [hat, if_neg hjk]
        exact h.non m hm e e2 e3 j hj hnj htj
    · rw [cnt_set hkl hc.1 (by omega)]
      have h1 := h.cn n (by omega)
      rw [hat] at hm ⊢
      split
      · rw [hT] at h1; omega
      · rename_i hmk
        rw [if_neg hmk] at hm
        have := h.cn m hm
        omega
  · rename_i hc
    exact ⟨h, fun h1 h2 => hc ⟨h2, h1⟩, fun _ _ => rfl⟩
theorem putL_ok {c : List Int} {W : Nat} {s : Int} {st : Nat} {P : Nat → Prop} {n : Nat} (hn : n < c.length) (ht : Thr c s n) : ∀ (l : List Nat) (T : List Int), (∀ k ∈ l, k < c.length ∧ Nb W n k) → BI c W s st T P → at0 T n = st →
    BI c W s st (l.foldl (putB c st) T) P ∧ (∀ k ∈ l, Opn c k → at0 (l.foldl (putB c st) T) k ≠ -1) ∧ ∀ j, at0 T j ≠ -1 → at0 (l.foldl (putB c st) T) j = at0 T j
  | [], T, _, h, _ => ⟨h, fun k hk => (by cases hk), fun _ _ => rfl⟩
  | k :: l, T, hl, h, hT => by
    have hk := hl k List.mem_cons_self
    obtain ⟨h1, h2, h3⟩ := putB_ok h hn hk.1 hT ht hk.2
    obtain ⟨g1, g2, g3⟩ := putL_ok hn ht l (putB c st T k) (fun j hj => hl j (List.mem_cons_of_mem _ hj)) h1 (by rw [h3 n (by omega)]; exact hT)
    rw [List.foldl_cons]
    refine ⟨g1, fun j hj ho => ?_, fun j hj => ?_⟩
    · rcases List.mem_cons.1 hj with rfl | hj
      · have := h2 ho
        rw [g3 _ this]; exact this
      · exact g2 j hj ho
    · rw [g3 j (by rw [h3 j hj]; exact hj), h3 j hj]
theorem cellB_ok {c : List Int} {W H : Nat} {s : Int} {st : Nat} {T : List Int} {P : Nat → Prop} {n : Nat} (hW : 2 ≤ W) (hL : c.length = W * H) (h : BI c W s st T P) (hn : n < c.length) :
    BI c W s st (cellB c W s st T n) (fun j => P j ∨ j = n) := by
  unfold cellB
  split
  · rename_i hc
    obtain ⟨h1, h2, h3⟩ := putL_ok hn hc.2 (nbs W c.length n) T (fun k hk => (nbs_iff hW hL hn).1 hk) h hc.1
    refine ⟨h1.len, h1.own, h1.oth, h1.rng, h1.got, fun m hm e e2 e3 k hk hnk htk => ?_, h1.cn⟩
    rcases h1.non m hm e e2 e3 k hk hnk htk with h4 | h4 | h4
    · exact .inl h4
    · exact .inr (.inl h4)
    · by_cases hkn : k = n
      · subst hkn
        exact absurd e3 (h2 m ((nbs_iff hW hL hk).2 ⟨hm, hnk.symm⟩) e2)
      · exact .inr (.inr ⟨h4.1, fun h5 => by rcases h5 with h5 | h5; exact h4.2 h5; exact hkn h5⟩)
  · rename_i hc
    refine ⟨h.len, h.own, h.oth, h.rng, h.got, fun m hm e e2 e3 k hk hnk htk => ?_, h.cn⟩
    rcases h.non m hm e e2 e3 k hk hnk htk with h4 | h4 | h4
    · exact .inl h4
    · exact .inr (.inl h4)
    · refine .inr (.inr ⟨h4.1, fun h5 => ?_⟩)
      rcases h5 with h5 | h5
      · exact h4.2 h5
      · subst h5; exact hc ⟨h4.1, htk⟩
theorem cellL_ok {c : List Int} {W H : Nat} {s : Int} {st : Nat} (hW : 2 ≤ W) (hL : c.length = W * H) : ∀ (N : Nat) (T : List Int), N ≤ c.length → BI c W s st T (fun _ => False) → BI c W s st ((List.range N).foldl (cellB c W s st) T) (fun j => j < N)
  | 0, T, _, h => ⟨h.len, h.own, h.oth, h.rng, h.got, fun m hm e e2 e3 k hk hnk htk => by
      rcases h.non m hm e e2 e3 k hk hnk htk with h4 | h4 | h4
      · exact .inl h4
      · exact .inr (.inl h4)
      · exact .inr (.inr ⟨h4.1, fun h5 => by omega⟩), h.cn⟩
  | N + 1, T, hN, h => by
    have h1 := cellL_ok hW hL N T (by omega) h
    rw [List.range_succ, List.foldl_append]
    have h2 := cellB_ok hW hL h1 (n := N) (by omega)
    refine ⟨h2.len, h2.own, h2.oth, h2.rng, h2.got, fun m hm e e2 e3 k hk hnk htk => ?_, h2.cn⟩
    rcases h2.non m hm e e2 e3 k hk hnk htk with h4 | h4 | h4
    · exact .inl h4
    · exact .inr (.inl h4)
    · exact .inr (.inr ⟨h4.1, fun h5 => h4.2 (by omega)⟩)
theorem stepB_ok {c : List Int} {W H : Nat} {s : Int} {st : Nat} {T : List Int} (hW : 2 ≤ W) (hL : c.length = W * H) (h : BI c W s st T (fun _ => False)) : BI c W s (st + 1) (stepB c W s T st) (fun _ => False) := by
  have h1 := cellL_ok hW hL c.length T (Nat.le_refl _) h
  unfold stepB
  refine ⟨h1.len, h1.own, h1.oth, fun n => by have := h1.rng n; omega, h1.got, fun m hm e e2 e3 k hk hnk htk => ?_, h1.cn⟩
  rcases h1.non m hm e e2 e3 k hk hnk htk with h4 | h4 | h4
  · exact .inl h4
  · rcases Int.lt_or_le ((st + 1 : Nat) : Int) (at0 ((List.range c.length).foldl (cellB c W s st) T) k) with h5 | h5
    · exact .inr (.inl h5)
    · exact .inr (.inr ⟨by omega, fun h => h⟩)
  · exact absurd hk h4.2
theorem bi0 {c : List Int} {W : Nat} {s : Int} : BI c W s 0 (t0 c s) (fun _ => False) := by
  have hl : (t0 c s).length = c.length := by unfold t0; rw [List.length_map]
  have hat : ∀ n, at0 (t0 c s) n = 0 ∨ at0 (t0 c s) n = -1 := fun n => by
    rcases Nat.lt_or_ge n c.length with hn | hn
    · rw [at0_t0 hn]; split <;> simp
    · exact .inr (at0_out (by rw [hl]; exact hn))
  refine ⟨hl, fun n hn e => by rw [at0_t0 hn, if_pos e], fun n hn e _ => by rw [at0_t0 hn, if_neg e], fun n => by have := hat n; omega, fun n hn e e2 => ?_, fun n hn e e2 e3 k hk hnk htk => ?_, fun n hn => ?_⟩
  · rw [at0_t0 hn, if_neg e] at e2; exact absurd rfl e2
  · rcases hat k with h1 | h1
    · exact .inr (.inr ⟨h1, fun h => h⟩)
    · exact .inl h1
  · have h1 := cnt_pos hn
    rcases hat n with h2 | h2
    · rw [h2]; omega
    · exact absurd h2 hn
theorem stepL_ok {c : List Int} {W H : Nat} {s : Int} (hW : 2 ≤ W) (hL : c.length = W * H) : ∀ N : Nat, BI c W s N ((List.range N).foldl (stepB c W s) (t0 c s)) (fun _ => False)
  | 0 => bi0
  | N + 1 => by
    rw [List.range_succ, List.foldl_append]
    exact stepB_ok hW hL (stepL_ok hW hL N)
theorem bfs_hld {c : List Int} {W H : Nat} {s : Int} (hW : 2 ≤ W) (hL : c.length = W * H) : Hld c W s (bfs c W s) := by
  have h := stepL_ok (s := s) hW hL c.length
  have hb : ∀ n, at0 ((List.range c.length).foldl (stepB c W s) (t0 c s)) n ≠ -1 → at0 ((List.range c.length).foldl (stepB c W s) (t0 c s)) n < c.length := fun n hn => by
    have h1 := h.cn n hn
    have h2 := cnt_le ((List.range c.length).foldl (stepB c W s) (t0 c s))
    rw [h.len] at h2
    omega
  refine ⟨h.len, fun n hn => ⟨fun e => h.own n hn e, fun e e2 => ?_, fun e e2 => h.oth n hn e e2⟩⟩
  unfold bfs
  by_cases h0 : at0 ((List.range c.length).foldl (stepB c W s) (t0 c s)) n = -1
  · refine .inl ⟨h0, fun k hk hnk htk => ?_⟩
    rcases h.non n hn e e2 h0 k hk hnk htk with h4 | h4 | h4
    · exact h4
    · refine Decidable.byContradiction fun h5 => ?_
      have := hb k h5
      omega
    · refine Decidable.byContradiction fun h5 => ?_
      have := hb k h5
      omega
  · obtain ⟨_, k, g1, g2, g3, g4, g5, g6⟩ := h.got n hn e h0
    exact .inr ⟨k, g1, g2, g3, by omega, by omega, g6⟩
theorem bfs_lt {c : List Int} {W H : Nat} {s : Int} (hW : 2 ≤ W) (hL : c.length = W * H) (n : Nat) : at0 (bfs c W s) n < c.length ∨ at0 (bfs c W s) n = -1 := by
  have h := stepL_ok (s := s) hW hL c.length
  by_cases h0 : at0 (bfs c W s) n = -1
  · exact .inr h0
  · have h1 := h.cn n h0
    have h2 := cnt_le ((List.range c.length).foldl (stepB c W s) (t0 c s))
    rw [h.len] at h2
    left
    unfold bfs at *
    omega
end Riv

namespace Riv
abbrev TB := List Int × Bool
structure RI (c : List Int) (W : Nat) (s : Int) (T : List Int) : Prop where
  len : T.length = c.length
  own : ∀ n, n < c.length → at0 c n = s → at0 T n = 0
  low : ∀ n, -1 ≤ at0 T n
  got : ∀ n, n < c.length → at0 c n ≠ s → at0 T n ≠ -1 → Opn c n ∧ ∃ k, k < c.length ∧ Nb W n k ∧ Thr c s k ∧ at0 T k ≠ -1 ∧ at0 T k + 1 ≤ at0 T n
  cn : ∀ n, at0 T n ≠ -1 → at0 T n + 1 ≤ cnt T
def wgt : List Int → Nat
  | [] => 0
  | x :: T => (if x = -1 then 200 else x.toNat) + wgt T
theorem wgt_set : ∀ {T : List Int} {k : Nat} {v : Int}, k < T.length → 0 ≤ v → v < 200 → (at0 T k = -1 ∨ v < at0 T k) → wgt (T.set k v) < wgt T
  | x :: T, 0, v, _, h0, h1, h => by
    have h : x = -1 ∨ v < x := h
    rw [List.set_cons_zero, wgt, wgt, if_neg (by omega)]
    rcases h with h | h
    · rw [if_pos h]; omega
    · rw [if_neg (by omega)]; omega
  | x :: T, k + 1, v, hk, h0, h1, h => by
    have := wgt_set (T := T) (k := k) (by simpa using hk) h0 h1 (by simpa [at0] using h)
    rw [List.set_cons_succ, wgt, wgt]; omega
theorem wgt_le : ∀ {T : List Int}, (∀ n, at0 T n ≤ 200) → wgt T ≤ 200 * T.length
  | [], _ => by simp [wgt]
  | x :: T, h => by
    have h1 := wgt_le (T := T) fun n => by have := h (n + 1); simpa [at0] using this
    have h2 : x ≤ 200 := h 0
    rw [wgt, List.length_cons]
    split <;> omega
structure RJ (c : List Int) (W : Nat) (s : Int) (R T : List Int) (ch : Bool) (P : Nat → Nat → Prop) : Prop where
  ri : RI c W s T
  no : ch = false → T = R ∧ ∀ a b, a < c.length → b < c.length → P a b → at0 R a ≠ -1 → at0 c a ≠ 3 → Nb W a b → Opn c b → at0 R b ≠ -1 ∧ at0 R b ≤ at0 R a + 1
  yes : ch = true → wgt T < wgt R
theorem RJ.mono {c : List Int} {W : Nat} {s : Int} {R T : List Int} {ch : Bool} {P Q : Nat → Nat → Prop} (h : RJ c W s R T ch P) (hq : ∀ a b, a < c.length → b < c.length → Q a b → (at0 R a ≠ -1 → at0 c a ≠ 3 → P a b)) : RJ c W s R T ch Q :=
  ⟨h.ri, fun e => ⟨(h.no e).1, fun a b h1 h2 h3 h4 h5 => (h.no e).2 a b h1 h2 (hq a b h1 h2 h3 h4 h5) h4 h5⟩, h.yes⟩
end Riv

namespace Riv
def ls1 (o n : Int) : Int := if n ≠ -1 ∧ (o = -1 ∨ n < o) then n else o
def leastL (l : List Int) : Int := l.foldl ls1 (-1)
theorem leastL_go : ∀ (l : List Int) (o : Int), (l.foldl ls1 o = -1 ∧ o = -1 ∧ ∀ x ∈ l, x = -1) ∨ (l.foldl ls1 o ≠ -1 ∧ (l.foldl ls1 o = o ∨ l.foldl ls1 o ∈ l) ∧ (o ≠ -1 → l.foldl ls1 o ≤ o) ∧ ∀ x ∈ l, x ≠ -1 → l.foldl ls1 o ≤ x)
  | [], o => by
    by_cases h : o = -1
    · exact .inl ⟨h, h, fun x hx => (by cases hx)⟩
    · exact .inr ⟨h, .inl rfl, fun _ => Int.le_refl _, fun x hx => (by cases hx)⟩
  | n :: l, o => by
    rw [List.foldl_cons]
    have h := leastL_go l (ls1 o n)
    generalize hq : ls1 o n = q at h ⊢
    unfold ls1 at hq
    generalize l.foldl ls1 q = f at h ⊢
    subst hq
    split at h
    · rename_i hc
      rcases h with ⟨h1, h2, h3⟩ | ⟨h1, h2, h3, h4⟩
      · exact absurd h2 hc.1
      · refine .inr ⟨h1, .inr ?_, fun h5 => ?_, fun x hx h5 => ?_⟩
        · rcases h2 with h2 | h2
          · rw [h2]; exact List.mem_cons_self
          · exact List.mem_cons_of_mem _ h2
        · have := h3 hc.1; omega
        · rcases List.mem_cons.1 hx with rfl | hx
          · exact h3 h5
          · exact h4 x hx h5
    · rename_i hc
      rcases h with ⟨h1, h2, h3⟩ | ⟨h1, h2, h3, h4⟩
      · refine .inl ⟨h1, h2, fun x hx => ?_⟩
        rcases List.mem_cons.1 hx with rfl | hx
        · exact Decidable.byContradiction fun h5 => hc ⟨h5, .inl h2⟩
        · exact h3 x hx
      · refine .inr ⟨h1, ?_, h3, fun x hx h5 => ?_⟩
        · rcases h2 with h2 | h2
          · exact .inl h2
          · exact .inr (List.mem_cons_of_mem _ h2)
        · rcases List.mem_cons.1 hx with rfl | hx
          · by_cases ho : o = -1
            · exact absurd ⟨h5, .inl ho⟩ hc
            · have := h3 ho
              have : ¬ x < o := fun e => hc ⟨h5, .inr e⟩
              omega
          · exact h4 x hx h5
theorem leastL_none {l : List Int} : leastL l = -1 ↔ ∀ x ∈ l, x = -1 := by
  rcases leastL_go l (-1) with ⟨h1, _, h3⟩ | ⟨h1, h2, _, h4⟩
  · exact ⟨fun _ => h3, fun _ => h1⟩
  · refine ⟨fun h => absurd h h1, fun h => ?_⟩
    rcases h2 with h2 | h2
    · exact h2
    · exact h _ h2
theorem leastL_some {l : List Int} (h : leastL l ≠ -1) : leastL l ∈ l ∧ ∀ x ∈ l, x ≠ -1 → leastL l ≤ x := by
  rcases leastL_go l (-1) with ⟨h1, _, h3⟩ | ⟨h1, h2, _, h4⟩
  · exact absurd h1 h
  · refine ⟨?_, h4⟩
    rcases h2 with h2 | h2
    · exact absurd h2 h1
    · exact h2
def want (c : List Int) (W : Nat) (s : Int) (T : List Int) (n : Nat) : Int :=
  if at0 c n = s then 0 else if Opn c n then (if leastL (((nbs W c.length n).filter fun k => decide (Thr c s k)).map (at0 T)) = -1 then -1 else leastL (((nbs W c.length n).filter fun k => decide (Thr c s k)).map (at0 T)) + 1) else -1
theorem fit_iff {c : List Int} {W H : Nat} {s : Int} {T : List Int} {n : Nat} (hW : 2 ≤ W) (hL : c.length = W * H) (hn : n < c.length) : Fit c W s T n ↔ at0 T n = want c W s T n := by
  have hmem : ∀ x, x ∈ (((nbs W c.length n).filter fun k => decide (Thr c s k)).map (at0 T)) ↔ ∃ k, k < c.length ∧ Nb W n k ∧ Thr c s k ∧ at0 T k = x := fun x => by
    simp only [List.mem_map, List.mem_filter, decide_eq_true_eq, nbs_iff hW hL hn]
    constructor
    · rintro ⟨k, ⟨⟨h1, h2⟩, h3⟩, h4⟩; exact ⟨k, h1, h2, h3, h4⟩
    · rintro ⟨k, h1, h2, h3, h4⟩; exact ⟨k, ⟨⟨h1, h2⟩, h3⟩, h4⟩
  unfold want
  generalize (((nbs W c.length n).filter fun k => decide (Thr c s k)).map (at0 T)) = l at hmem
  by_cases e : at0 c n = s
  · rw [if_pos e]
    exact ⟨fun h => h.own e, fun h => ⟨fun _ => h, fun e2 => absurd e e2, fun e2 => absurd e e2⟩⟩
  · rw [if_neg e]
    by_cases e2 : Opn c n
    · rw [if_pos e2]
      by_cases e3 : leastL l = -1
      · rw [if_pos e3]
        have h3 := leastL_none.1 e3
        constructor
        · intro h
          rcases h.opn e e2 with h1 | ⟨k, a1, a2, a3, a4, _⟩
          · exact h1.1
          · exact absurd (h3 _ ((hmem _).2 ⟨k, a1, a2, a3, rfl⟩)) a4
        · intro h
          exact ⟨fun e4 => absurd e4 e, fun _ _ => .inl ⟨h, fun k a1 a2 a3 => h3 _ ((hmem _).2 ⟨k, a1, a2, a3, rfl⟩)⟩, fun _ e4 => absurd e2 e4⟩
      · rw [if_neg e3]
        obtain ⟨g1, g2⟩ := leastL_some e3
        obtain ⟨k, a1, a2, a3, a4⟩ := (hmem _).1 g1
        constructor
        · intro h
          rcases h.opn e e2 with h1 | ⟨j, b1, b2, b3, b4, b5, b6⟩
          · have := h1.2 k a1 a2 a3
            rw [a4] at this; exact absurd this e3
          · have h4 := g2 _ ((hmem _).2 ⟨j, b1, b2, b3, rfl⟩) b4
            have h5 := b6 k a1 a2 a3 (by rw [a4]; exact e3)
            omega
        · intro h
          exact ⟨fun e4 => absurd e4 e, fun _ _ => .inr ⟨k, a1, a2, a3, by rw [a4]; exact e3, by rw [a4]; exact h, fun j b1 b2 b3 b4 => by rw [a4]; exact g2 _ ((hmem _).2 ⟨j, b1, b2, b3, rfl⟩) b4⟩, fun _ e4 => absurd e2 e4⟩
    · rw [if_neg e2]
      exact ⟨fun h => h.oth e e2, fun h => ⟨fun e4 => absurd e4 e, fun _ e4 => absurd e4 e2, fun _ _ => h⟩⟩
def hldB (c : List Int) (W : Nat) (s : Int) (T : List Int) : Bool := (List.range c.length).all fun n => decide (at0 T n = want c W s T n)
theorem hldB_iff {c : List Int} {W H : Nat} {s : Int} {T : List Int} (hW : 2 ≤ W) (hL : c.length = W * H) (hl : T.length = c.length) : hldB c W s T = true ↔ T = bfs c W s := by
  unfold hldB
  simp only [List.all_eq_true, List.mem_range, decide_eq_true_eq]
  constructor
  · intro h
    exact Hld.eq ⟨hl, fun n hn => (fit_iff hW hL hn).2 (h n hn)⟩ (bfs_hld hW hL)
  · intro h n hn
    subst h
    exact (fit_iff hW hL hn).1 ((bfs_hld hW hL).fit n hn)
end Riv

namespace Riv
def prevW (c : List Int) (W : Nat) (s : Int) (T : List Int) (n : Nat) : Nat := (nbs W c.length n).foldl (fun o k => if at0 T k = at0 T n - 1 ∧ Thr c s k then k else o) n
def wback (c : List Int) (W : Nat) (s : Int) (T : List Int) : Nat → Nat → List Nat
  | 0, _ => []
  | N + 1, n => if 0 < at0 T n then prevW c W s T n :: wback c W s T N (prevW c W s T n) else []
theorem prev_go {P : Nat → Prop} [DecidablePred P] : ∀ (l : List Nat) (o : Nat), (l.foldl (fun o k => if P k then k else o) o = o ∧ ∀ k ∈ l, ¬ P k) ∨ (l.foldl (fun o k => if P k then k else o) o ∈ l ∧ P (l.foldl (fun o k => if P k then k else o) o))
  | [], o => .inl ⟨rfl, fun k hk => (by cases hk)⟩
  | k :: l, o => by
    rw [List.foldl_cons]
    split
    · rename_i hk
      rcases prev_go (P := P) l k with h | h
      · rw [h.1]; exact .inr ⟨List.mem_cons_self, hk⟩
      · exact .inr ⟨List.mem_cons_of_mem _ h.1, h.2⟩
    · rename_i hk
      rcases prev_go (P := P) l o with h | h
      · refine .inl ⟨h.1, fun j hj => ?_⟩
        rcases List.mem_cons.1 hj with rfl | hj
        · exact hk
        · exact h.2 j hj
      · exact .inr ⟨List.mem_cons_of_mem _ h.1, h.2⟩
theorem prev_ok {c : List Int} {W H : Nat} {s : Int} {T : List Int} {n : Nat} (hW : 2 ≤ W) (hL : c.length = W * H) (h : Hld c W s T) (hn : n < c.length) (h0 : 0 < at0 T n) :
    prevW c W s T n < c.length ∧ Nb W n (prevW c W s T n) ∧ Thr c s (prevW c W s T n) ∧ at0 T (prevW c W s T n) = at0 T n - 1 := by
  have h1 := (h.step hn (at0 T n - 1).toNat).1 (by omega)
  obtain ⟨_, _, ⟨k, a1, a2, a3, a4⟩, _⟩ := h1
  unfold prevW
  rcases prev_go (P := fun k => at0 T k = at0 T n - 1 ∧ Thr c s k) (nbs W c.length n) n with h2 | h2
  · exact absurd ⟨by omega, a3⟩ (h2.2 k ((nbs_iff hW hL hn).2 ⟨a1, a2⟩))
  · have h3 := (nbs_iff hW hL hn).1 h2.1
    exact ⟨h3.1, h3.2, h2.2.2, h2.2.1⟩
end Riv

namespace Riv
def bat (m : List Bool) (n : Nat) : Bool := m.getD n false
inductive Con (mk : List Bool) (W : Nat) : Nat → Nat → Prop
  | refl {n : Nat} : bat mk n = true → Con mk W n n
  | step {a b c : Nat} : Con mk W a b → Nb W b c → bat mk c = true → Con mk W a c
theorem bat_lt {m : List Bool} {n : Nat} (h : bat m n = true) : n < m.length := by
  rcases Nat.lt_or_ge n m.length with h1 | h1
  · exact h1
  · unfold bat at h
    rw [List.getD_eq_getElem?_getD, List.getElem?_eq_none h1] at h
    simp at h
theorem Con.mk {m : List Bool} {W a b : Nat} (h : Con m W a b) : bat m a = true ∧ bat m b = true := by
  induction h with
  | refl h => exact ⟨h, h⟩
  | step _ _ h ih => exact ⟨ih.1, h⟩
theorem Con.trans {m : List Bool} {W a b c : Nat} (h : Con m W a b) (g : Con m W b c) : Con m W a c := by
  induction g with
  | refl _ => exact h
  | step _ h1 h2 ih => exact Con.step ih h1 h2
theorem Con.symm {m : List Bool} {W a b : Nat} (h : Con m W a b) : Con m W b a := by
  induction h with
  | refl h => exact Con.refl h
  | step h1 h2 h3 ih => exact ((Con.refl h3).step h2.symm (h1.mk).2).trans ih
theorem rise_eq : ∀ {a b : List Nat}, a.Pairwise (· < ·) → b.Pairwise (· < ·) → (∀ x, x ∈ a ↔ x ∈ b) → a = b
  | [], [], _, _, _ => rfl
  | [], y :: b, _, _, h => by have := (h y).2 List.mem_cons_self; cases this
  | x :: a, [], _, _, h => by have := (h x).1 List.mem_cons_self; cases this
  | x :: a, y :: b, ha, hb, h => by
    rw [List.pairwise_cons] at ha hb
    have e : x = y := by
      have h1 := (h x).1 List.mem_cons_self
      have h2 := (h y).2 List.mem_cons_self
      rcases List.mem_cons.1 h1 with h1 | h1
      · exact h1
      · rcases List.mem_cons.1 h2 with h2 | h2
        · exact h2.symm
        · have := hb.1 x h1; have := ha.1 y h2; omega
    subst e
    rw [rise_eq ha.2 hb.2 fun z => ?_]
    constructor
    · intro hz
      rcases List.mem_cons.1 ((h z).1 (List.mem_cons_of_mem _ hz)) with e | e
      · have := ha.1 z hz; omega
      · exact e
    · intro hz
      rcases List.mem_cons.1 ((h z).2 (List.mem_cons_of_mem _ hz)) with e | e
      · have := hb.1 z hz; omega
      · exact e
theorem nodup_len : ∀ (n : Nat) (l : List Nat), l.Nodup → (∀ x ∈ l, x < n) → l.length ≤ n
  | 0, l, _, h => by
    cases l with
    | nil => simp
    | cons x l => have := h x List.mem_cons_self; omega
  | n + 1, l, hd, h => by
    have h1 : (l.filter fun x => decide (x ≠ n)).length ≤ n := nodup_len n _ (hd.filter _) fun x hx => by
      rw [List.mem_filter] at hx
      have := h x hx.1
      have h3 : x ≠ n := by simpa using hx.2
      omega
    have h2 : l.length ≤ (l.filter fun x => decide (x ≠ n)).length + 1 := by
      clear h1 h
      induction l with
      | nil => simp
      | cons x l ih =>
        rw [List.nodup_cons] at hd
        by_cases hx : x = n
        · subst hx
          have : l.filter (fun y => decide (y ≠ x)) = l := List.filter_eq_self.2 fun y hy => by
            have : y ≠ x := fun e => hd.1 (e ▸ hy)
            simpa using this
          rw [List.filter_cons_of_neg (by simp), this]
          simp
        · rw [List.filter_cons_of_pos (by simpa using hx)]
          have := ih hd.2
          simp only [List.length_cons]; omega
    omega
def folL (mk : List Bool) (rec : Nat → List Nat → List Nat) : List Nat → List Nat → List Nat
  | [], M => M
  | k :: ks, M => if k ∉ M ∧ bat mk k = true then folL mk rec ks (rec k M) else folL mk rec ks M
def folW (mk : List Bool) (W : Nat) : Nat → Nat → List Nat → List Nat
  | 0, _, M => M
  | N + 1, n, M => folL mk (folW mk W N) (nbs W mk.length n) (M ++ [n])
structure FO (mk : List Bool) (W n : Nat) (M R : List Nat) : Prop where
  pre : M <+: R
  nd : R.Nodup
  own : n ∈ R
  mrk : ∀ x ∈ R, x ∉ M → bat mk x = true ∧ Con mk W n x
  clo : ∀ x ∈ R, x ∉ M → ∀ k, Nb W x k → bat mk k = true → k ∈ R
structure FL (mk : List Bool) (W n : Nat) (M0 M ks R : List Nat) : Prop where
  pre : M <+: R
  nd : R.Nodup
  mrk : ∀ x ∈ R, x ∉ M → bat mk x = true ∧ Con mk W n x
  clo : ∀ x ∈ R, x ∉ M → ∀ k, Nb W x k → bat mk k = true → k ∈ R
  kin : ∀ k ∈ ks, bat mk k = true → k ∈ R
theorem folL_ok {mk : List Bool} {W H n N : Nat} (hW : 2 ≤ W) (hL : mk.length = W * H) (hm : bat mk n = true) {rec : Nat → List Nat → List Nat}
    (hr : ∀ k M, bat mk k = true → k ∉ M → M.Nodup → (∀ x ∈ M, x < mk.length) → mk.length ≤ N + M.length → FO mk W k M (rec k M)) {M0 : List Nat} :
    ∀ (ks M : List Nat), (∀ k ∈ ks, k < mk.length ∧ Nb W n k) → M.Nodup → (∀ x ∈ M, x < mk.length) → mk.length ≤ N + M.length → FL mk W n M0 M ks (folL mk rec ks M)
  | [], M, _, hd, _, _ => ⟨List.prefix_refl _, hd, fun x h1 h2 => absurd h1 h2, fun x h1 h2 => absurd h1 h2, fun k hk => (by cases hk)⟩
  | k :: ks, M, hk, hd, hx, hN => by
    rw [folL]
    have hk1 := hk k List.mem_cons_self
    split
    · rename_i hc
      have h1 := hr k M hc.2 hc.1 hd hx hN
      have hcon : Con mk W n k := (Con.refl hm).step hk1.2 hc.2
      have hx1 : ∀ x ∈ rec k M, x < mk.length := fun x h2 => by
        by_cases h3 : x ∈ M
        · exact hx x h3
        · exact bat_lt (h1.mrk x h2 h3).1
      have hlen : M.length ≤ (rec k M).length := h1.pre.length_le
      have h2 := folL_ok (N := N) (M0 := M0) hW hL hm hr ks (rec k M) (fun j hj => hk j (List.mem_cons_of_mem _ hj)) h1.nd hx1 (by omega)
      refine ⟨h1.pre.trans h2.pre, h2.nd, fun x a1 a2 => ?_, fun x a1 a2 j a3 a4 => ?_, fun j hj a1 => ?_⟩
      · by_cases h3 : x ∈ rec k M
        · have h4 := h1.mrk x h3 a2
          exact ⟨h4.1, hcon.trans h4.2⟩
        · exact h2.mrk x a1 h3
      · by_cases h3 : x ∈ rec k M
        · exact h2.pre.subset (h1.clo x h3 a2 j a3 a4)
        · exact h2.clo x a1 h3 j a3 a4
      · rcases List.mem_cons.1 hj with rfl | hj
        · exact h2.pre.subset h1.own
        · exact h2.kin j hj a1
    · rename_i hc
      have h2 := folL_ok (N := N) (M0 := M0) hW hL hm hr ks M (fun j hj => hk j (List.mem_cons_of_mem _ hj)) hd hx hN
      refine ⟨h2.pre, h2.nd, h2.mrk, h2.clo, fun j hj a1 => ?_⟩
      rcases List.mem_cons.1 hj with rfl | hj
      · exact h2.pre.subset (Decidable.byContradiction fun h3 => hc ⟨h3, a1⟩)
      · exact h2.kin j hj a1
theorem folW_ok {mk : List Bool} {W H : Nat} (hW : 2 ≤ W) (hL : mk.length = W * H) : ∀ (N n : Nat) (M : List Nat), bat mk n = true → n ∉ M → M.Nodup → (∀ x ∈ M, x < mk.length) → mk.length ≤ N + M.length → FO mk W n M (folW mk W N n M)
  | 0, n, M, h1, h2, h3, h4, h5 => by
    exfalso
    have h6 : (M ++ [n]).Nodup := by
      rw [List.nodup_append]
      exact ⟨h3, by simp, fun a ha b hb => by simp at hb; subst hb; intro e; subst e; exact h2 ha⟩
    have h7 := nodup_len mk.length (M ++ [n]) h6 fun x hx => by
      rcases List.mem_append.1 hx with hx | hx
      · exact h4 x hx
      · simp at hx; subst hx; exact bat_lt h1
    rw [List.length_append] at h7
    simp at h7; omega
  | N + 1, n, M, h1, h2, h3, h4, h5 => by
    have h6 : (M ++ [n]).Nodup := by
      rw [List.nodup_append]
      exact ⟨h3, by simp, fun a ha b hb => by simp at hb; subst hb; intro e; subst e; exact h2 ha⟩
    have h7 : ∀ x ∈ M ++ [n], x < mk.length := fun x hx => by
      rcases List.mem_append.1 hx with hx | hx
      · exact h4 x hx
      · simp at hx; subst hx; exact bat_lt h1
    have hn := bat_lt h1
    rw [folW]
    have h := folL_ok (N := N) (M0 := M ++ [n]) hW hL h1 (folW_ok hW hL N) (nbs W mk.length n) (M ++ [n]) (fun k hk => (nbs_iff hW hL hn).1 hk) h6 h7 (by rw [List.length_append]; simp; omega)
    have hnin : n ∈ folL mk (folW mk W N) (nbs W mk.length n) (M ++ [n]) := h.pre.subset (by simp)
    refine ⟨(List.prefix_append _ _).trans h.pre, h.nd, hnin, fun x a1 a2 => ?_, fun x a1 a2 k a3 a4 => ?_⟩
    · by_cases hx : x = n
      · subst hx; exact ⟨h1, Con.refl h1⟩
      · exact h.mrk x a1 (by simp [a2, hx])
    · by_cases hx : x = n
      · subst hx
        exact h.kin k ((nbs_iff hW hL hn).2 ⟨bat_lt a4, a3⟩) a4
      · exact h.clo x a1 (by simp [a2, hx]) k a3 a4
def srtN (l : List Nat) : List Nat := l.mergeSort fun x y => decide (x ≤ y)
theorem srtN_mem {l : List Nat} {x : Nat} : x ∈ srtN l ↔ x ∈ l := List.mem_mergeSort
theorem srtN_rise {l : List Nat} (h : l.Nodup) : (srtN l).Pairwise (· < ·) := by
  have h1 := List.pairwise_mergeSort (le := fun x y : Nat => decide (x ≤ y)) (by intro a b c h1 h2; simp only [decide_eq_true_eq] at *; omega) (by intro a b; simp only [Bool.or_eq_true, decide_eq_true_eq]; omega) l
  have h2 : (srtN l).Nodup := (List.mergeSort_perm l _).nodup_iff.2 h
  unfold srtN at *
  exact (h1.and h2).imp fun h => by
    have := h.1; have := h.2
    simp only [decide_eq_true_eq] at *; omega
def pstep (mk : List Bool) (W : Nat) (x : List Nat × List (List Nat)) (n : Nat) : List Nat × List (List Nat) :=
  if n ∉ x.1 ∧ bat mk n = true then (folW mk W mk.length n x.1, x.2 ++ [srtN ((folW mk W mk.length n x.1).drop x.1.length)]) else x
def parts (mk : List Bool) (W : Nat) : List (List Nat) := ((List.range mk.length).foldl (pstep mk W) ([], [])).2
structure Nam (mk : List Bool) (W : Nat) (nm : Nat → Int) : Prop where
  non : ∀ k, bat mk k = false → nm k = -1
  con : ∀ k, bat mk k = true → ∃ y : Nat, nm k = y ∧ Con mk W y k ∧ ∀ z, Con mk W z k → y ≤ z
def canon (L : Nat) (nm : Nat → Int) (N : Nat) : List (List Nat) := ((List.range N).filter fun i : Nat => decide (nm i = (i : Int))).map fun i : Nat => (List.range L).filter fun k => decide (nm k = (i : Int))
structure PI (mk : List Bool) (W : Nat) (nm : Nat → Int) (N : Nat) (x : List Nat × List (List Nat)) : Prop where
  nd : x.1.Nodup
  met : ∀ k, k ∈ x.1 ↔ ∃ y, y < N ∧ Con mk W y k
  out : x.2 = canon mk.length nm N
theorem pstep_ok {mk : List Bool} {W H N : Nat} {nm : Nat → Int} {x : List Nat × List (List Nat)} (hW : 2 ≤ W) (hL : mk.length = W * H) (hm : Nam mk W nm) (h : PI mk W nm N x) (hN : N < mk.length) : PI mk W nm (N + 1) (pstep mk W x N) := by
  obtain ⟨M, out⟩ := x
  have hnd := h.nd
  have hmet := h.met
  have hout := h.out
  dsimp only at hnd hmet hout
  unfold pstep
  dsimp only
  have hMlt : ∀ k ∈ M, k < mk.length := fun k hk => by
    obtain ⟨y, _, h2⟩ := (hmet k).1 hk
    exact bat_lt h2.mk.2
  have hcan : canon mk.length nm (N + 1) = canon mk.length nm N ++ (if nm N = N then [(List.range mk.length).filter fun k => decide (nm k = N)] else []) := by
    unfold canon
    rw [List.range_succ, List.filter_append, List.map_append]
    congr 1
    by_cases e : nm N = (N : Int)
    · rw [if_pos e]; simp [e]
    · rw [if_neg e]; simp [e]
  split
  · rename_i hc
    have hf := folW_ok hW hL mk.length N M hc.2 hc.1 hnd hMlt (by omega)
    generalize folW mk W mk.length N M = R at hf
    obtain ⟨new, rfl⟩ := hf.pre
    have hfirst : ∀ z, Con mk W z N → N ≤ z := fun z hz => by
      rcases Nat.lt_or_ge z N with h1 | h1
      · exact absurd ((hmet N).2 ⟨z, h1, hz⟩) hc.1
      · exact h1
    have hnmN : nm N = N := by
      obtain ⟨y, h1, h2, h3⟩ := hm.con N hc.2
      have := h3 N (Con.refl hc.2)
      have := hfirst y h2
      omega
    have hnd2 := hf.nd
    rw [List.nodup_append] at hnd2
    have hnew : ∀ k, k ∈ new ↔ Con mk W N k := fun k => by
      constructor
      · intro hk
        have h1 : k ∉ M := fun h2 => hnd2.2.2 k h2 k hk rfl
        exact (hf.mrk k (List.mem_append_right _ hk) h1).2
      · intro hk
        have h1 : ∀ j, Con mk W N j → j ∉ M := fun j hj h2 => by
          obtain ⟨y, h3, h4⟩ := (hmet j).1 h2
          exact hc.1 ((hmet N).2 ⟨y, h3, h4.trans hj.symm⟩)
        have h2 : k ∈ M ++ new := by
          induction hk with
          | refl _ => exact hf.own
          | step g1 g2 g3 ih => exact hf.clo _ (ih) (h1 _ g1) _ g2 g3
        rcases List.mem_append.1 h2 with h3 | h3
        · exact absurd h3 (h1 k hk)
        · exact h3
    refine ⟨hf.nd, fun k => ?_, ?_⟩
    · rw [List.mem_append, hmet, hnew]
      constructor
      · rintro (⟨y, h1, h2⟩ | h1)
        · exact ⟨y, by omega, h2⟩
        · exact ⟨N, by omega, h1⟩
      · rintro ⟨y, h1, h2⟩
        rcases Nat.lt_or_ge y N with h3 | h3
        · exact .inl ⟨y, h3, h2⟩
        · have : y = N := by omega
          subst this; exact .inr h2
    · rw [hcan, if_pos hnmN, hout]
      dsimp only
      rw [List.drop_left]
      congr 1
      congr 1
      refine rise_eq (srtN_rise hnd2.2.1) (List.Pairwise.filter _ List.pairwise_lt_range) fun k => ?_
      rw [srtN_mem, hnew, List.mem_filter, List.mem_range, decide_eq_true_eq]
      constructor
      · intro hk
        refine ⟨bat_lt hk.mk.2, ?_⟩
        obtain ⟨y, h1, h2, h3⟩ := hm.con k hk.mk.2
        have := h3 N hk
        have := hfirst y (h2.trans hk.symm)
        omega
      · rintro ⟨h1, h2⟩
        have hb : bat mk k = true := by
          cases hb : bat mk k with
          | true => rfl
          | false => have := hm.non k hb; omega
        obtain ⟨y, h3, h4, _⟩ := hm.con k hb
        have : y = N := by omega
        subst this; exact h4
  · rename_i hc
    have hno : ∀ k, Con mk W N k → k ∈ M := fun k hk => by
      have h1 : N ∈ M := Decidable.byContradiction fun h2 => hc ⟨h2, hk.mk.1⟩
      obtain ⟨y, h3, h4⟩ := (hmet N).1 h1
      exact (hmet k).2 ⟨y, h3, h4.trans hk⟩
    have hnmN : nm N ≠ N := fun e => by
      have hb : bat mk N = true := by
        cases hb : bat mk N with
        | true => rfl
        | false => have := hm.non N hb; omega
      obtain ⟨y, h1, h2, h3⟩ := hm.con N hb
      obtain ⟨z, h4, h5⟩ := (hmet N).1 (hno N (Con.refl hb))
      have := h3 z h5
      omega
    refine ⟨hnd, fun k => ?_, ?_⟩
    · dsimp only
      rw [hmet]
      constructor
      · rintro ⟨y, h1, h2⟩; exact ⟨y, by omega, h2⟩
      · rintro ⟨y, h1, h2⟩
        rcases Nat.lt_or_ge y N with h3 | h3
        · exact ⟨y, h3, h2⟩
        · have : y = N := by omega
          subst this; exact (hmet k).1 (hno k h2)
    · dsimp only
      rw [hcan, if_neg hnmN, List.append_nil, hout]
theorem parts_eq {mk : List Bool} {W H : Nat} {nm : Nat → Int} (hW : 2 ≤ W) (hL : mk.length = W * H) (hm : Nam mk W nm) : parts mk W = canon mk.length nm mk.length := by
  have key : ∀ N, N ≤ mk.length → PI mk W nm N ((List.range N).foldl (pstep mk W) ([], [])) := by
    intro N
    induction N with
    | zero => intro _; exact ⟨List.nodup_nil, fun k => by simp, rfl⟩
    | succ N ih =>
      intro hN
      rw [List.range_succ, List.foldl_append]
      exact pstep_ok hW hL hm (ih (by omega)) (by omega)
  exact (key _ (Nat.le_refl _)).out
end Riv

namespace Riv
def nput (W a : Nat) (x : TB) (b : Nat) : TB := if at0 x.1 a ≠ -1 ∧ at0 x.1 b ≠ -1 ∧ Nb W a b ∧ at0 x.1 a < at0 x.1 b then (x.1.set b (at0 x.1 a), true) else x
def ncell (W L : Nat) (x : TB) (a : Nat) : TB := (List.range L).foldl (nput W a) x
def nround (W L : Nat) (T : List Int) : TB := (List.range L).foldl (ncell W L) (T, false)
def ngo (W L : Nat) : Nat → List Int → List Int
  | 0, T => T
  | N + 1, T => bif (nround W L T).2 then ngo W L N (nround W L T).1 else (nround W L T).1
def n0 (mk : List Bool) : List Int := mk.zipIdx.map fun x => bif x.1 then (x.2 : Int) else -1
def names (W : Nat) (mk : List Bool) : List Int := ngo W mk.length 40000 (n0 mk)
structure NI (mk : List Bool) (W : Nat) (T : List Int) : Prop where
  len : T.length = mk.length
  non : ∀ k, bat mk k = false → at0 T k = -1
  con : ∀ k, bat mk k = true → ∃ y : Nat, at0 T k = y ∧ Con mk W y k ∧ y ≤ k
structure NJ (mk : List Bool) (W : Nat) (R T : List Int) (ch : Bool) (P : Nat → Nat → Prop) : Prop where
  ri : NI mk W T
  no : ch = false → T = R ∧ ∀ a b, a < mk.length → b < mk.length → P a b → at0 R a ≠ -1 → at0 R b ≠ -1 → Nb W a b → at0 R b ≤ at0 R a
  yes : ch = true → wgt T < wgt R
theorem nput_ok {mk : List Bool} {W : Nat} {R : List Int} {x : TB} {P : Nat → Nat → Prop} {a b : Nat} (hW : 2 ≤ W) (hL : mk.length ≤ 160) (h : NJ mk W R x.1 x.2 P) (ha : a < mk.length) (hb : b < mk.length) :
    NJ mk W R (nput W a x b).1 (nput W a x b).2 (fun i j => P i j ∨ (i = a ∧ j = b)) := by
  obtain ⟨T, ch⟩ := x
  dsimp only at h
  unfold nput
  dsimp only
  have hI := h.ri
  split
  · rename_i hc
    dsimp only
    have hbl : b < T.length := by rw [hI.len]; exact hb
    have hset := fun j => at0_set (v := at0 T a) hbl j
    have mka : bat mk a = true := by
      cases e : bat mk a with
      | true => rfl
      | false => exact absurd (hI.non a e) hc.1
    have mkb : bat mk b = true := by
      cases e : bat mk b with
      | true => rfl
      | false => exact absurd (hI.non b e) hc.2.1
    obtain ⟨y, h1, h2, h3⟩ := hI.con a mka
    obtain ⟨z, g1, g2, g3⟩ := hI.con b mkb
    refine ⟨⟨by rw [List.length_set]; exact hI.len, fun k hk => ?_, fun k hk => ?_⟩, fun e => by simp at e, fun _ => ?_⟩
    · rw [hset, if_neg (fun e => by subst e; rw [mkb] at hk; cases hk)]; exact hI.non k hk
    · rw [hset]
      split
      · rename_i e; subst e
        exact ⟨y, h1, h2.step hc.2.2.1 mkb, by omega⟩
      · exact hI.con k hk
    · have h5 := wgt_set (v := at0 T a) hbl (by omega) (by omega) (.inr hc.2.2.2)
      cases ch with
      | false => rw [← (h.no rfl).1]; exact h5
      | true => exact Nat.lt_trans h5 (h.yes rfl)
  · rename_i hc
    dsimp only
    refine ⟨hI, fun e => ?_, h.yes⟩
    obtain ⟨e1, e2⟩ := h.no e
    refine ⟨e1, fun i j hi hj hp g1 g2 g3 => ?_⟩
    rcases hp with hp | ⟨rfl, rfl⟩
    · exact e2 i j hi hj hp g1 g2 g3
    · rw [e1] at hc
      rcases Int.lt_or_le (at0 R i) (at0 R j) with h5 | h5
      · exact absurd ⟨g1, g2, g3, h5⟩ hc
      · exact h5
theorem NJ.mono {mk : List Bool} {W : Nat} {R T : List Int} {ch : Bool} {P Q : Nat → Nat → Prop} (h : NJ mk W R T ch P) (hq : ∀ a b, a < mk.length → b < mk.length → Q a b → P a b) : NJ mk W R T ch Q :=
  ⟨h.ri, fun e => ⟨(h.no e).1, fun a b h1 h2 h3 => (h.no e).2 a b h1 h2 (hq a b h1 h2 h3)⟩, h.yes⟩
theorem ncell_ok {mk : List Bool} {W : Nat} {R : List Int} {P : Nat → Nat → Prop} {a : Nat} (hW : 2 ≤ W) (hL : mk.length ≤ 160) (ha : a < mk.length) {x : TB} (h : NJ mk W R x.1 x.2 P) : ∀ N, N ≤ mk.length →
    NJ mk W R ((List.range N).foldl (nput W a) x).1 ((List.range N).foldl (nput W a) x).2 (fun i j => P i j ∨ (i = a ∧ j < N))
  | 0, _ => h.mono fun a b _ _ h4 => by rcases h4 with h4 | h4; exact h4; omega
  | N + 1, hN => by
    have h1 := ncell_ok hW hL ha h N (by omega)
    rw [List.range_succ, List.foldl_append]
    exact (nput_ok hW hL h1 ha (show N < mk.length by omega)).mono fun i j _ _ h4 => by
      rcases h4 with h4 | h4
      · exact .inl (.inl h4)
      · rcases Nat.lt_or_ge j N with h5 | h5
        · exact .inl (.inr ⟨h4.1, h5⟩)
        · exact .inr ⟨h4.1, by omega⟩
theorem nround_ok {mk : List Bool} {W : Nat} {R : List Int} (hW : 2 ≤ W) (hL : mk.length ≤ 160) (h : NI mk W R) : ∀ N, N ≤ mk.length →
    NJ mk W R ((List.range N).foldl (ncell W mk.length) (R, false)).1 ((List.range N).foldl (ncell W mk.length) (R, false)).2 (fun i _ => i < N)
  | 0, _ => ⟨h, fun _ => ⟨rfl, fun a b _ _ h4 => by omega⟩, fun e => by simp at e⟩
  | N + 1, hN => by
    have h1 := nround_ok hW hL h N (by omega)
    rw [List.range_succ, List.foldl_append]
    exact (ncell_ok hW hL (show N < mk.length by omega) h1 mk.length (Nat.le_refl _)).mono fun i j _ hj h4 => by
      rcases Nat.lt_or_ge i N with h5 | h5
      · exact .inl h5
      · exact .inr ⟨by omega, hj⟩
theorem ngo_ok {mk : List Bool} {W : Nat} (hW : 2 ≤ W) (hL : mk.length ≤ 160) : ∀ (N : Nat) (R : List Int), NI mk W R → wgt R < N → Nam mk W (at0 (ngo W mk.length N R)) ∧ (ngo W mk.length N R).length = mk.length
  | 0, _, _, hN => absurd hN (Nat.not_lt_zero _)
  | N + 1, R, h, hN => by
    have h1 := nround_ok hW hL h mk.length (Nat.le_refl _)
    rw [ngo]
    unfold nround
    generalize hx : (List.range mk.length).foldl (ncell W mk.length) (R, false) = x at h1
    obtain ⟨T, ch⟩ := x
    dsimp only at h1 ⊢
    cases ch with
    | true =>
      have := h1.yes rfl
      exact ngo_ok hW hL N T h1.ri (by omega)
    | false =>
      obtain ⟨e, h2⟩ := h1.no rfl
      subst e
      show Nam mk W (at0 T) ∧ T.length = mk.length
      have hne : ∀ k, bat mk k = true → at0 T k ≠ -1 := fun k hk => by
        obtain ⟨y, h3, _⟩ := h.con k hk; omega
      have hsame : ∀ z k, Con mk W z k → at0 T z = at0 T k := by
        intro z k hz
        induction hz with
        | refl _ => rfl
        | step g1 g2 g3 ih =>
          rename_i b c
          have hb := g1.mk.2
          have a1 := h2 b c (bat_lt hb) (bat_lt g3) (bat_lt hb) (hne b hb) (hne c g3) g2
          have a2 := h2 c b (bat_lt g3) (bat_lt hb) (bat_lt g3) (hne c g3) (hne b hb) g2.symm
          omega
      refine ⟨⟨h.non, fun k hk => ?_⟩, h.len⟩
      obtain ⟨y, h3, h4, h5⟩ := h.con k hk
      refine ⟨y, h3, h4, fun z hz => ?_⟩
      have h6 := hsame z k hz
      obtain ⟨u, h7, _, h8⟩ := h.con z hz.mk.1
      omega
theorem at0_n0 {mk : List Bool} (k : Nat) : at0 (n0 mk) k = bif bat mk k then (k : Int) else -1 := by
  unfold at0 n0 bat
  rw [List.getD_eq_getElem?_getD, List.getD_eq_getElem?_getD, List.getElem?_map, List.getElem?_zipIdx]
  cases mk[k]? with
  | none => rfl
  | some b => simp
theorem ni0 {mk : List Bool} {W : Nat} : NI mk W (n0 mk) := by
  refine ⟨by unfold n0; simp, fun k hk => by rw [at0_n0, hk]; rfl, fun k hk => ⟨k, by rw [at0_n0, hk]; rfl, Con.refl hk, Nat.le_refl _⟩⟩
theorem names_ok {mk : List Bool} {W : Nat} (hW : 2 ≤ W) (hL : mk.length ≤ 160) : Nam mk W (at0 (names W mk)) ∧ (names W mk).length = mk.length := by
  refine ngo_ok hW hL _ _ ni0 ?_
  have := wgt_le (T := n0 mk) fun n => by
    rw [at0_n0]
    cases hb : bat mk n with
    | true => have := bat_lt hb; simp only [cond_true]; omega
    | false => simp
  have h2 := (ni0 (mk := mk) (W := W)).len
  rw [h2] at this
  omega
end Riv

namespace Riv
def ownr (a b : Int) : Int := if a = -1 ∧ b = -1 then 0 else if a = b then 3 else if b = -1 ∨ (a ≠ -1 ∧ a < b) then 1 else 2
theorem ownr_bd (a b : Int) : 0 ≤ ownr a b ∧ ownr a b ≤ 3 := by
  unfold ownr
  split
  · decide
  · split
    · decide
    · split <;> decide
theorem ownr_least (a b : Int) (h : a ≠ b) : ownr a b = if leastL [a, b] = a then 1 else 2 := by
  unfold ownr leastL
  simp only [List.foldl_cons, List.foldl_nil, ls1]
  by_cases ha : a = -1
  · subst ha
    have hb : ¬ b = -1 := fun e => h e.symm
    simp [hb, h]
  · by_cases hb : b = -1
    · subst hb; simp [ha]
    · rcases Int.lt_or_le b a with h1 | h1
      · have h2 : ¬ a < b := by omega
        have h3 : ¬ b = a := fun e => h e.symm
        simp [ha, hb, h1, h, h2, h3]
      · have h2 : ¬ b < a := by omega
        have h3 : a < b := by omega
        simp [ha, hb, h, h2, h3]
def lowT (T : List Int) (l : List Nat) : Int := l.foldl (fun o n => ls1 o (at0 T n)) (-1)
theorem ls1_least (o n : Int) : leastL [o, n] = ls1 o n := by
  unfold leastL
  simp only [List.foldl_cons, List.foldl_nil]
  have : ls1 (-1) o = o := by unfold ls1; split <;> simp_all
  rw [this]
theorem ls1_ref (a b : Int) : ls1 a b = if a = -1 ∨ (b ≠ -1 ∧ b < a) then b else a := by
  unfold ls1
  by_cases ha : a = -1
  · subst ha
    simp
    intro h; rw [h]
  · simp [ha]
structure Sh where
  f : Int
  o : Int
  nr : Bool
  deriving DecidableEq
def marks (c : List Int) : List Bool := c.map fun x => decide (x = 3)
def isl (c : List Int) (W : Nat) : List (List Nat) := parts (marks c) W
def own1 (c : List Int) (W : Nat) (l : List Nat) : Int := ownr (lowT (bfs c W 1) l) (lowT (bfs c W 2) l)
def gv1 (x : Int × Int) (o : Int) : Int × (Int × Int) := if o = 3 then (if x.2 < x.1 then (2, x.1, x.2 + 1) else (1, x.1 + 1, x.2)) else (o, x)
def gvL : Int × Int → List Int → List Int
  | _, [] => []
  | x, o :: l => (gv1 x o).1 :: gvL (gv1 x o).2 l
def many (k : Int) (l : List Int) : Int := (l.countP fun o => decide (o = k) : Nat)
def own0 (c : List Int) (W : Nat) : List Int := (isl c W).map (own1 c W)
def ownI (c : List Int) (W : Nat) : List Int := gvL (many 1 (own0 c W), many 2 (own0 c W)) (own0 c W)
def rg1 (l : List Int) (i : Nat) : List Int := if at0 l i = 3 then l.set i (if many 2 l < many 1 l then 2 else 1) else l
def rgL (l : List Int) : List Int := (List.range l.length).foldl rg1 l
theorem many_app (k : Int) (a b : List Int) : many k (a ++ b) = many k a + many k b := by unfold many; rw [List.countP_append]; omega
theorem many_cons (k x : Int) (b : List Int) : many k (x :: b) = (if x = k then 1 else 0) + many k b := by
  unfold many; rw [List.countP_cons]
  by_cases h : x = k <;> simp [h] <;> omega
theorem gv1_snd (a b o : Int) : (gv1 (a, b) o).2 = (a - (if o = 1 then 1 else 0) + (if (gv1 (a, b) o).1 = 1 then 1 else 0), b - (if o = 2 then 1 else 0) + (if (gv1 (a, b) o).1 = 2 then 1 else 0)) := by
  unfold gv1
  by_cases h3 : o = 3
  · subst h3
    rw [if_pos rfl]
    split <;> simp
  · rw [if_neg h3]
    refine Prod.ext ?_ ?_
    · dsimp only; split <;> omega
    · dsimp only; split <;> omega
theorem rg_go : ∀ (rest done : List Int), (List.range' done.length rest.length).foldl rg1 (done ++ rest) = done ++ gvL (many 1 (done ++ rest), many 2 (done ++ rest)) rest
  | [], done => by simp [gvL]
  | o :: rest, done => by
    rw [List.length_cons, List.range'_succ, List.foldl_cons, gvL]
    have hat : at0 (done ++ o :: rest) done.length = o := by
      unfold at0
      rw [List.getD_eq_getElem?_getD, List.getElem?_append_right (Nat.le_refl _), Nat.sub_self]; rfl
    have hset : ∀ v : Int, (done ++ o :: rest).set done.length v = (done ++ [v]) ++ rest := fun v => by
      rw [List.set_append_right _ _ (Nat.le_refl _), Nat.sub_self, List.set_cons_zero, List.append_assoc]; rfl
    have ih := fun v => rg_go rest (done ++ [v])
    simp only [List.length_append, List.length_singleton] at ih
    have hm : ∀ (k v : Int), many k ((done ++ [v]) ++ rest) = many k (done ++ o :: rest) - (if o = k then 1 else 0) + (if v = k then 1 else 0) := fun k v => by
      rw [many_app, many_app, many_app, many_cons, many_cons]
      have : many k [] = 0 := rfl
      rw [this]
      omega
    have hr : rg1 (done ++ o :: rest) done.length = (done ++ [(gv1 (many 1 (done ++ o :: rest), many 2 (done ++ o :: rest)) o).1]) ++ rest := by
      unfold rg1 gv1
      rw [hat]
      split
      · rename_i h3
        rw [hset]
        split <;> rfl
      · rw [List.append_assoc]; rfl
    rw [hr, ih, hm, hm, List.append_assoc, List.singleton_append, ← gv1_snd]
theorem rg_eq (l : List Int) : rgL l = gvL (many 1 l, many 2 l) l := by
  have := rg_go l []
  simp only [List.length_nil, List.nil_append] at this
  unfold rgL
  rw [List.range_eq_range']
  exact this
theorem gvL_len : ∀ (x : Int × Int) (l : List Int), (gvL x l).length = l.length
  | _, [] => rfl
  | x, o :: l => by rw [gvL, List.length_cons, List.length_cons, gvL_len]
def shr (c : List Int) (W : Nat) : List Sh := ((isl c W).zip ((own0 c W).zip (ownI c W))).map fun x => ⟨((x.1.headD 0 : Nat) : Int), x.2.2, decide (x.2.1 = 1 ∨ x.2.1 = 2)⟩
def setAll (out : List Int) (l : List Nat) (o : Int) : List Int := l.foldl (fun out n => out.set n o) out
def ownW (c : List Int) (W : Nat) : List Int := c.zipIdx.map fun x => if x.1 = 0 then ownr (at0 (bfs c W 1) x.2) (at0 (bfs c W 2) x.2) else x.1
def owns (c : List Int) (W : Nat) : List Int := ((isl c W).zip (ownI c W)).foldl (fun out x => setAll out x.1 x.2) (ownW c W)
theorem setAll_len : ∀ (l : List Nat) (out : List Int) (o : Int), (setAll out l o).length = out.length
  | [], _, _ => rfl
  | n :: l, out, o => by have := setAll_len l (out.set n o) o; unfold setAll at *; rw [List.foldl_cons, this, List.length_set]
theorem setAll_at : ∀ (l : List Nat) (out : List Int) (o : Int) (k : Nat), (∀ n ∈ l, n < out.length) → at0 (setAll out l o) k = if k ∈ l then o else at0 out k
  | [], _, _, _, _ => by simp [setAll]
  | n :: l, out, o, k, h => by
    have h1 := setAll_at l (out.set n o) o k (fun j hj => by rw [List.length_set]; exact h j (List.mem_cons_of_mem _ hj))
    unfold setAll at h1 ⊢
    rw [List.foldl_cons, h1, at0_set (h n List.mem_cons_self)]
    by_cases hk : k ∈ l
    · simp [hk]
    · by_cases hkn : k = n <;> simp [hk, hkn]
end Riv

namespace Riv
def rnm (c : List Int) (W : Nat) : List Int := names W (marks c)
def firsts (c : List Int) (W : Nat) : List Nat := (List.range c.length).filter fun i : Nat => decide (at0 (rnm c W) i = (i : Int))
def rlow (T nm : List Int) (L i : Nat) : Int := (List.range L).foldl (fun o k => if at0 nm k = (i : Int) then (if o = -1 ∨ (at0 T k ≠ -1 ∧ at0 T k < o) then at0 T k else o) else o) (-1)
def rown0 (c : List Int) (W : Nat) : List Int := (firsts c W).map fun i => ownr (rlow (bfs c W 1) (rnm c W) c.length i) (rlow (bfs c W 2) (rnm c W) c.length i)
def rshr (c : List Int) (W : Nat) : List Sh := ((firsts c W).zip ((rown0 c W).zip (rgL (rown0 c W)))).map fun x => ⟨(x.1 : Int), x.2.2, decide (x.2.1 = 1 ∨ x.2.1 = 2)⟩
def rfnd (l : List Sh) (v : Int) : Int := l.foldl (fun o x => if x.f = v then x.o else o) 0
def rown (c : List Int) (W : Nat) (i : Nat) : Int := if at0 c i = 0 then ownr (at0 (bfs c W 1) i) (at0 (bfs c W 2) i) else if at0 c i = 3 then rfnd (rshr c W) (at0 (rnm c W) i) else at0 c i
def rowns (c : List Int) (W : Nat) : List Int := (List.range c.length).map (rown c W)
theorem marks_len (c : List Int) : (marks c).length = c.length := by simp [marks]
theorem bat_marks (c : List Int) (k : Nat) : bat (marks c) k = decide (at0 c k = 3) := by
  unfold bat marks at0
  simp only [List.getD_eq_getElem?_getD, List.getElem?_map]
  cases c[k]? with
  | none => rfl
  | some x => rfl
theorem rnm_ok {c : List Int} {W : Nat} (hW : 2 ≤ W) (hL : c.length ≤ 160) : Nam (marks c) W (at0 (rnm c W)) ∧ (rnm c W).length = c.length := by
  have := names_ok (mk := marks c) hW (by rw [marks_len]; exact hL)
  rw [marks_len] at this
  exact this
theorem isl_eq {c : List Int} {W H : Nat} (hW : 2 ≤ W) (hL : c.length = W * H) (h1 : c.length ≤ 160) : isl c W = (firsts c W).map fun i : Nat => (List.range c.length).filter fun k => decide (at0 (rnm c W) k = (i : Int)) := by
  unfold isl
  rw [parts_eq hW (by rw [marks_len]; exact hL) (rnm_ok hW h1).1, marks_len]
  rfl
theorem fold_filter {α β : Type} {f : β → α → β} {p : α → Prop} [DecidablePred p] : ∀ (l : List α) (b : β), (l.filter fun k => decide (p k)).foldl f b = l.foldl (fun o k => if p k then f o k else o) b
  | [], _ => rfl
  | x :: l, b => by
    rw [List.filter_cons, List.foldl_cons]
    by_cases h : p x
    · rw [if_pos h, if_pos (by simp [h]), List.foldl_cons, fold_filter l]
    · rw [if_neg h, if_neg (by simp [h]), fold_filter l]
theorem rlow_eq (T nm : List Int) (L i : Nat) : rlow T nm L i = lowT T ((List.range L).filter fun k => decide (at0 nm k = (i : Int))) := by
  unfold rlow lowT
  rw [fold_filter]
  congr 1
  funext o k
  rw [ls1_ref]
theorem rown0_eq {c : List Int} {W H : Nat} (hW : 2 ≤ W) (hL : c.length = W * H) (h1 : c.length ≤ 160) : rown0 c W = own0 c W := by
  unfold rown0 own0
  rw [isl_eq hW hL h1, List.map_map]
  refine List.map_congr_left fun i _ => ?_
  rw [rlow_eq, rlow_eq]
  rfl
theorem head_least {l : List Nat} {i : Nat} (hp : l.Pairwise (· < ·)) (hi : i ∈ l) (h : ∀ x ∈ l, i ≤ x) : l.headD 0 = i := by
  cases l with
  | nil => cases hi
  | cons y l =>
    have h1 := h y List.mem_cons_self
    rcases List.mem_cons.1 hi with h2 | h2
    · exact h2.symm
    · have := (List.pairwise_cons.1 hp).1 i h2
      omega
theorem nm_mark {c : List Int} {W : Nat} (hW : 2 ≤ W) (h1 : c.length ≤ 160) {k : Nat} (h : at0 (rnm c W) k ≠ -1) : at0 c k = 3 := by
  have := (rnm_ok hW h1).1.non k
  rw [bat_marks] at this
  exact Decidable.byContradiction fun e => h (this (by simp [e]))
theorem first_le {c : List Int} {W : Nat} (hW : 2 ≤ W) (h1 : c.length ≤ 160) {k i : Nat} (h : at0 (rnm c W) k = (i : Int)) : i ≤ k := by
  have hb : bat (marks c) k = true := by rw [bat_marks, nm_mark hW h1 (by omega)]; rfl
  obtain ⟨y, g1, g2, g3⟩ := (rnm_ok hW h1).1.con k hb
  have := g3 k (Con.refl hb)
  omega
theorem first_mem {c : List Int} {W : Nat} (hW : 2 ≤ W) (h1 : c.length ≤ 160) {k : Nat} (h : at0 c k = 3) : ∃ y : Nat, at0 (rnm c W) k = (y : Int) ∧ y ∈ firsts c W := by
  have hb : bat (marks c) k = true := by rw [bat_marks, h]; rfl
  obtain ⟨y, g1, g2, g3⟩ := (rnm_ok hW h1).1.con k hb
  refine ⟨y, g1, ?_⟩
  have hy := g2.mk.1
  obtain ⟨z, e1, e2, e3⟩ := (rnm_ok hW h1).1.con y hy
  have a := g3 z (e2.trans g2)
  have b := e3 y (Con.refl hy)
  have hl := bat_lt hy
  rw [marks_len] at hl
  unfold firsts
  rw [List.mem_filter]
  refine ⟨List.mem_range.2 hl, ?_⟩
  simp only [decide_eq_true_eq]
  omega
theorem rshr_eq {c : List Int} {W H : Nat} (hW : 2 ≤ W) (hL : c.length = W * H) (h1 : c.length ≤ 160) : rshr c W = shr c W := by
  unfold rshr shr
  rw [rown0_eq hW hL h1, rg_eq, isl_eq hW hL h1, List.zip_map_left, List.map_map]
  refine List.map_congr_left fun x hx => ?_
  have hm := (List.of_mem_zip hx).1
  unfold firsts at hm
  rw [List.mem_filter] at hm
  have hh : ((List.range c.length).filter fun k => decide (at0 (rnm c W) k = (x.1 : Int))).headD 0 = x.1 := by
    refine head_least (List.Pairwise.filter _ List.pairwise_lt_range) (List.mem_filter.2 hm) fun k hk => ?_
    have := (List.mem_filter.1 hk).2
    exact first_le hW h1 (of_decide_eq_true this)
  simp only [Function.comp, Prod.map]
  rw [hh]
  rfl
theorem fold_set : ∀ (l : List (List Nat × Int)) (out : List Int) (k : Nat), (∀ x ∈ l, ∀ n ∈ x.1, n < out.length) → at0 (l.foldl (fun out x => setAll out x.1 x.2) out) k = l.foldl (fun o x => if k ∈ x.1 then x.2 else o) (at0 out k)
  | [], _, _, _ => rfl
  | x :: l, out, k, h => by
    rw [List.foldl_cons, List.foldl_cons, fold_set l _ k (fun y hy n hn => by rw [setAll_len]; exact h y (List.mem_cons_of_mem _ hy) n hn), setAll_at _ _ _ _ (h x List.mem_cons_self)]
theorem fold_set_len : ∀ (l : List (List Nat × Int)) (out : List Int), (l.foldl (fun out x => setAll out x.1 x.2) out).length = out.length
  | [], _ => rfl
  | x :: l, out => by rw [List.foldl_cons, fold_set_len, setAll_len]
theorem fold_any {α : Type} {p : α → Prop} [DecidablePred p] {f : α → Int} : ∀ (l : List α) (s t : Int), (∃ x ∈ l, p x) → l.foldl (fun o x => if p x then f x else o) s = l.foldl (fun o x => if p x then f x else o) t
  | [], _, _, ⟨x, h, _⟩ => by cases h
  | y :: l, s, t, ⟨x, h, hx⟩ => by
    rw [List.foldl_cons, List.foldl_cons]
    by_cases hy : p y
    · rw [if_pos hy, if_pos hy]
    · rw [if_neg hy, if_neg hy]
      rcases List.mem_cons.1 h with e | e
      · exact absurd (e ▸ hx) hy
      · exact fold_any l s t ⟨x, e, hx⟩
theorem fold_none {α : Type} {p : α → Prop} [DecidablePred p] {f : α → Int} : ∀ (l : List α) (s : Int), (∀ x ∈ l, ¬ p x) → l.foldl (fun o x => if p x then f x else o) s = s
  | [], _, _ => rfl
  | y :: l, s, h => by
    rw [List.foldl_cons, if_neg (h y List.mem_cons_self)]
    exact fold_none l s fun x hx => h x (List.mem_cons_of_mem _ hx)
theorem zip_ex {α β : Type} : ∀ {a : List α} {b : List β} {x : α}, a.length = b.length → x ∈ a → ∃ y, (x, y) ∈ a.zip b
  | _ :: _, [], _, h, _ => by cases h
  | u :: a, v :: b, x, h, hx => by
    rcases List.mem_cons.1 hx with e | e
    · subst e; exact ⟨v, List.mem_cons_self⟩
    · obtain ⟨y, hy⟩ := zip_ex (b := b) (by simpa using h) e
      exact ⟨y, List.mem_cons_of_mem _ hy⟩
theorem ownW_len (c : List Int) (W : Nat) : (ownW c W).length = c.length := by simp [ownW]
theorem ownI_len {c : List Int} {W H : Nat} (hW : 2 ≤ W) (hL : c.length = W * H) (h1 : c.length ≤ 160) : (ownI c W).length = (firsts c W).length ∧ (own0 c W).length = (firsts c W).length := by
  have : (own0 c W).length = (firsts c W).length := by unfold own0; rw [List.length_map, isl_eq hW hL h1, List.length_map]
  exact ⟨by unfold ownI; rw [gvL_len, this], this⟩
theorem owns_len (c : List Int) (W : Nat) : (owns c W).length = c.length := by unfold owns; rw [fold_set_len, ownW_len]
theorem at0_ownW {c : List Int} {W k : Nat} (h : k < c.length) : at0 (ownW c W) k = if at0 c k = 0 then ownr (at0 (bfs c W 1) k) (at0 (bfs c W 2) k) else at0 c k := by
  have e : at0 c k = c[k] := by unfold at0; rw [List.getD_eq_getElem?_getD, List.getElem?_eq_getElem h]; rfl
  rw [e]
  unfold ownW
  show (List.map _ c.zipIdx).getD k (-1) = _
  rw [List.getD_eq_getElem?_getD, List.getElem?_map, List.getElem?_zipIdx, List.getElem?_eq_getElem h]
  simp
theorem rfnd_eq (l : List (Nat × (Int × Int))) (v : Int) (f : Int × Int → Bool) : rfnd (l.map fun x => ⟨(x.1 : Int), x.2.2, f x.2⟩) v = l.foldl (fun o x => if (x.1 : Int) = v then x.2.2 else o) 0 := by
  unfold rfnd
  rw [List.foldl_map]
theorem zip_snd {α β γ : Type} : ∀ {a : List α} {b : List β} {c : List γ} (g : Int → α × γ → Int) (s : Int), a.length = b.length → (a.zip (b.zip c)).foldl (fun o x => g o (x.1, x.2.2)) s = (a.zip c).foldl g s
  | [], _, _, _, _, _ => rfl
  | _ :: _, [], _, _, _, h => by cases h
  | _ :: _, _ :: _, [], _, _, _ => rfl
  | x :: a, y :: b, z :: c, g, s, h => by
    simp only [List.zip_cons_cons, List.foldl_cons]
    exact zip_snd (a := a) (b := b) (c := c) g _ (by simpa using h)
theorem owns_eq {c : List Int} {W H : Nat} (hW : 2 ≤ W) (hL : c.length = W * H) (h1 : c.length ≤ 160) : rowns c W = owns c W := by
  have hlen : (rowns c W).length = c.length := by simp [rowns]
  refine ext0 (by rw [hlen, owns_len]) fun k hk => ?_
  rw [hlen] at hk
  have hr : at0 (rowns c W) k = rown c W k := by
    unfold at0 rowns
    rw [List.getD_eq_getElem?_getD, List.getElem?_map, List.getElem?_range hk]
    rfl
  have hin : ∀ i : Nat, k ∈ ((List.range c.length).filter fun k => decide (at0 (rnm c W) k = (i : Int))) ↔ (i : Int) = at0 (rnm c W) k := fun i => by
    rw [List.mem_filter, List.mem_range]
    simp only [decide_eq_true_eq]
    exact ⟨fun h => h.2.symm, fun h => ⟨hk, h.symm⟩⟩
  have ho : at0 (owns c W) k = ((firsts c W).zip (ownI c W)).foldl (fun o x => if (x.1 : Int) = at0 (rnm c W) k then x.2 else o) (at0 (ownW c W) k) := by
    unfold owns
    rw [fold_set]
    · rw [isl_eq hW hL h1, List.zip_map_left, List.foldl_map]
      congr 1
      funext o x
      simp only [Prod.map]
      by_cases h : (x.1 : Int) = at0 (rnm c W) k
      · rw [if_pos h, if_pos ((hin x.1).2 h)]; rfl
      · rw [if_neg h, if_neg (fun e => h ((hin x.1).1 e))]
    · intro x hx n hn
      have h2 := (List.of_mem_zip hx).1
      rw [isl_eq hW hL h1, List.mem_map] at h2
      obtain ⟨i, _, e⟩ := h2
      rw [← e, List.mem_filter, List.mem_range] at hn
      rw [ownW_len]
      exact hn.1
  rw [hr, ho, at0_ownW hk]
  unfold rown
  by_cases h0 : at0 c k = 0
  · rw [if_pos h0, if_pos h0]
    rw [fold_none]
    intro x _ e
    have := nm_mark hW h1 (k := k) (by omega)
    omega
  · rw [if_neg h0, if_neg h0]
    by_cases h3 : at0 c k = 3
    · rw [if_pos h3]
      unfold rshr
      have hz := zip_snd (a := firsts c W) (b := own0 c W) (c := ownI c W) (fun o x => if (x.1 : Int) = at0 (rnm c W) k then x.2 else o) 0 (ownI_len hW hL h1).2.symm
      rw [rfnd_eq (f := fun x => decide (x.1 = 1 ∨ x.1 = 2)), rown0_eq hW hL h1, rg_eq]
      refine Eq.trans hz ?_
      obtain ⟨y, g1, g2⟩ := first_mem hW h1 h3
      obtain ⟨o, ho⟩ := zip_ex (b := ownI c W) (ownI_len hW hL h1).1.symm g2
      exact fold_any _ _ _ ⟨_, ho, g1.symm⟩
    · rw [if_neg h3, fold_none]
      intro x _ e
      exact h3 (nm_mark hW h1 (k := k) (by omega))
end Riv

namespace Riv
def diffs (a b : List Int) : List Bool := (List.range a.length).map fun n => decide (at0 a n ≠ at0 b n)
def chg (a b : List Int) (W : Nat) : List (List Nat) := parts (diffs a b) W
def rchg (a b : List Int) (W : Nat) : List (List Nat) := canon a.length (at0 (names W (diffs a b))) a.length
theorem diffs_len (a b : List Int) : (diffs a b).length = a.length := by simp [diffs]
theorem bat_diffs {a b : List Int} {n : Nat} : bat (diffs a b) n = true ↔ n < a.length ∧ at0 a n ≠ at0 b n := by
  unfold bat diffs
  rw [List.getD_eq_getElem?_getD, List.getElem?_map]
  by_cases h : n < a.length
  · rw [List.getElem?_range h]; simp [h]
  · rw [List.getElem?_eq_none (by simp; omega)]; simp [h]
theorem chg_eq {a b : List Int} {W H : Nat} (hW : 2 ≤ W) (hL : a.length = W * H) (h1 : a.length ≤ 160) : chg a b W = rchg a b W := by
  unfold chg rchg
  rw [parts_eq hW (by rw [diffs_len]; exact hL) (names_ok (mk := diffs a b) hW (by rw [diffs_len]; exact h1)).1, diffs_len]
theorem chg_mem {a b : List Int} {W H : Nat} (hW : 2 ≤ W) (hL : a.length = W * H) (h1 : a.length ≤ 160) {cs : List Nat} (h : cs ∈ chg a b W) : cs ≠ [] ∧ cs.Pairwise (· < ·) ∧ cs.length ≤ a.length ∧ ∀ n ∈ cs, n < a.length ∧ at0 a n ≠ at0 b n := by
  rw [chg_eq hW hL h1] at h
  unfold rchg canon at h
  obtain ⟨i, hi, rfl⟩ := List.mem_map.1 h
  obtain ⟨g1, g2⟩ := List.mem_filter.1 hi
  have hn := (names_ok (mk := diffs a b) hW (by rw [diffs_len]; exact h1)).1
  refine ⟨fun e => ?_, List.Pairwise.filter _ List.pairwise_lt_range, ?_, fun n hn2 => ?_⟩
  · have : i ∈ ([] : List Nat) := by rw [← e]; exact List.mem_filter.2 ⟨g1, g2⟩
    cases this
  · have := List.length_filter_le (fun k => decide (at0 (names W (diffs a b)) k = (i : Int))) (List.range a.length)
    rw [List.length_range] at this
    exact this
  · obtain ⟨k1, k2⟩ := List.mem_filter.1 hn2
    have k3 := of_decide_eq_true k2
    have hb : bat (diffs a b) n = true := by
      cases hb : bat (diffs a b) n with
      | true => rfl
      | false => have := hn.non n hb; omega
    exact bat_diffs.1 hb
def lset (b out : List Int) (cs : List Nat) : List Int := cs.foldl (fun out n => out.set n (at0 b n)) out
def lstep (slow : Int) (b out : List Int) (cs : List Nat) : List Int := if (cs.length : Int) ≤ slow then lset b out cs else out
def lyear (W : Nat) (slow : Int) (a b now : List Int) : List Int := (chg a b W).foldl (lstep slow b) now
def lawAt (W : Nat) (l : List (List Int)) (slow : Int) : Nat → List Int
  | 0 => l.getD 0 []
  | y + 1 => lyear W slow (l.getD y []) (l.getD (y + 1) []) (lawAt W l slow y)
theorem lset_len : ∀ (b out : List Int) (cs : List Nat), (lset b out cs).length = out.length
  | _, _, [] => rfl
  | b, out, n :: cs => by have := lset_len b (out.set n (at0 b n)) cs; unfold lset at *; rw [List.foldl_cons, this, List.length_set]
theorem lset_at : ∀ (b out : List Int) (cs : List Nat) (k : Nat), (∀ n ∈ cs, n < out.length) → at0 (lset b out cs) k = if k ∈ cs then at0 b k else at0 out k
  | _, _, [], _, _ => by simp [lset]
  | b, out, n :: cs, k, h => by
    have h1 := lset_at b (out.set n (at0 b n)) cs k (fun j hj => by rw [List.length_set]; exact h j (List.mem_cons_of_mem _ hj))
    unfold lset at h1 ⊢
    rw [List.foldl_cons, h1, at0_set (h n List.mem_cons_self)]
    by_cases hk : k ∈ cs
    · simp [hk]
    · by_cases hkn : k = n
      · subst hkn; simp
      · simp [hk, hkn]
theorem lstep_len (slow : Int) (b out : List Int) (cs : List Nat) : (lstep slow b out cs).length = out.length := by
  unfold lstep; split
  · exact lset_len _ _ _
  · rfl
theorem lyear_go_len (slow : Int) (b : List Int) : ∀ (L : List (List Nat)) (now : List Int), (L.foldl (lstep slow b) now).length = now.length
  | [], _ => rfl
  | c :: L, now => by rw [List.foldl_cons, lyear_go_len slow b L, lstep_len]
theorem lyear_len (W : Nat) (slow : Int) (a b now : List Int) : (lyear W slow a b now).length = now.length := lyear_go_len _ _ _ _
theorem lyear_go (slow : Int) (b : List Int) (k : Nat) : ∀ (L : List (List Nat)) (now : List Int), (∀ c ∈ L, ∀ n ∈ c, n < now.length) → at0 (L.foldl (lstep slow b) now) k = if ∃ c ∈ L, k ∈ c ∧ (c.length : Int) ≤ slow then at0 b k else at0 now k
  | [], _, _ => by simp
  | c :: L, now, h => by
    rw [List.foldl_cons, lyear_go slow b k L _ (fun d hd n hn => by rw [lstep_len]; exact h d (List.mem_cons_of_mem _ hd) n hn)]
    by_cases h1 : ∃ d ∈ L, k ∈ d ∧ (d.length : Int) ≤ slow
    · rw [if_pos h1, if_pos]
      obtain ⟨d, h2, h3⟩ := h1
      exact ⟨d, List.mem_cons_of_mem _ h2, h3⟩
    · rw [if_neg h1]
      unfold lstep
      by_cases h2 : (c.length : Int) ≤ slow
      · rw [if_pos h2, lset_at _ _ _ _ (h c List.mem_cons_self)]
        by_cases h3 : k ∈ c
        · rw [if_pos h3, if_pos ⟨c, List.mem_cons_self, h3, h2⟩]
        · rw [if_neg h3, if_neg]
          rintro ⟨d, h4, h5, h6⟩
          rcases List.mem_cons.1 h4 with rfl | h4
          · exact h3 h5
          · exact h1 ⟨d, h4, h5, h6⟩
      · rw [if_neg h2, if_neg]
        rintro ⟨d, h4, h5, h6⟩
        rcases List.mem_cons.1 h4 with rfl | h4
        · exact h2 h6
        · exact h1 ⟨d, h4, h5, h6⟩
theorem lyear_at {W H : Nat} {slow : Int} {a b now : List Int} {k : Nat} (hW : 2 ≤ W) (hL : a.length = W * H) (h1 : a.length ≤ 160) (hn : now.length = a.length) : at0 (lyear W slow a b now) k = if ∃ c ∈ chg a b W, k ∈ c ∧ (c.length : Int) ≤ slow then at0 b k else at0 now k :=
  lyear_go _ _ _ _ _ fun c hc n h => by rw [hn]; exact ((chg_mem hW hL h1 hc).2.2.2 n h).1
structure Yrs (W H : Nat) (l : List (List Int)) : Prop where
  two : 2 ≤ W
  few : W * H ≤ 160
  len : ∀ y, y < l.length → (l.getD y []).length = W * H
theorem lawAt_len {W H : Nat} {l : List (List Int)} (h : Yrs W H l) (slow : Int) : ∀ y, y < l.length → (lawAt W l slow y).length = W * H
  | 0, hy => h.len 0 hy
  | y + 1, hy => by rw [lawAt, lyear_len]; exact lawAt_len h slow y (by omega)
theorem lawAt_at {W H : Nat} {l : List (List Int)} (h : Yrs W H l) (slow : Int) {y k : Nat} (hy : y + 1 < l.length) : at0 (lawAt W l slow (y + 1)) k = if ∃ c ∈ chg (l.getD y []) (l.getD (y + 1) []) W, k ∈ c ∧ (c.length : Int) ≤ slow then at0 (l.getD (y + 1) []) k else at0 (lawAt W l slow y) k := by
  have h2 := h.len y (by omega)
  rw [lawAt, lyear_at h.two h2 (by rw [h2]; exact h.few) (by rw [h2]; exact lawAt_len h slow y (by omega))]
theorem lawAt_src {W H : Nat} {l : List (List Int)} (h : Yrs W H l) (slow : Int) (k : Nat) : ∀ y, y < l.length → ∃ z, z < l.length ∧ at0 (lawAt W l slow y) k = at0 (l.getD z []) k
  | 0, hy => ⟨0, hy, rfl⟩
  | y + 1, hy => by
    rw [lawAt_at h slow hy]
    split
    · exact ⟨y + 1, hy, rfl⟩
    · exact lawAt_src h slow k y (by omega)
theorem gv1_bd (x : Int × Int) {o : Int} (h : 0 ≤ o ∧ o ≤ 3) : 0 ≤ (gv1 x o).1 ∧ (gv1 x o).1 ≤ 3 := by
  unfold gv1
  split
  · split <;> simp
  · exact h
theorem gvL_bd : ∀ (x : Int × Int) (l : List Int), (∀ o ∈ l, 0 ≤ o ∧ o ≤ 3) → ∀ o ∈ gvL x l, 0 ≤ o ∧ o ≤ 3
  | _, [], _, _, h => by cases h
  | x, o :: l, h, p, hp => by
    rw [gvL] at hp
    rcases List.mem_cons.1 hp with rfl | hp
    · exact gv1_bd x (h o List.mem_cons_self)
    · exact gvL_bd _ l (fun q hq => h q (List.mem_cons_of_mem _ hq)) p hp
theorem owns_bd {c : List Int} {W : Nat} (h : ∀ n, n < c.length → 0 ≤ at0 c n ∧ at0 c n ≤ 3) (hin : ∀ cs ∈ isl c W, ∀ n ∈ cs, n < c.length) {k : Nat} (hk : k < c.length) : 0 ≤ at0 (owns c W) k ∧ at0 (owns c W) k ≤ 3 := by
  unfold owns
  rw [fold_set _ _ _ (fun x hx n hn => by rw [ownW_len]; exact hin _ (List.of_mem_zip hx).1 n hn)]
  have hb : ∀ x ∈ (isl c W).zip (ownI c W), 0 ≤ x.2 ∧ x.2 ≤ 3 := fun x hx => by
    refine gvL_bd _ _ (fun o ho => ?_) x.2 (List.of_mem_zip hx).2
    obtain ⟨_, _, rfl⟩ := List.mem_map.1 ho
    exact ownr_bd _ _
  have h0 : 0 ≤ at0 (ownW c W) k ∧ at0 (ownW c W) k ≤ 3 := by
    rw [at0_ownW hk]
    split
    · exact ownr_bd _ _
    · exact h k hk
  generalize at0 (ownW c W) k = s at h0
  generalize (isl c W).zip (ownI c W) = l at hb
  induction l generalizing s with
  | nil => exact h0
  | cons x l ih =>
    rw [List.foldl_cons]
    refine ih _ ?_ (fun y hy => hb y (List.mem_cons_of_mem _ hy))
    split
    · exact hb x List.mem_cons_self
    · exact h0
theorem isl_in {c : List Int} {W H : Nat} (hW : 2 ≤ W) (hL : c.length = W * H) (h1 : c.length ≤ 160) : ∀ cs ∈ isl c W, ∀ n ∈ cs, n < c.length := by
  intro cs hcs n hn
  rw [isl_eq hW hL h1] at hcs
  obtain ⟨i, _, rfl⟩ := List.mem_map.1 hcs
  exact List.mem_range.1 (List.mem_filter.1 hn).1
end Riv

namespace Riv
def lastHi (out : List Go.Vm.Spn) : Option Int := out.getLast?.map fun x => x.hi
def setHi (out : List Go.Vm.Spn) (h : Int) : List Go.Vm.Spn := match out.getLast? with
  | none => out
  | some x => out.dropLast ++ [⟨x.lo, h⟩]
def addB (out : List Go.Vm.Spn) (lo hi : Int) : List Go.Vm.Spn := if lastHi out = some (lo - 1) then setHi out hi else out ++ [⟨lo, hi⟩]
def pgo (p : Int → Bool) : List Int → List Go.Vm.Spn → List Go.Vm.Spn
  | a :: b :: l, out => pgo p (b :: l) (bif p a then addB out a (b - 1) else out)
  | _, out => out
def r1 (p : Int → Bool) (x : List Go.Vm.Spn × Bool) (s : Int) : List Go.Vm.Spn × Bool := (bif p s then (bif x.2 then setHi x.1 s else x.1 ++ [⟨s, s⟩]) else x.1, p s)
theorem setHi_app (out : List Go.Vm.Spn) (x : Go.Vm.Spn) (h : Int) : setHi (out ++ [x]) h = out ++ [⟨x.lo, h⟩] := by simp [setHi]
def cmpI : List Int → List Int
  | a :: b :: l => if a = b then cmpI (b :: l) else a :: cmpI (b :: l)
  | l => l
theorem cmpI_mem : ∀ (l : List Int) (x : Int), x ∈ cmpI l ↔ x ∈ l
  | [], _ => Iff.rfl
  | [_], _ => Iff.rfl
  | a :: b :: l, x => by
    rw [cmpI]
    split
    · rename_i h
      rw [cmpI_mem (b :: l), h]
      simp
    · rw [List.mem_cons, cmpI_mem (b :: l), List.mem_cons (a := x) (b := a)]
def dnL (p : Nat → Bool) : Nat → Int
  | 0 => -1
  | n + 1 => bif p n then (n : Int) else dnL p n
end Riv

namespace Riv
def sizes (W : Nat) (l : List (List Int)) : List Int := (List.range (l.length - 1)).flatMap fun y => (chg (l.getD y []) (l.getD (y + 1) []) W).map fun c => (c.length : Int)
def slP (W : Nat) (l : List (List Int)) (cell : Nat) (owner : Int) (s : Int) : Bool := decide (at0 (owns (lawAt W l s (l.length - 1)) W) cell = owner)
theorem sizes_mem {W : Nat} {l : List (List Int)} {x : Int} : x ∈ sizes W l ↔ ∃ y, y + 1 < l.length ∧ ∃ c ∈ chg (l.getD y []) (l.getD (y + 1) []) W, (c.length : Int) = x := by
  unfold sizes
  simp only [List.mem_flatMap, List.mem_range, List.mem_map]
  constructor
  · rintro ⟨y, h1, h2⟩; exact ⟨y, by omega, h2⟩
  · rintro ⟨y, h1, h2⟩; exact ⟨y, by omega, h2⟩
theorem sizes_bd {W H : Nat} {l : List (List Int)} (h : Yrs W H l) {x : Int} (hx : x ∈ sizes W l) : 1 ≤ x ∧ x ≤ ((W * H : Nat) : Int) := by
  obtain ⟨y, h1, c, h2, rfl⟩ := sizes_mem.1 hx
  have h3 := h.len y (by omega)
  obtain ⟨g1, _, g3, _⟩ := chg_mem h.two h3 (by rw [h3]; exact h.few) h2
  have : c.length ≠ 0 := fun e => g1 (List.eq_nil_of_length_eq_zero e)
  omega
end Riv

namespace Riv
structure Sy (W L : Nat) (σ : Nat → Nat) : Prop where
  lt : ∀ n, n < L → σ n < L
  inv : ∀ n, n < L → σ (σ n) = n
  nb : ∀ a b, a < L → b < L → Nb W a b → Nb W (σ a) (σ b)
structure Vw (W : Nat) (σ : Nat → Nat) (ren : Int → Int) (c c' : List Int) : Prop where
  sy : Sy W c.length σ
  len : c'.length = c.length
  at_ : ∀ n, n < c.length → at0 c' n = ren (at0 c (σ n))
structure Ren (ren : Int → Int) (s s' : Int) : Prop where
  wat : ∀ x, ren x = 0 ↔ x = 0
  isl : ∀ x, ren x = 3 ↔ x = 3
  sho : ∀ x, ren x = s' ↔ x = s
theorem at0_mk {f : Nat → Int} {L n : Nat} (h : n < L) : at0 ((List.range L).map f) n = f n := by
  unfold at0
  rw [List.getD_eq_getElem?_getD, List.getElem?_map, List.getElem?_range h]; rfl
theorem hld_vw {W : Nat} {σ : Nat → Nat} {ren : Int → Int} {c c' : List Int} {s s' : Int} {T : List Int} (hv : Vw W σ ren c c') (hr : Ren ren s s') (h : Hld c W s T) : Hld c' W s' ((List.range c.length).map fun n => at0 T (σ n)) := by
  have hthr : ∀ k, k < c.length → (Thr c' s' k ↔ Thr c s (σ k)) := fun k hk => by
    unfold Thr
    rw [hv.at_ k hk, hr.wat, hr.sho]
  have hopn : ∀ k, k < c.length → (Opn c' k ↔ Opn c (σ k)) := fun k hk => by
    unfold Opn
    rw [hv.at_ k hk, hr.wat, hr.isl]
  have hT : ∀ k, k < c.length → at0 ((List.range c.length).map fun n => at0 T (σ n)) k = at0 T (σ k) := fun k hk => at0_mk hk
  refine ⟨by rw [List.length_map, List.length_range, hv.len], fun n hn => ?_⟩
  rw [hv.len] at hn
  have hf := h.fit (σ n) (hv.sy.lt n hn)
  have hsh : at0 c' n = s' ↔ at0 c (σ n) = s := by rw [hv.at_ n hn, hr.sho]
  refine ⟨fun e => by rw [hT n hn]; exact hf.own (hsh.1 e), fun e1 e2 => ?_, fun e1 e2 => by rw [hT n hn]; exact hf.oth (fun e => e1 (hsh.2 e)) (fun e => e2 ((hopn n hn).2 e))⟩
  rw [hT n hn, hv.len]
  rcases hf.opn (fun e => e1 (hsh.2 e)) ((hopn n hn).1 e2) with ⟨h1, h2⟩ | ⟨k, a1, a2, a3, a4, a5, a6⟩
  · refine .inl ⟨h1, fun k hk hn2 ht => ?_⟩
    rw [hT k hk]
    exact h2 (σ k) (hv.sy.lt k hk) (hv.sy.nb n k hn hk hn2) ((hthr k hk).1 ht)
  · have hk := hv.sy.lt k a1
    have hs := hv.sy.inv k a1
    refine .inr ⟨σ k, hk, ?_, ?_, ?_, ?_, fun j hj hn2 ht hj1 => ?_⟩
    · have := hv.sy.nb (σ n) k (hv.sy.lt n hn) a1 a2
      rw [hv.sy.inv n hn] at this
      exact this
    · rw [hthr _ hk, hs]; exact a3
    · rw [hT _ hk, hs]; exact a4
    · rw [hT _ hk, hs]; exact a5
    · rw [hT _ hk, hs, hT j hj]
      rw [hT j hj] at hj1
      exact a6 (σ j) (hv.sy.lt j hj) (hv.sy.nb n j hn hj hn2) ((hthr j hj).1 ht) hj1
theorem bfs_vw {W H : Nat} {σ : Nat → Nat} {ren : Int → Int} {c c' : List Int} {s s' : Int} (hW : 2 ≤ W) (hL : c.length = W * H) (hv : Vw W σ ren c c') (hr : Ren ren s s') {n : Nat} (hn : n < c.length) : at0 (bfs c' W s') n = at0 (bfs c W s) (σ n) := by
  rw [(bfs_hld (s := s') hW (by rw [hv.len]; exact hL)).eq (hld_vw hv hr (bfs_hld hW hL)), at0_mk hn]
theorem con_vw {W : Nat} {σ : Nat → Nat} {ren : Int → Int} {c c' : List Int} {s s' : Int} (hv : Vw W σ ren c c') (hr : Ren ren s s') {a b : Nat} (h : Con (marks c) W a b) : Con (marks c') W (σ a) (σ b) := by
  have hb : ∀ n, bat (marks c) n = true → bat (marks c') (σ n) = true := fun n hn => by
    have hl := bat_lt hn
    rw [marks_len] at hl
    rw [bat_marks] at hn ⊢
    rw [hv.at_ _ (hv.sy.lt n hl), hv.sy.inv n hl]
    exact decide_eq_true ((hr.isl _).2 (of_decide_eq_true hn))
  induction h with
  | refl h => exact Con.refl (hb _ h)
  | step h1 h2 h3 ih =>
    have k1 := bat_lt h1.mk.2
    have k2 := bat_lt h3
    rw [marks_len] at k1 k2
    exact Con.step ih (hv.sy.nb _ _ k1 k2 h2) (hb _ h3)
theorem isl_con {c : List Int} {W H : Nat} (hW : 2 ≤ W) (hL : c.length = W * H) (h1 : c.length ≤ 160) {cs : List Nat} (hc : cs ∈ isl c W) {n k : Nat} (hn : n ∈ cs) : k ∈ cs ↔ Con (marks c) W n k := by
  rw [isl_eq hW hL h1] at hc
  obtain ⟨i, _, rfl⟩ := List.mem_map.1 hc
  have hN := (rnm_ok (c := c) hW h1).1
  obtain ⟨k1, k2⟩ := List.mem_filter.1 hn
  have k3 := of_decide_eq_true k2
  have hnb : bat (marks c) n = true := by rw [bat_marks, nm_mark hW h1 (k := n) (by omega)]; rfl
  obtain ⟨y, e1, e2, e3⟩ := hN.con n hnb
  rw [List.mem_filter]
  constructor
  · rintro ⟨g1, g2⟩
    have g3 := of_decide_eq_true g2
    have hkb : bat (marks c) k = true := by rw [bat_marks, nm_mark hW h1 (k := k) (by omega)]; rfl
    obtain ⟨z, f1, f2, f3⟩ := hN.con k hkb
    have : z = y := by omega
    subst this
    exact e2.symm.trans f2
  · intro hk
    have hl := bat_lt hk.mk.2
    rw [marks_len] at hl
    refine ⟨List.mem_range.2 hl, decide_eq_true ?_⟩
    obtain ⟨z, f1, f2, f3⟩ := hN.con k hk.mk.2
    have a1 := e3 z (f2.trans hk.symm)
    have a2 := f3 y (e2.trans hk)
    omega
theorem isl_has {c : List Int} {W H : Nat} (hW : 2 ≤ W) (hL : c.length = W * H) (h1 : c.length ≤ 160) {n : Nat} (hn : n < c.length) (h3 : at0 c n = 3) : ∃ cs ∈ isl c W, n ∈ cs := by
  obtain ⟨y, g1, g2⟩ := first_mem hW h1 h3
  rw [isl_eq hW hL h1]
  exact ⟨_, List.mem_map.2 ⟨y, g2, rfl⟩, List.mem_filter.2 ⟨List.mem_range.2 hn, decide_eq_true g1⟩⟩
theorem isl_one {c : List Int} {W H : Nat} (hW : 2 ≤ W) (hL : c.length = W * H) (h1 : c.length ≤ 160) {a b : List Nat} (ha : a ∈ isl c W) (hb : b ∈ isl c W) {n : Nat} (h2 : n ∈ a) (h3 : n ∈ b) : a = b := by
  rw [isl_eq hW hL h1] at ha hb
  obtain ⟨i, _, rfl⟩ := List.mem_map.1 ha
  obtain ⟨j, _, rfl⟩ := List.mem_map.1 hb
  have e1 := of_decide_eq_true (List.mem_filter.1 h2).2
  have e2 := of_decide_eq_true (List.mem_filter.1 h3).2
  have : i = j := by omega
  rw [this]
theorem gvL_keep {α : Type} {f : α → Int} : ∀ (l : List α) (x : Int × Int) (y : α × Int), y ∈ l.zip (gvL x (l.map f)) → f y.1 ≠ 3 → y.2 = f y.1
  | [], _, _, h, _ => by cases h
  | a :: l, x, y, h, h3 => by
    rw [List.map_cons, gvL, List.zip_cons_cons] at h
    rcases List.mem_cons.1 h with rfl | h
    · show (gv1 x (f a)).1 = f a
      unfold gv1
      rw [if_neg h3]
    · exact gvL_keep l _ y h h3
theorem fold_one {α : Type} {p : α → Prop} [DecidablePred p] {f : α → Int} {v : Int} : ∀ (l : List α) (s : Int), (∀ x ∈ l, p x → f x = v) → (s = v ∨ ∃ x ∈ l, p x) → l.foldl (fun o x => if p x then f x else o) s = v
  | [], s, _, h => by
    rcases h with h | ⟨x, h, _⟩
    · exact h
    · cases h
  | y :: l, s, h, h2 => by
    rw [List.foldl_cons]
    refine fold_one l _ (fun x hx => h x (List.mem_cons_of_mem _ hx)) ?_
    by_cases hy : p y
    · rw [if_pos hy]; exact .inl (h y List.mem_cons_self hy)
    · rw [if_neg hy]
      rcases h2 with h2 | ⟨x, hx, hp⟩
      · exact .inl h2
      · rcases List.mem_cons.1 hx with e | hx
        · exact absurd (e ▸ hp) hy
        · exact .inr ⟨x, hx, hp⟩
theorem owns_isl {c : List Int} {W H : Nat} (hW : 2 ≤ W) (hL : c.length = W * H) (h1 : c.length ≤ 160) {cs : List Nat} (hc : cs ∈ isl c W) {n : Nat} (hn : n ∈ cs) (h3 : own1 c W cs ≠ 3) : at0 (owns c W) n = own1 c W cs := by
  unfold owns
  rw [fold_set _ _ _ (fun x hx n hn => by rw [ownW_len]; exact isl_in hW hL h1 _ (List.of_mem_zip hx).1 n hn)]
  refine fold_one _ _ (fun x hx hp => ?_) (.inr ?_)
  · have e := isl_one hW hL h1 (List.of_mem_zip hx).1 hc hp hn
    have := gvL_keep _ _ x hx (by rw [e]; exact h3)
    rw [this, e]
  · obtain ⟨o, ho⟩ := zip_ex (b := ownI c W) (by unfold ownI own0; rw [gvL_len, List.length_map]) hc
    exact ⟨_, ho, hn⟩
theorem lowT_eq (T : List Int) (l : List Nat) : lowT T l = leastL (l.map (at0 T)) := by
  unfold lowT leastL; rw [List.foldl_map]
theorem leastL_same {a b : List Int} (h : ∀ x, x ∈ a ↔ x ∈ b) : leastL a = leastL b := by
  by_cases h1 : leastL a = -1
  · rw [h1]
    exact (leastL_none.2 fun x hx => leastL_none.1 h1 x ((h x).2 hx)).symm
  · have h2 : leastL b ≠ -1 := fun e => h1 (leastL_none.2 fun x hx => leastL_none.1 e x ((h x).1 hx))
    obtain ⟨a1, a2⟩ := leastL_some h1
    obtain ⟨b1, b2⟩ := leastL_some h2
    have := a2 _ ((h _).2 b1) h2
    have := b2 _ ((h _).1 a1) h1
    omega
theorem lowT_vw {W H : Nat} {σ : Nat → Nat} {ren : Int → Int} {c c' : List Int} {s s' : Int} (hW : 2 ≤ W) (hL : c.length = W * H) (h1 : c.length ≤ 160) (hv : Vw W σ ren c c') (hr : Ren ren s s') {cs cs' : List Nat} {n : Nat} (hc : cs ∈ isl c W) (hn : n ∈ cs) (hc' : cs' ∈ isl c' W) (hn' : σ n ∈ cs') : lowT (bfs c' W s') cs' = lowT (bfs c W s) cs := by
  have hL' : c'.length = W * H := by rw [hv.len]; exact hL
  have h1' : c'.length ≤ 160 := by rw [hv.len]; exact h1
  have hin := isl_in hW hL h1 cs hc
  have hin' := isl_in hW hL' h1' cs' hc'
  have hv' : Vw W σ (fun x => if x = 3 then 3 else -7) c' (c.map fun x => if x = 3 then 3 else -7) := by
    refine ⟨by rw [hv.len]; exact hv.sy, by rw [List.length_map, hv.len], fun m hm => ?_⟩
    rw [hv.len] at hm
    rw [hv.at_ _ (hv.sy.lt m hm), hv.sy.inv m hm]
    have : at0 (c.map fun x => if x = 3 then 3 else -7) m = if at0 c m = 3 then 3 else -7 := by
      unfold at0
      rw [List.getD_eq_getElem?_getD, List.getD_eq_getElem?_getD, List.getElem?_map, List.getElem?_eq_getElem hm]; rfl
    rw [this]
    by_cases h3 : at0 c m = 3
    · rw [if_pos h3, if_pos ((hr.isl _).2 h3)]
    · rw [if_neg h3, if_neg (fun e => h3 ((hr.isl _).1 e))]
  have hback : ∀ j, j ∈ cs' → σ j ∈ cs := fun j hj => by
    have hjl := hin' j hj
    rw [hv.len] at hjl
    have hcon := (isl_con hW hL' h1' hc' hn').1 hj
    have hm : marks (c.map fun x => if x = 3 then 3 else -7) = marks c := by
      unfold marks
      rw [List.map_map]
      refine List.map_congr_left fun x _ => ?_
      simp only [Function.comp]
      by_cases h3 : x = 3 <;> simp [h3]
    have hstep : ∀ a b, Con (marks c') W a b → Con (marks c) W (σ a) (σ b) := by
      intro a b h
      have hb : ∀ n, bat (marks c') n = true → bat (marks c) (σ n) = true := fun n hn => by
        have hl := bat_lt hn
        rw [marks_len, hv.len] at hl
        rw [bat_marks] at hn ⊢
        have := of_decide_eq_true hn
        rw [hv.at_ _ hl, hr.isl] at this
        exact decide_eq_true this
      induction h with
      | refl h => exact Con.refl (hb _ h)
      | step h1 h2 h3 ih =>
        have k1 := bat_lt h1.mk.2
        have k2 := bat_lt h3
        rw [marks_len, hv.len] at k1 k2
        exact Con.step ih (hv.sy.nb _ _ k1 k2 h2) (hb _ h3)
    have := hstep _ _ hcon
    rw [hv.sy.inv n (hin n hn)] at this
    exact (isl_con hW hL h1 hc hn).2 this
  rw [lowT_eq, lowT_eq]
  refine leastL_same fun x => ?_
  simp only [List.mem_map]
  constructor
  · rintro ⟨j, hj, rfl⟩
    have hjl := hin' j hj
    rw [hv.len] at hjl
    exact ⟨σ j, hback j hj, (bfs_vw hW hL hv hr hjl).symm⟩
  · rintro ⟨k, hk, rfl⟩
    have hkl := hin k hk
    refine ⟨σ k, (isl_con hW hL' h1' hc' hn').2 (con_vw hv hr ((isl_con hW hL h1 hc hn).1 hk)), ?_⟩
    rw [bfs_vw hW hL hv hr (hv.sy.lt k hkl), hv.sy.inv k hkl]
def oth (x : Int) : Int := if x = 1 then 2 else if x = 2 then 1 else x
theorem ren_id {s : Int} : Ren (fun x => x) s s := ⟨fun _ => Iff.rfl, fun _ => Iff.rfl, fun _ => Iff.rfl⟩
theorem oth_iff (x s : Int) : oth x = oth s ↔ x = s := by
  unfold oth
  constructor
  · intro h
    split at h <;> split at h <;> (try split at h) <;> (try split at h) <;> omega
  · intro h; rw [h]
theorem ren_oth (s : Int) : Ren oth s (oth s) :=
  ⟨fun x => oth_iff x 0, fun x => oth_iff x 3, fun x => oth_iff x s⟩
theorem ownr_oth (a b : Int) : ownr b a = oth (ownr a b) := by
  unfold ownr oth
  by_cases h1 : a = -1
  · by_cases h2 : b = -1
    · simp [h1, h2]
    · have h3 : ¬ -1 = b := fun e => h2 e.symm
      simp [h1, h2, h3]
  · by_cases h2 : b = -1
    · have h3 : ¬ -1 = a := fun e => h1 e.symm
      simp [h1, h2, h3]
    · by_cases h4 : a = b
      · subst h4; simp [h1]
      · have h5 : ¬ b = a := fun e => h4 e.symm
        rcases Int.lt_or_le a b with h6 | h6
        · have h7 : ¬ b < a := by omega
          simp [h1, h2, h4, h5, h6, h7]
        · have h6' : ¬ a < b := by omega
          have h7 : b < a := by omega
          simp [h1, h2, h4, h5, h6', h7]
theorem south_ok {W H : Nat} {c c' : List Int} {σ : Nat → Nat} (hW : 2 ≤ W) (hL : c.length = W * H) (h1 : c.length ≤ 160) (hv : Vw W σ (fun x => x) c c') {n : Nat} (hn : n < c.length) :
    at0 (bfs c' W 1) (σ n) = at0 (bfs c W 1) n ∧ (at0 c n ≠ 3 → at0 (owns c' W) (σ n) = at0 (owns c W) n) ∧ (∀ cs ∈ isl c W, n ∈ cs → own1 c W cs ≠ 3 → at0 (owns c' W) (σ n) = at0 (owns c W) n) := by
  have hL' : c'.length = W * H := by rw [hv.len]; exact hL
  have h1' : c'.length ≤ 160 := by rw [hv.len]; exact h1
  have hs := hv.sy.lt n hn
  have hb : ∀ s, at0 (bfs c' W s) (σ n) = at0 (bfs c W s) n := fun s => by
    rw [bfs_vw hW hL hv ren_id hs, hv.sy.inv n hn]
  have hc : at0 c' (σ n) = at0 c n := by rw [hv.at_ _ hs, hv.sy.inv n hn]
  refine ⟨hb 1, fun h3 => ?_, fun cs hcs hm h3 => ?_⟩
  · have hno : ∀ {c : List Int} {n : Nat}, c.length = W * H → c.length ≤ 160 → n < c.length → at0 c n ≠ 3 → at0 (owns c W) n = if at0 c n = 0 then ownr (at0 (bfs c W 1) n) (at0 (bfs c W 2) n) else at0 c n := by
      intro c n hL h1 hn h3
      rw [← owns_eq hW hL h1]
      unfold rowns
      rw [at0_mk hn]
      unfold rown
      by_cases h0 : at0 c n = 0
      · rw [if_pos h0, if_pos h0]
      · rw [if_neg h0, if_neg h0, if_neg h3]
    rw [hno hL h1 hn h3, hno hL' h1' (by rw [hv.len]; exact hs) (by rw [hc]; exact h3), hb, hb, hc]
  · have hc3 : at0 c n = 3 := by
      have := ((isl_con hW hL h1 hcs hm).1 hm).mk.1
      rw [bat_marks] at this
      exact of_decide_eq_true this
    obtain ⟨cs', hcs', hm'⟩ := isl_has hW hL' h1' (n := σ n) (by rw [hv.len]; exact hs) (by rw [hc]; exact hc3)
    have e : own1 c' W cs' = own1 c W cs := by
      unfold own1
      rw [lowT_vw hW hL h1 hv ren_id hcs hm hcs' hm', lowT_vw hW hL h1 hv ren_id hcs hm hcs' hm']
    rw [owns_isl hW hL h1 hcs hm h3, owns_isl hW hL' h1' hcs' hm' (by rw [e]; exact h3), e]
theorem back_ok {W H : Nat} {c c' : List Int} {σ : Nat → Nat} (hW : 2 ≤ W) (hL : c.length = W * H) (h1 : c.length ≤ 160) (hv : Vw W σ oth c c') {n : Nat} (hn : n < c.length) :
    at0 (bfs c' W 2) (σ n) = at0 (bfs c W 1) n ∧ (at0 c n ≠ 3 → at0 (owns c' W) (σ n) = oth (at0 (owns c W) n)) ∧ (∀ cs ∈ isl c W, n ∈ cs → own1 c W cs ≠ 3 → at0 (owns c' W) (σ n) = oth (at0 (owns c W) n)) := by
  have hL' : c'.length = W * H := by rw [hv.len]; exact hL
  have h1' : c'.length ≤ 160 := by rw [hv.len]; exact h1
  have hs := hv.sy.lt n hn
  have hr1 : Ren oth 1 2 := ren_oth 1
  have hr2 : Ren oth 2 1 := ren_oth 2
  have hb1 : at0 (bfs c' W 2) (σ n) = at0 (bfs c W 1) n := by rw [bfs_vw hW hL hv hr1 hs, hv.sy.inv n hn]
  have hb2 : at0 (bfs c' W 1) (σ n) = at0 (bfs c W 2) n := by rw [bfs_vw hW hL hv hr2 hs, hv.sy.inv n hn]
  have hc : at0 c' (σ n) = oth (at0 c n) := by rw [hv.at_ _ hs, hv.sy.inv n hn]
  refine ⟨hb1, fun h3 => ?_, fun cs hcs hm h3 => ?_⟩
  · have hno : ∀ {c : List Int} {n : Nat}, c.length = W * H → c.length ≤ 160 → n < c.length → at0 c n ≠ 3 → at0 (owns c W) n = if at0 c n = 0 then ownr (at0 (bfs c W 1) n) (at0 (bfs c W 2) n) else at0 c n := by
      intro c n hL h1 hn h3
      rw [← owns_eq hW hL h1]
      unfold rowns
      rw [at0_mk hn]
      unfold rown
      by_cases h0 : at0 c n = 0
      · rw [if_pos h0, if_pos h0]
      · rw [if_neg h0, if_neg h0, if_neg h3]
    rw [hno hL h1 hn h3, hno hL' h1' (by rw [hv.len]; exact hs) (by rw [hc]; exact fun e => h3 ((oth_iff _ 3).1 e)), hb1, hb2, hc]
    by_cases h0 : at0 c n = 0
    · rw [if_pos h0, if_pos (show oth (at0 c n) = 0 from (oth_iff _ 0).2 h0), ownr_oth]
    · rw [if_neg h0, if_neg (show ¬ oth (at0 c n) = 0 from fun e => h0 ((oth_iff _ 0).1 e))]
  · have hc3 : at0 c n = 3 := by
      have := ((isl_con hW hL h1 hcs hm).1 hm).mk.1
      rw [bat_marks] at this
      exact of_decide_eq_true this
    obtain ⟨cs', hcs', hm'⟩ := isl_has hW hL' h1' (n := σ n) (by rw [hv.len]; exact hs) (by rw [hc, hc3]; rfl)
    have e : own1 c' W cs' = oth (own1 c W cs) := by
      unfold own1
      rw [lowT_vw hW hL h1 hv hr1 hcs hm hcs' hm', lowT_vw hW hL h1 hv hr2 hcs hm hcs' hm', ownr_oth]
    rw [owns_isl hW hL h1 hcs hm h3, owns_isl hW hL' h1' hcs' hm' (by rw [e]; exact fun e => h3 ((oth_iff _ 3).1 e)), e]
theorem sy_south {W H : Nat} (hW : 2 ≤ W) : Sy W (W * H) fun n => (H - 1 - n / W) * W + n % W := by
  have hp : 0 < W := by omega
  have hq : ∀ n, n < W * H → n / W < H := fun n hn => Nat.div_lt_of_lt_mul hn
  have hd : ∀ q r, r < W → (q * W + r) / W = q ∧ (q * W + r) % W = r := fun q r hr => by
    rw [Nat.mul_comm q W]
    exact ⟨by rw [Nat.mul_add_div hp, Nat.div_eq_of_lt hr, Nat.add_zero], by rw [Nat.mul_add_mod, Nat.mod_eq_of_lt hr]⟩
  refine ⟨fun n hn => ?_, fun n hn => ?_, fun a b ha hb h => ?_⟩
  · have h1 := hq n hn
    have h2 := Nat.mod_lt n hp
    have h3 : (H - 1 - n / W) * W + W ≤ W * H := by
      generalize n / W = q at *
      have := Nat.mul_le_mul_right W (show H - 1 - q + 1 ≤ H by omega)
      rw [Nat.add_mul, Nat.one_mul, Nat.mul_comm H W] at this
      exact this
    try dsimp only
    omega
  · have h1 := hq n hn
    have h2 := hd (H - 1 - n / W) (n % W) (Nat.mod_lt n hp)
    try dsimp only
    rw [h2.1, h2.2, show H - 1 - (H - 1 - n / W) = n / W from (by generalize n / W = q at h1; omega), Nat.mul_comm]
    exact Nat.div_add_mod n W
  · have h1 := hq a ha
    have h2 := hq b hb
    have h3 := hd (H - 1 - a / W) (a % W) (Nat.mod_lt a hp)
    have h4 := hd (H - 1 - b / W) (b % W) (Nat.mod_lt b hp)
    rw [nb_ref hW] at h ⊢
    try dsimp only
    rw [h3.1, h3.2, h4.1, h4.2]
    omega
theorem sy_back {W H : Nat} (hW : 2 ≤ W) : Sy W (W * H) fun n => n / W * W + W - 1 - n % W := by
  have hp : 0 < W := by omega
  have hq : ∀ n, n < W * H → n / W < H := fun n hn => Nat.div_lt_of_lt_mul hn
  have hd : ∀ q r, r < W → (q * W + r) / W = q ∧ (q * W + r) % W = r := fun q r hr => by
    rw [Nat.mul_comm q W]
    exact ⟨by rw [Nat.mul_add_div hp, Nat.div_eq_of_lt hr, Nat.add_zero], by rw [Nat.mul_add_mod, Nat.mod_eq_of_lt hr]⟩
  have he : ∀ n, n / W * W + W - 1 - n % W = n / W * W + (W - 1 - n % W) := fun n => by
    have := Nat.mod_lt n hp
    omega
  refine ⟨fun n hn => ?_, fun n hn => ?_, fun a b ha hb h => ?_⟩
  · have h1 := hq n hn
    have h3 : n / W * W + W ≤ W * H := by
      generalize n / W = q at *
      have := Nat.mul_le_mul_right W (show q + 1 ≤ H by omega)
      rw [Nat.add_mul, Nat.one_mul, Nat.mul_comm H W] at this
      exact this
    try dsimp only
    omega
  · have h0 := Nat.mod_lt n hp
    have h2 := hd (n / W) (W - 1 - n % W) (by omega)
    try dsimp only
    rw [he n, he, h2.1, h2.2, show W - 1 - (W - 1 - n % W) = n % W by omega, Nat.mul_comm]
    exact Nat.div_add_mod n W
  · have g1 := Nat.mod_lt a hp
    have g2 := Nat.mod_lt b hp
    have h3 := hd (a / W) (W - 1 - a % W) (by omega)
    have h4 := hd (b / W) (W - 1 - b % W) (by omega)
    rw [nb_ref hW] at h ⊢
    try dsimp only
    rw [he a, he b, h3.1, h3.2, h4.1, h4.2]
    omega
end Riv

namespace Riv
theorem tried {c : List Int} {W : Nat} {s : Int} {T : List Int} (h : Hld c W s T) {a b : Nat} {k : Int} (ha : a < c.length) (hb : b < c.length) (hn : Nb W a b) (ht : Thr c s a) (h1 : at0 T a ≠ -1) (h2 : at0 T a ≤ k) (hs : at0 c b ≠ s) (ho : Opn c b) : at0 T b ≠ -1 ∧ at0 T b ≤ k + 1 := by
  have h3 := h.low a
  rcases (h.fit b hb).opn hs ho with ⟨_, h4⟩ | ⟨j, b1, b2, b3, b4, b5, b6⟩
  · exact absurd (h4 a ha hn.symm ht) h1
  · have := b6 a ha hn.symm ht h1
    have := h.low j
    omega
theorem ownr_cases (a b : Int) : (ownr a b = 0 ∧ a = -1 ∧ b = -1) ∨ (ownr a b = 3 ∧ a = b ∧ a ≠ -1) ∨ (ownr a b = 1 ∧ a ≠ -1 ∧ (b = -1 ∨ a < b)) ∨ (ownr a b = 2 ∧ b ≠ -1 ∧ (a = -1 ∨ b < a)) := by
  unfold ownr
  by_cases h1 : a = -1 ∧ b = -1
  · exact .inl ⟨by rw [if_pos h1], h1⟩
  · rw [if_neg h1]
    by_cases h2 : a = b
    · exact .inr (.inl ⟨by rw [if_pos h2], h2, fun e => h1 ⟨e, h2 ▸ e⟩⟩)
    · rw [if_neg h2]
      by_cases h3 : b = -1 ∨ a ≠ -1 ∧ a < b
      · exact .inr (.inr (.inl ⟨by rw [if_pos h3], by omega, by omega⟩))
      · exact .inr (.inr (.inr ⟨by rw [if_neg h3], by omega, by omega⟩))
def gvnS : List Int → List Int → Int
  | o :: l, g :: r => (if o = 3 then 2 * g - 3 else 0) + gvnS l r
  | _, _ => 0
theorem gvn_bal : ∀ (l : List Int) (w e M : Int), 1 ≤ M → -M ≤ e - w → e - w ≤ M → -M ≤ e - w + gvnS l (gvL (w, e) l) ∧ e - w + gvnS l (gvL (w, e) l) ≤ M
  | [], w, e, M, _, h1, h2 => by simp [gvL, gvnS]; omega
  | o :: l, w, e, M, h0, h1, h2 => by
    rw [gvL, gvnS]
    unfold gv1
    by_cases h3 : o = 3
    · rw [if_pos h3, if_pos h3]
      dsimp only
      by_cases h4 : e < w
      · rw [if_pos h4]
        have := gvn_bal l w (e + 1) M h0 (by omega) (by omega)
        dsimp only
        omega
      · rw [if_neg h4]
        have := gvn_bal l (w + 1) e M h0 (by omega) (by omega)
        dsimp only
        omega
    · rw [if_neg h3, if_neg h3]
      have := gvn_bal l w e M h0 h1 h2
      dsimp only
      omega
structure BQ (c : List Int) (W : Nat) (f : Nat) (old done todo : List Nat) (met : List Bool) : Prop where
  met : ∀ k, bat met k = true ↔ k ∈ old ∨ k ∈ done ∨ k ∈ todo
  own : ∀ k, k ∈ done ∨ k ∈ todo → Con (marks c) W f k
  fst : f ∈ done ∨ f ∈ todo
  clo : ∀ d ∈ done, ∀ k, Nb W d k → bat (marks c) k = true → k ∈ done ∨ k ∈ todo
def qnew (c : List Int) (W n : Nat) (met : List Bool) : List Nat := (List.range c.length).filter fun k => decide (at0 c k = 3 ∧ bat met k = false ∧ Nb W n k)
def setB (met : List Bool) (l : List Nat) : List Bool := l.foldl (fun m k => m.set k true) met
theorem setB_len : ∀ (l : List Nat) (met : List Bool), (setB met l).length = met.length
  | [], _ => rfl
  | n :: l, met => by have := setB_len l (met.set n true); unfold setB at *; rw [List.foldl_cons, this, List.length_set]
theorem bat_set {m : List Bool} {k : Nat} (hk : k < m.length) (j : Nat) : bat (m.set k true) j = (decide (j = k) || bat m j) := by
  unfold bat
  rw [List.getD_eq_getElem?_getD, List.getElem?_set, List.getD_eq_getElem?_getD]
  by_cases h : k = j
  · subst h; simp [hk]
  · have h2 : ¬ j = k := fun e => h e.symm
    simp [h, h2]
theorem bat_setB : ∀ (l : List Nat) (met : List Bool) (k : Nat), (∀ n ∈ l, n < met.length) → (bat (setB met l) k = true ↔ k ∈ l ∨ bat met k = true)
  | [], _, _, _ => by simp [setB]
  | n :: l, met, k, h => by
    have h1 := bat_setB l (met.set n true) k (fun j hj => by rw [List.length_set]; exact h j (List.mem_cons_of_mem _ hj))
    unfold setB at h1 ⊢
    rw [List.foldl_cons, h1, bat_set (h n List.mem_cons_self)]
    simp only [Bool.or_eq_true, decide_eq_true_eq, List.mem_cons]
    constructor
    · rintro (h | h | h)
      · exact .inl (.inr h)
      · exact .inl (.inl h)
      · exact .inr h
    · rintro ((h | h) | h)
      · exact .inr (.inl h)
      · exact .inl h
      · exact .inr (.inr h)
theorem bq_step {c : List Int} {W f n : Nat} {old done todo : List Nat} {met : List Bool} (hml : met.length = c.length) (hold : ∀ k, Con (marks c) W f k → k ∉ old) (h : BQ c W f old done (n :: todo) met) :
    BQ c W f old (done ++ [n]) (todo ++ qnew c W n met) (setB met (qnew c W n met)) := by
  have hq : ∀ k, k ∈ qnew c W n met ↔ at0 c k = 3 ∧ bat met k = false ∧ Nb W n k := fun k => by
    unfold qnew
    rw [List.mem_filter, List.mem_range]
    simp only [decide_eq_true_eq]
    refine ⟨fun h => h.2, fun h => ⟨?_, h⟩⟩
    refine Decidable.byContradiction fun e => ?_
    have := at0_out (T := c) (n := k) (by omega)
    omega
  have hlt : ∀ k ∈ qnew c W n met, k < met.length := fun k hk => by
    rw [hml]
    unfold qnew at hk
    exact List.mem_range.1 (List.mem_filter.1 hk).1
  have hn := h.own n (.inr List.mem_cons_self)
  refine ⟨fun k => ?_, fun k hk => ?_, ?_, fun d hd k hnb hk => ?_⟩
  · rw [bat_setB _ _ _ hlt, h.met]
    simp only [List.mem_append, List.mem_cons, List.mem_singleton, List.not_mem_nil, or_false]
    constructor
    · rintro (h1 | h1 | h1 | h1 | h1)
      · exact .inr (.inr (.inr h1))
      · exact .inl h1
      · exact .inr (.inl (.inl h1))
      · exact .inr (.inl (.inr h1))
      · exact .inr (.inr (.inl h1))
    · rintro (h1 | (h1 | h1) | (h1 | h1))
      · exact .inr (.inl h1)
      · exact .inr (.inr (.inl h1))
      · exact .inr (.inr (.inr (.inl h1)))
      · exact .inr (.inr (.inr (.inr h1)))
      · exact .inl h1
  · simp only [List.mem_append, List.mem_singleton] at hk
    rcases hk with (h1 | h1) | (h1 | h1)
    · exact h.own k (.inl h1)
    · subst h1; exact hn
    · exact h.own k (.inr (List.mem_cons_of_mem _ h1))
    · obtain ⟨g1, _, g3⟩ := (hq k).1 h1
      exact Con.step hn g3 (by rw [bat_marks]; exact decide_eq_true g1)
  · rcases h.fst with h1 | h1
    · exact .inl (List.mem_append_left _ h1)
    · rcases List.mem_cons.1 h1 with h1 | h1
      · exact .inl (by simp [h1])
      · exact .inr (List.mem_append_left _ h1)
  · have key : bat met k = true → k ∈ done ++ [n] ∨ k ∈ todo ++ qnew c W n met := fun hm => by
      have hc : Con (marks c) W f k := by
        simp only [List.mem_append, List.mem_singleton] at hd
        rcases hd with h1 | h1
        · exact Con.step (h.own d (.inl h1)) hnb hk
        · subst h1; exact Con.step hn hnb hk
      rcases (h.met k).1 hm with h1 | h1 | h1
      · exact absurd h1 (hold k hc)
      · exact .inl (List.mem_append_left _ h1)
      · rcases List.mem_cons.1 h1 with h1 | h1
        · exact .inl (by simp [h1])
        · exact .inr (List.mem_append_left _ h1)
    cases hb : bat met k with
    | true => exact key hb
    | false =>
      simp only [List.mem_append, List.mem_singleton] at hd
      rcases hd with h1 | h1
      · have := h.clo d h1 k hnb hk
        have h2 : bat met k = true := (h.met k).2 (.inr (this))
        rw [hb] at h2; cases h2
      · subst h1
        refine .inr (List.mem_append_right _ ((hq k).2 ⟨?_, hb, hnb⟩))
        rw [bat_marks] at hk
        exact of_decide_eq_true hk
theorem bq_end {c : List Int} {W f : Nat} {old done : List Nat} {met : List Bool} (h : BQ c W f old done [] met) (k : Nat) : k ∈ done ↔ Con (marks c) W f k := by
  refine ⟨fun hk => h.own k (.inl hk), fun hk => ?_⟩
  induction hk with
  | refl _ => rcases h.fst with h1 | h1; exact h1; cases h1
  | step _ h2 h3 ih => rcases h.clo _ ih _ h2 h3 with h1 | h1; exact h1; cases h1
end Riv

namespace Riv
abbrev Dk := Nat × Int
structure Dealt (nx : Dk → Int → Int × Dk) : Prop where
  lo : ∀ d k, 0 ≤ (nx d k).1
  hi : ∀ d k, 0 < k → (nx d k).1 < k
  n : ∀ d k, (nx d k).2.1 ≤ d.1 + 1
structure MOk (W H : Nat) (c : List Int) : Prop where
  w : 3 ≤ W ∧ W ≤ 12
  h : 1 ≤ H ∧ H ≤ 12
  len : c.length = W * H
  kind : ∀ n, n < c.length → 0 ≤ at0 c n ∧ at0 c n ≤ 3
  side : ∀ y, y < H → at0 c (y * W) = 1 ∧ at0 c (y * W + W - 1) = 2
theorem MOk.few {W H : Nat} {c : List Int} (h : MOk W H c) : c.length ≤ 144 ∧ 2 ≤ W ∧ W * H ≤ 144 := by
  have := Nat.mul_le_mul h.w.2 h.h.2
  have := h.len
  have := h.w.1
  omega
section
variable (nx : Dk → Int → Int × Dk)
def cellM (a b : Int) (d : Dk) (x : Nat) : Int × Dk :=
  if (x : Int) < a then (1, d) else if b ≤ (x : Int) then (2, d) else if (nx d 7).1 = 0 then (3, (nx d 7).2) else if (nx (nx d 7).2 20).1 = 0 then (1 + (nx (nx (nx d 7).2 20).2 2).1, (nx (nx (nx d 7).2 20).2 2).2) else (0, (nx (nx d 7).2 20).2)
def cellsM (a b : Int) (x : Dk × List Int) : Nat → Dk × List Int
  | 0 => x
  | k + 1 => ((cellM nx a b (cellsM a b x k).1 k).2, (cellsM a b x k).2 ++ [(cellM nx a b (cellsM a b x k).1 k).1])
def rowA (W : Nat) (d : Dk) : Int × Dk := nx d (max 1 ((W / 3 : Nat) : Int) - 1 + 1)
def rowB (W : Nat) (d : Dk) : Int × Dk := nx (rowA nx W d).2 ((W : Int) - 1 - max (1 + (rowA nx W d).1) ((W : Int) - 3) + 1)
def rowM (W : Nat) (x : Dk × List Int) : Dk × List Int := cellsM nx (1 + (rowA nx W x.1).1) (max (1 + (rowA nx W x.1).1) ((W : Int) - 3) + (rowB nx W x.1).1) ((rowB nx W x.1).2, x.2) W
def rowsM (W : Nat) (x : Dk × List Int) : Nat → Dk × List Int
  | 0 => x
  | y + 1 => rowM nx W (rowsM W x y)
def mdW (d : Dk) (w : Int) : Int × Dk := nx d (w - 4 + 1)
def mdH (d : Dk) (w h : Int) : Int × Dk := nx (mdW nx d w).2 (h - 1 + 1)
def madeX (d : Dk) (w h : Int) : Dk × List Int := rowsM nx (4 + (mdW nx d w).1).toNat ((mdH nx d w h).2, []) (1 + (mdH nx d w h).1).toNat
variable {nx}
theorem cellM_ok (hD : Dealt nx) (a b : Int) (d : Dk) (x : Nat) : (0 ≤ (cellM nx a b d x).1 ∧ (cellM nx a b d x).1 ≤ 3) ∧ (cellM nx a b d x).2.1 ≤ d.1 + 3 := by
  have h1 := hD.n d 7
  have h2 := hD.n (nx d 7).2 20
  have h3 := hD.n (nx (nx d 7).2 20).2 2
  have h4 := hD.lo (nx (nx d 7).2 20).2 2
  have h5 := hD.hi (nx (nx d 7).2 20).2 2 (by decide)
  unfold cellM
  split
  · exact ⟨⟨by dsimp only; omega, by dsimp only; omega⟩, by dsimp only; omega⟩
  · split
    · exact ⟨⟨by dsimp only; omega, by dsimp only; omega⟩, by dsimp only; omega⟩
    · split
      · exact ⟨⟨by dsimp only; omega, by dsimp only; omega⟩, by dsimp only; omega⟩
      · split
        · exact ⟨⟨by dsimp only; omega, by dsimp only; omega⟩, by dsimp only; omega⟩
        · exact ⟨⟨by dsimp only; omega, by dsimp only; omega⟩, by dsimp only; omega⟩
structure CMI (a b : Int) (x y : Dk × List Int) (k : Nat) : Prop where
  n : y.1.1 ≤ x.1.1 + 3 * k
  more : ∃ l, y.2 = x.2 ++ l ∧ l.length = k ∧ (∀ v ∈ l, 0 ≤ v ∧ v ≤ 3) ∧ ∀ j : Nat, j < k → ((j : Int) < a → l[j]? = some 1) ∧ (a ≤ (j : Int) → b ≤ (j : Int) → l[j]? = some 2)
theorem cellsM_ok (hD : Dealt nx) (a b : Int) (x : Dk × List Int) : ∀ k, CMI a b x (cellsM nx a b x k) k
  | 0 => ⟨Nat.le_refl _, [], by simp [cellsM], rfl, by simp, fun j h => by omega⟩
  | k + 1 => by
    obtain ⟨h1, l, h2, h3, h4, h5⟩ := cellsM_ok hD a b x k
    have hc := cellM_ok hD a b (cellsM nx a b x k).1 k
    rw [cellsM]
    refine ⟨by dsimp only; omega, l ++ [(cellM nx a b (cellsM nx a b x k).1 k).1], by rw [h2, List.append_assoc], by simp [h3], fun v hv => ?_, fun j hj => ?_⟩
    · rcases List.mem_append.1 hv with hv | hv
      · exact h4 v hv
      · rw [List.mem_singleton.1 hv]; exact hc.1
    · by_cases hjk : j < k
      · rw [List.getElem?_append_left (by omega)]
        exact h5 j hjk
      · have e : j = k := by omega
        subst e
        rw [List.getElem?_append_right (by omega), h3, Nat.sub_self]
        unfold cellM
        refine ⟨fun h => by rw [if_pos h]; rfl, fun h6 h7 => by rw [if_neg (by omega), if_pos h7]; rfl⟩
theorem at0_app {a b : List Int} {n : Nat} : at0 (a ++ b) n = if n < a.length then at0 a n else at0 b (n - a.length) := by
  unfold at0
  rw [List.getD_eq_getElem?_getD]
  split
  · rename_i h; rw [List.getElem?_append_left h, List.getD_eq_getElem?_getD]
  · rename_i h; rw [List.getElem?_append_right (by omega), List.getD_eq_getElem?_getD]
structure RMI (W : Nat) (d : Dk) (x : Dk × List Int) (k : Nat) : Prop where
  n : x.1.1 ≤ d.1 + (2 + 3 * W) * k
  len : x.2.length = k * W
  kind : ∀ n, n < x.2.length → 0 ≤ at0 x.2 n ∧ at0 x.2 n ≤ 3
  side : ∀ y, y < k → at0 x.2 (y * W) = 1 ∧ at0 x.2 (y * W + W - 1) = 2
theorem rowM_ok (hD : Dealt nx) {W k : Nat} (hW : 4 ≤ W) {d : Dk} {x : Dk × List Int} (h : RMI W d x k) : RMI W d (rowM nx W x) (k + 1) := by
  have a1 := hD.lo x.1 (max 1 ((W / 3 : Nat) : Int) - 1 + 1)
  have a2 := hD.hi x.1 (max 1 ((W / 3 : Nat) : Int) - 1 + 1) (by omega)
  have a3 := hD.n x.1 (max 1 ((W / 3 : Nat) : Int) - 1 + 1)
  rw [show nx x.1 (max 1 ((W / 3 : Nat) : Int) - 1 + 1) = rowA nx W x.1 from rfl] at a1 a2 a3
  have b1 := hD.lo (rowA nx W x.1).2 ((W : Int) - 1 - max (1 + (rowA nx W x.1).1) ((W : Int) - 3) + 1)
  have b2 := hD.hi (rowA nx W x.1).2 ((W : Int) - 1 - max (1 + (rowA nx W x.1).1) ((W : Int) - 3) + 1) (by omega)
  have b3 := hD.n (rowA nx W x.1).2 ((W : Int) - 1 - max (1 + (rowA nx W x.1).1) ((W : Int) - 3) + 1)
  rw [show nx (rowA nx W x.1).2 ((W : Int) - 1 - max (1 + (rowA nx W x.1).1) ((W : Int) - 3) + 1) = rowB nx W x.1 from rfl] at b1 b2 b3
  have hc := cellsM_ok hD (1 + (rowA nx W x.1).1) (max (1 + (rowA nx W x.1).1) ((W : Int) - 3) + (rowB nx W x.1).1) ((rowB nx W x.1).2, x.2) W
  rw [show cellsM nx (1 + (rowA nx W x.1).1) (max (1 + (rowA nx W x.1).1) ((W : Int) - 3) + (rowB nx W x.1).1) ((rowB nx W x.1).2, x.2) W = rowM nx W x from rfl] at hc
  obtain ⟨h1, l, h2, h3, h4, h5⟩ := hc
  dsimp only at h1 h2
  have hl := h.len
  refine ⟨?_, ?_, fun n hn => ?_, fun y hy => ?_⟩
  · have := h.n
    rw [Nat.mul_add, Nat.mul_one]
    omega
  · rw [h2, List.length_append, h3, hl, Nat.add_mul, Nat.one_mul]
  · rw [h2, at0_app]
    split
    · rename_i h6; exact h.kind n h6
    · rename_i h6
      rw [h2, List.length_append] at hn
      have h7 : n - x.2.length < l.length := by omega
      have e : at0 l (n - x.2.length) = l[n - x.2.length] := by unfold at0; rw [List.getD_eq_getElem?_getD, List.getElem?_eq_getElem h7]; rfl
      rw [e]
      exact h4 _ (List.getElem_mem h7)
  · by_cases hyk : y < k
    · have h6 : (y + 1) * W ≤ k * W := Nat.mul_le_mul_right W hyk
      rw [Nat.add_mul, Nat.one_mul] at h6
      rw [h2, at0_app, at0_app, if_pos (by omega), if_pos (by omega)]
      exact h.side y hyk
    · have e : y = k := by omega
      subst e
      rw [h2, at0_app, at0_app, if_neg (by omega), if_neg (by omega), hl, Nat.sub_self, show y * W + W - 1 - y * W = W - 1 by omega]
      have g1 := (h5 0 (by omega)).1 (by omega)
      have g2 := (h5 (W - 1) (by omega)).2 (by omega) (by omega)
      unfold at0
      rw [List.getD_eq_getElem?_getD, List.getD_eq_getElem?_getD, g1, g2]
      exact ⟨rfl, rfl⟩
theorem rowsM_ok (hD : Dealt nx) {W : Nat} (hW : 4 ≤ W) {d : Dk} : ∀ k, RMI W d (rowsM nx W (d, []) k) k
  | 0 => ⟨Nat.le_refl _, by simp [rowsM], fun n hn => by simp [rowsM] at hn, fun y hy => by omega⟩
  | k + 1 => rowM_ok hD hW (rowsM_ok hD hW k)
theorem madeX_ok (hD : Dealt nx) {d : Dk} {w h : Int} (hw : 4 ≤ w ∧ w ≤ 12) (hh : 1 ≤ h ∧ h ≤ 12) : ∃ W H : Nat, 4 + (mdW nx d w).1 = W ∧ 1 + (mdH nx d w h).1 = H ∧ (W : Int) ≤ w ∧ (H : Int) ≤ h ∧ 4 ≤ W ∧ MOk W H (madeX nx d w h).2 ∧ (madeX nx d w h).1.1 ≤ d.1 + 500 ∧ madeX nx d w h = rowsM nx W ((mdH nx d w h).2, []) H := by
  have a1 := hD.lo d (w - 4 + 1)
  have a2 := hD.hi d (w - 4 + 1) (by omega)
  have a3 := hD.n d (w - 4 + 1)
  rw [show nx d (w - 4 + 1) = mdW nx d w from rfl] at a1 a2 a3
  have b1 := hD.lo (mdW nx d w).2 (h - 1 + 1)
  have b2 := hD.hi (mdW nx d w).2 (h - 1 + 1) (by omega)
  have b3 := hD.n (mdW nx d w).2 (h - 1 + 1)
  rw [show nx (mdW nx d w).2 (h - 1 + 1) = mdH nx d w h from rfl] at b1 b2 b3
  obtain ⟨W, eW⟩ : ∃ W : Nat, 4 + (mdW nx d w).1 = W := ⟨(4 + (mdW nx d w).1).toNat, by omega⟩
  obtain ⟨H, eH⟩ : ∃ H : Nat, 1 + (mdH nx d w h).1 = H := ⟨(1 + (mdH nx d w h).1).toNat, by omega⟩
  have hr := rowsM_ok hD (W := W) (d := (mdH nx d w h).2) (by omega) H
  have e : madeX nx d w h = rowsM nx W ((mdH nx d w h).2, []) H := by
    unfold madeX
    rw [eW, eH, Int.toNat_natCast, Int.toNat_natCast]
  refine ⟨W, H, eW, eH, by omega, by omega, by omega, ?_, ?_, e⟩
  · rw [e]
    exact ⟨⟨by omega, by omega⟩, ⟨by omega, by omega⟩, by rw [hr.len, Nat.mul_comm], hr.kind, hr.side⟩
  · rw [e]
    have h1 := hr.n
    have h2 : (2 + 3 * W) * H ≤ 38 * 12 := Nat.mul_le_mul (by omega) (by omega)
    omega
end
end Riv

namespace Riv
section
variable (nx : Dk → Int → Int × Dk)
def la (x : Dk × List Int) : Int × Dk := nx x.1 (x.2.length : Int)
def lk (x : Dk × List Int) : Int × Dk := nx (la nx x).2 4
def lb (x : Dk × List Int) : Int × Dk := nx (lk nx x).2 (4 - 1 + 1)
variable {nx}
end
theorem yrs_of {W H : Nat} {l : List (List Int)} (h0 : 0 < l.length) (h : ∀ c ∈ l, MOk W H c) : Yrs W H l := by
  have hm : ∀ y, y < l.length → MOk W H (l.getD y []) := fun y hy => by
    have e : l.getD y [] = l[y] := by rw [List.getD_eq_getElem?_getD, List.getElem?_eq_getElem hy]; rfl
    rw [e]; exact h _ (List.getElem_mem hy)
  have hf := (hm 0 h0).few
  exact ⟨hf.2.1, by omega, fun y hy => (hm y hy).len⟩
theorem lawAt_mok {W H : Nat} {l : List (List Int)} (h : ∀ c ∈ l, MOk W H c) (slow : Int) {y : Nat} (hy : y < l.length) : MOk W H (lawAt W l slow y) := by
  have hY := yrs_of (by omega) h
  have hm : ∀ y, y < l.length → MOk W H (l.getD y []) := fun y hy => by
    have e : l.getD y [] = l[y] := by rw [List.getD_eq_getElem?_getD, List.getElem?_eq_getElem hy]; rfl
    rw [e]; exact h _ (List.getElem_mem hy)
  have h1 := hm y hy
  have hl := lawAt_len hY slow y hy
  refine ⟨h1.w, h1.h, hl, fun n hn => ?_, fun q hq => ?_⟩
  · obtain ⟨z, hz, e⟩ := lawAt_src hY slow n y hy
    rw [e]
    exact (hm z hz).kind n (by rw [(hm z hz).len]; omega)
  · obtain ⟨z, hz, e⟩ := lawAt_src hY slow (q * W) y hy
    obtain ⟨u, hu, f⟩ := lawAt_src hY slow (q * W + W - 1) y hy
    rw [e, f]
    exact ⟨((hm z hz).side q hq).1, ((hm u hu).side q hq).2⟩
end Riv

namespace Riv
def sideB (c : List Int) (W : Nat) (y : Nat) : Bool := decide (at0 c (y * W) = 1 ∧ at0 c (y * W + W - 1) = 2)
def kindB (c : List Int) : Bool := c.all fun x => decide (0 ≤ x ∧ x ≤ 3)
def chkM (m : Mp) : Int :=
  if ((3 ≤ m.w ∧ m.w ≤ 12) ∧ 1 ≤ m.h ∧ m.h ≤ 12) ∧ (m.c.length : Int) = m.w * m.h then
    (bif kindB m.c then (bif (List.range m.h.toNat).all (sideB m.c m.w.toNat) then 0 else 9) else 4)
  else 3
def chkL : List Mp → Int
  | [] => 0
  | m :: l => if chkM m = 0 then chkL l else chkM m
def sameB (m : Mp) (l : List Mp) : Bool := l.all fun x => decide (x.w = m.w ∧ x.h = m.h)
def chkY (l : List Mp) : Int := if 1 ≤ l.length ∧ l.length ≤ 10 then (if chkL l = 0 then (bif sameB (l.headD ⟨0, 0, []⟩) l then 0 else 2) else chkL l) else 3
theorem chkM_ok {m : Mp} (h : chkM m = 0) : ∃ W H : Nat, m.w = W ∧ m.h = H ∧ MOk W H m.c := by
  unfold chkM at h
  split at h
  · rename_i h1
    obtain ⟨W, eW⟩ : ∃ W : Nat, m.w = W := ⟨m.w.toNat, by omega⟩
    obtain ⟨H, eH⟩ : ∃ H : Nat, m.h = H := ⟨m.h.toNat, by omega⟩
    cases hk : kindB m.c with
    | false => rw [hk] at h; simp at h
    | true =>
      rw [hk, cond_true] at h
      cases hs : (List.range m.h.toNat).all (sideB m.c m.w.toNat) with
      | false => rw [hs] at h; simp at h
      | true =>
        rw [eW, eH, Int.toNat_natCast, Int.toNat_natCast] at hs
        rw [eW, eH] at h1
        refine ⟨W, H, eW, eH, ⟨by omega, by omega⟩, ⟨by omega, by omega⟩, ?_, fun n hn => ?_, fun y hy => ?_⟩
        · have := h1.2
          have e : ((W * H : Nat) : Int) = (W : Int) * H := by rw [Int.natCast_mul]
          omega
        · unfold kindB at hk
          rw [List.all_eq_true] at hk
          have e : at0 m.c n = m.c[n] := by unfold at0; rw [List.getD_eq_getElem?_getD, List.getElem?_eq_getElem hn]; rfl
          rw [e]
          exact of_decide_eq_true (hk _ (List.getElem_mem hn))
        · rw [List.all_eq_true] at hs
          exact of_decide_eq_true (hs y (List.mem_range.2 hy))
  · simp at h
theorem chkM_of {W H : Nat} {c : List Int} (h : MOk W H c) : chkM ⟨W, H, c⟩ = 0 := by
  unfold chkM
  have h1 := h.w; have h2 := h.h; have h3 := h.len
  have e : ((W * H : Nat) : Int) = (W : Int) * H := by rw [Int.natCast_mul]
  rw [if_pos (by dsimp only; refine ⟨by omega, ?_⟩; omega)]
  have hk : kindB c = true := by
    unfold kindB
    rw [List.all_eq_true]
    intro x hx
    obtain ⟨n, hn, rfl⟩ := List.getElem_of_mem hx
    have e : at0 c n = c[n] := by unfold at0; rw [List.getD_eq_getElem?_getD, List.getElem?_eq_getElem hn]; rfl
    rw [← e]
    exact decide_eq_true (h.kind n hn)
  have hs : (List.range H).all (sideB c W) = true := by
    rw [List.all_eq_true]
    intro y hy
    exact decide_eq_true (h.side y (List.mem_range.1 hy))
  dsimp only
  rw [hk, Int.toNat_natCast, Int.toNat_natCast, hs]
  rfl
theorem chkL_zero : ∀ {l : List Mp}, chkL l = 0 → ∀ m ∈ l, chkM m = 0
  | [], _, m, h => by cases h
  | x :: l, h, m, hm => by
    rw [chkL] at h
    by_cases hx : chkM x = 0
    · rw [if_pos hx] at h
      rcases List.mem_cons.1 hm with rfl | hm
      · exact hx
      · exact chkL_zero h m hm
    · rw [if_neg hx] at h; exact absurd h hx
theorem chkY_ok {l : List Mp} (h : chkY l = 0) : ∃ W H : Nat, (1 ≤ l.length ∧ l.length ≤ 10) ∧ ∀ m ∈ l, m.w = W ∧ m.h = H ∧ MOk W H m.c := by
  unfold chkY at h
  split at h
  · rename_i h1
    split at h
    · rename_i h2
      cases hs : sameB (l.headD ⟨0, 0, []⟩) l with
      | false => rw [hs] at h; simp at h
      | true =>
        cases l with
        | nil => simp at h1
        | cons m l =>
          obtain ⟨W, H, eW, eH, _⟩ := chkM_ok (chkL_zero h2 m List.mem_cons_self)
          refine ⟨W, H, h1, fun x hx => ?_⟩
          unfold sameB at hs
          rw [List.all_eq_true] at hs
          have g := of_decide_eq_true (hs x hx)
          have g1 : x.w = m.w := g.1
          have g2 : x.h = m.h := g.2
          obtain ⟨W', H', e1, e2, hm⟩ := chkM_ok (chkL_zero h2 x hx)
          have a1 : W' = W := by omega
          have a2 : H' = H := by omega
          subst a1; subst a2
          exact ⟨e1, e2, hm⟩
    · rename_i h2; exact absurd h h2
  · simp at h
def cellsY (l : List Mp) : List (List Int) := l.map fun m => m.c
theorem cellsY_ok {W H : Nat} {l : List Mp} (h : ∀ m ∈ l, m.w = W ∧ m.h = H ∧ MOk W H m.c) : ∀ c ∈ cellsY l, MOk W H c := by
  intro c hc
  obtain ⟨m, hm, rfl⟩ := List.mem_map.1 hc
  exact (h m hm).2.2
end Riv

namespace Riv
structure SetK (σ : Nat → Nat) (g : Int → Int) (c S : List Int) (k : Nat) : Prop where
  len : S.length = c.length
  at_ : ∀ j, j < k → at0 S (σ j) = g (at0 c j)
theorem SetK.step {W : Nat} {σ : Nat → Nat} {g : Int → Int} {c S : List Int} {k : Nat} (hs : Sy W c.length σ) (hk : k < c.length) (h : SetK σ g c S k) : SetK σ g c (S.set (σ k) (g (at0 c k))) (k + 1) := by
  refine ⟨by rw [List.length_set]; exact h.len, fun j hj => ?_⟩
  rw [at0_set (by rw [h.len]; exact hs.lt k hk)]
  by_cases e : σ j = σ k
  · have : j = k := by rw [← hs.inv j (by omega), e, hs.inv k hk]
    rw [if_pos e, this]
  · rw [if_neg e]
    have : j ≠ k := fun x => e (by rw [x])
    exact h.at_ j (by omega)
theorem SetK.vw {W : Nat} {σ : Nat → Nat} {g : Int → Int} {c S : List Int} (hs : Sy W c.length σ) (h : SetK σ g c S c.length) : Vw W σ g c S :=
  ⟨hs, h.len, fun n hn => by
    have := h.at_ (σ n) (hs.lt n hn)
    rwa [hs.inv n hn] at this⟩
theorem row_ends {W H y : Nat} (hW : 2 ≤ W) (hy : y < H) : y * W < W * H ∧ y * W + W - 1 < W * H ∧ (y * W) / W = y ∧ (y * W) % W = 0 ∧ (y * W + W - 1) / W = y ∧ (y * W + W - 1) % W = W - 1 := by
  have hd : ∀ q r, r < W → (q * W + r) / W = q ∧ (q * W + r) % W = r := fun q r hr => by
    rw [Nat.mul_comm q W]
    exact ⟨by rw [Nat.mul_add_div (by omega), Nat.div_eq_of_lt hr, Nat.add_zero], by rw [Nat.mul_add_mod, Nat.mod_eq_of_lt hr]⟩
  have h3 := Nat.mul_le_mul_right W (show y + 1 ≤ H by omega)
  rw [Nat.add_mul, Nat.one_mul, Nat.mul_comm H W] at h3
  have g1 := hd y 0 (by omega)
  have g2 := hd y (W - 1) (by omega)
  rw [Nat.add_zero] at g1
  rw [show y * W + W - 1 = y * W + (W - 1) by omega]
  exact ⟨by omega, by omega, g1.1, g1.2, g2.1, g2.2⟩
theorem south_mok {W H : Nat} {c S : List Int} (o : MOk W H c) (h : Vw W (fun n => (H - 1 - n / W) * W + n % W) (fun x => x) c S) : MOk W H S := by
  have hW := o.few.2.1
  refine ⟨o.w, o.h, by rw [h.len]; exact o.len, fun n hn => ?_, fun y hy => ?_⟩
  · rw [h.len] at hn
    rw [h.at_ n hn]
    exact o.kind _ (h.sy.lt n hn)
  · obtain ⟨g1, g2, g3, g4, g5, g6⟩ := row_ends hW hy
    rw [h.at_ _ (by rw [o.len]; exact g1), h.at_ _ (by rw [o.len]; exact g2)]
    try dsimp only
    rw [g3, g4, g5, g6, Nat.add_zero]
    have := o.side (H - 1 - y) (by omega)
    refine ⟨this.1, ?_⟩
    rw [show (H - 1 - y) * W + (W - 1) = (H - 1 - y) * W + W - 1 by omega]
    exact this.2
theorem back_mok {W H : Nat} {c S : List Int} (o : MOk W H c) (h : Vw W (fun n => n / W * W + W - 1 - n % W) oth c S) : MOk W H S := by
  have hW := o.few.2.1
  refine ⟨o.w, o.h, by rw [h.len]; exact o.len, fun n hn => ?_, fun y hy => ?_⟩
  · rw [h.len] at hn
    rw [h.at_ n hn]
    have := o.kind _ (h.sy.lt n hn)
    unfold oth
    split
    · decide
    · split
      · decide
      · exact this
  · obtain ⟨g1, g2, g3, g4, g5, g6⟩ := row_ends hW hy
    rw [h.at_ _ (by rw [o.len]; exact g1), h.at_ _ (by rw [o.len]; exact g2)]
    try dsimp only
    rw [g3, g4, g5, g6]
    have := o.side y hy
    rw [show y * W + W - 1 - 0 = y * W + W - 1 by omega, show y * W + W - 1 - (W - 1) = y * W by omega, this.1, this.2]
    decide
theorem zip_map_mem {α β γ : Type} {f : α → β} : ∀ (l : List α) (m : List γ) (y : α × β × γ), y ∈ l.zip ((l.map f).zip m) → y.1 ∈ l ∧ y.2.1 = f y.1
  | [], _, y, h => by simp at h
  | a :: l, [], y, h => by simp at h
  | a :: l, b :: m, y, h => by
    rw [List.map_cons, List.zip_cons_cons, List.zip_cons_cons] at h
    rcases List.mem_cons.1 h with h | h
    · rw [h]
      exact ⟨List.mem_cons_self, rfl⟩
    · have := zip_map_mem l m y h
      exact ⟨List.mem_cons_of_mem _ this.1, this.2⟩
theorem isl_ne {c : List Int} {W H : Nat} (hW : 2 ≤ W) (hL : c.length = W * H) (h1 : c.length ≤ 160) {cs : List Nat} (h : cs ∈ isl c W) : cs.headD 0 ∈ cs := by
  rw [isl_eq hW hL h1] at h
  obtain ⟨i, hi, rfl⟩ := List.mem_map.1 h
  have hm : i ∈ (List.range c.length).filter fun k => decide (at0 (rnm c W) k = (i : Int)) := by
    have := List.mem_filter.1 hi
    exact List.mem_filter.2 ⟨this.1, this.2⟩
  generalize (List.range c.length).filter (fun k => decide (at0 (rnm c W) k = (i : Int))) = l at *
  cases l with
  | nil => cases hm
  | cons a l => exact List.mem_cons_self
theorem near_own {c : List Int} {W H n : Nat} (hW : 2 ≤ W) (hL : c.length = W * H) (h1 : c.length ≤ 160) {x : Sh} (hx : x ∈ shr c W) (hf : x.f = (n : Int)) (hr : x.nr = true) : ∃ cs ∈ isl c W, n ∈ cs ∧ own1 c W cs ≠ 3 := by
  unfold shr at hx
  obtain ⟨y, hy, rfl⟩ := List.mem_map.1 hx
  unfold own0 at hy
  have hz := zip_map_mem _ _ _ hy
  have hh := isl_ne hW hL h1 hz.1
  dsimp only at hf hr
  have hd := of_decide_eq_true hr
  refine ⟨y.1, hz.1, ?_, ?_⟩
  · have : y.1.headD 0 = n := by exact Int.ofNat.inj hf
    rwa [← this]
  · rw [← hz.2]
    omega
theorem turned_cell {W H : Nat} {c S B : List Int} (o : MOk W H c) (hS : Vw W (fun n => (H - 1 - n / W) * W + n % W) (fun x => x) c S) (hB : Vw W (fun n => n / W * W + W - 1 - n % W) oth c B) {n : Nat} (hn : n < c.length) :
    at0 (bfs B W 2) (n / W * W + W - 1 - n % W) = at0 (bfs c W 1) n ∧ ((at0 c n ≠ 3 ∨ ∃ x ∈ shr c W, x.f = (n : Int) ∧ x.nr = true) →
      at0 (owns S W) ((H - 1 - n / W) * W + n % W) = at0 (owns c W) n ∧ at0 (owns B W) (n / W * W + W - 1 - n % W) = oth (at0 (owns c W) n)) := by
  have hw := o.few.2.1
  have h1 : c.length ≤ 160 := by have := o.few.1; omega
  have a1 := south_ok hw o.len h1 hS hn
  have a2 := back_ok hw o.len h1 hB hn
  refine ⟨a2.1, fun h => ?_⟩
  rcases h with h | ⟨x, hx, hf, hr⟩
  · exact ⟨a1.2.1 h, a2.2.1 h⟩
  · obtain ⟨cs, g1, g2, g3⟩ := near_own hw o.len h1 hx hf hr
    exact ⟨a1.2.2 cs g1 g2 g3, a2.2.2 cs g1 g2 g3⟩
end Riv

namespace Riv
def frs (c : List Int) (W i : Nat) : Nat := (firsts c W).getD i 0
def csI (c : List Int) (W i : Nat) : List Nat := (List.range c.length).filter fun k => decide (at0 (rnm c W) k = (frs c W i : Int))
theorem frs_at {c : List Int} {W i : Nat} (hi : i < (firsts c W).length) : (firsts c W)[i]? = some (frs c W i) := by
  unfold frs
  rw [List.getD_eq_getElem?_getD, List.getElem?_eq_getElem hi]; rfl
theorem frs_mem {c : List Int} {W i : Nat} (hi : i < (firsts c W).length) : frs c W i ∈ firsts c W := List.mem_of_getElem? (frs_at hi)
theorem frs_mono {c : List Int} {W i j : Nat} (h : i < j) (hj : j < (firsts c W).length) : frs c W i < frs c W j := by
  have hp : (firsts c W).Pairwise (· < ·) := List.Pairwise.filter _ List.pairwise_lt_range
  have := List.pairwise_iff_getElem.1 hp i j (by omega) hj h
  have e1 := frs_at (c := c) (W := W) (i := i) (by omega)
  have e2 := frs_at hj
  rw [List.getElem?_eq_getElem (by omega)] at e1
  rw [List.getElem?_eq_getElem hj] at e2
  rw [← Option.some.inj e1, ← Option.some.inj e2]
  exact this
theorem frs_inj {c : List Int} {W i j : Nat} (hi : i < (firsts c W).length) (hj : j < (firsts c W).length) (h : frs c W i = frs c W j) : i = j := by
  rcases Nat.lt_trichotomy i j with h1 | h1 | h1
  · have := frs_mono h1 hj; omega
  · exact h1
  · have := frs_mono h1 hi; omega
section
variable {c : List Int} {W H : Nat} (hW : 2 ≤ W) (hL : c.length = W * H) (h1 : c.length ≤ 160)
include hW hL h1
theorem isl_at {i : Nat} (hi : i < (firsts c W).length) : (isl c W)[i]? = some (csI c W i) := by
  rw [isl_eq hW hL h1, List.getElem?_map, frs_at hi]; rfl
theorem isl_len : (isl c W).length = (firsts c W).length := by rw [isl_eq hW hL h1, List.length_map]
theorem csI_in {i : Nat} (hi : i < (firsts c W).length) : csI c W i ∈ isl c W := List.mem_of_getElem? (isl_at hW hL h1 hi)
omit hW hL h1 in
theorem csI_mem {i k : Nat} : k ∈ csI c W i ↔ k < c.length ∧ at0 (rnm c W) k = (frs c W i : Int) := by
  unfold csI
  rw [List.mem_filter, List.mem_range, decide_eq_true_eq]
omit hW hL h1 in
theorem frs_own {i : Nat} (hi : i < (firsts c W).length) : frs c W i ∈ csI c W i := by
  have := List.mem_filter.1 (frs_mem hi)
  exact csI_mem.2 ⟨List.mem_range.1 this.1, of_decide_eq_true this.2⟩
theorem csI_con {i : Nat} (hi : i < (firsts c W).length) (k : Nat) : k ∈ csI c W i ↔ Con (marks c) W (frs c W i) k := isl_con hW hL h1 (csI_in hW hL h1 hi) (frs_own hi)
omit hW hL h1 in
theorem csI_dis {i j k : Nat} (hi : i < (firsts c W).length) (hj : j < (firsts c W).length) (h2 : k ∈ csI c W i) (h3 : k ∈ csI c W j) : i = j := by
  have e1 := (csI_mem.1 h2).2
  have e2 := (csI_mem.1 h3).2
  exact frs_inj hi hj (by omega)
omit hL in
theorem csI_ge {i k : Nat} (h2 : k ∈ csI c W i) : frs c W i ≤ k ∧ at0 c k = 3 := by
  have e1 := (csI_mem.1 h2).2
  exact ⟨first_le hW h1 e1, nm_mark hW h1 (by omega)⟩
theorem own0_at {i : Nat} (hi : i < (firsts c W).length) : at0 (own0 c W) i = own1 c W (csI c W i) := by
  unfold own0 at0
  rw [List.getD_eq_getElem?_getD, List.getElem?_map, isl_at hW hL h1 hi]; rfl
omit hW hL h1 in
theorem gvL_at : ∀ (l : List Int) (x : Int × Int) (i : Nat), i < l.length → (at0 l i ≠ 3 → at0 (gvL x l) i = at0 l i) ∧ (at0 l i = 3 → at0 (gvL x l) i = 1 ∨ at0 (gvL x l) i = 2)
  | [], _, _, h => by cases h
  | a :: l, x, 0, _ => by
    rw [gvL]
    show (a ≠ 3 → (gv1 x a).1 = a) ∧ (a = 3 → (gv1 x a).1 = 1 ∨ (gv1 x a).1 = 2)
    unfold gv1
    refine ⟨fun h => by rw [if_neg h], fun h => ?_⟩
    rw [if_pos h]
    split
    · exact .inr rfl
    · exact .inl rfl
  | a :: l, x, i + 1, h => by
    rw [gvL]
    exact gvL_at l _ i (by simpa using h)
theorem ownI_at {i : Nat} (hi : i < (firsts c W).length) : (at0 (own0 c W) i ≠ 3 → at0 (ownI c W) i = at0 (own0 c W) i) ∧ (at0 (own0 c W) i = 3 → at0 (ownI c W) i = 1 ∨ at0 (ownI c W) i = 2) := by
  unfold ownI
  exact gvL_at _ _ i (by rw [(ownI_len hW hL h1).2]; exact hi)
theorem shr_at {i : Nat} (hi : i < (firsts c W).length) : (shr c W)[i]? = some ⟨(frs c W i : Int), at0 (ownI c W) i, decide (at0 (own0 c W) i = 1 ∨ at0 (own0 c W) i = 2)⟩ := by
  have hl := ownI_len hW hL h1
  rw [← rshr_eq hW hL h1]
  unfold rshr
  rw [rown0_eq hW hL h1, rg_eq, List.getElem?_map]
  have e1 : (own0 c W)[i]? = some (at0 (own0 c W) i) := by
    unfold at0; rw [List.getD_eq_getElem?_getD, List.getElem?_eq_getElem (by omega)]; rfl
  have e2 : (ownI c W)[i]? = some (at0 (ownI c W) i) := by
    unfold at0; rw [List.getD_eq_getElem?_getD, List.getElem?_eq_getElem (by omega)]; rfl
  have e3 : ((firsts c W).zip ((own0 c W).zip (ownI c W)))[i]? = some (frs c W i, at0 (own0 c W) i, at0 (ownI c W) i) := by
    rw [List.getElem?_zip_eq_some]
    refine ⟨frs_at hi, ?_⟩
    rw [List.getElem?_zip_eq_some]
    exact ⟨e1, e2⟩
  unfold ownI at e3
  rw [e3]
  rfl
theorem shr_length : (shr c W).length = (firsts c W).length := by
  have hl := ownI_len hW hL h1
  unfold shr
  rw [List.length_map, List.length_zip, List.length_zip, isl_len hW hL h1, hl.1, hl.2]; omega
theorem owns_at {i k : Nat} (hi : i < (firsts c W).length) (hk : k ∈ csI c W i) : at0 (owns c W) k = at0 (ownI c W) i := by
  have hl := ownI_len hW hL h1
  unfold owns
  rw [fold_set _ _ _ (fun x hx n hn => by rw [ownW_len]; exact isl_in hW hL h1 _ (List.of_mem_zip hx).1 n hn)]
  have e2 : (ownI c W)[i]? = some (at0 (ownI c W) i) := by
    unfold at0; rw [List.getD_eq_getElem?_getD, List.getElem?_eq_getElem (by omega)]; rfl
  refine fold_one (f := fun x : List Nat × Int => x.2) (p := fun x => k ∈ x.1) _ _ (fun x hx hp => ?_) (.inr ⟨(csI c W i, at0 (ownI c W) i), ?_, hk⟩)
  · obtain ⟨j, hj⟩ := List.mem_iff_getElem?.1 hx
    rw [List.getElem?_zip_eq_some] at hj
    have hj2 : j < (firsts c W).length := by
      have := (List.getElem?_eq_some_iff.1 hj.1).1
      rwa [isl_len hW hL h1] at this
    have hc := hj.1
    rw [isl_at hW hL h1 hj2] at hc
    have hp2 : k ∈ csI c W j := by rw [Option.some.inj hc]; exact hp
    have := csI_dis hi hj2 hk hp2
    subst this
    have := hj.2
    rw [e2] at this
    exact (Option.some.inj this).symm
  · refine List.mem_iff_getElem?.2 ⟨i, ?_⟩
    rw [List.getElem?_zip_eq_some]
    exact ⟨isl_at hW hL h1 hi, e2⟩
def oldL (c : List Int) (W i : Nat) : List Nat := ((isl c W).take i).flatten
theorem oldL_mem {i k : Nat} : k ∈ oldL c W i ↔ ∃ j, j < i ∧ j < (firsts c W).length ∧ k ∈ csI c W j := by
  unfold oldL
  rw [List.mem_flatten]
  constructor
  · rintro ⟨l, hl, hk⟩
    obtain ⟨j, hj⟩ := List.mem_iff_getElem?.1 hl
    rw [List.getElem?_take] at hj
    by_cases h2 : j < i
    · rw [if_pos h2] at hj
      have h3 := (List.getElem?_eq_some_iff.1 hj).1
      rw [isl_len hW hL h1] at h3
      rw [isl_at hW hL h1 h3] at hj
      rw [← Option.some.inj hj] at hk
      exact ⟨j, h2, h3, hk⟩
    · rw [if_neg h2] at hj; cases hj
  · rintro ⟨j, h2, h3, hk⟩
    refine ⟨csI c W j, List.mem_iff_getElem?.2 ⟨j, ?_⟩, hk⟩
    rw [List.getElem?_take, if_pos h2]
    exact isl_at hW hL h1 h3
theorem old_not {i : Nat} (hi : i < (firsts c W).length) (k : Nat) (hk : Con (marks c) W (frs c W i) k) : k ∉ oldL c W i := by
  intro h
  obtain ⟨j, h2, h3, h4⟩ := (oldL_mem hW hL h1).1 h
  have := csI_dis h3 hi h4 ((csI_con hW hL h1 hi k).2 hk)
  omega
theorem old_succ {i : Nat} (hi : i < (firsts c W).length) (k : Nat) : k ∈ oldL c W (i + 1) ↔ k ∈ oldL c W i ∨ k ∈ csI c W i := by
  rw [oldL_mem hW hL h1, oldL_mem hW hL h1]
  constructor
  · rintro ⟨j, h2, h3, h4⟩
    by_cases e : j = i
    · subst e; exact .inr h4
    · exact .inl ⟨j, by omega, h3, h4⟩
  · rintro (⟨j, h2, h3, h4⟩ | h4)
    · exact ⟨j, by omega, h3, h4⟩
    · exact ⟨i, by omega, hi, h4⟩
theorem old_all {k : Nat} (hk : k < c.length) (h3 : at0 c k = 3) : k ∈ oldL c W (firsts c W).length := by
  obtain ⟨y, g1, g2⟩ := first_mem hW h1 h3
  obtain ⟨j, hj⟩ := List.mem_iff_getElem?.1 g2
  have hj2 := (List.getElem?_eq_some_iff.1 hj).1
  have e := frs_at hj2
  rw [hj] at e
  have e := Option.some.inj e
  exact (oldL_mem hW hL h1).2 ⟨j, hj2, hj2, csI_mem.2 ⟨hk, by rw [g1, e]⟩⟩
end
def loT (T : List Int) (l : List Nat) : Int := if lowT T l = -1 then 1000 else lowT T l
theorem loT_nil (T : List Int) : loT T [] = 1000 := rfl
theorem lowT_snoc (T : List Int) (l : List Nat) (n : Nat) : lowT T (l ++ [n]) = ls1 (lowT T l) (at0 T n) := by
  unfold lowT
  rw [List.foldl_append]; rfl
theorem loT_snoc {T : List Int} (hT : ∀ k, -1 ≤ at0 T k ∧ at0 T k ≤ 144) (l : List Nat) (n : Nat) : loT T (l ++ [n]) = if at0 T n = -1 then loT T l else min (loT T l) (at0 T n) := by
  unfold loT
  rw [lowT_snoc, ls1_ref]
  have h := hT n
  generalize at0 T n = b at *
  have hl : -1 ≤ lowT T l ∧ lowT T l ≤ 144 := by
    by_cases e : lowT T l = -1
    · omega
    · rw [lowT_eq] at e ⊢
      obtain ⟨g1, _⟩ := leastL_some e
      obtain ⟨k, _, hk⟩ := List.mem_map.1 g1
      rw [← hk]
      exact hT k
  generalize lowT T l = a at *
  have e : (if a = -1 ∨ (b ≠ -1 ∧ b < a) then b else a) = if a = -1 then b else if b = -1 then a else min a b := by
    by_cases ha : a = -1
    · rw [if_pos (Or.inl ha), if_pos ha]
    · rw [if_neg ha]
      by_cases hb : b = -1
      · rw [if_neg (by omega), if_pos hb]
      · rw [if_neg hb]
        by_cases h2 : b < a
        · rw [if_pos (Or.inr ⟨hb, h2⟩)]; omega
        · rw [if_neg (by omega)]; omega
  rw [e]
  by_cases ha : a = -1
  · rw [if_pos ha, if_pos ha]
    by_cases hb : b = -1
    · rw [if_pos hb, if_pos hb]
    · rw [if_neg hb, if_neg hb]; omega
  · rw [if_neg ha, if_neg ha]
    by_cases hb : b = -1
    · rw [if_pos hb, if_neg ha]
    · rw [if_neg hb, if_neg (by omega)]
theorem loT_same {T : List Int} {a b : List Nat} (h : ∀ k, k ∈ a ↔ k ∈ b) : loT T a = loT T b := by
  have : lowT T a = lowT T b := by
    rw [lowT_eq, lowT_eq]
    refine leastL_same fun x => ?_
    rw [List.mem_map, List.mem_map]
    exact ⟨fun ⟨k, hk, e⟩ => ⟨k, (h k).1 hk, e⟩, fun ⟨k, hk, e⟩ => ⟨k, (h k).2 hk, e⟩⟩
  unfold loT
  rw [this]
def qk (c : List Int) (W n : Nat) (met : List Bool) (k : Nat) : List Nat := (List.range k).filter fun k => decide (at0 c k = 3 ∧ bat met k = false ∧ Nb W n k)
theorem qk_succ (c : List Int) (W n : Nat) (met : List Bool) (k : Nat) : qk c W n met (k + 1) = qk c W n met k ++ (if at0 c k = 3 ∧ bat met k = false ∧ Nb W n k then [k] else []) := by
  unfold qk
  rw [List.range_succ, List.filter_append]
  congr 1
  by_cases h : at0 c k = 3 ∧ bat met k = false ∧ Nb W n k
  · rw [if_pos h, List.filter_cons, if_pos (decide_eq_true h), List.filter_nil]
  · rw [if_neg h, List.filter_cons, if_neg (by rw [decide_eq_false h]; decide), List.filter_nil]
structure QI (c : List Int) (W n : Nat) (todo : List Nat) (met : List Bool) (k : Nat) (todo' : List Nat) (met' : List Bool) : Prop where
  td : todo' = todo ++ qk c W n met k
  mt : met' = setB met (qk c W n met k)
  len : met'.length = c.length
  cnt : todo'.length + met'.count false = todo.length + met.count false
theorem QI.zero {c : List Int} {W n : Nat} {todo : List Nat} {met : List Bool} (h : met.length = c.length) : QI c W n todo met 0 todo met :=
  ⟨by simp [qk], rfl, h, rfl⟩
theorem QI.bat {c : List Int} {W n : Nat} {todo : List Nat} {met : List Bool} {k : Nat} {todo' : List Nat} {met' : List Bool} (h : QI c W n todo met k todo' met') (hk : k < c.length) : Riv.bat met' k = Riv.bat met k := by
  have hml : met.length = c.length := by rw [← h.len, h.mt, setB_len]
  have := bat_setB (qk c W n met k) met k (fun j hj => by
    have := List.mem_range.1 (List.mem_filter.1 hj).1
    omega)
  rw [← h.mt] at this
  have hn : k ∉ qk c W n met k := fun hj => by
    have := List.mem_range.1 (List.mem_filter.1 hj).1
    omega
  rw [Bool.eq_iff_iff, this]
  exact ⟨fun h => h.resolve_left hn, .inr⟩
theorem QI.keep {c : List Int} {W n : Nat} {todo : List Nat} {met : List Bool} {k : Nat} {todo' : List Nat} {met' : List Bool} (h : QI c W n todo met k todo' met') (hn : ¬ (at0 c k = 3 ∧ Riv.bat met' k = false ∧ Nb W n k)) (hk : k < c.length) : QI c W n todo met (k + 1) todo' met' := by
  rw [h.bat hk] at hn
  have e := qk_succ c W n met k
  rw [if_neg hn, List.append_nil] at e
  exact ⟨by rw [e]; exact h.td, by rw [e]; exact h.mt, h.len, h.cnt⟩
theorem QI.push {c : List Int} {W n : Nat} {todo : List Nat} {met : List Bool} {k : Nat} {todo' : List Nat} {met' : List Bool} (h : QI c W n todo met k todo' met') (h1 : at0 c k = 3) (h2 : Riv.bat met' k = false) (h3 : Nb W n k) (hk : k < c.length) : QI c W n todo met (k + 1) (todo' ++ [k]) (met'.set k true) := by
  have e := qk_succ c W n met k
  rw [if_pos ⟨h1, by rw [← h.bat hk]; exact h2, h3⟩] at e
  refine ⟨by rw [e, h.td, List.append_assoc], ?_, by rw [List.length_set]; exact h.len, ?_⟩
  · rw [e, h.mt]
    unfold setB
    rw [List.foldl_append]; rfl
  · have hl : k < met'.length := by rw [h.len]; exact hk
    have hg : met'[k] = false := by
      unfold Riv.bat at h2
      rw [List.getD_eq_getElem?_getD, List.getElem?_eq_getElem hl] at h2
      exact h2
    have hc := h.cnt
    have hpos : 1 ≤ met'.count false := List.count_pos_iff.2 (by rw [← hg]; exact List.getElem_mem hl)
    rw [List.count_set hl, hg, List.length_append]
    simp
    omega
theorem QI.done {c : List Int} {W f n : Nat} {old done todo : List Nat} {met : List Bool} {todo' : List Nat} {met' : List Bool} (h : QI c W n todo met c.length todo' met') (hml : met.length = c.length) (hold : ∀ k, Con (marks c) W f k → k ∉ old) (hb : BQ c W f old done (n :: todo) met) : BQ c W f old (done ++ [n]) todo' met' := by
  have := bq_step hml hold hb
  rw [h.td, h.mt]
  exact this
theorem BQ.start {c : List Int} {W f : Nat} {old : List Nat} {met : List Bool} (hf : f < met.length) (hm : ∀ k, bat met k = true ↔ k ∈ old) (h3 : bat (marks c) f = true) : BQ c W f old [] [f] (met.set f true) := by
  refine ⟨fun k => ?_, fun k hk => ?_, .inr List.mem_cons_self, fun d hd => by cases hd⟩
  · rw [bat_set hf, Bool.or_eq_true, decide_eq_true_eq, hm]
    simp only [List.not_mem_nil, false_or, List.mem_singleton]
    exact ⟨fun h => h.symm, fun h => h.symm⟩
  · rcases hk with hk | hk
    · cases hk
    · rw [List.mem_singleton.1 hk]
      exact Con.refl h3
def nearS : List Int → Int
  | [] => 0
  | o :: l => (if o = 1 ∨ o = 2 then 2 * o - 3 else 0) + nearS l
theorem nearS_all : ∀ l, nearS l = many 2 l - many 1 l
  | [] => rfl
  | o :: l => by
    rw [nearS, many_cons, many_cons, nearS_all l]
    by_cases h1 : o = 1
    · subst h1; rw [if_pos (.inl rfl), if_neg (by decide), if_pos rfl]; omega
    · by_cases h2 : o = 2
      · subst h2; rw [if_pos (.inr rfl), if_pos rfl, if_neg (by decide)]; omega
      · rw [if_neg (by omega), if_neg h2, if_neg h1]; omega
theorem nearS_succ : ∀ (l : List Int) (i : Nat), i < l.length → nearS (l.take (i + 1)) = nearS (l.take i) + (if at0 l i = 1 ∨ at0 l i = 2 then 2 * at0 l i - 3 else 0)
  | [], _, h => by cases h
  | o :: l, 0, _ => by
    rw [List.take_succ_cons, List.take_zero, List.take_zero, nearS, nearS]
    show (if o = 1 ∨ o = 2 then 2 * o - 3 else 0) + 0 = 0 + (if o = 1 ∨ o = 2 then 2 * o - 3 else 0)
    omega
  | o :: l, i + 1, h => by
    have ih := nearS_succ l i (by simpa using h)
    rw [List.take_succ_cons, List.take_succ_cons, nearS, nearS, ih]
    show _ = _ + (if at0 l i = 1 ∨ at0 l i = 2 then 2 * at0 l i - 3 else 0)
    omega
theorem gvnS_succ : ∀ (l r : List Int) (i : Nat), i < l.length → i < r.length → gvnS (l.take (i + 1)) (r.take (i + 1)) = gvnS (l.take i) (r.take i) + (if at0 l i = 3 then 2 * at0 r i - 3 else 0)
  | [], _, _, h, _ => by cases h
  | _ :: _, [], _, _, h => by cases h
  | o :: l, g :: r, 0, _, _ => by
    rw [List.take_succ_cons, List.take_succ_cons, List.take_zero, List.take_zero, List.take_zero, List.take_zero, gvnS]
    show (if o = 3 then 2 * g - 3 else 0) + 0 = 0 + (if o = 3 then 2 * g - 3 else 0)
    omega
  | o :: l, g :: r, i + 1, h, h2 => by
    have ih := gvnS_succ l r i (by simpa using h) (by simpa using h2)
    rw [List.take_succ_cons, List.take_succ_cons, List.take_succ_cons, List.take_succ_cons, gvnS, gvnS, ih]
    show _ = _ + (if at0 l i = 3 then 2 * at0 r i - 3 else 0)
    omega
theorem cnt_end {c : List Int} {W : Nat} : let n := nearS (own0 c W); let g := gvnS (own0 c W) (ownI c W); n + g ≤ max (max n (-n)) 1 ∧ -(n + g) ≤ max (max n (-n)) 1 := by
  intro n g
  have hn : n = many 2 (own0 c W) - many 1 (own0 c W) := nearS_all _
  have hg : g = gvnS (own0 c W) (gvL (many 1 (own0 c W), many 2 (own0 c W)) (own0 c W)) := rfl
  have := gvn_bal (own0 c W) (many 1 (own0 c W)) (many 2 (own0 c W)) (max (max n (-n)) 1) (by omega) (by omega) (by omega)
  rw [← hg] at this
  omega
def nrT (c : List Int) (W i : Nat) : Int := nearS ((own0 c W).take i)
def gvT (c : List Int) (W i : Nat) : Int := gvnS ((own0 c W).take i) ((ownI c W).take i)
structure Isf (c : List Int) (W i f : Nat) (o : Int) (r : Bool) : Prop where
  sh : (shr c W)[i]? = some ⟨(f : Int), o, r⟩
  lt : f < c.length
  k3 : at0 c f = 3
  new : ∀ met, (∀ k, bat met k = true ↔ k ∈ oldL c W i) → bat met f = false
  up : ∀ j, i = j + 1 → ∃ g, (shr c W)[j]? = some g ∧ g.f < f
  own : ∀ k, Con (marks c) W f k → k < c.length ∧ at0 (owns c W) k = o ∧ f ≤ k
  old : ∀ k, Con (marks c) W f k → k ∉ oldL c W i
  nxt : ∀ done met, BQ c W f (oldL c W i) done [] met → ∀ k, bat met k = true ↔ k ∈ oldL c W (i + 1)
  low : ∀ done, (∀ k, k ∈ done ↔ Con (marks c) W f k) →
    (o = 0 ∧ r = false ∧ loT (bfs c W 1) done = 1000 ∧ loT (bfs c W 2) done = 1000 ∧ nrT c W (i + 1) = nrT c W i ∧ gvT c W (i + 1) = gvT c W i) ∨
    (o = 1 ∧ r = true ∧ loT (bfs c W 1) done < loT (bfs c W 2) done ∧ nrT c W (i + 1) = nrT c W i - 1 ∧ gvT c W (i + 1) = gvT c W i) ∨
    (o = 2 ∧ r = true ∧ loT (bfs c W 2) done < loT (bfs c W 1) done ∧ nrT c W (i + 1) = nrT c W i + 1 ∧ gvT c W (i + 1) = gvT c W i) ∨
    ((o = 1 ∨ o = 2) ∧ r = false ∧ loT (bfs c W 1) done = loT (bfs c W 2) done ∧ loT (bfs c W 1) done ≠ 1000 ∧ nrT c W (i + 1) = nrT c W i ∧ gvT c W (i + 1) = gvT c W i + (2 * o - 3))
theorem lowT_bd {T : List Int} (hT : ∀ k, -1 ≤ at0 T k ∧ at0 T k ≤ 144) (l : List Nat) : -1 ≤ lowT T l ∧ lowT T l ≤ 144 := by
  by_cases e : lowT T l = -1
  · omega
  · rw [lowT_eq] at e ⊢
    obtain ⟨g1, _⟩ := leastL_some e
    obtain ⟨k, _, hk⟩ := List.mem_map.1 g1
    rw [← hk]
    exact hT k
theorem isl_facts {c : List Int} {W H : Nat} (hW : 2 ≤ W) (hL : c.length = W * H) (h1 : c.length ≤ 160) (hT : ∀ s k, -1 ≤ at0 (bfs c W s) k ∧ at0 (bfs c W s) k ≤ 144) {i : Nat} (hi : i < (firsts c W).length) :
    ∃ f o r, Isf c W i f o r := by
  have hcm := fun k => csI_con hW hL h1 hi k
  have hl := ownI_len hW hL h1
  have hown := frs_own hi
  have hge := csI_ge hW h1 hown
  refine ⟨frs c W i, at0 (ownI c W) i, decide (at0 (own0 c W) i = 1 ∨ at0 (own0 c W) i = 2), shr_at hW hL h1 hi, (csI_mem.1 hown).1, hge.2, fun met hm => ?_, fun j hj => ?_, fun k hk => ?_, old_not hW hL h1 hi, fun done met hb k => ?_, fun done hd => ?_⟩
  · cases hb : bat met (frs c W i)
    · rfl
    · exact absurd ((hm _).1 hb) (old_not hW hL h1 hi _ ((hcm _).1 hown))
  · refine ⟨_, shr_at hW hL h1 (by omega), ?_⟩
    have := frs_mono (c := c) (W := W) (i := j) (j := i) (by omega) hi
    show (frs c W j : Int) < _
    omega
  · have hk := (hcm k).2 hk
    exact ⟨(csI_mem.1 hk).1, owns_at hW hL h1 hi hk, (csI_ge hW h1 hk).1⟩
  · rw [hb.met, old_succ hW hL h1 hi, hcm, bq_end hb k]
    simp
  · have hs : ∀ s, lowT (bfs c W s) (csI c W i) = lowT (bfs c W s) done := fun s => by
      rw [lowT_eq, lowT_eq]
      refine leastL_same fun x => ?_
      rw [List.mem_map, List.mem_map]
      exact ⟨fun ⟨k, hk, e⟩ => ⟨k, (hd k).2 ((hcm k).1 hk), e⟩, fun ⟨k, hk, e⟩ => ⟨k, (hcm k).2 ((hd k).1 hk), e⟩⟩
    have hb1 := lowT_bd (hT 1) done
    have hb2 := lowT_bd (hT 2) done
    have e0 := own0_at hW hL h1 hi
    unfold own1 at e0
    rw [hs, hs] at e0
    have eI := ownI_at hW hL h1 hi
    have n1 := nearS_succ (own0 c W) i (by omega)
    have n2 := gvnS_succ (own0 c W) (ownI c W) i (by omega) (by omega)
    unfold nrT gvT loT
    generalize lowT (bfs c W 1) done = a at *
    generalize lowT (bfs c W 2) done = b at *
    generalize at0 (own0 c W) i = u at *
    generalize at0 (ownI c W) i = v at *
    rcases ownr_cases a b with ⟨g0, g1, g2⟩ | ⟨g0, g1, g2⟩ | ⟨g0, g1, g2⟩ | ⟨g0, g1, g2⟩
    · have hu : u = 0 := e0.trans g0
      subst hu
      refine .inl ⟨eI.1 (by decide), by decide, by rw [if_pos g1], by rw [if_pos g2], ?_, ?_⟩
      · rw [n1, if_neg (by decide)]; omega
      · rw [n2, if_neg (by decide)]; omega
    · have hu : u = 3 := e0.trans g0
      subst hu
      refine .inr (.inr (.inr ⟨eI.2 rfl, by decide, by rw [g1], ?_, ?_, ?_⟩))
      · rw [if_neg g2]; omega
      · rw [n1, if_neg (by decide)]; omega
      · rw [n2, if_pos rfl]
    · have hu : u = 1 := e0.trans g0
      subst hu
      refine .inr (.inl ⟨eI.1 (by decide), by decide, ?_, ?_, ?_⟩)
      · rw [if_neg g1]
        split <;> omega
      · rw [n1, if_pos (.inl rfl)]; omega
      · rw [n2, if_neg (by decide)]; omega
    · have hu : u = 2 := e0.trans g0
      subst hu
      refine .inr (.inr (.inl ⟨eI.1 (by decide), by decide, ?_, ?_, ?_⟩))
      · rw [if_neg g1]
        split <;> omega
      · rw [n1, if_pos (.inr rfl)]; omega
      · rw [n2, if_neg (by decide)]; omega
theorem nrT_end {c : List Int} {W H : Nat} (hW : 2 ≤ W) (hL : c.length = W * H) (h1 : c.length ≤ 160) :
    let n := nrT c W (firsts c W).length; let g := gvT c W (firsts c W).length; n + g ≤ max (max n (-n)) 1 ∧ -(n + g) ≤ max (max n (-n)) 1 := by
  have hl := ownI_len hW hL h1
  unfold nrT gvT
  rw [List.take_of_length_le (by omega), List.take_of_length_le (by omega)]
  exact cnt_end
theorem firsts_len (c : List Int) (W : Nat) : (firsts c W).length ≤ c.length := by
  have := List.length_filter_le (fun i : Nat => decide (at0 (rnm c W) i = (i : Int))) (List.range c.length)
  rw [List.length_range] at this
  exact this
end Riv

open Go.Vm
open Riv
namespace Go.Proofs.Ytkbbfeljlepgoaa
set_option maxRecDepth 20000
set_option maxHeartbeats 2000000

def vM (m : Mp) : V := .agg [I m.w, I m.h, ints m.c]
def encM (m : Mp) : List D := [DI m.w, DI m.h, .sl 1 m.c.length (m.c.flatMap encI)]
theorem encM_len (m : Mp) : (encM m).length = 3 := rfl
def vSd (m : Mp) (s : Int) : V := .agg [I m.w, I m.h, ints m.c, I s]
def vSh (x : Riv.Sh) : V := .agg [I x.f, I x.o, B x.nr]
end Go.Proofs.Ytkbbfeljlepgoaa

open Go.Vm
open Riv
namespace Go.Proofs.Ytkbbfeljlepgoaa
set_option maxRecDepth 20000
set_option maxHeartbeats 4000000

theorem vc_from (n a b : Int) (h : Hp) : VC Try.prog 59 [I n, I a, I b] h (B (decide (a ≤ n ∧ n ≤ b))) h := by
  refine VC.body Try.func59 rfl Try.ntmps59 Try.call59 (h.grows_refl) rfl ?_; conv => whnf
  repeat' (first | ((first | refine zs1 ?_ | refine zs2 ?_ | refine zs3 ?_ | refine zs4 ?_ | refine zs5 ?_ | refine zs6 [] ?_); conv => whnf) | ((first | apply zi1 | apply zi2 | apply zi3 | apply zi4 | apply zi5) <;> intro _ <;> conv => whnf))
  all_goals (refine VOut.same ?_; simp [V.ren]; try omega)
theorem vc_cell (m : Mp) (n : Int) (h : Hp) (hl : m.c.length ≤ 4000000) : VC Try.prog 57 [vM m, I n] h (B (decide (0 ≤ n ∧ n ≤ (m.c.length : Int) - 1))) h := by
  refine VC.body Try.func57 rfl Try.ntmps57 Try.call57 (h.grows_refl) rfl ?_; conv => whnf
  repeat' (first | ((first | refine zs1 ?_ | refine zs2 ?_ | refine zs3 ?_ | refine zs4 ?_ | refine zs5 ?_ | refine zs6 [] ?_); conv => whnf) | ((first | apply zi1 | apply zi2 | apply zi3 | apply zi4 | apply zi5) <;> intro _ <;> conv => whnf) | (refine VCall.intro (vc_from _ _ _ _) ?_; conv => whnf))
  exact VOut.same rfl
theorem vc_least (l : List Int) (h : Hp) (hl : l.length ≤ 4000000) : VC Try.prog 76 [ints l] h (I (leastL l)) h := by
  obtain ⟨E, hE⟩ : ∃ E, E = leastL l := ⟨_, rfl⟩
  rw [← hE]
  unfold leastL at hE
  refine VC.body Try.func76 rfl Try.ntmps76 Try.call76 (h.grows_refl) rfl ?_; conv => whnf
  repeat' (first | ((first | refine zs1 ?_ | refine zs2 ?_ | refine zs3 ?_ | refine zs4 ?_ | refine zs5 ?_ | refine zs6 [] ?_); conv => whnf) | ((first | apply zi1 | apply zi2 | apply zi3 | apply zi4 | apply zi5) <;> intro _ <;> conv => whnf))
  refine VCode.lp (fun y : Nat × Int => [(3, I y.2), (6, ints l), (7, I l.length), (8, I y.1)]) (fun _ => []) (fun y => y.1 ≤ l.length ∧ E = (l.drop y.1).foldl ls1 y.2) (fun y => l.length - y.1) (0, -1) ⟨Nat.zero_le _, hE⟩ ?_ ?_
  · conv => whnf
    refine Retell.turn ⟨[], 0, [], []⟩ (TurnOk.mk' _ _ [] [] (OutOk.lift _) rfl (by decide) zb trivial trivial rfl) zw zm
  · rintro ⟨k, o⟩ ⟨h4, h5⟩
    dsimp only at h4 h5
    conv => whnf
    refine VIte.dec (fun h6 => ?_) (fun h6 => ?_)
    · have hk : l[k]? = some l[k] := List.getElem?_eq_getElem (by omega)
      rw [List.drop_eq_getElem_cons (by omega), List.foldl_cons] at h5
      generalize l[k] = x at hk h5
      have hs : ls1 o x = if x ≠ -1 ∧ (o = -1 ∨ x < o) then x else o := rfl
      conv => whnf
      refine VAny.ix encI_len k rfl rfl hk ?_
      conv => whnf
      repeat' (first | ((first | refine zs1 ?_ | refine zs2 ?_ | refine zs3 ?_ | refine zs4 ?_ | refine zs5 ?_ | refine zs6 [] ?_); conv => whnf) | ((first | apply zi1 | apply zi2 | apply zi3 | apply zi4 | apply zi5) <;> intro _ <;> conv => whnf))
      all_goals first
        | (rw [if_pos (by omega)] at hs; rw [hs] at h5
           refine LEnd.intro (k + 1, x) ⟨by dsimp only; omega, h5⟩ (by dsimp only; omega) ?_
           conv => whnf
           refine Retell.turn ⟨[], 0, [], []⟩ (TurnOk.mk' _ _ [] [] (OutOk.lift _) rfl (by decide) zb trivial trivial rfl) zw zm)
        | (rw [if_neg (by omega)] at hs; rw [hs] at h5
           refine LEnd.intro (k + 1, o) ⟨by dsimp only; omega, h5⟩ (by dsimp only; omega) ?_
           conv => whnf
           refine Retell.turn ⟨[], 0, [], []⟩ (TurnOk.mk' _ _ [] [] (OutOk.lift _) rfl (by decide) zb trivial trivial rfl) zw zm)
    · rw [List.drop_of_length_le (by omega)] at h5
      rw [h5]
      conv => whnf
      repeat' (first | ((first | refine zs1 ?_ | refine zs2 ?_ | refine zs3 ?_ | refine zs4 ?_ | refine zs5 ?_ | refine zs6 [] ?_); conv => whnf) | ((first | apply zi1 | apply zi2 | apply zi3 | apply zi4 | apply zi5) <;> intro _ <;> conv => whnf))
      exact VOut.same rfl
end Go.Proofs.Ytkbbfeljlepgoaa

open Go.Vm
open Riv
namespace Go.Proofs.Ytkbbfeljlepgoaa
set_option maxRecDepth 20000
set_option maxHeartbeats 4000000

theorem vc_nearer (a b : Int) (h : Hp) : VC Try.prog 82 [I a, I b] h (I (ownr a b)) h := by
  obtain ⟨E, hE⟩ : ∃ E, E = ownr a b := ⟨_, rfl⟩
  rw [← hE]
  have hl := ownr_least a b
  obtain ⟨m, hm⟩ : ∃ m, m = leastL [a, b] := ⟨_, rfl⟩
  rw [← hm] at hl
  rw [← hE] at hl
  have cL := fun h => vc_least [a, b] h (by simp)
  rw [← hm] at cL
  unfold ownr at hE
  refine VC.body Try.func82 rfl Try.ntmps82 Try.call82 (h.grows_refl) rfl ?_; conv => whnf
  repeat' (first | ((first | refine zs1 ?_ | refine zs2 ?_ | refine zs3 ?_ | refine zs4 ?_ | refine zs5 ?_ | refine zs6 [] ?_); conv => whnf) | ((first | apply zi1 | apply zi2 | apply zi3 | apply zi4 | apply zi5) <;> intro _ <;> conv => whnf))
  all_goals try (
    refine VCall.intro (VC.give (args' := [ints [a, b]]) (loc' := [.dead]) [(0, [a, b].flatMap Vm.encI)] [] (OutOk.lift _) zb zf (by exact FmAll.nil) rfl zw (cL _)) ?_
    conv => whnf
    repeat' (first | ((first | refine zs1 ?_ | refine zs2 ?_ | refine zs3 ?_ | refine zs4 ?_ | refine zs5 ?_ | refine zs6 [] ?_); conv => whnf) | ((first | apply zi1 | apply zi2 | apply zi3 | apply zi4 | apply zi5) <;> intro _ <;> conv => whnf)))
  all_goals first
    | (rw [if_pos (by omega)] at hE; rw [hE]; exact VOut.same rfl)
    | (rw [if_neg (by omega), if_pos (by omega)] at hE; rw [hE]; exact VOut.same rfl)
    | (rw [hl (by omega), if_pos (by omega)]; exact VOut.same rfl)
    | (rw [hl (by omega), if_neg (by omega)]; exact VOut.same rfl)
end Go.Proofs.Ytkbbfeljlepgoaa

open Go.Vm
open Riv
namespace Go.Proofs.Ytkbbfeljlepgoaa
set_option maxRecDepth 20000
set_option maxHeartbeats 4000000

theorem vc_through (m : Mp) (s x : Int) (k : Nat) (h : Hp) (hk : m.c[k]? = some x) : VC Try.prog 75 [vSd m s, I k] h (B (decide (x = 0 ∨ x = s))) h := by
  refine VC.body Try.func75 rfl Try.ntmps75 Try.call75 (h.grows_refl) rfl ?_; conv => whnf
  repeat' (first | ((first | refine zs1 ?_ | refine zs2 ?_ | refine zs3 ?_ | refine zs4 ?_ | refine zs5 ?_ | refine zs6 [] ?_); conv => whnf) | ((first | apply zi1 | apply zi2 | apply zi3 | apply zi4 | apply zi5) <;> intro _ <;> conv => whnf) | (refine VAny.ix encI_len k rfl rfl hk ?_; conv => whnf))
  all_goals (refine VOut.same ?_; simp [V.ren]; try omega)
  all_goals (rename_i hx; rw [Bool.eq_iff_iff]; simp [hx])
end Go.Proofs.Ytkbbfeljlepgoaa

open Go.Vm
open Riv
namespace Go.Proofs.Ytkbbfeljlepgoaa
set_option maxRecDepth 20000
set_option maxHeartbeats 4000000

theorem vc_next (m : Mp) (W a b : Nat) (h : Hp) (hW : 2 ≤ W) (hm : m.w = W) (ha : a ≤ 4000000) (hb : b ≤ 4000000) (hW2 : W ≤ 4000000) : VC Try.prog 29 [vM m, I a, I b] h (B (decide (Nb W a b))) h := by
  obtain ⟨E, hE⟩ : ∃ E, E = decide (Nb W a b) := ⟨_, rfl⟩
  rw [← hE]
  have k1 : (b : Int) < a → (E = true ↔ a = b + W ∨ (a = b + 1 ∧ a % W ≠ 0)) := fun h0 => by
    rw [hE, decide_eq_true_eq, ← nb_law (by omega) hW]
    exact ⟨Nb.symm, Nb.symm⟩
  have k2 : ¬ (b : Int) < a → (E = true ↔ b = a + W ∨ (b = a + 1 ∧ b % W ≠ 0)) := fun h0 => by
    rw [hE, decide_eq_true_eq, ← nb_law (by omega) hW]
  have e1 : (a : Int).tmod (W : Int) = ((a % W : Nat) : Int) := Int.ofNat_tmod a W
  have e2 : (b : Int).tmod (W : Int) = ((b % W : Nat) : Int) := Int.ofNat_tmod b W
  obtain ⟨mw, mh, mc⟩ := m
  dsimp only at hm
  subst hm
  refine VC.body Try.func29 rfl Try.ntmps29 Try.call29 (h.grows_refl) rfl ?_; conv => whnf
  repeat' (first | ((first | refine zs1 ?_ | refine zs2 ?_ | refine zs3 ?_ | refine zs4 ?_ | refine zs5 ?_ | refine zs6 [] ?_); conv => whnf) | ((first | apply zi1 | apply zi2 | apply zi3 | apply zi4 | apply zi5) <;> intro _ <;> conv => whnf))
  all_goals (
    refine VOut.same ?_
    dsimp only at *
    show V.s (S.bool _) = V.s (S.bool E)
    congr 2
    rw [Bool.eq_iff_iff]
    first
      | (rw [k1 (by omega)]; try rw [e1])
      | (rw [k2 (by omega)]; try rw [e2])
    generalize a % W = p at *
    generalize b % W = q at *
    simp
    omega)
end Go.Proofs.Ytkbbfeljlepgoaa


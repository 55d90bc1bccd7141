/- Part 5 of the proof that the middle of a straight river is as at sea. No condition. -/
import Derived.Test.YtccpfempgmkmbaaGreatBm4
import Derived.Test.YtccpfempgmkmbaaGreatRows
set_option linter.unusedVariables false
set_option linter.unusedSimpArgs false
namespace Riv
structure Mp where
  w : Int
  h : Int
  c : List Int
  deriving DecidableEq
def Nb (W a b : Nat) : Prop := a = b + W ∨ b = a + W ∨ (a = b + 1 ∧ a % W ≠ 0) ∨ (b = a + 1 ∧ b % W ≠ 0)
instance (W a b : Nat) : Decidable (Nb W a b) := by unfold Nb; infer_instance
theorem Nb.symm {W a b : Nat} (h : Nb W a b) : Nb W b a := by
  rcases h with h | h | h | h
  · exact .inr (.inl h)
  · exact .inl h
  · exact .inr (.inr (.inr h))
  · exact .inr (.inr (.inl h))
def nbs (W L n : Nat) : List Nat := (if n < W then [] else [n - W]) ++ (if n % W = 0 then [] else [n - 1]) ++ (if n % W = W - 1 then [] else [n + 1]) ++ (if L ≤ n + W then [] else [n + W])
theorem mod_succ {W n : Nat} (hW : 2 ≤ W) : (n + 1) % W = if n % W = W - 1 then 0 else n % W + 1 := by
  have h1 := Nat.div_add_mod n W
  have h2 := Nat.mod_lt n (show 0 < W by omega)
  generalize n % W = r at *
  generalize n / W = q at *
  subst h1
  split
  · rename_i h
    subst h
    rw [show W * q + (W - 1) + 1 = W * (q + 1) by rw [Nat.mul_succ]; omega, Nat.mul_mod_right]
  · rw [Nat.add_assoc, Nat.mul_add_mod, Nat.mod_eq_of_lt (by omega)]
theorem nbs_iff {W L H n k : Nat} (hW : 2 ≤ W) (hL : L = W * H) (hn : n < L) : k ∈ nbs W L n ↔ k < L ∧ Nb W n k := by
  have hm := mod_succ (n := n) hW
  have hr := Nat.mod_lt n (show 0 < W by omega)
  have hend : n % W ≠ W - 1 → n + 1 < L := by
    intro h
    rw [if_neg h] at hm
    have : n + 1 ≠ L := fun e => by
      rw [e, hL, Nat.mul_mod_right] at hm
      omega
    omega
  unfold nbs Nb
  simp only [List.mem_append]
  constructor
  · rintro (((h | h) | h) | h)
    · split at h
      · simp at h
      · simp at h; subst h; exact ⟨by omega, .inl (by omega)⟩
    · split at h
      · simp at h
      · rename_i h2
        simp at h; subst h
        have : n ≠ 0 := fun e => h2 (by rw [e]; exact Nat.zero_mod W)
        exact ⟨by omega, .inr (.inr (.inl ⟨by omega, h2⟩))⟩
    · split at h
      · simp at h
      · rename_i h2
        simp at h; subst h
        exact ⟨hend h2, .inr (.inr (.inr ⟨rfl, by rw [hm, if_neg h2]; omega⟩))⟩
    · split at h
      · simp at h
      · simp at h; subst h; exact ⟨by omega, .inr (.inl rfl)⟩
  · rintro ⟨h0, h | h | h | h⟩
    · refine .inl (.inl (.inl ?_))
      rw [if_neg (by omega)]; simp; omega
    · refine .inr ?_
      rw [if_neg (by omega)]; simp; omega
    · refine .inl (.inl (.inr ?_))
      rw [if_neg h.2]; simp; omega
    · refine .inl (.inr ?_)
      have h2 := h.2
      rw [h.1, hm] at h2
      rw [if_neg (fun e => h2 (by rw [if_pos e]))]
      simp; omega
end Riv

namespace Riv
def at0 (l : List Int) (n : Nat) : Int := l.getD n (-1)
def Thr (c : List Int) (s : Int) (k : Nat) : Prop := at0 c k = 0 ∨ at0 c k = s
def Opn (c : List Int) (k : Nat) : Prop := at0 c k = 0 ∨ at0 c k = 3
instance (c : List Int) (s : Int) (k : Nat) : Decidable (Thr c s k) := by unfold Thr; infer_instance
instance (c : List Int) (k : Nat) : Decidable (Opn c k) := by unfold Opn; infer_instance
structure Fit (c : List Int) (W : Nat) (s : Int) (T : List Int) (n : Nat) : Prop where
  own : at0 c n = s → at0 T n = 0
  opn : at0 c n ≠ s → Opn c n → (at0 T n = -1 ∧ ∀ k, k < c.length → Nb W n k → Thr c s k → at0 T k = -1) ∨ ∃ k, k < c.length ∧ Nb W n k ∧ Thr c s k ∧ at0 T k ≠ -1 ∧ at0 T n = at0 T k + 1 ∧ ∀ j, j < c.length → Nb W n j → Thr c s j → at0 T j ≠ -1 → at0 T k ≤ at0 T j
  oth : at0 c n ≠ s → ¬ Opn c n → at0 T n = -1
structure Hld (c : List Int) (W : Nat) (s : Int) (T : List Int) : Prop where
  len : T.length = c.length
  fit : ∀ n, n < c.length → Fit c W s T n
theorem low_ex : ∀ T : List Int, ∃ B : Nat, ∀ n, -1 - (B : Int) ≤ at0 T n
  | [] => ⟨0, fun n => by simp [at0]⟩
  | x :: T => by
    obtain ⟨B, hB⟩ := low_ex T
    refine ⟨B + x.natAbs, fun n => ?_⟩
    cases n with
    | zero => simp [at0]; omega
    | succ n =>
      have := hB n
      simp only [at0, List.getD_cons_succ] at this ⊢
      omega
theorem at0_out {T : List Int} {n : Nat} (h : T.length ≤ n) : at0 T n = -1 := by
  unfold at0
  rw [List.getD_eq_getElem?_getD, List.getElem?_eq_none h]; rfl
theorem Hld.low {c : List Int} {W : Nat} {s : Int} {T : List Int} (h : Hld c W s T) (n : Nat) : -1 ≤ at0 T n := by
  obtain ⟨B, hB⟩ := low_ex T
  revert hB
  induction B with
  | zero => intro hB; have := hB n; omega
  | succ B ih =>
    intro hB
    refine ih fun m => ?_
    rcases Nat.lt_or_ge m c.length with hm | hm
    · have hf := h.fit m hm
      by_cases h1 : at0 c m = s
      · rw [hf.own h1]; omega
      · by_cases h2 : Opn c m
        · rcases hf.opn h1 h2 with h3 | ⟨k, _, _, _, _, h3, _⟩
          · rw [h3.1]; omega
          · have := hB k; omega
        · rw [hf.oth h1 h2]; omega
    · rw [at0_out (by rw [h.len]; exact hm)]; omega
theorem Hld.step {c : List Int} {W : Nat} {s : Int} {T : List Int} (h : Hld c W s T) {n : Nat} (hn : n < c.length) (k : Nat) : at0 T n = (k : Int) + 1 ↔ at0 c n ≠ s ∧ Opn c n ∧ (∃ j, j < c.length ∧ Nb W n j ∧ Thr c s j ∧ at0 T j = k) ∧ ∀ j, j < c.length → Nb W n j → Thr c s j → at0 T j ≠ -1 → (k : Int) ≤ at0 T j := by
  have hf := h.fit n hn
  constructor
  · intro h0
    have h1 : at0 c n ≠ s := fun e => by have := hf.own e; omega
    have h2 : Opn c n := Decidable.byContradiction fun e => by have := hf.oth h1 e; omega
    rcases hf.opn h1 h2 with h3 | ⟨j, a1, a2, a3, a4, a5, a6⟩
    · have := h3.1; omega
    · have e : at0 T j = k := by omega
      exact ⟨h1, h2, ⟨j, a1, a2, a3, e⟩, fun i b1 b2 b3 b4 => by have := a6 i b1 b2 b3 b4; omega⟩
  · rintro ⟨h1, h2, ⟨j, a1, a2, a3, a4⟩, h4⟩
    rcases hf.opn h1 h2 with h3 | ⟨i, b1, b2, b3, b4, b5, b6⟩
    · have := h3.2 j a1 a2 a3; omega
    · have e1 := b6 j a1 a2 a3 (by omega)
      have e2 := h4 i b1 b2 b3 b4
      omega
theorem Hld.zero {c : List Int} {W : Nat} {s : Int} {T : List Int} (h : Hld c W s T) {n : Nat} (hn : n < c.length) : at0 T n = 0 ↔ at0 c n = s := by
  have hf := h.fit n hn
  constructor
  · intro h0
    refine Decidable.byContradiction fun h1 => ?_
    by_cases h2 : Opn c n
    · rcases hf.opn h1 h2 with h3 | ⟨j, a1, a2, a3, a4, a5, a6⟩
      · have := h3.1; omega
      · have := h.low j; omega
    · have := hf.oth h1 h2; omega
  · exact hf.own
theorem Hld.same {c : List Int} {W : Nat} {s : Int} {T U : List Int} (h : Hld c W s T) (g : Hld c W s U) : ∀ (k : Nat) (n : Nat), n < c.length → (at0 T n = k ↔ at0 U n = k) := by
  intro k
  induction k using Nat.strongRecOn with
  | _ k ih =>
    intro n hn
    cases k with
    | zero => exact (h.zero hn).trans (g.zero hn).symm
    | succ k =>
      have half : ∀ {T U : List Int}, Hld c W s T → Hld c W s U → (∀ m, m < k + 1 → ∀ n, n < c.length → (at0 T n = (m : Int) ↔ at0 U n = (m : Int))) → at0 T n = (k : Int) + 1 → at0 U n = (k : Int) + 1 := by
        intro T U h g ih h0
        obtain ⟨h1, h2, ⟨j, a1, a2, a3, a4⟩, h4⟩ := (h.step hn k).1 h0
        refine (g.step hn k).2 ⟨h1, h2, ⟨j, a1, a2, a3, (ih k (by omega) j a1).1 a4⟩, fun i b1 b2 b3 b4 => ?_⟩
        rcases Int.lt_or_le (at0 U i) k with h5 | h5
        · exfalso
          have h6 := g.low i
          have h7 := (ih (at0 U i).toNat (by omega) i b1).2 (by omega)
          have := h4 i b1 b2 b3 (by omega)
          omega
        · exact h5
      rw [show ((k + 1 : Nat) : Int) = (k : Int) + 1 by omega]
      exact ⟨half h g ih, half g h fun m hm n hn => (ih m hm n hn).symm⟩
theorem ext0 {T U : List Int} (hl : T.length = U.length) (h : ∀ n, n < T.length → at0 T n = at0 U n) : T = U := by
  apply List.ext_getElem hl
  intro n h1 h2
  have := h n h1
  unfold at0 at this
  rw [List.getD_eq_getElem?_getD, List.getD_eq_getElem?_getD, List.getElem?_eq_getElem h1, List.getElem?_eq_getElem h2] at this
  exact this
end Riv

namespace Riv
def t0 (c : List Int) (s : Int) : List Int := c.map fun x => if x = s then 0 else -1
def putB (c : List Int) (st : Int) (T : List Int) (k : Nat) : List Int := if at0 T k = -1 ∧ Opn c k then T.set k (st + 1) else T
def cellB (c : List Int) (W : Nat) (s st : Int) (T : List Int) (n : Nat) : List Int := if at0 T n = st ∧ Thr c s n then (nbs W c.length n).foldl (putB c st) T else T
def stepB (c : List Int) (W : Nat) (s : Int) (T : List Int) (st : Nat) : List Int := (List.range c.length).foldl (cellB c W s st) T
def bfs (c : List Int) (W : Nat) (s : Int) : List Int := (List.range c.length).foldl (stepB c W s) (t0 c s)
def cnt (T : List Int) : Nat := T.countP fun x => decide (x ≠ -1)
theorem at0_set {T : List Int} {k : Nat} {v : Int} (hk : k < T.length) (j : Nat) : at0 (T.set k v) j = if j = k then v else at0 T j := by
  unfold at0
  rw [List.getD_eq_getElem?_getD, List.getD_eq_getElem?_getD]
  split
  · rename_i h; subst h
    rw [List.getElem?_set_self hk]; rfl
  · rename_i h
    rw [List.getElem?_set_ne (fun e => h e.symm)]
theorem cnt_set : ∀ {T : List Int} {k : Nat} {v : Int}, k < T.length → at0 T k = -1 → v ≠ -1 → cnt (T.set k v) = cnt T + 1
  | x :: T, 0, v, _, h, hv => by
    have h : x = -1 := h
    subst h
    simp [cnt, hv]
  | x :: T, k + 1, v, hk, h, hv => by
    have := cnt_set (T := T) (k := k) (v := v) (by simpa using hk) (by simpa [at0] using h) hv
    unfold cnt at *
    rw [List.set_cons_succ, List.countP_cons, List.countP_cons, this]
    omega
theorem cnt_le (T : List Int) : cnt T ≤ T.length := List.countP_le_length
theorem cnt_pos : ∀ {T : List Int} {n : Nat}, at0 T n ≠ -1 → 1 ≤ cnt T := by
  intro T n h
  rcases Nat.lt_or_ge n T.length with hn | hn
  · unfold cnt
    refine List.countP_pos_iff.2 ⟨T[n], List.getElem_mem hn, ?_⟩
    unfold at0 at h
    rw [List.getD_eq_getElem?_getD, List.getElem?_eq_getElem hn] at h
    simpa using h
  · exact absurd (at0_out hn) h
theorem at0_t0 {c : List Int} {s : Int} {n : Nat} (hn : n < c.length) : at0 (t0 c s) n = if at0 c n = s then 0 else -1 := by
  unfold at0 t0
  rw [List.getD_eq_getElem?_getD, List.getD_eq_getElem?_getD, List.getElem?_map, List.getElem?_eq_getElem hn]
  rfl
structure BI (c : List Int) (W : Nat) (s : Int) (st : Nat) (T : List Int) (P : Nat → Prop) : Prop where
  len : T.length = c.length
  own : ∀ n, n < c.length → at0 c n = s → at0 T n = 0
  oth : ∀ n, n < c.length → at0 c n ≠ s → ¬ Opn c n → at0 T n = -1
  rng : ∀ n, -1 ≤ at0 T n ∧ at0 T n ≤ st + 1
  got : ∀ n, n < c.length → at0 c n ≠ s → at0 T n ≠ -1 → Opn c n ∧ ∃ k, k < c.length ∧ Nb W n k ∧ Thr c s k ∧ at0 T k = at0 T n - 1 ∧ 0 ≤ at0 T k ∧ ∀ j, j < c.length → Nb W n j → Thr c s j → at0 T j ≠ -1 → at0 T k ≤ at0 T j
  non : ∀ n, n < c.length → at0 c n ≠ s → Opn c n → at0 T n = -1 → ∀ k, k < c.length → Nb W n k → Thr c s k → at0 T k = -1 ∨ (st : Int) < at0 T k ∨ (at0 T k = st ∧ ¬ P k)
  cn : ∀ n, at0 T n ≠ -1 → at0 T n + 1 ≤ cnt T
theorem putB_ok {c : List Int} {W : Nat} {s : Int} {st : Nat} {T : List Int} {P : Nat → Prop} {n k : Nat} (h : BI c W s st T P) (hn : n < c.length) (hk : k < c.length) (hT : at0 T n = st) (ht : Thr c s n) (hnb : Nb W n k) :
    BI c W s st (putB c st T k) P ∧ (Opn c k → at0 (putB c st T k) k ≠ -1) ∧ ∀ j, at0 T j ≠ -1 → at0 (putB c st T k) j = at0 T j := by
  unfold putB
  split
  · rename_i hc
    have hkl : k < T.length := by rw [h.len]; exact hk
    have hat := fun j => at0_set (v := (st : Int) + 1) hkl j
    have hks : at0 c k ≠ s := fun e => by have := h.own k hk e; omega
    have hkeep : ∀ j, at0 T j ≠ -1 → at0 (T.set k ((st : Int) + 1)) j = at0 T j := fun j hj => by
      rw [hat, if_neg]
      intro e; subst e; exact hj hc.1
    have hself := hat k
    rw [if_pos rfl] at hself
    refine ⟨⟨by rw [List.length_set]; exact h.len, fun m hm e => ?_, fun m hm e e2 => ?_, fun m => ?_, fun m hm e e2 => ?_, fun m hm e e2 e3 j hj hnj htj => ?_, fun m hm => ?_⟩, fun _ => by rw [hself]; omega, hkeep⟩
    · have := h.own m hm e
      rw [hkeep m (by omega)]; exact this
    · rw [hat, if_neg]
      · exact h.oth m hm e e2
      · intro e3; subst e3; exact e2 hc.2
    · rw [hat]
      split
      · omega
      · exact h.rng m
    · by_cases hmk : m = k
      · subst hmk
        refine ⟨hc.2, n, hn, hnb.symm, ht, ?_, ?_, fun j hj hnj htj hj1 => ?_⟩
        · rw [hself, hkeep n (by omega)]; omega
        · rw [hkeep n (by omega)]; omega
        · rw [hkeep n (by omega), hT]
          rw [hat] at hj1 ⊢
          split
          · omega
          · rename_i hjm
            rw [if_neg hjm] at hj1
            rcases h.non m hm e hc.2 hc.1 j hj hnj htj with h1 | h1 | h1 <;> omega
      · rw [hat, if_neg hmk] at e2
        obtain ⟨g1, i, g2, g3, g4, g5, g6, g7⟩ := h.got m hm e e2
        refine ⟨g1, i, g2, g3, g4, ?_, ?_, fun j hj hnj htj hj1 => ?_⟩
        · rw [hkeep i (by omega), hkeep m e2]; exact g5
        · rw [hkeep i (by omega)]; exact g6
        · rw [hkeep i (by omega)]
          by_cases hjk : j = k
          · subst hjk
            rw [hself]
            have := (h.rng m).2
            omega
          · rw [hat, if_neg hjk] at hj1 ⊢
            exact g7 j hj hnj htj hj1
    · have hmk : m ≠ k := fun e4 => by subst e4; rw [hself] at e3; omega
      rw [hat, if_neg hmk] at e3
      by_cases hjk : j = k
      · subst hjk; rw [hself]; exact .inr (.inl (by omega))
      · rw [hat, if_neg hjk]
        exact h.non m hm e e2 e3 j hj hnj htj
    · rw [cnt_set hkl hc.1 (by omega)]
      have h1 := h.cn n (by omega)
      rw [hat] at hm ⊢
      split
      · rw [hT] at h1; omega
      · rename_i hmk
        rw [if_neg hmk] at hm
        have := h.cn m hm
        omega
  · rename_i hc
    exact ⟨h, fun h1 h2 => hc ⟨h2, h1⟩, fun _ _ => rfl⟩
theorem putL_ok {c : List Int} {W : Nat} {s : Int} {st : Nat} {P : Nat → Prop} {n : Nat} (hn : n < c.length) (ht : Thr c s n) : ∀ (l : List Nat) (T : List Int), (∀ k ∈ l, k < c.length ∧ Nb W n k) → BI c W s st T P → at0 T n = st →
    BI c W s st (l.foldl (putB c st) T) P ∧ (∀ k ∈ l, Opn c k → at0 (l.foldl (putB c st) T) k ≠ -1) ∧ ∀ j, at0 T j ≠ -1 → at0 (l.foldl (putB c st) T) j = at0 T j
  | [], T, _, h, _ => ⟨h, fun k hk => (by cases hk), fun _ _ => rfl⟩
  | k :: l, T, hl, h, hT => by
    have hk := hl k List.mem_cons_self
    obtain ⟨h1, h2, h3⟩ := putB_ok h hn hk.1 hT ht hk.2
    obtain ⟨g1, g2, g3⟩ := putL_ok hn ht l (putB c st T k) (fun j hj => hl j (List.mem_cons_of_mem _ hj)) h1 (by rw [h3 n (by omega)]; exact hT)
    rw [List.foldl_cons]
    refine ⟨g1, fun j hj ho => ?_, fun j hj => ?_⟩
    · rcases List.mem_cons.1 hj with rfl | hj
      · have := h2 ho
        rw [g3 _ this]; exact this
      · exact g2 j hj ho
    · rw [g3 j (by rw [h3 j hj]; exact hj), h3 j hj]
theorem cellB_ok {c : List Int} {W H : Nat} {s : Int} {st : Nat} {T : List Int} {P : Nat → Prop} {n : Nat} (hW : 2 ≤ W) (hL : c.length = W * H) (h : BI c W s st T P) (hn : n < c.length) :
    BI c W s st (cellB c W s st T n) (fun j => P j ∨ j = n) := by
  unfold cellB
  split
  · rename_i hc
    obtain ⟨h1, h2, h3⟩ := putL_ok hn hc.2 (nbs W c.length n) T (fun k hk => (nbs_iff hW hL hn).1 hk) h hc.1
    refine ⟨h1.len, h1.own, h1.oth, h1.rng, h1.got, fun m hm e e2 e3 k hk hnk htk => ?_, h1.cn⟩
    rcases h1.non m hm e e2 e3 k hk hnk htk with h4 | h4 | h4
    · exact .inl h4
    · exact .inr (.inl h4)
    · by_cases hkn : k = n
      · subst hkn
        exact absurd e3 (h2 m ((nbs_iff hW hL hk).2 ⟨hm, hnk.symm⟩) e2)
      · exact .inr (.inr ⟨h4.1, fun h5 => by rcases h5 with h5 | h5; exact h4.2 h5; exact hkn h5⟩)
  · rename_i hc
    refine ⟨h.len, h.own, h.oth, h.rng, h.got, fun m hm e e2 e3 k hk hnk htk => ?_, h.cn⟩
    rcases h.non m hm e e2 e3 k hk hnk htk with h4 | h4 | h4
    · exact .inl h4
    · exact .inr (.inl h4)
    · refine .inr (.inr ⟨h4.1, fun h5 => ?_⟩)
      rcases h5 with h5 | h5
      · exact h4.2 h5
      · subst h5; exact hc ⟨h4.1, htk⟩
theorem cellL_ok {c : List Int} {W H : Nat} {s : Int} {st : Nat} (hW : 2 ≤ W) (hL : c.length = W * H) : ∀ (N : Nat) (T : List Int), N ≤ c.length → BI c W s st T (fun _ => False) → BI c W s st ((List.range N).foldl (cellB c W s st) T) (fun j => j < N)
  | 0, T, _, h => ⟨h.len, h.own, h.oth, h.rng, h.got, fun m hm e e2 e3 k hk hnk htk => by
      rcases h.non m hm e e2 e3 k hk hnk htk with h4 | h4 | h4
      · exact .inl h4
      · exact .inr (.inl h4)
      · exact .inr (.inr ⟨h4.1, fun h5 => by omega⟩), h.cn⟩
  | N + 1, T, hN, h => by
    have h1 := cellL_ok hW hL N T (by omega) h
    rw [List.range_succ, List.foldl_append]
    have h2 := cellB_ok hW hL h1 (n := N) (by omega)
    refine ⟨h2.len, h2.own, h2.oth, h2.rng, h2.got, fun m hm e e2 e3 k hk hnk htk => ?_, h2.cn⟩
    rcases h2.non m hm e e2 e3 k hk hnk htk with h4 | h4 | h4
    · exact .inl h4
    · exact .inr (.inl h4)
    · exact .inr (.inr ⟨h4.1, fun h5 => h4.2 (by omega)⟩)
theorem stepB_ok {c : List Int} {W H : Nat} {s : Int} {st : Nat} {T : List Int} (hW : 2 ≤ W) (hL : c.length = W * H) (h : BI c W s st T (fun _ => False)) : BI c W s (st + 1) (stepB c W s T st) (fun _ => False) := by
  have h1 := cellL_ok hW hL c.length T (Nat.le_refl _) h
  unfold stepB
  refine ⟨h1.len, h1.own, h1.oth, fun n => by have := h1.rng n; omega, h1.got, fun m hm e e2 e3 k hk hnk htk => ?_, h1.cn⟩
  rcases h1.non m hm e e2 e3 k hk hnk htk with h4 | h4 | h4
  · exact .inl h4
  · rcases Int.lt_or_le ((st + 1 : Nat) : Int) (at0 ((List.range c.length).foldl (cellB c W s st) T) k) with h5 | h5
    · exact .inr (.inl h5)
    · exact .inr (.inr ⟨by omega, fun h => h⟩)
  · exact absurd hk h4.2
theorem bi0 {c : List Int} {W : Nat} {s : Int} : BI c W s 0 (t0 c s) (fun _ => False) := by
  have hl : (t0 c s).length = c.length := by unfold t0; rw [List.length_map]
  have hat : ∀ n, at0 (t0 c s) n = 0 ∨ at0 (t0 c s) n = -1 := fun n => by
    rcases Nat.lt_or_ge n c.length with hn | hn
    · rw [at0_t0 hn]; split <;> simp
    · exact .inr (at0_out (by rw [hl]; exact hn))
  refine ⟨hl, fun n hn e => by rw [at0_t0 hn, if_pos e], fun n hn e _ => by rw [at0_t0 hn, if_neg e], fun n => by have := hat n; omega, fun n hn e e2 => ?_, fun n hn e e2 e3 k hk hnk htk => ?_, fun n hn => ?_⟩
  · rw [at0_t0 hn, if_neg e] at e2; exact absurd rfl e2
  · rcases hat k with h1 | h1
    · exact .inr (.inr ⟨h1, fun h => h⟩)
    · exact .inl h1
  · have h1 := cnt_pos hn
    rcases hat n with h2 | h2
    · rw [h2]; omega
    · exact absurd h2 hn
theorem stepL_ok {c : List Int} {W H : Nat} {s : Int} (hW : 2 ≤ W) (hL : c.length = W * H) : ∀ N : Nat, BI c W s N ((List.range N).foldl (stepB c W s) (t0 c s)) (fun _ => False)
  | 0 => bi0
  | N + 1 => by
    rw [List.range_succ, List.foldl_append]
    exact stepB_ok hW hL (stepL_ok hW hL N)
theorem bfs_hld {c : List Int} {W H : Nat} {s : Int} (hW : 2 ≤ W) (hL : c.length = W * H) : Hld c W s (bfs c W s) := by
  have h := stepL_ok (s := s) hW hL c.length
  have hb : ∀ n, at0 ((List.range c.length).foldl (stepB c W s) (t0 c s)) n ≠ -1 → at0 ((List.range c.length).foldl (stepB c W s) (t0 c s)) n < c.length := fun n hn => by
    have h1 := h.cn n hn
    have h2 := cnt_le ((List.range c.length).foldl (stepB c W s) (t0 c s))
    rw [h.len] at h2
    omega
  refine ⟨h.len, fun n hn => ⟨fun e => h.own n hn e, fun e e2 => ?_, fun e e2 => h.oth n hn e e2⟩⟩
  unfold bfs
  by_cases h0 : at0 ((List.range c.length).foldl (stepB c W s) (t0 c s)) n = -1
  · refine .inl ⟨h0, fun k hk hnk htk => ?_⟩
    rcases h.non n hn e e2 h0 k hk hnk htk with h4 | h4 | h4
    · exact h4
    · refine Decidable.byContradiction fun h5 => ?_
      have := hb k h5
      omega
    · refine Decidable.byContradiction fun h5 => ?_
      have := hb k h5
      omega
  · obtain ⟨_, k, g1, g2, g3, g4, g5, g6⟩ := h.got n hn e h0
    exact .inr ⟨k, g1, g2, g3, by omega, by omega, g6⟩
end Riv

namespace Riv
abbrev TB := List Int × Bool
structure RI (c : List Int) (W : Nat) (s : Int) (T : List Int) : Prop where
  len : T.length = c.length
  own : ∀ n, n < c.length → at0 c n = s → at0 T n = 0
  low : ∀ n, -1 ≤ at0 T n
  got : ∀ n, n < c.length → at0 c n ≠ s → at0 T n ≠ -1 → Opn c n ∧ ∃ k, k < c.length ∧ Nb W n k ∧ Thr c s k ∧ at0 T k ≠ -1 ∧ at0 T k + 1 ≤ at0 T n
  cn : ∀ n, at0 T n ≠ -1 → at0 T n + 1 ≤ cnt T
def wgt : List Int → Nat
  | [] => 0
  | x :: T => (if x = -1 then 200 else x.toNat) + wgt T
theorem wgt_set : ∀ {T : List Int} {k : Nat} {v : Int}, k < T.length → 0 ≤ v → v < 200 → (at0 T k = -1 ∨ v < at0 T k) → wgt (T.set k v) < wgt T
  | x :: T, 0, v, _, h0, h1, h => by
    have h : x = -1 ∨ v < x := h
    rw [List.set_cons_zero, wgt, wgt, if_neg (by omega)]
    rcases h with h | h
    · rw [if_pos h]; omega
    · rw [if_neg (by omega)]; omega
  | x :: T, k + 1, v, hk, h0, h1, h => by
    have := wgt_set (T := T) (k := k) (by simpa using hk) h0 h1 (by simpa [at0] using h)
    rw [List.set_cons_succ, wgt, wgt]; omega
theorem wgt_le : ∀ {T : List Int}, (∀ n, at0 T n ≤ 200) → wgt T ≤ 200 * T.length
  | [], _ => by simp [wgt]
  | x :: T, h => by
    have h1 := wgt_le (T := T) fun n => by have := h (n + 1); simpa [at0] using this
    have h2 : x ≤ 200 := h 0
    rw [wgt, List.length_cons]
    split <;> omega
structure RJ (c : List Int) (W : Nat) (s : Int) (R T : List Int) (ch : Bool) (P : Nat → Nat → Prop) : Prop where
  ri : RI c W s T
  no : ch = false → T = R ∧ ∀ a b, a < c.length → b < c.length → P a b → at0 R a ≠ -1 → at0 c a ≠ 3 → Nb W a b → Opn c b → at0 R b ≠ -1 ∧ at0 R b ≤ at0 R a + 1
  yes : ch = true → wgt T < wgt R
theorem RJ.mono {c : List Int} {W : Nat} {s : Int} {R T : List Int} {ch : Bool} {P Q : Nat → Nat → Prop} (h : RJ c W s R T ch P) (hq : ∀ a b, a < c.length → b < c.length → Q a b → (at0 R a ≠ -1 → at0 c a ≠ 3 → P a b)) : RJ c W s R T ch Q :=
  ⟨h.ri, fun e => ⟨(h.no e).1, fun a b h1 h2 h3 h4 h5 => (h.no e).2 a b h1 h2 (hq a b h1 h2 h3 h4 h5) h4 h5⟩, h.yes⟩
end Riv

namespace Riv
def ls1 (o n : Int) : Int := if n ≠ -1 ∧ (o = -1 ∨ n < o) then n else o
def leastL (l : List Int) : Int := l.foldl ls1 (-1)
end Riv

namespace Riv
def bat (m : List Bool) (n : Nat) : Bool := m.getD n false
inductive Con (mk : List Bool) (W : Nat) : Nat → Nat → Prop
  | refl {n : Nat} : bat mk n = true → Con mk W n n
  | step {a b c : Nat} : Con mk W a b → Nb W b c → bat mk c = true → Con mk W a c
theorem bat_lt {m : List Bool} {n : Nat} (h : bat m n = true) : n < m.length := by
  rcases Nat.lt_or_ge n m.length with h1 | h1
  · exact h1
  · unfold bat at h
    rw [List.getD_eq_getElem?_getD, List.getElem?_eq_none h1] at h
    simp at h
theorem Con.mk {m : List Bool} {W a b : Nat} (h : Con m W a b) : bat m a = true ∧ bat m b = true := by
  induction h with
  | refl h => exact ⟨h, h⟩
  | step _ _ h ih => exact ⟨ih.1, h⟩
theorem Con.trans {m : List Bool} {W a b c : Nat} (h : Con m W a b) (g : Con m W b c) : Con m W a c := by
  induction g with
  | refl _ => exact h
  | step _ h1 h2 ih => exact Con.step ih h1 h2
theorem Con.symm {m : List Bool} {W a b : Nat} (h : Con m W a b) : Con m W b a := by
  induction h with
  | refl h => exact Con.refl h
  | step h1 h2 h3 ih => exact ((Con.refl h3).step h2.symm (h1.mk).2).trans ih
theorem rise_eq : ∀ {a b : List Nat}, a.Pairwise (· < ·) → b.Pairwise (· < ·) → (∀ x, x ∈ a ↔ x ∈ b) → a = b
  | [], [], _, _, _ => rfl
  | [], y :: b, _, _, h => by have := (h y).2 List.mem_cons_self; cases this
  | x :: a, [], _, _, h => by have := (h x).1 List.mem_cons_self; cases this
  | x :: a, y :: b, ha, hb, h => by
    rw [List.pairwise_cons] at ha hb
    have e : x = y := by
      have h1 := (h x).1 List.mem_cons_self
      have h2 := (h y).2 List.mem_cons_self
      rcases List.mem_cons.1 h1 with h1 | h1
      · exact h1
      · rcases List.mem_cons.1 h2 with h2 | h2
        · exact h2.symm
        · have := hb.1 x h1; have := ha.1 y h2; omega
    subst e
    rw [rise_eq ha.2 hb.2 fun z => ?_]
    constructor
    · intro hz
      rcases List.mem_cons.1 ((h z).1 (List.mem_cons_of_mem _ hz)) with e | e
      · have := ha.1 z hz; omega
      · exact e
    · intro hz
      rcases List.mem_cons.1 ((h z).2 (List.mem_cons_of_mem _ hz)) with e | e
      · have := hb.1 z hz; omega
      · exact e
theorem nodup_len : ∀ (n : Nat) (l : List Nat), l.Nodup → (∀ x ∈ l, x < n) → l.length ≤ n
  | 0, l, _, h => by
    cases l with
    | nil => simp
    | cons x l => have := h x List.mem_cons_self; omega
  | n + 1, l, hd, h => by
    have h1 : (l.filter fun x => decide (x ≠ n)).length ≤ n := nodup_len n _ (hd.filter _) fun x hx => by
      rw [List.mem_filter] at hx
      have := h x hx.1
      have h3 : x ≠ n := by simpa using hx.2
      omega
    have h2 : l.length ≤ (l.filter fun x => decide (x ≠ n)).length + 1 := by
      clear h1 h
      induction l with
      | nil => simp
      | cons x l ih =>
        rw [List.nodup_cons] at hd
        by_cases hx : x = n
        · subst hx
          have : l.filter (fun y => decide (y ≠ x)) = l := List.filter_eq_self.2 fun y hy => by
            have : y ≠ x := fun e => hd.1 (e ▸ hy)
            simpa using this
          rw [List.filter_cons_of_neg (by simp), this]
          simp
        · rw [List.filter_cons_of_pos (by simpa using hx)]
          have := ih hd.2
          simp only [List.length_cons]; omega
    omega
def folL (mk : List Bool) (rec : Nat → List Nat → List Nat) : List Nat → List Nat → List Nat
  | [], M => M
  | k :: ks, M => if k ∉ M ∧ bat mk k = true then folL mk rec ks (rec k M) else folL mk rec ks M
def folW (mk : List Bool) (W : Nat) : Nat → Nat → List Nat → List Nat
  | 0, _, M => M
  | N + 1, n, M => folL mk (folW mk W N) (nbs W mk.length n) (M ++ [n])
structure FO (mk : List Bool) (W n : Nat) (M R : List Nat) : Prop where
  pre : M <+: R
  nd : R.Nodup
  own : n ∈ R
  mrk : ∀ x ∈ R, x ∉ M → bat mk x = true ∧ Con mk W n x
  clo : ∀ x ∈ R, x ∉ M → ∀ k, Nb W x k → bat mk k = true → k ∈ R
structure FL (mk : List Bool) (W n : Nat) (M0 M ks R : List Nat) : Prop where
  pre : M <+: R
  nd : R.Nodup
  mrk : ∀ x ∈ R, x ∉ M → bat mk x = true ∧ Con mk W n x
  clo : ∀ x ∈ R, x ∉ M → ∀ k, Nb W x k → bat mk k = true → k ∈ R
  kin : ∀ k ∈ ks, bat mk k = true → k ∈ R
theorem folL_ok {mk : List Bool} {W H n N : Nat} (hW : 2 ≤ W) (hL : mk.length = W * H) (hm : bat mk n = true) {rec : Nat → List Nat → List Nat}
    (hr : ∀ k M, bat mk k = true → k ∉ M → M.Nodup → (∀ x ∈ M, x < mk.length) → mk.length ≤ N + M.length → FO mk W k M (rec k M)) {M0 : List Nat} :
    ∀ (ks M : List Nat), (∀ k ∈ ks, k < mk.length ∧ Nb W n k) → M.Nodup → (∀ x ∈ M, x < mk.length) → mk.length ≤ N + M.length → FL mk W n M0 M ks (folL mk rec ks M)
  | [], M, _, hd, _, _ => ⟨List.prefix_refl _, hd, fun x h1 h2 => absurd h1 h2, fun x h1 h2 => absurd h1 h2, fun k hk => (by cases hk)⟩
  | k :: ks, M, hk, hd, hx, hN => by
    rw [folL]
    have hk1 := hk k List.mem_cons_self
    split
    · rename_i hc
      have h1 := hr k M hc.2 hc.1 hd hx hN
      have hcon : Con mk W n k := (Con.refl hm).step hk1.2 hc.2
      have hx1 : ∀ x ∈ rec k M, x < mk.length := fun x h2 => by
        by_cases h3 : x ∈ M
        · exact hx x h3
        · exact bat_lt (h1.mrk x h2 h3).1
      have hlen : M.length ≤ (rec k M).length := h1.pre.length_le
      have h2 := folL_ok (N := N) (M0 := M0) hW hL hm hr ks (rec k M) (fun j hj => hk j (List.mem_cons_of_mem _ hj)) h1.nd hx1 (by omega)
      refine ⟨h1.pre.trans h2.pre, h2.nd, fun x a1 a2 => ?_, fun x a1 a2 j a3 a4 => ?_, fun j hj a1 => ?_⟩
      · by_cases h3 : x ∈ rec k M
        · have h4 := h1.mrk x h3 a2
          exact ⟨h4.1, hcon.trans h4.2⟩
        · exact h2.mrk x a1 h3
      · by_cases h3 : x ∈ rec k M
        · exact h2.pre.subset (h1.clo x h3 a2 j a3 a4)
        · exact h2.clo x a1 h3 j a3 a4
      · rcases List.mem_cons.1 hj with rfl | hj
        · exact h2.pre.subset h1.own
        · exact h2.kin j hj a1
    · rename_i hc
      have h2 := folL_ok (N := N) (M0 := M0) hW hL hm hr ks M (fun j hj => hk j (List.mem_cons_of_mem _ hj)) hd hx hN
      refine ⟨h2.pre, h2.nd, h2.mrk, h2.clo, fun j hj a1 => ?_⟩
      rcases List.mem_cons.1 hj with rfl | hj
      · exact h2.pre.subset (Decidable.byContradiction fun h3 => hc ⟨h3, a1⟩)
      · exact h2.kin j hj a1
theorem folW_ok {mk : List Bool} {W H : Nat} (hW : 2 ≤ W) (hL : mk.length = W * H) : ∀ (N n : Nat) (M : List Nat), bat mk n = true → n ∉ M → M.Nodup → (∀ x ∈ M, x < mk.length) → mk.length ≤ N + M.length → FO mk W n M (folW mk W N n M)
  | 0, n, M, h1, h2, h3, h4, h5 => by
    exfalso
    have h6 : (M ++ [n]).Nodup := by
      rw [List.nodup_append]
      exact ⟨h3, by simp, fun a ha b hb => by simp at hb; subst hb; intro e; subst e; exact h2 ha⟩
    have h7 := nodup_len mk.length (M ++ [n]) h6 fun x hx => by
      rcases List.mem_append.1 hx with hx | hx
      · exact h4 x hx
      · simp at hx; subst hx; exact bat_lt h1
    rw [List.length_append] at h7
    simp at h7; omega
  | N + 1, n, M, h1, h2, h3, h4, h5 => by
    have h6 : (M ++ [n]).Nodup := by
      rw [List.nodup_append]
      exact ⟨h3, by simp, fun a ha b hb => by simp at hb; subst hb; intro e; subst e; exact h2 ha⟩
    have h7 : ∀ x ∈ M ++ [n], x < mk.length := fun x hx => by
      rcases List.mem_append.1 hx with hx | hx
      · exact h4 x hx
      · simp at hx; subst hx; exact bat_lt h1
    have hn := bat_lt h1
    rw [folW]
    have h := folL_ok (N := N) (M0 := M ++ [n]) hW hL h1 (folW_ok hW hL N) (nbs W mk.length n) (M ++ [n]) (fun k hk => (nbs_iff hW hL hn).1 hk) h6 h7 (by rw [List.length_append]; simp; omega)
    have hnin : n ∈ folL mk (folW mk W N) (nbs W mk.length n) (M ++ [n]) := h.pre.subset (by simp)
    refine ⟨(List.prefix_append _ _).trans h.pre, h.nd, hnin, fun x a1 a2 => ?_, fun x a1 a2 k a3 a4 => ?_⟩
    · by_cases hx : x = n
      · subst hx; exact ⟨h1, Con.refl h1⟩
      · exact h.mrk x a1 (by simp [a2, hx])
    · by_cases hx : x = n
      · subst hx
        exact h.kin k ((nbs_iff hW hL hn).2 ⟨bat_lt a4, a3⟩) a4
      · exact h.clo x a1 (by simp [a2, hx]) k a3 a4
def srtN (l : List Nat) : List Nat := l.mergeSort fun x y => decide (x ≤ y)
theorem srtN_mem {l : List Nat} {x : Nat} : x ∈ srtN l ↔ x ∈ l := List.mem_mergeSort
theorem srtN_rise {l : List Nat} (h : l.Nodup) : (srtN l).Pairwise (· < ·) := by
  have h1 := List.pairwise_mergeSort (le := fun x y : Nat => decide (x ≤ y)) (by intro a b c h1 h2; simp only [decide_eq_true_eq] at *; omega) (by intro a b; simp only [Bool.or_eq_true, decide_eq_true_eq]; omega) l
  have h2 : (srtN l).Nodup := (List.mergeSort_perm l _).nodup_iff.2 h
  unfold srtN at *
  exact (h1.and h2).imp fun h => by
    have := h.1; have := h.2
    simp only [decide_eq_true_eq] at *; omega
def pstep (mk : List Bool) (W : Nat) (x : List Nat × List (List Nat)) (n : Nat) : List Nat × List (List Nat) :=
  if n ∉ x.1 ∧ bat mk n = true then (folW mk W mk.length n x.1, x.2 ++ [srtN ((folW mk W mk.length n x.1).drop x.1.length)]) else x
def parts (mk : List Bool) (W : Nat) : List (List Nat) := ((List.range mk.length).foldl (pstep mk W) ([], [])).2
structure Nam (mk : List Bool) (W : Nat) (nm : Nat → Int) : Prop where
  non : ∀ k, bat mk k = false → nm k = -1
  con : ∀ k, bat mk k = true → ∃ y : Nat, nm k = y ∧ Con mk W y k ∧ ∀ z, Con mk W z k → y ≤ z
def canon (L : Nat) (nm : Nat → Int) (N : Nat) : List (List Nat) := ((List.range N).filter fun i : Nat => decide (nm i = (i : Int))).map fun i : Nat => (List.range L).filter fun k => decide (nm k = (i : Int))
structure PI (mk : List Bool) (W : Nat) (nm : Nat → Int) (N : Nat) (x : List Nat × List (List Nat)) : Prop where
  nd : x.1.Nodup
  met : ∀ k, k ∈ x.1 ↔ ∃ y, y < N ∧ Con mk W y k
  out : x.2 = canon mk.length nm N
theorem pstep_ok {mk : List Bool} {W H N : Nat} {nm : Nat → Int} {x : List Nat × List (List Nat)} (hW : 2 ≤ W) (hL : mk.length = W * H) (hm : Nam mk W nm) (h : PI mk W nm N x) (hN : N < mk.length) : PI mk W nm (N + 1) (pstep mk W x N) := by
  obtain ⟨M, out⟩ := x
  have hnd := h.nd
  have hmet := h.met
  have hout := h.out
  dsimp only at hnd hmet hout
  unfold pstep
  dsimp only
  have hMlt : ∀ k ∈ M, k < mk.length := fun k hk => by
    obtain ⟨y, _, h2⟩ := (hmet k).1 hk
    exact bat_lt h2.mk.2
  have hcan : canon mk.length nm (N + 1) = canon mk.length nm N ++ (if nm N = N then [(List.range mk.length).filter fun k => decide (nm k = N)] else []) := by
    unfold canon
    rw [List.range_succ, List.filter_append, List.map_append]
    congr 1
    by_cases e : nm N = (N : Int)
    · rw [if_pos e]; simp [e]
    · rw [if_neg e]; simp [e]
  split
  · rename_i hc
    have hf := folW_ok hW hL mk.length N M hc.2 hc.1 hnd hMlt (by omega)
    generalize folW mk W mk.length N M = R at hf
    obtain ⟨new, rfl⟩ := hf.pre
    have hfirst : ∀ z, Con mk W z N → N ≤ z := fun z hz => by
      rcases Nat.lt_or_ge z N with h1 | h1
      · exact absurd ((hmet N).2 ⟨z, h1, hz⟩) hc.1
      · exact h1
    have hnmN : nm N = N := by
      obtain ⟨y, h1, h2, h3⟩ := hm.con N hc.2
      have := h3 N (Con.refl hc.2)
      have := hfirst y h2
      omega
    have hnd2 := hf.nd
    rw [List.nodup_append] at hnd2
    have hnew : ∀ k, k ∈ new ↔ Con mk W N k := fun k => by
      constructor
      · intro hk
        have h1 : k ∉ M := fun h2 => hnd2.2.2 k h2 k hk rfl
        exact (hf.mrk k (List.mem_append_right _ hk) h1).2
      · intro hk
        have h1 : ∀ j, Con mk W N j → j ∉ M := fun j hj h2 => by
          obtain ⟨y, h3, h4⟩ := (hmet j).1 h2
          exact hc.1 ((hmet N).2 ⟨y, h3, h4.trans hj.symm⟩)
        have h2 : k ∈ M ++ new := by
          induction hk with
          | refl _ => exact hf.own
          | step g1 g2 g3 ih => exact hf.clo _ (ih) (h1 _ g1) _ g2 g3
        rcases List.mem_append.1 h2 with h3 | h3
        · exact absurd h3 (h1 k hk)
        · exact h3
    refine ⟨hf.nd, fun k => ?_, ?_⟩
    · rw [List.mem_append, hmet, hnew]
      constructor
      · rintro (⟨y, h1, h2⟩ | h1)
        · exact ⟨y, by omega, h2⟩
        · exact ⟨N, by omega, h1⟩
      · rintro ⟨y, h1, h2⟩
        rcases Nat.lt_or_ge y N with h3 | h3
        · exact .inl ⟨y, h3, h2⟩
        · have : y = N := by omega
          subst this; exact .inr h2
    · rw [hcan, if_pos hnmN, hout]
      dsimp only
      rw [List.drop_left]
      congr 1
      congr 1
      refine rise_eq (srtN_rise hnd2.2.1) (List.Pairwise.filter _ List.pairwise_lt_range) fun k => ?_
      rw [srtN_mem, hnew, List.mem_filter, List.mem_range, decide_eq_true_eq]
      constructor
      · intro hk
        refine ⟨bat_lt hk.mk.2, ?_⟩
        obtain ⟨y, h1, h2, h3⟩ := hm.con k hk.mk.2
        have := h3 N hk
        have := hfirst y (h2.trans hk.symm)
        omega
      · rintro ⟨h1, h2⟩
        have hb : bat mk k = true := by
          cases hb : bat mk k with
          | true => rfl
          | false => have := hm.non k hb; omega
        obtain ⟨y, h3, h4, _⟩ := hm.con k hb
        have : y = N := by omega
        subst this; exact h4
  · rename_i hc
    have hno : ∀ k, Con mk W N k → k ∈ M := fun k hk => by
      have h1 : N ∈ M := Decidable.byContradiction fun h2 => hc ⟨h2, hk.mk.1⟩
      obtain ⟨y, h3, h4⟩ := (hmet N).1 h1
      exact (hmet k).2 ⟨y, h3, h4.trans hk⟩
    have hnmN : nm N ≠ N := fun e => by
      have hb : bat mk N = true := by
        cases hb : bat mk N with
        | true => rfl
        | false => have := hm.non N hb; omega
      obtain ⟨y, h1, h2, h3⟩ := hm.con N hb
      obtain ⟨z, h4, h5⟩ := (hmet N).1 (hno N (Con.refl hb))
      have := h3 z h5
      omega
    refine ⟨hnd, fun k => ?_, ?_⟩
    · dsimp only
      rw [hmet]
      constructor
      · rintro ⟨y, h1, h2⟩; exact ⟨y, by omega, h2⟩
      · rintro ⟨y, h1, h2⟩
        rcases Nat.lt_or_ge y N with h3 | h3
        · exact ⟨y, h3, h2⟩
        · have : y = N := by omega
          subst this; exact (hmet k).1 (hno k h2)
    · dsimp only
      rw [hcan, if_neg hnmN, List.append_nil, hout]
theorem parts_eq {mk : List Bool} {W H : Nat} {nm : Nat → Int} (hW : 2 ≤ W) (hL : mk.length = W * H) (hm : Nam mk W nm) : parts mk W = canon mk.length nm mk.length := by
  have key : ∀ N, N ≤ mk.length → PI mk W nm N ((List.range N).foldl (pstep mk W) ([], [])) := by
    intro N
    induction N with
    | zero => intro _; exact ⟨List.nodup_nil, fun k => by simp, rfl⟩
    | succ N ih =>
      intro hN
      rw [List.range_succ, List.foldl_append]
      exact pstep_ok hW hL hm (ih (by omega)) (by omega)
  exact (key _ (Nat.le_refl _)).out
end Riv

namespace Riv
def nput (W a : Nat) (x : TB) (b : Nat) : TB := if at0 x.1 a ≠ -1 ∧ at0 x.1 b ≠ -1 ∧ Nb W a b ∧ at0 x.1 a < at0 x.1 b then (x.1.set b (at0 x.1 a), true) else x
def ncell (W L : Nat) (x : TB) (a : Nat) : TB := (List.range L).foldl (nput W a) x
def nround (W L : Nat) (T : List Int) : TB := (List.range L).foldl (ncell W L) (T, false)
def ngo (W L : Nat) : Nat → List Int → List Int
  | 0, T => T
  | N + 1, T => bif (nround W L T).2 then ngo W L N (nround W L T).1 else (nround W L T).1
def n0 (mk : List Bool) : List Int := mk.zipIdx.map fun x => bif x.1 then (x.2 : Int) else -1
def names (W : Nat) (mk : List Bool) : List Int := ngo W mk.length 40000 (n0 mk)
structure NI (mk : List Bool) (W : Nat) (T : List Int) : Prop where
  len : T.length = mk.length
  non : ∀ k, bat mk k = false → at0 T k = -1
  con : ∀ k, bat mk k = true → ∃ y : Nat, at0 T k = y ∧ Con mk W y k ∧ y ≤ k
structure NJ (mk : List Bool) (W : Nat) (R T : List Int) (ch : Bool) (P : Nat → Nat → Prop) : Prop where
  ri : NI mk W T
  no : ch = false → T = R ∧ ∀ a b, a < mk.length → b < mk.length → P a b → at0 R a ≠ -1 → at0 R b ≠ -1 → Nb W a b → at0 R b ≤ at0 R a
  yes : ch = true → wgt T < wgt R
theorem nput_ok {mk : List Bool} {W : Nat} {R : List Int} {x : TB} {P : Nat → Nat → Prop} {a b : Nat} (hW : 2 ≤ W) (hL : mk.length ≤ 160) (h : NJ mk W R x.1 x.2 P) (ha : a < mk.length) (hb : b < mk.length) :
    NJ mk W R (nput W a x b).1 (nput W a x b).2 (fun i j => P i j ∨ (i = a ∧ j = b)) := by
  obtain ⟨T, ch⟩ := x
  dsimp only at h
  unfold nput
  dsimp only
  have hI := h.ri
  split
  · rename_i hc
    dsimp only
    have hbl : b < T.length := by rw [hI.len]; exact hb
    have hset := fun j => at0_set (v := at0 T a) hbl j
    have mka : bat mk a = true := by
      cases e : bat mk a with
      | true => rfl
      | false => exact absurd (hI.non a e) hc.1
    have mkb : bat mk b = true := by
      cases e : bat mk b with
      | true => rfl
      | false => exact absurd (hI.non b e) hc.2.1
    obtain ⟨y, h1, h2, h3⟩ := hI.con a mka
    obtain ⟨z, g1, g2, g3⟩ := hI.con b mkb
    refine ⟨⟨by rw [List.length_set]; exact hI.len, fun k hk => ?_, fun k hk => ?_⟩, fun e => by simp at e, fun _ => ?_⟩
    · rw [hset, if_neg (fun e => by subst e; rw [mkb] at hk; cases hk)]; exact hI.non k hk
    · rw [hset]
      split
      · rename_i e; subst e
        exact ⟨y, h1, h2.step hc.2.2.1 mkb, by omega⟩
      · exact hI.con k hk
    · have h5 := wgt_set (v := at0 T a) hbl (by omega) (by omega) (.inr hc.2.2.2)
      cases ch with
      | false => rw [← (h.no rfl).1]; exact h5
      | true => exact Nat.lt_trans h5 (h.yes rfl)
  · rename_i hc
    dsimp only
    refine ⟨hI, fun e => ?_, h.yes⟩
    obtain ⟨e1, e2⟩ := h.no e
    refine ⟨e1, fun i j hi hj hp g1 g2 g3 => ?_⟩
    rcases hp with hp | ⟨rfl, rfl⟩
    · exact e2 i j hi hj hp g1 g2 g3
    · rw [e1] at hc
      rcases Int.lt_or_le (at0 R i) (at0 R j) with h5 | h5
      · exact absurd ⟨g1, g2, g3, h5⟩ hc
      · exact h5
theorem NJ.mono {mk : List Bool} {W : Nat} {R T : List Int} {ch : Bool} {P Q : Nat → Nat → Prop} (h : NJ mk W R T ch P) (hq : ∀ a b, a < mk.length → b < mk.length → Q a b → P a b) : NJ mk W R T ch Q :=
  ⟨h.ri, fun e => ⟨(h.no e).1, fun a b h1 h2 h3 => (h.no e).2 a b h1 h2 (hq a b h1 h2 h3)⟩, h.yes⟩
theorem ncell_ok {mk : List Bool} {W : Nat} {R : List Int} {P : Nat → Nat → Prop} {a : Nat} (hW : 2 ≤ W) (hL : mk.length ≤ 160) (ha : a < mk.length) {x : TB} (h : NJ mk W R x.1 x.2 P) : ∀ N, N ≤ mk.length →
    NJ mk W R ((List.range N).foldl (nput W a) x).1 ((List.range N).foldl (nput W a) x).2 (fun i j => P i j ∨ (i = a ∧ j < N))
  | 0, _ => h.mono fun a b _ _ h4 => by rcases h4 with h4 | h4; exact h4; omega
  | N + 1, hN => by
    have h1 := ncell_ok hW hL ha h N (by omega)
    rw [List.range_succ, List.foldl_append]
    exact (nput_ok hW hL h1 ha (show N < mk.length by omega)).mono fun i j _ _ h4 => by
      rcases h4 with h4 | h4
      · exact .inl (.inl h4)
      · rcases Nat.lt_or_ge j N with h5 | h5
        · exact .inl (.inr ⟨h4.1, h5⟩)
        · exact .inr ⟨h4.1, by omega⟩
theorem nround_ok {mk : List Bool} {W : Nat} {R : List Int} (hW : 2 ≤ W) (hL : mk.length ≤ 160) (h : NI mk W R) : ∀ N, N ≤ mk.length →
    NJ mk W R ((List.range N).foldl (ncell W mk.length) (R, false)).1 ((List.range N).foldl (ncell W mk.length) (R, false)).2 (fun i _ => i < N)
  | 0, _ => ⟨h, fun _ => ⟨rfl, fun a b _ _ h4 => by omega⟩, fun e => by simp at e⟩
  | N + 1, hN => by
    have h1 := nround_ok hW hL h N (by omega)
    rw [List.range_succ, List.foldl_append]
    exact (ncell_ok hW hL (show N < mk.length by omega) h1 mk.length (Nat.le_refl _)).mono fun i j _ hj h4 => by
      rcases Nat.lt_or_ge i N with h5 | h5
      · exact .inl h5
      · exact .inr ⟨by omega, hj⟩
theorem ngo_ok {mk : List Bool} {W : Nat} (hW : 2 ≤ W) (hL : mk.length ≤ 160) : ∀ (N : Nat) (R : List Int), NI mk W R → wgt R < N → Nam mk W (at0 (ngo W mk.length N R)) ∧ (ngo W mk.length N R).length = mk.length
  | 0, _, _, hN => absurd hN (Nat.not_lt_zero _)
  | N + 1, R, h, hN => by
    have h1 := nround_ok hW hL h mk.length (Nat.le_refl _)
    rw [ngo]
    unfold nround
    generalize hx : (List.range mk.length).foldl (ncell W mk.length) (R, false) = x at h1
    obtain ⟨T, ch⟩ := x
    dsimp only at h1 ⊢
    cases ch with
    | true =>
      have := h1.yes rfl
      exact ngo_ok hW hL N T h1.ri (by omega)
    | false =>
      obtain ⟨e, h2⟩ := h1.no rfl
      subst e
      show Nam mk W (at0 T) ∧ T.length = mk.length
      have hne : ∀ k, bat mk k = true → at0 T k ≠ -1 := fun k hk => by
        obtain ⟨y, h3, _⟩ := h.con k hk; omega
      have hsame : ∀ z k, Con mk W z k → at0 T z = at0 T k := by
        intro z k hz
        induction hz with
        | refl _ => rfl
        | step g1 g2 g3 ih =>
          rename_i b c
          have hb := g1.mk.2
          have a1 := h2 b c (bat_lt hb) (bat_lt g3) (bat_lt hb) (hne b hb) (hne c g3) g2
          have a2 := h2 c b (bat_lt g3) (bat_lt hb) (bat_lt g3) (hne c g3) (hne b hb) g2.symm
          omega
      refine ⟨⟨h.non, fun k hk => ?_⟩, h.len⟩
      obtain ⟨y, h3, h4, h5⟩ := h.con k hk
      refine ⟨y, h3, h4, fun z hz => ?_⟩
      have h6 := hsame z k hz
      obtain ⟨u, h7, _, h8⟩ := h.con z hz.mk.1
      omega
theorem at0_n0 {mk : List Bool} (k : Nat) : at0 (n0 mk) k = bif bat mk k then (k : Int) else -1 := by
  unfold at0 n0 bat
  rw [List.getD_eq_getElem?_getD, List.getD_eq_getElem?_getD, List.getElem?_map, List.getElem?_zipIdx]
  cases mk[k]? with
  | none => rfl
  | some b => simp
theorem ni0 {mk : List Bool} {W : Nat} : NI mk W (n0 mk) := by
  refine ⟨by unfold n0; simp, fun k hk => by rw [at0_n0, hk]; rfl, fun k hk => ⟨k, by rw [at0_n0, hk]; rfl, Con.refl hk, Nat.le_refl _⟩⟩
theorem names_ok {mk : List Bool} {W : Nat} (hW : 2 ≤ W) (hL : mk.length ≤ 160) : Nam mk W (at0 (names W mk)) ∧ (names W mk).length = mk.length := by
  refine ngo_ok hW hL _ _ ni0 ?_
  have := wgt_le (T := n0 mk) fun n => by
    rw [at0_n0]
    cases hb : bat mk n with
    | true => have := bat_lt hb; simp only [cond_true]; omega
    | false => simp
  have h2 := (ni0 (mk := mk) (W := W)).len
  rw [h2] at this
  omega
end Riv

namespace Riv
def ownr (a b : Int) : Int := if a = -1 ∧ b = -1 then 0 else if a = b then 3 else if b = -1 ∨ (a ≠ -1 ∧ a < b) then 1 else 2
theorem ownr_bd (a b : Int) : 0 ≤ ownr a b ∧ ownr a b ≤ 3 := by
  unfold ownr
  split
  · decide
  · split
    · decide
    · split <;> decide
theorem ownr_least (a b : Int) (h : a ≠ b) : ownr a b = if leastL [a, b] = a then 1 else 2 := by
  unfold ownr leastL
  simp only [List.foldl_cons, List.foldl_nil, ls1]
  by_cases ha : a = -1
  · subst ha
    have hb : ¬ b = -1 := fun e => h e.symm
    simp [hb, h]
  · by_cases hb : b = -1
    · subst hb; simp [ha]
    · rcases Int.lt_or_le b a with h1 | h1
      · have h2 : ¬ a < b := by omega
        have h3 : ¬ b = a := fun e => h e.symm
        simp [ha, hb, h1, h, h2, h3]
      · have h2 : ¬ b < a := by omega
        have h3 : a < b := by omega
        simp [ha, hb, h, h2, h3]
def lowT (T : List Int) (l : List Nat) : Int := l.foldl (fun o n => ls1 o (at0 T n)) (-1)
theorem ls1_least (o n : Int) : leastL [o, n] = ls1 o n := by
  unfold leastL
  simp only [List.foldl_cons, List.foldl_nil]
  have : ls1 (-1) o = o := by unfold ls1; split <;> simp_all
  rw [this]
structure Sh where
  f : Int
  o : Int
  nr : Bool
  deriving DecidableEq
def marks (c : List Int) : List Bool := c.map fun x => decide (x = 3)
def isl (c : List Int) (W : Nat) : List (List Nat) := parts (marks c) W
def own1 (c : List Int) (W : Nat) (l : List Nat) : Int := ownr (lowT (bfs c W 1) l) (lowT (bfs c W 2) l)
def gv1 (x : Int × Int) (o : Int) : Int × (Int × Int) := if o = 3 then (if x.2 < x.1 then (2, x.1, x.2 + 1) else (1, x.1 + 1, x.2)) else (o, x)
def gvL : Int × Int → List Int → List Int
  | _, [] => []
  | x, o :: l => (gv1 x o).1 :: gvL (gv1 x o).2 l
def many (k : Int) (l : List Int) : Int := (l.countP fun o => decide (o = k) : Nat)
def own0 (c : List Int) (W : Nat) : List Int := (isl c W).map (own1 c W)
def ownI (c : List Int) (W : Nat) : List Int := gvL (many 1 (own0 c W), many 2 (own0 c W)) (own0 c W)
def rg1 (l : List Int) (i : Nat) : List Int := if at0 l i = 3 then l.set i (if many 2 l < many 1 l then 2 else 1) else l
def rgL (l : List Int) : List Int := (List.range l.length).foldl rg1 l
theorem many_app (k : Int) (a b : List Int) : many k (a ++ b) = many k a + many k b := by unfold many; rw [List.countP_append]; omega
theorem many_cons (k x : Int) (b : List Int) : many k (x :: b) = (if x = k then 1 else 0) + many k b := by
  unfold many; rw [List.countP_cons]
  by_cases h : x = k <;> simp [h] <;> omega
theorem gv1_snd (a b o : Int) : (gv1 (a, b) o).2 = (a - (if o = 1 then 1 else 0) + (if (gv1 (a, b) o).1 = 1 then 1 else 0), b - (if o = 2 then 1 else 0) + (if (gv1 (a, b) o).1 = 2 then 1 else 0)) := by
  unfold gv1
  by_cases h3 : o = 3
  · subst h3
    rw [if_pos rfl]
    split <;> simp
  · rw [if_neg h3]
    refine Prod.ext ?_ ?_
    · dsimp only; split <;> omega
    · dsimp only; split <;> omega
theorem rg_go : ∀ (rest done : List Int), (List.range' done.length rest.length).foldl rg1 (done ++ rest) = done ++ gvL (many 1 (done ++ rest), many 2 (done ++ rest)) rest
  | [], done => by simp [gvL]
  | o :: rest, done => by
    rw [List.length_cons, List.range'_succ, List.foldl_cons, gvL]
    have hat : at0 (done ++ o :: rest) done.length = o := by
      unfold at0
      rw [List.getD_eq_getElem?_getD, List.getElem?_append_right (Nat.le_refl _), Nat.sub_self]; rfl
    have hset : ∀ v : Int, (done ++ o :: rest).set done.length v = (done ++ [v]) ++ rest := fun v => by
      rw [List.set_append_right _ _ (Nat.le_refl _), Nat.sub_self, List.set_cons_zero, List.append_assoc]; rfl
    have ih := fun v => rg_go rest (done ++ [v])
    simp only [List.length_append, List.length_singleton] at ih
    have hm : ∀ (k v : Int), many k ((done ++ [v]) ++ rest) = many k (done ++ o :: rest) - (if o = k then 1 else 0) + (if v = k then 1 else 0) := fun k v => by
      rw [many_app, many_app, many_app, many_cons, many_cons]
      have : many k [] = 0 := rfl
      rw [this]
      omega
    have hr : rg1 (done ++ o :: rest) done.length = (done ++ [(gv1 (many 1 (done ++ o :: rest), many 2 (done ++ o :: rest)) o).1]) ++ rest := by
      unfold rg1 gv1
      rw [hat]
      split
      · rename_i h3
        rw [hset]
        split <;> rfl
      · rw [List.append_assoc]; rfl
    rw [hr, ih, hm, hm, List.append_assoc, List.singleton_append, ← gv1_snd]
theorem rg_eq (l : List Int) : rgL l = gvL (many 1 l, many 2 l) l := by
  have := rg_go l []
  simp only [List.length_nil, List.nil_append] at this
  unfold rgL
  rw [List.range_eq_range']
  exact this
theorem gvL_len : ∀ (x : Int × Int) (l : List Int), (gvL x l).length = l.length
  | _, [] => rfl
  | x, o :: l => by rw [gvL, List.length_cons, List.length_cons, gvL_len]
def shr (c : List Int) (W : Nat) : List Sh := ((isl c W).zip ((own0 c W).zip (ownI c W))).map fun x => ⟨((x.1.headD 0 : Nat) : Int), x.2.2, decide (x.2.1 = 1 ∨ x.2.1 = 2)⟩
def setAll (out : List Int) (l : List Nat) (o : Int) : List Int := l.foldl (fun out n => out.set n o) out
def ownW (c : List Int) (W : Nat) : List Int := c.zipIdx.map fun x => if x.1 = 0 then ownr (at0 (bfs c W 1) x.2) (at0 (bfs c W 2) x.2) else x.1
def owns (c : List Int) (W : Nat) : List Int := ((isl c W).zip (ownI c W)).foldl (fun out x => setAll out x.1 x.2) (ownW c W)
theorem setAll_len : ∀ (l : List Nat) (out : List Int) (o : Int), (setAll out l o).length = out.length
  | [], _, _ => rfl
  | n :: l, out, o => by have := setAll_len l (out.set n o) o; unfold setAll at *; rw [List.foldl_cons, this, List.length_set]
end Riv

namespace Riv
def rnm (c : List Int) (W : Nat) : List Int := names W (marks c)
def firsts (c : List Int) (W : Nat) : List Nat := (List.range c.length).filter fun i : Nat => decide (at0 (rnm c W) i = (i : Int))
theorem marks_len (c : List Int) : (marks c).length = c.length := by simp [marks]
theorem bat_marks (c : List Int) (k : Nat) : bat (marks c) k = decide (at0 c k = 3) := by
  unfold bat marks at0
  simp only [List.getD_eq_getElem?_getD, List.getElem?_map]
  cases c[k]? with
  | none => rfl
  | some x => rfl
theorem rnm_ok {c : List Int} {W : Nat} (hW : 2 ≤ W) (hL : c.length ≤ 160) : Nam (marks c) W (at0 (rnm c W)) ∧ (rnm c W).length = c.length := by
  have := names_ok (mk := marks c) hW (by rw [marks_len]; exact hL)
  rw [marks_len] at this
  exact this
theorem isl_eq {c : List Int} {W H : Nat} (hW : 2 ≤ W) (hL : c.length = W * H) (h1 : c.length ≤ 160) : isl c W = (firsts c W).map fun i : Nat => (List.range c.length).filter fun k => decide (at0 (rnm c W) k = (i : Int)) := by
  unfold isl
  rw [parts_eq hW (by rw [marks_len]; exact hL) (rnm_ok hW h1).1, marks_len]
  rfl
theorem fold_set_len : ∀ (l : List (List Nat × Int)) (out : List Int), (l.foldl (fun out x => setAll out x.1 x.2) out).length = out.length
  | [], _ => rfl
  | x :: l, out => by rw [List.foldl_cons, fold_set_len, setAll_len]
theorem ownW_len (c : List Int) (W : Nat) : (ownW c W).length = c.length := by simp [ownW]
theorem ownI_len {c : List Int} {W H : Nat} (hW : 2 ≤ W) (hL : c.length = W * H) (h1 : c.length ≤ 160) : (ownI c W).length = (firsts c W).length ∧ (own0 c W).length = (firsts c W).length := by
  have : (own0 c W).length = (firsts c W).length := by unfold own0; rw [List.length_map, isl_eq hW hL h1, List.length_map]
  exact ⟨by unfold ownI; rw [gvL_len, this], this⟩
theorem owns_len (c : List Int) (W : Nat) : (owns c W).length = c.length := by unfold owns; rw [fold_set_len, ownW_len]
theorem at0_ownW {c : List Int} {W k : Nat} (h : k < c.length) : at0 (ownW c W) k = if at0 c k = 0 then ownr (at0 (bfs c W 1) k) (at0 (bfs c W 2) k) else at0 c k := by
  have e : at0 c k = c[k] := by unfold at0; rw [List.getD_eq_getElem?_getD, List.getElem?_eq_getElem h]; rfl
  rw [e]
  unfold ownW
  show (List.map _ c.zipIdx).getD k (-1) = _
  rw [List.getD_eq_getElem?_getD, List.getElem?_map, List.getElem?_zipIdx, List.getElem?_eq_getElem h]
  simp
end Riv

namespace Riv
def diffs (a b : List Int) : List Bool := (List.range a.length).map fun n => decide (at0 a n ≠ at0 b n)
def chg (a b : List Int) (W : Nat) : List (List Nat) := parts (diffs a b) W
def rchg (a b : List Int) (W : Nat) : List (List Nat) := canon a.length (at0 (names W (diffs a b))) a.length
theorem diffs_len (a b : List Int) : (diffs a b).length = a.length := by simp [diffs]
theorem bat_diffs {a b : List Int} {n : Nat} : bat (diffs a b) n = true ↔ n < a.length ∧ at0 a n ≠ at0 b n := by
  unfold bat diffs
  rw [List.getD_eq_getElem?_getD, List.getElem?_map]
  by_cases h : n < a.length
  · rw [List.getElem?_range h]; simp [h]
  · rw [List.getElem?_eq_none (by simp; omega)]; simp [h]
theorem chg_eq {a b : List Int} {W H : Nat} (hW : 2 ≤ W) (hL : a.length = W * H) (h1 : a.length ≤ 160) : chg a b W = rchg a b W := by
  unfold chg rchg
  rw [parts_eq hW (by rw [diffs_len]; exact hL) (names_ok (mk := diffs a b) hW (by rw [diffs_len]; exact h1)).1, diffs_len]
theorem chg_mem {a b : List Int} {W H : Nat} (hW : 2 ≤ W) (hL : a.length = W * H) (h1 : a.length ≤ 160) {cs : List Nat} (h : cs ∈ chg a b W) : cs ≠ [] ∧ cs.Pairwise (· < ·) ∧ cs.length ≤ a.length ∧ ∀ n ∈ cs, n < a.length ∧ at0 a n ≠ at0 b n := by
  rw [chg_eq hW hL h1] at h
  unfold rchg canon at h
  obtain ⟨i, hi, rfl⟩ := List.mem_map.1 h
  obtain ⟨g1, g2⟩ := List.mem_filter.1 hi
  have hn := (names_ok (mk := diffs a b) hW (by rw [diffs_len]; exact h1)).1
  refine ⟨fun e => ?_, List.Pairwise.filter _ List.pairwise_lt_range, ?_, fun n hn2 => ?_⟩
  · have : i ∈ ([] : List Nat) := by rw [← e]; exact List.mem_filter.2 ⟨g1, g2⟩
    cases this
  · have := List.length_filter_le (fun k => decide (at0 (names W (diffs a b)) k = (i : Int))) (List.range a.length)
    rw [List.length_range] at this
    exact this
  · obtain ⟨k1, k2⟩ := List.mem_filter.1 hn2
    have k3 := of_decide_eq_true k2
    have hb : bat (diffs a b) n = true := by
      cases hb : bat (diffs a b) n with
      | true => rfl
      | false => have := hn.non n hb; omega
    exact bat_diffs.1 hb
theorem chg_has {a b : List Int} {W H : Nat} (hW : 2 ≤ W) (hL : a.length = W * H) (h1 : a.length ≤ 160) {n : Nat} (hn : n < a.length) (hd : at0 a n ≠ at0 b n) : ∃ cs ∈ chg a b W, n ∈ cs := by
  rw [chg_eq hW hL h1]
  have hN := (names_ok (mk := diffs a b) hW (by rw [diffs_len]; exact h1)).1
  have hb := bat_diffs.2 ⟨hn, hd⟩
  obtain ⟨y, e1, e2, e3⟩ := hN.con n hb
  obtain ⟨z, f1, f2, f3⟩ := hN.con y e2.mk.1
  have := e3 z (f2.trans e2)
  have := f3 y (Con.refl e2.mk.1)
  have hy := bat_lt e2.mk.1
  rw [diffs_len] at hy
  refine ⟨_, List.mem_map.2 ⟨y, List.mem_filter.2 ⟨List.mem_range.2 hy, ?_⟩, rfl⟩, List.mem_filter.2 ⟨List.mem_range.2 hn, ?_⟩⟩
  · simp only [decide_eq_true_eq]; omega
  · simp only [decide_eq_true_eq]; exact e1
def lset (b out : List Int) (cs : List Nat) : List Int := cs.foldl (fun out n => out.set n (at0 b n)) out
def lstep (slow : Int) (b out : List Int) (cs : List Nat) : List Int := if (cs.length : Int) ≤ slow then lset b out cs else out
def lyear (W : Nat) (slow : Int) (a b now : List Int) : List Int := (chg a b W).foldl (lstep slow b) now
def lawAt (W : Nat) (l : List (List Int)) (slow : Int) : Nat → List Int
  | 0 => l.getD 0 []
  | y + 1 => lyear W slow (l.getD y []) (l.getD (y + 1) []) (lawAt W l slow y)
def lawL (W : Nat) (l : List (List Int)) (slow : Int) : List (List Int) := (List.range l.length).map (lawAt W l slow)
theorem lset_len : ∀ (b out : List Int) (cs : List Nat), (lset b out cs).length = out.length
  | _, _, [] => rfl
  | b, out, n :: cs => by have := lset_len b (out.set n (at0 b n)) cs; unfold lset at *; rw [List.foldl_cons, this, List.length_set]
theorem lset_at : ∀ (b out : List Int) (cs : List Nat) (k : Nat), (∀ n ∈ cs, n < out.length) → at0 (lset b out cs) k = if k ∈ cs then at0 b k else at0 out k
  | _, _, [], _, _ => by simp [lset]
  | b, out, n :: cs, k, h => by
    have h1 := lset_at b (out.set n (at0 b n)) cs k (fun j hj => by rw [List.length_set]; exact h j (List.mem_cons_of_mem _ hj))
    unfold lset at h1 ⊢
    rw [List.foldl_cons, h1, at0_set (h n List.mem_cons_self)]
    by_cases hk : k ∈ cs
    · simp [hk]
    · by_cases hkn : k = n
      · subst hkn; simp
      · simp [hk, hkn]
theorem lstep_len (slow : Int) (b out : List Int) (cs : List Nat) : (lstep slow b out cs).length = out.length := by
  unfold lstep; split
  · exact lset_len _ _ _
  · rfl
theorem lyear_go_len (slow : Int) (b : List Int) : ∀ (L : List (List Nat)) (now : List Int), (L.foldl (lstep slow b) now).length = now.length
  | [], _ => rfl
  | c :: L, now => by rw [List.foldl_cons, lyear_go_len slow b L, lstep_len]
theorem lyear_len (W : Nat) (slow : Int) (a b now : List Int) : (lyear W slow a b now).length = now.length := lyear_go_len _ _ _ _
theorem lyear_go (slow : Int) (b : List Int) (k : Nat) : ∀ (L : List (List Nat)) (now : List Int), (∀ c ∈ L, ∀ n ∈ c, n < now.length) → at0 (L.foldl (lstep slow b) now) k = if ∃ c ∈ L, k ∈ c ∧ (c.length : Int) ≤ slow then at0 b k else at0 now k
  | [], _, _ => by simp
  | c :: L, now, h => by
    rw [List.foldl_cons, lyear_go slow b k L _ (fun d hd n hn => by rw [lstep_len]; exact h d (List.mem_cons_of_mem _ hd) n hn)]
    by_cases h1 : ∃ d ∈ L, k ∈ d ∧ (d.length : Int) ≤ slow
    · rw [if_pos h1, if_pos]
      obtain ⟨d, h2, h3⟩ := h1
      exact ⟨d, List.mem_cons_of_mem _ h2, h3⟩
    · rw [if_neg h1]
      unfold lstep
      by_cases h2 : (c.length : Int) ≤ slow
      · rw [if_pos h2, lset_at _ _ _ _ (h c List.mem_cons_self)]
        by_cases h3 : k ∈ c
        · rw [if_pos h3, if_pos ⟨c, List.mem_cons_self, h3, h2⟩]
        · rw [if_neg h3, if_neg]
          rintro ⟨d, h4, h5, h6⟩
          rcases List.mem_cons.1 h4 with rfl | h4
          · exact h3 h5
          · exact h1 ⟨d, h4, h5, h6⟩
      · rw [if_neg h2, if_neg]
        rintro ⟨d, h4, h5, h6⟩
        rcases List.mem_cons.1 h4 with rfl | h4
        · exact h2 h6
        · exact h1 ⟨d, h4, h5, h6⟩
theorem lyear_at {W H : Nat} {slow : Int} {a b now : List Int} {k : Nat} (hW : 2 ≤ W) (hL : a.length = W * H) (h1 : a.length ≤ 160) (hn : now.length = a.length) : at0 (lyear W slow a b now) k = if ∃ c ∈ chg a b W, k ∈ c ∧ (c.length : Int) ≤ slow then at0 b k else at0 now k :=
  lyear_go _ _ _ _ _ fun c hc n h => by rw [hn]; exact ((chg_mem hW hL h1 hc).2.2.2 n h).1
structure Yrs (W H : Nat) (l : List (List Int)) : Prop where
  two : 2 ≤ W
  few : W * H ≤ 160
  len : ∀ y, y < l.length → (l.getD y []).length = W * H
theorem lawAt_len {W H : Nat} {l : List (List Int)} (h : Yrs W H l) (slow : Int) : ∀ y, y < l.length → (lawAt W l slow y).length = W * H
  | 0, hy => h.len 0 hy
  | y + 1, hy => by rw [lawAt, lyear_len]; exact lawAt_len h slow y (by omega)
theorem isl_in {c : List Int} {W H : Nat} (hW : 2 ≤ W) (hL : c.length = W * H) (h1 : c.length ≤ 160) : ∀ cs ∈ isl c W, ∀ n ∈ cs, n < c.length := by
  intro cs hcs n hn
  rw [isl_eq hW hL h1] at hcs
  obtain ⟨i, _, rfl⟩ := List.mem_map.1 hcs
  exact List.mem_range.1 (List.mem_filter.1 hn).1
end Riv

namespace Riv
abbrev Dk := Nat × Int
structure Dealt (nx : Dk → Int → Int × Dk) : Prop where
  lo : ∀ d k, 0 ≤ (nx d k).1
  hi : ∀ d k, 0 < k → (nx d k).1 < k
  n : ∀ d k, (nx d k).2.1 ≤ d.1 + 1
structure MOk (W H : Nat) (c : List Int) : Prop where
  w : 3 ≤ W ∧ W ≤ 12
  h : 1 ≤ H ∧ H ≤ 12
  len : c.length = W * H
  kind : ∀ n, n < c.length → 0 ≤ at0 c n ∧ at0 c n ≤ 3
  side : ∀ y, y < H → at0 c (y * W) = 1 ∧ at0 c (y * W + W - 1) = 2
section
variable (nx : Dk → Int → Int × Dk)
variable {nx}
end
end Riv

namespace Riv
def sideB (c : List Int) (W : Nat) (y : Nat) : Bool := decide (at0 c (y * W) = 1 ∧ at0 c (y * W + W - 1) = 2)
def kindB (c : List Int) : Bool := c.all fun x => decide (0 ≤ x ∧ x ≤ 3)
def chkM (m : Mp) : Int :=
  if ((3 ≤ m.w ∧ m.w ≤ 12) ∧ 1 ≤ m.h ∧ m.h ≤ 12) ∧ (m.c.length : Int) = m.w * m.h then
    (bif kindB m.c then (bif (List.range m.h.toNat).all (sideB m.c m.w.toNat) then 0 else 9) else 4)
  else 3
def chkL : List Mp → Int
  | [] => 0
  | m :: l => if chkM m = 0 then chkL l else chkM m
def sameB (m : Mp) (l : List Mp) : Bool := l.all fun x => decide (x.w = m.w ∧ x.h = m.h)
def chkY (l : List Mp) : Int := if 1 ≤ l.length ∧ l.length ≤ 10 then (if chkL l = 0 then (bif sameB (l.headD ⟨0, 0, []⟩) l then 0 else 2) else chkL l) else 3
theorem chkM_ok {m : Mp} (h : chkM m = 0) : ∃ W H : Nat, m.w = W ∧ m.h = H ∧ MOk W H m.c := by
  unfold chkM at h
  split at h
  · rename_i h1
    obtain ⟨W, eW⟩ : ∃ W : Nat, m.w = W := ⟨m.w.toNat, by omega⟩
    obtain ⟨H, eH⟩ : ∃ H : Nat, m.h = H := ⟨m.h.toNat, by omega⟩
    cases hk : kindB m.c with
    | false => rw [hk] at h; simp at h
    | true =>
      rw [hk, cond_true] at h
      cases hs : (List.range m.h.toNat).all (sideB m.c m.w.toNat) with
      | false => rw [hs] at h; simp at h
      | true =>
        rw [eW, eH, Int.toNat_natCast, Int.toNat_natCast] at hs
        rw [eW, eH] at h1
        refine ⟨W, H, eW, eH, ⟨by omega, by omega⟩, ⟨by omega, by omega⟩, ?_, fun n hn => ?_, fun y hy => ?_⟩
        · have := h1.2
          have e : ((W * H : Nat) : Int) = (W : Int) * H := by rw [Int.natCast_mul]
          omega
        · unfold kindB at hk
          rw [List.all_eq_true] at hk
          have e : at0 m.c n = m.c[n] := by unfold at0; rw [List.getD_eq_getElem?_getD, List.getElem?_eq_getElem hn]; rfl
          rw [e]
          exact of_decide_eq_true (hk _ (List.getElem_mem hn))
        · rw [List.all_eq_true] at hs
          exact of_decide_eq_true (hs y (List.mem_range.2 hy))
  · simp at h
theorem chkM_of {W H : Nat} {c : List Int} (h : MOk W H c) : chkM ⟨W, H, c⟩ = 0 := by
  unfold chkM
  have h1 := h.w; have h2 := h.h; have h3 := h.len
  have e : ((W * H : Nat) : Int) = (W : Int) * H := by rw [Int.natCast_mul]
  rw [if_pos (by dsimp only; refine ⟨by omega, ?_⟩; omega)]
  have hk : kindB c = true := by
    unfold kindB
    rw [List.all_eq_true]
    intro x hx
    obtain ⟨n, hn, rfl⟩ := List.getElem_of_mem hx
    have e : at0 c n = c[n] := by unfold at0; rw [List.getD_eq_getElem?_getD, List.getElem?_eq_getElem hn]; rfl
    rw [← e]
    exact decide_eq_true (h.kind n hn)
  have hs : (List.range H).all (sideB c W) = true := by
    rw [List.all_eq_true]
    intro y hy
    exact decide_eq_true (h.side y (List.mem_range.1 hy))
  dsimp only
  rw [hk, Int.toNat_natCast, Int.toNat_natCast, hs]
  rfl
theorem chkL_zero : ∀ {l : List Mp}, chkL l = 0 → ∀ m ∈ l, chkM m = 0
  | [], _, m, h => by cases h
  | x :: l, h, m, hm => by
    rw [chkL] at h
    by_cases hx : chkM x = 0
    · rw [if_pos hx] at h
      rcases List.mem_cons.1 hm with rfl | hm
      · exact hx
      · exact chkL_zero h m hm
    · rw [if_neg hx] at h; exact absurd h hx
theorem chkL_of : ∀ {l : List Mp}, (∀ m ∈ l, chkM m = 0) → chkL l = 0
  | [], _ => rfl
  | x :: l, h => by rw [chkL, if_pos (h x List.mem_cons_self)]; exact chkL_of fun m hm => h m (List.mem_cons_of_mem _ hm)
theorem chkY_ok {l : List Mp} (h : chkY l = 0) : ∃ W H : Nat, (1 ≤ l.length ∧ l.length ≤ 10) ∧ ∀ m ∈ l, m.w = W ∧ m.h = H ∧ MOk W H m.c := by
  unfold chkY at h
  split at h
  · rename_i h1
    split at h
    · rename_i h2
      cases hs : sameB (l.headD ⟨0, 0, []⟩) l with
      | false => rw [hs] at h; simp at h
      | true =>
        cases l with
        | nil => simp at h1
        | cons m l =>
          obtain ⟨W, H, eW, eH, _⟩ := chkM_ok (chkL_zero h2 m List.mem_cons_self)
          refine ⟨W, H, h1, fun x hx => ?_⟩
          unfold sameB at hs
          rw [List.all_eq_true] at hs
          have g := of_decide_eq_true (hs x hx)
          have g1 : x.w = m.w := g.1
          have g2 : x.h = m.h := g.2
          obtain ⟨W', H', e1, e2, hm⟩ := chkM_ok (chkL_zero h2 x hx)
          have a1 : W' = W := by omega
          have a2 : H' = H := by omega
          subst a1; subst a2
          exact ⟨e1, e2, hm⟩
    · rename_i h2; exact absurd h h2
  · simp at h
theorem chkY_of {W H : Nat} {l : List Mp} (h1 : 1 ≤ l.length ∧ l.length ≤ 10) (h : ∀ m ∈ l, m.w = W ∧ m.h = H ∧ MOk W H m.c) : chkY l = 0 := by
  unfold chkY
  have hz : ∀ m ∈ l, chkM m = 0 := fun m hm => by
    obtain ⟨e1, e2, g⟩ := h m hm
    have := chkM_of g
    rw [← e1, ← e2] at this
    exact this
  rw [if_pos h1, if_pos (chkL_of hz)]
  have hs : sameB (l.headD ⟨0, 0, []⟩) l = true := by
    cases l with
    | nil => simp at h1
    | cons m l =>
      unfold sameB
      rw [List.all_eq_true]
      intro x hx
      have g := h x hx
      have f := h m List.mem_cons_self
      exact decide_eq_true ⟨g.1.trans f.1.symm, g.2.1.trans f.2.1.symm⟩
  rw [hs]; rfl
def cellsY (l : List Mp) : List (List Int) := l.map fun m => m.c
end Riv

open Go.Vm
open Riv
namespace Go.Proofs.YtccpfempgmkmbaaGreat
set_option maxRecDepth 20000
set_option maxHeartbeats 2000000

def vM (m : Mp) : V := .agg [I m.w, I m.h, ints m.c]
def encM (m : Mp) : List D := [DI m.w, DI m.h, .sl 1 m.c.length (m.c.flatMap encI)]
theorem encM_len (m : Mp) : (encM m).length = 3 := rfl
def vSd (m : Mp) (s : Int) : V := .agg [I m.w, I m.h, ints m.c, I s]
end Go.Proofs.YtccpfempgmkmbaaGreat

open Go.Vm
open Riv
namespace Go.Proofs.YtccpfempgmkmbaaGreat
set_option maxRecDepth 20000
set_option maxHeartbeats 4000000

theorem vc_from (n a b : Int) (h : Hp) : VC Tryz.prog 24 [I n, I a, I b] h (B (decide (a ≤ n ∧ n ≤ b))) h := by
  refine VC.body Tryz.func24 rfl Tryz.ntmps24 Tryz.call24 (h.grows_refl) rfl ?_; conv => whnf
  repeat' (first | ((first | refine zs1 ?_ | refine zs2 ?_ | refine zs3 ?_ | refine zs4 ?_ | refine zs5 ?_ | refine zs6 [] ?_); conv => whnf) | ((first | apply zi1 | apply zi2 | apply zi3 | apply zi4 | apply zi5) <;> intro _ <;> conv => whnf))
  all_goals (refine VOut.same ?_; simp [V.ren]; try omega)
theorem vc_least (l : List Int) (h : Hp) (hl : l.length ≤ 4000000) : VC Tryz.prog 48 [ints l] h (I (leastL l)) h := by
  obtain ⟨E, hE⟩ : ∃ E, E = leastL l := ⟨_, rfl⟩
  rw [← hE]
  unfold leastL at hE
  refine VC.body Tryz.func48 rfl Tryz.ntmps48 Tryz.call48 (h.grows_refl) rfl ?_; conv => whnf
  repeat' (first | ((first | refine zs1 ?_ | refine zs2 ?_ | refine zs3 ?_ | refine zs4 ?_ | refine zs5 ?_ | refine zs6 [] ?_); conv => whnf) | ((first | apply zi1 | apply zi2 | apply zi3 | apply zi4 | apply zi5) <;> intro _ <;> conv => whnf))
  refine VCode.lp (fun y : Nat × Int => [(3, I y.2), (6, ints l), (7, I l.length), (8, I y.1)]) (fun _ => []) (fun y => y.1 ≤ l.length ∧ E = (l.drop y.1).foldl ls1 y.2) (fun y => l.length - y.1) (0, -1) ⟨Nat.zero_le _, hE⟩ ?_ ?_
  · conv => whnf
    refine Retell.turn ⟨[], 0, [], []⟩ (TurnOk.mk' _ _ [] [] (OutOk.lift _) rfl (by decide) zb trivial trivial rfl) zw zm
  · rintro ⟨k, o⟩ ⟨h4, h5⟩
    dsimp only at h4 h5
    conv => whnf
    refine VIte.dec (fun h6 => ?_) (fun h6 => ?_)
    · have hk : l[k]? = some l[k] := List.getElem?_eq_getElem (by omega)
      rw [List.drop_eq_getElem_cons (by omega), List.foldl_cons] at h5
      generalize l[k] = x at hk h5
      have hs : ls1 o x = if x ≠ -1 ∧ (o = -1 ∨ x < o) then x else o := rfl
      conv => whnf
      refine VAny.ix encI_len k rfl rfl hk ?_
      conv => whnf
      repeat' (first | ((first | refine zs1 ?_ | refine zs2 ?_ | refine zs3 ?_ | refine zs4 ?_ | refine zs5 ?_ | refine zs6 [] ?_); conv => whnf) | ((first | apply zi1 | apply zi2 | apply zi3 | apply zi4 | apply zi5) <;> intro _ <;> conv => whnf))
      all_goals first
        | (rw [if_pos (by omega)] at hs; rw [hs] at h5
           refine LEnd.intro (k + 1, x) ⟨by dsimp only; omega, h5⟩ (by dsimp only; omega) ?_
           conv => whnf
           refine Retell.turn ⟨[], 0, [], []⟩ (TurnOk.mk' _ _ [] [] (OutOk.lift _) rfl (by decide) zb trivial trivial rfl) zw zm)
        | (rw [if_neg (by omega)] at hs; rw [hs] at h5
           refine LEnd.intro (k + 1, o) ⟨by dsimp only; omega, h5⟩ (by dsimp only; omega) ?_
           conv => whnf
           refine Retell.turn ⟨[], 0, [], []⟩ (TurnOk.mk' _ _ [] [] (OutOk.lift _) rfl (by decide) zb trivial trivial rfl) zw zm)
    · rw [List.drop_of_length_le (by omega)] at h5
      rw [h5]
      conv => whnf
      repeat' (first | ((first | refine zs1 ?_ | refine zs2 ?_ | refine zs3 ?_ | refine zs4 ?_ | refine zs5 ?_ | refine zs6 [] ?_); conv => whnf) | ((first | apply zi1 | apply zi2 | apply zi3 | apply zi4 | apply zi5) <;> intro _ <;> conv => whnf))
      exact VOut.same rfl
end Go.Proofs.YtccpfempgmkmbaaGreat

open Go.Vm
open Riv
namespace Go.Proofs.YtccpfempgmkmbaaGreat
set_option maxRecDepth 20000
set_option maxHeartbeats 4000000

theorem vc_nearer (a b : Int) (h : Hp) : VC Tryz.prog 31 [I a, I b] h (I (ownr a b)) h := by
  obtain ⟨E, hE⟩ : ∃ E, E = ownr a b := ⟨_, rfl⟩
  rw [← hE]
  have hl := ownr_least a b
  obtain ⟨m, hm⟩ : ∃ m, m = leastL [a, b] := ⟨_, rfl⟩
  rw [← hm] at hl
  rw [← hE] at hl
  have cL := fun h => vc_least [a, b] h (by simp)
  rw [← hm] at cL
  unfold ownr at hE
  refine VC.body Tryz.func31 rfl Tryz.ntmps31 Tryz.call31 (h.grows_refl) rfl ?_; conv => whnf
  repeat' (first | ((first | refine zs1 ?_ | refine zs2 ?_ | refine zs3 ?_ | refine zs4 ?_ | refine zs5 ?_ | refine zs6 [] ?_); conv => whnf) | ((first | apply zi1 | apply zi2 | apply zi3 | apply zi4 | apply zi5) <;> intro _ <;> conv => whnf))
  all_goals try (
    refine VCall.intro (VC.give (args' := [ints [a, b]]) (loc' := [.dead]) [(0, [a, b].flatMap Vm.encI)] [] (OutOk.lift _) zb zf (by exact FmAll.nil) rfl zw (cL _)) ?_
    conv => whnf
    repeat' (first | ((first | refine zs1 ?_ | refine zs2 ?_ | refine zs3 ?_ | refine zs4 ?_ | refine zs5 ?_ | refine zs6 [] ?_); conv => whnf) | ((first | apply zi1 | apply zi2 | apply zi3 | apply zi4 | apply zi5) <;> intro _ <;> conv => whnf)))
  all_goals first
    | (rw [if_pos (by omega)] at hE; rw [hE]; exact VOut.same rfl)
    | (rw [if_neg (by omega), if_pos (by omega)] at hE; rw [hE]; exact VOut.same rfl)
    | (rw [hl (by omega), if_pos (by omega)]; exact VOut.same rfl)
    | (rw [hl (by omega), if_neg (by omega)]; exact VOut.same rfl)
end Go.Proofs.YtccpfempgmkmbaaGreat

open Go.Vm
open Riv
namespace Go.Proofs.YtccpfempgmkmbaaGreat
set_option maxRecDepth 20000
set_option maxHeartbeats 4000000

theorem vc_through (m : Mp) (s x : Int) (k : Nat) (h : Hp) (hk : m.c[k]? = some x) : VC Tryz.prog 45 [vSd m s, I k] h (B (decide (x = 0 ∨ x = s))) h := by
  refine VC.body Tryz.func45 rfl Tryz.ntmps45 Tryz.call45 (h.grows_refl) rfl ?_; conv => whnf
  repeat' (first | ((first | refine zs1 ?_ | refine zs2 ?_ | refine zs3 ?_ | refine zs4 ?_ | refine zs5 ?_ | refine zs6 [] ?_); conv => whnf) | ((first | apply zi1 | apply zi2 | apply zi3 | apply zi4 | apply zi5) <;> intro _ <;> conv => whnf) | (refine VAny.ix encI_len k rfl rfl hk ?_; conv => whnf))
  all_goals (refine VOut.same ?_; simp [V.ren]; try omega)
  all_goals (rename_i hx; rw [Bool.eq_iff_iff]; simp [hx])
end Go.Proofs.YtccpfempgmkmbaaGreat

open Go.Vm
open Riv
namespace Go.Proofs.YtccpfempgmkmbaaGreat
set_option maxRecDepth 20000
set_option maxHeartbeats 4000000

def fidx {α : Type} (q : α → Bool) : List α → Int → Int
  | [], _ => -1
  | a :: l, i => bif q a then i else fidx q l (i + 1)
theorem fidx_at {α : Type} {q : α → Bool} {l : List α} {k : Nat} {a : α} {i : Int} (h : l[k]? = some a) : fidx q (l.drop k) i = bif q a then i else fidx q (l.drop (k + 1)) (i + 1) := by
  obtain ⟨hlt, rfl⟩ := List.getElem?_eq_some_iff.1 h
  rw [List.drop_eq_getElem_cons hlt, fidx]
theorem fidx_nn {α : Type} {q : α → Bool} : ∀ (l : List α) (i : Int), 0 ≤ i → (0 ≤ fidx q l i ↔ l.any q = true)
  | [], i, _ => by simp [fidx]
  | a :: l, i, hi => by
    rw [fidx, List.any_cons]
    cases q a
    · rw [cond_false, Bool.false_or]; exact fidx_nn l (i + 1) (by omega)
    · rw [cond_true, Bool.true_or]; simp [hi]
theorem vc_IndexFI (l : List Int) (q : Int → Bool) (g : FuncId) (hl : l.length ≤ 4000000) (hso : ∀ (e : Int) (h : Hp), VC Tryz.prog g [I e] h (B (q e)) h) (h : Hp) :
    VC Tryz.prog 43 [ints l, .func (.func g) [] []] h (I (fidx q l 0)) h := by
  obtain ⟨E, hE⟩ : ∃ E, E = fidx q l 0 := ⟨_, rfl⟩
  rw [← hE]
  refine VC.body Tryz.func43 rfl Tryz.ntmps43 Tryz.call43 (h.grows_refl) rfl ?_; conv => whnf
  repeat (first | ((first | refine zs1 ?_ | refine zs2 ?_ | refine zs3 ?_ | refine zs4 ?_ | refine zs5 ?_ | refine zs6 [] ?_); conv => whnf))
  refine VCode.lp (fun k : Nat => [(0, ints l), (1, .func (.func g) [] []), (7, I l.length), (8, I k)]) (fun _ => []) (fun k => k ≤ l.length ∧ E = fidx q (l.drop k) k) (fun k => l.length - k) 0 ⟨Nat.zero_le _, hE⟩ ?_ ?_
  · conv => whnf
    refine Retell.turn ⟨[], 0, [], []⟩ (TurnOk.mk' _ _ [] [] (OutOk.lift _) rfl (by decide) zb trivial trivial rfl) zw zm
  · rintro k ⟨h1, h2⟩
    conv => whnf
    refine VIte.dec (fun h3 => ?_) (fun h3 => ?_)
    · have ha : l[k]? = some l[k] := List.getElem?_eq_getElem (by omega)
      have hm := hso l[k]
      generalize l[k] = a at ha hm
      rw [fidx_at ha] at h2
      conv => whnf
      repeat' (first | ((first | refine zs1 ?_ | refine zs2 ?_ | refine zs3 ?_ | refine zs4 ?_ | refine zs5 ?_ | refine zs6 [] ?_); conv => whnf) | ((first | apply zi1 | apply zi2 | apply zi3 | apply zi4 | apply zi5) <;> intro _ <;> conv => whnf) | (refine VAny.ix encI_len k (by omega) rfl ha ?_; conv => whnf))
      refine VCall.intro (hm _) ?_
      conv => whnf
      cases hq : q a
      · rw [hq] at h2
        conv => whnf
        repeat (first | ((first | refine zs1 ?_ | refine zs2 ?_ | refine zs3 ?_ | refine zs4 ?_ | refine zs5 ?_ | refine zs6 [] ?_); conv => whnf))
        refine LEnd.intro (k + 1) ⟨by omega, h2⟩ (by omega) ?_
        conv => whnf
        refine Retell.turn ⟨[], 0, [], []⟩ (TurnOk.mk' _ _ [] [] (OutOk.lift _) rfl (by decide) zb trivial trivial rfl) zw zm
      · rw [hq] at h2
        rw [h2]
        conv => whnf
        repeat (first | ((first | refine zs1 ?_ | refine zs2 ?_ | refine zs3 ?_ | refine zs4 ?_ | refine zs5 ?_ | refine zs6 [] ?_); conv => whnf))
        exact VOut.same rfl
    · rw [List.drop_of_length_le (by omega), fidx] at h2
      rw [h2]
      conv => whnf
      repeat (first | ((first | refine zs1 ?_ | refine zs2 ?_ | refine zs3 ?_ | refine zs4 ?_ | refine zs5 ?_ | refine zs6 [] ?_); conv => whnf))
      exact VOut.same rfl
theorem vc_ContFI (l : List Int) (q : Int → Bool) (g : FuncId) (hl : l.length ≤ 4000000) (hso : ∀ (e : Int) (h : Hp), VC Tryz.prog g [I e] h (B (q e)) h) (h : Hp) :
    VC Tryz.prog 26 [ints l, .func (.func g) [] []] h (B (l.any q)) h := by
  have e := fidx_nn (q := q) l 0 (Int.le_refl _)
  have c := fun h => vc_IndexFI l q g hl hso h
  generalize fidx q l 0 = E at e c
  refine VC.body Tryz.func26 rfl Tryz.ntmps26 Tryz.call26 (h.grows_refl) rfl ?_; conv => whnf
  repeat' (first | ((first | refine zs1 ?_ | refine zs2 ?_ | refine zs3 ?_ | refine zs4 ?_ | refine zs5 ?_ | refine zs6 [] ?_); conv => whnf) | ((first | apply zi1 | apply zi2 | apply zi3 | apply zi4 | apply zi5) <;> intro _ <;> conv => whnf) | (refine VCall.intro (c _) ?_; conv => whnf))
  refine VOut.same ?_
  show B (decide (0 ≤ E)) = _
  congr 1
  rw [Bool.eq_iff_iff, decide_eq_true_eq]
  exact e
theorem vc_Check1 (x : Int) (h : Hp) : VC Tryz.prog 27 [I x] h (B (!decide (0 ≤ x ∧ x ≤ 3))) h := by
  refine VC.body Tryz.func27 rfl Tryz.ntmps27 Tryz.call27 (h.grows_refl) rfl ?_; conv => whnf
  repeat' (first | ((first | refine zs1 ?_ | refine zs2 ?_ | refine zs3 ?_ | refine zs4 ?_ | refine zs5 ?_ | refine zs6 [] ?_); conv => whnf) | ((first | apply zi1 | apply zi2 | apply zi3 | apply zi4 | apply zi5) <;> intro _ <;> conv => whnf) | (refine VCall.intro (vc_from _ _ _ _) ?_; conv => whnf))
  exact VOut.same rfl
theorem any_kind (c : List Int) : (c.any fun x => !decide (0 ≤ x ∧ x ≤ 3)) = !kindB c := by
  unfold kindB
  rw [List.all_eq_not_any_not, Bool.not_not]
/-! ### The rows of a map -/
def vChunk (c : List Int) (W : Nat) : V := .func (.func 44) [] [.fp [dints c], .fp [DI W]]
theorem vc_Chunk (c : List Int) (W : Nat) (h : Hp) (hW : 1 ≤ W) : VC Tryz.prog 28 [ints c, I W] h (vChunk c W) h := by
  refine VC.body Tryz.func28 rfl Tryz.ntmps28 Tryz.call28 (h.grows_refl) rfl ?_; conv => whnf
  repeat' (first | ((first | refine zs1 ?_ | refine zs2 ?_ | refine zs3 ?_ | refine zs4 ?_ | refine zs5 ?_ | refine zs6 [] ?_); conv => whnf) | ((first | apply zi1 | apply zi2 | apply zi3 | apply zi4 | apply zi5) <;> intro _ <;> conv => whnf))
  · exfalso; omega
  · refine VOut.data 2 [(0, [dints c]), (1, [DI W])] [] rfl zf (by exact FmAll.nil) zw
def rowL (c : List Int) (W y : Nat) : List Int := (c.drop (y * W)).take W
theorem rowL_at {c : List Int} {W y k : Nat} (hk : k < W) (hc : y * W + k < c.length) : (rowL c W y)[k]? = some (at0 c (y * W + k)) := by
  unfold rowL at0
  rw [List.getElem?_take, if_pos hk, List.getElem?_drop, List.getD_eq_getElem?_getD, List.getElem?_eq_getElem hc]; rfl
theorem rowL_len {c : List Int} {W H y : Nat} (hL : c.length = W * H) (hy : y < H) : (rowL c W y).length = W := by
  have h1 : (y + 1) * W ≤ H * W := Nat.mul_le_mul_right _ hy
  rw [Nat.add_mul, Nat.one_mul, Nat.mul_comm H] at h1
  unfold rowL
  rw [List.length_take, List.length_drop]; omega
theorem iter_Chunk (c : List Int) (W H : Nat) (hW : 1 ≤ W ∧ W ≤ 100000) (hL : c.length = W * H) (hc : c.length ≤ 4000000) : IterN Tryz.prog 44 [] [.fp [dints c], .fp [DI W]] H (fun y => some [ints (rowL c W y)]) := by
  intro h i J E hs h0
  obtain ⟨S, g, g0, hS, g1, g2⟩ := iterN_seq (ys := fun y => some [ints (rowL c W y)]) H hs h0
  have hgr : ∀ j, j ≤ S → h.grows (g j) := by
    intro j
    induction j with
    | zero => intro _; rw [g0]; exact h.grows_refl
    | succ j ih =>
      intro hj
      rcases g1 j (by omega) with ⟨e, _⟩ | ⟨vs, _, hv⟩
      · cases e
      · exact fun k hk => hv.1 k (ih (by omega) k hk)
  have hrow : ∀ y, y < H → (rowL c W y).length = W := fun y hy => rowL_len hL hy
  have hle : ∀ y, y ≤ H → y * W ≤ c.length := fun y hy => by
    have h1 : y * W ≤ H * W := Nat.mul_le_mul_right _ hy
    rw [Nat.mul_comm H] at h1; omega
  have hlt : ∀ y, y < H → y * W + W ≤ c.length := fun y hy => by
    have h1 : (y + 1) * W ≤ H * W := Nat.mul_le_mul_right _ hy
    rw [Nat.add_mul, Nat.one_mul, Nat.mul_comm H] at h1; omega
  have hsub : ∀ y, rowL c W y = (c.drop (y * W)).take W := fun _ => rfl
  have hX : ∀ A : Nat, A ≤ c.length → (((c.drop (A : Int).toNat).take ((c.length : Int) - (A : Int)).toNat).length) = c.length - A := fun A hA => by rw [List.length_take, List.length_drop]; omega
  have hR : ∀ (A : Nat) (X : Nat), A + W ≤ c.length → X = c.length - A → (c.drop (A : Int).toNat).take ((A : Int) + min (W : Int) (X : Int) - (A : Int)).toNat = (c.drop A).take W := fun A X hA hx => by
    rw [Int.toNat_natCast, show ((A : Int) + min (W : Int) (X : Int) - (A : Int)).toNat = W by omega]
  rcases g2 with ⟨hSm, hI⟩ | ⟨hSm, vs, gE, e1, e2, e3⟩
  · refine ⟨g H, ?_, .inl hI⟩
    refine VC.body Tryz.func44 rfl Tryz.ntmps44 Tryz.call44 (hgr _ (by omega)) rfl ?_
    conv => whnf
    repeat' (first | ((first | refine zs1 ?_ | refine zs2 ?_ | refine zs3 ?_ | refine zs4 ?_ | refine zs5 ?_ | refine zs6 [] ?_); conv => whnf) | ((first | apply zi1 | apply zi2 | apply zi3 | apply zi4 | apply zi5) <;> intro _ <;> conv => whnf))
    refine VCode.lpo (fun y : Nat => [(0, .yld (.out i)), (1, .fp [dints c]), (2, .fp [DI W]), (4, I (y * W : Nat))]) (fun y => (g y).lift) (fun _ => []) (fun y => y ≤ H) (fun y => H - y) 0 (Nat.zero_le _) (by rw [g0]) ?_ ?_
    · rw [Nat.zero_mul]
      conv => whnf
      refine Retell.turn ⟨[], 0, [], []⟩ (TurnOk.mk' _ _ [] [] (OutOk.lift _) rfl (by decide) zb trivial trivial rfl) zw zm
    · rintro y hy
      have hs1 : y < H → ((y + 1) * W : Nat) = y * W + W := fun _ => by rw [Nat.add_mul, Nat.one_mul]
      have hy1 := hle y hy
      have hy2 := hlt y
      have hy3 := hsub y
      have hst := g1 y
      obtain ⟨A, hA⟩ : ∃ A, A = y * W := ⟨_, rfl⟩
      rw [← hA] at hs1 hy1 hy2 hy3 ⊢
      have hend : ¬ y < H → A = c.length := fun hh => by
        obtain rfl : y = H := by omega
        rw [hA, hL, Nat.mul_comm]
      conv => whnf
      repeat (first | ((first | refine zs1 ?_ | refine zs2 ?_ | refine zs3 ?_ | refine zs4 ?_ | refine zs5 ?_ | refine zs6 [] ?_); conv => whnf))
      refine VIte.dec (fun h3 => ?_) (fun h3 => ?_)
      · have hyH : y < H := Decidable.byContradiction fun hh => by have := hend hh; omega
        rcases hst (by omega) with ⟨e, _⟩ | ⟨vs, e, hv⟩
        · cases e
        · cases e
          have hs2 := hs1 hyH
          have hy5 := hy2 hyH
          have e7 := hX A hy1
          have e8 := hR A _ hy5 e7
          rw [← hy3] at e8
          generalize rowL c W y = R at hv hy3 e8
          conv => whnf
          repeat' (first | ((first | refine zs1 ?_ | refine zs2 ?_ | refine zs3 ?_ | refine zs4 ?_ | refine zs5 ?_ | refine zs6 [] ?_); conv => whnf) | ((first | apply zi1 | apply zi2 | apply zi3 | apply zi4 | apply zi5) <;> intro _ <;> conv => whnf) | (refine VAny.sub encI_len rfl (by omega) ?_; conv => whnf) | (refine VAny.subM encI_len rfl rfl (by omega) ?_; conv => whnf))
          rw [e8]
          refine VYield.intro (VY.lift _ hv) ?_
          conv => whnf
          repeat' (first | ((first | refine zs1 ?_ | refine zs2 ?_ | refine zs3 ?_ | refine zs4 ?_ | refine zs5 ?_ | refine zs6 [] ?_); conv => whnf) | ((first | apply zi1 | apply zi2 | apply zi3 | apply zi4 | apply zi5) <;> intro _ <;> conv => whnf) | (refine VAny.sub encI_len rfl (by omega) ?_; conv => whnf) | (refine VAny.subM encI_len rfl rfl (by omega) ?_; conv => whnf))
          refine LEndO.intro (y + 1) (by omega) (by omega) rfl ?_
          rw [hs2]
          conv => whnf
          refine Retell.turn ⟨[], 0, [], []⟩ (TurnOk.mk' _ _ [] [] (OutOk.lift _) rfl (by decide) zb trivial trivial rfl) zw zm
      · have hyH : y = H := by
          refine Decidable.byContradiction fun hh => ?_
          have := hy2 (by omega)
          omega
        subst hyH
        conv => whnf
        exact VOut.lifted (r := .tuple []) (hgr _ (by omega))
  · refine ⟨gE, ?_, .inr e3⟩
    have hgE : h.grows gE := fun k hk => e2.1 k (hgr S (Nat.le_refl _) k hk)
    refine VC.body Tryz.func44 rfl Tryz.ntmps44 Tryz.call44 hgE rfl ?_
    conv => whnf
    repeat' (first | ((first | refine zs1 ?_ | refine zs2 ?_ | refine zs3 ?_ | refine zs4 ?_ | refine zs5 ?_ | refine zs6 [] ?_); conv => whnf) | ((first | apply zi1 | apply zi2 | apply zi3 | apply zi4 | apply zi5) <;> intro _ <;> conv => whnf))
    refine VCode.lpo (fun y : Nat => [(0, .yld (.out i)), (1, .fp [dints c]), (2, .fp [DI W]), (4, I (y * W : Nat))]) (fun y => (g y).lift) (fun _ => []) (fun y => y ≤ S) (fun y => S - y) 0 (Nat.zero_le _) (by rw [g0]) ?_ ?_
    · rw [Nat.zero_mul]
      conv => whnf
      refine Retell.turn ⟨[], 0, [], []⟩ (TurnOk.mk' _ _ [] [] (OutOk.lift _) rfl (by decide) zb trivial trivial rfl) zw zm
    · rintro y hy
      have hs2 : ((y + 1) * W : Nat) = y * W + W := by rw [Nat.add_mul, Nat.one_mul]
      have hy1 := hle y (by omega)
      have hy5 := hlt y (by omega)
      have hy3 := hsub y
      have hst := g1 y
      obtain ⟨A, hA⟩ : ∃ A, A = y * W := ⟨_, rfl⟩
      rw [← hA] at hs2 hy1 hy5 hy3 ⊢
      have e7 := hX A hy1
      have e8 := hR A _ hy5 e7
      rw [← hy3] at e8
      rcases Nat.eq_or_lt_of_le hy with hkS | hkS
      · subst hkS
        cases e1
        generalize rowL c W y = R at e2 hy3 e8
        conv => whnf
        repeat' (first | ((first | refine zs1 ?_ | refine zs2 ?_ | refine zs3 ?_ | refine zs4 ?_ | refine zs5 ?_ | refine zs6 [] ?_); conv => whnf) | ((first | apply zi1 | apply zi2 | apply zi3 | apply zi4 | apply zi5) <;> intro _ <;> conv => whnf) | (refine VAny.sub encI_len rfl (by omega) ?_; conv => whnf) | (refine VAny.subM encI_len rfl rfl (by omega) ?_; conv => whnf))
        · rw [e8]
          refine VYield.intro (VY.lift _ e2) ?_
          conv => whnf
          repeat' (first | ((first | refine zs1 ?_ | refine zs2 ?_ | refine zs3 ?_ | refine zs4 ?_ | refine zs5 ?_ | refine zs6 [] ?_); conv => whnf) | ((first | apply zi1 | apply zi2 | apply zi3 | apply zi4 | apply zi5) <;> intro _ <;> conv => whnf) | (refine VAny.sub encI_len rfl (by omega) ?_; conv => whnf) | (refine VAny.subM encI_len rfl rfl (by omega) ?_; conv => whnf))
          exact VOut.lifted (r := .tuple []) hgE
        · exfalso; omega
      · rcases hst hkS with ⟨e, _⟩ | ⟨vs, e, hv⟩
        · cases e
        · cases e
          generalize rowL c W y = R at hv hy3 e8
          conv => whnf
          repeat' (first | ((first | refine zs1 ?_ | refine zs2 ?_ | refine zs3 ?_ | refine zs4 ?_ | refine zs5 ?_ | refine zs6 [] ?_); conv => whnf) | ((first | apply zi1 | apply zi2 | apply zi3 | apply zi4 | apply zi5) <;> intro _ <;> conv => whnf) | (refine VAny.sub encI_len rfl (by omega) ?_; conv => whnf) | (refine VAny.subM encI_len rfl rfl (by omega) ?_; conv => whnf))
          · rw [e8]
            refine VYield.intro (VY.lift _ hv) ?_
            conv => whnf
            repeat' (first | ((first | refine zs1 ?_ | refine zs2 ?_ | refine zs3 ?_ | refine zs4 ?_ | refine zs5 ?_ | refine zs6 [] ?_); conv => whnf) | ((first | apply zi1 | apply zi2 | apply zi3 | apply zi4 | apply zi5) <;> intro _ <;> conv => whnf) | (refine VAny.sub encI_len rfl (by omega) ?_; conv => whnf) | (refine VAny.subM encI_len rfl rfl (by omega) ?_; conv => whnf))
            refine LEndO.intro (y + 1) (by omega) (by omega) rfl ?_
            rw [hs2]
            conv => whnf
            refine Retell.turn ⟨[], 0, [], []⟩ (TurnOk.mk' _ _ [] [] (OutOk.lift _) rfl (by decide) zb trivial trivial rfl) zw zm
          · exfalso; omega
end Go.Proofs.YtccpfempgmkmbaaGreat

open Go.Vm
open Riv
namespace Go.Proofs.YtccpfempgmkmbaaGreat
set_option maxRecDepth 20000
set_option maxHeartbeats 4000000

structure Bs where
  x : Int
  y : Int
  s : Int
structure Ie where
  x : Int
  y : Int
  o : Int
  f : Int
structure Cst where
  bs : List Bs
  ie : List Ie
def encBs (b : Bs) : List D := [DI b.x, DI b.y, DI b.s]
theorem encBs_len (b : Bs) : (encBs b).length = 3 := rfl
def bss (l : List Bs) : V := .fs 3 l.length (l.flatMap encBs)
def vBs (b : Bs) : V := .agg [I b.x, I b.y, I b.s]
def encIe (b : Ie) : List D := [DI b.x, DI b.y, DI b.o, DI b.f]
theorem encIe_len (b : Ie) : (encIe b).length = 4 := rfl
def ies (l : List Ie) : V := .fs 4 l.length (l.flatMap encIe)
def vIe (b : Ie) : V := .agg [I b.x, I b.y, I b.o, I b.f]
def encCt (c : Cst) : List D := [.sl 3 c.bs.length (c.bs.flatMap encBs), .sl 4 c.ie.length (c.ie.flatMap encIe)]
def vCt (c : Cst) : V := .agg [bss c.bs, ies c.ie]
def vPt (x y : Int) : V := .agg [I x, I y]
theorem vc_in (n a b : Int) (h : Hp) : VC Tryz.prog 54 [I n, I a, I b] h (B (decide (a ≤ n ∧ n ≤ b))) h := by
  refine VC.body Tryz.func54 rfl Tryz.ntmps54 Tryz.call54 (h.grows_refl) rfl ?_; conv => whnf
  repeat' (first | ((first | refine zs1 ?_ | refine zs2 ?_ | refine zs3 ?_ | refine zs4 ?_ | refine zs5 ?_ | refine zs6 [] ?_); conv => whnf) | ((first | apply zi1 | apply zi2 | apply zi3 | apply zi4 | apply zi5) <;> intro _ <;> conv => whnf))
  all_goals (refine VOut.same ?_; simp [V.ren]; try omega)
def knB (x y : Int) : Bool := decide ((-300 ≤ x ∧ x ≤ 300) ∧ (-300 ≤ y ∧ y ≤ 300))
theorem vc_known (x y : Int) (h : Hp) : VC Tryz.prog 34 [vPt x y] h (B (knB x y)) h := by
  have c := fun n a b h => vc_in n a b h
  unfold vPt
  by_cases hx : -300 ≤ x ∧ x ≤ 300
  · have e : knB x y = decide (-300 ≤ y ∧ y ≤ 300) := by unfold knB; rw [decide_eq_decide]; omega
    rw [e]
    have c1 := fun h => c x (-300) 300 h
    rw [decide_eq_true hx] at c1
    refine VC.body Tryz.func34 rfl Tryz.ntmps34 Tryz.call34 (h.grows_refl) rfl ?_; conv => whnf
    repeat' (first | ((first | refine zs1 ?_ | refine zs2 ?_ | refine zs3 ?_ | refine zs4 ?_ | refine zs5 ?_); conv => whnf) | ((first | apply zi1 | apply zi2 | apply zi3 | apply zi4 | apply zi5) <;> intro _ <;> first | (exfalso; omega) | contradiction | (conv => whnf)) | (refine VCall.intro (c1 _) ?_; conv => whnf) | (refine VCall.intro (c _ _ _ _) ?_; conv => whnf))
    all_goals exact VOut.same rfl
  · have e : knB x y = false := by unfold knB; rw [decide_eq_false]; omega
    rw [e]
    have c1 := fun h => c x (-300) 300 h
    rw [decide_eq_false hx] at c1
    refine VC.body Tryz.func34 rfl Tryz.ntmps34 Tryz.call34 (h.grows_refl) rfl ?_; conv => whnf
    repeat' (first | ((first | refine zs1 ?_ | refine zs2 ?_ | refine zs3 ?_ | refine zs4 ?_ | refine zs5 ?_); conv => whnf) | ((first | apply zi1 | apply zi2 | apply zi3 | apply zi4 | apply zi5) <;> intro _ <;> first | (exfalso; omega) | contradiction | (conv => whnf)) | (refine VCall.intro (c1 _) ?_; conv => whnf) | (refine VCall.intro (c _ _ _ _) ?_; conv => whnf))
    all_goals exact VOut.same rfl
theorem vc_ixDB (l : List Bs) (q : Bs → Bool) (g : FuncId) (caps : List D) (hl : l.length ≤ 4000000) (hso : ∀ (e : Bs) (h : Hp), e ∈ l → VC Tryz.prog g ([vBs e] ++ D.vs caps) h (B (q e)) h) (h : Hp) :
    VC Tryz.prog 107 [bss l, .func (.func g) [] (D.vs caps)] h (I (fidx q l 0)) h := by
  obtain ⟨E, hE⟩ : ∃ E, E = fidx q l 0 := ⟨_, rfl⟩
  rw [← hE]
  refine VC.body Tryz.func107 rfl Tryz.ntmps107 Tryz.call107 (h.grows_refl) rfl ?_; conv => whnf
  rw [rens_dvs]
  refine VCode.lp (fun k : Nat => [(0, bss l), (1, .func (.func g) [] (D.vs caps)), (7, I l.length), (8, I k)]) (fun _ => []) (fun k => k ≤ l.length ∧ E = fidx q (l.drop k) k) (fun k => l.length - k) 0 ⟨Nat.zero_le _, hE⟩ ?_ ?_
  · conv => whnf
    refine Retell.turn ⟨[], 0, [], []⟩ (TurnOk.mk' _ _ [] [] (OutOk.lift _) rfl (by decide) zb trivial trivial rfl) zw zm
  · rintro k ⟨h1, h2⟩
    conv => whnf
    refine VIte.dec (fun h3 => ?_) (fun h3 => ?_)
    · have ha : l[k]? = some l[k] := List.getElem?_eq_getElem (by omega)
      have hm := fun h => hso l[k] h (List.getElem_mem (by omega))
      generalize l[k] = a at ha hm
      rw [fidx_at ha] at h2
      conv => whnf
      repeat' (first | ((first | refine zs1 ?_ | refine zs2 ?_ | refine zs3 ?_ | refine zs4 ?_ | refine zs5 ?_ | refine zs6 [] ?_); conv => whnf) | ((first | apply zi1 | apply zi2 | apply zi3 | apply zi4 | apply zi5) <;> intro _ <;> conv => whnf) | (refine VAny.ix encBs_len k (by omega) rfl ha ?_; conv => whnf))
      refine VCall.intro (hm _) ?_
      conv => whnf
      cases hq : q a
      · rw [hq] at h2
        conv => whnf
        repeat (first | ((first | refine zs1 ?_ | refine zs2 ?_ | refine zs3 ?_ | refine zs4 ?_ | refine zs5 ?_ | refine zs6 [] ?_); conv => whnf))
        refine LEnd.intro (k + 1) ⟨by omega, h2⟩ (by omega) ?_
        conv => whnf
        refine Retell.turn ⟨[], 0, [], []⟩ (TurnOk.mk' _ _ [] [] (OutOk.lift _) rfl (by decide) zb trivial trivial rfl) zw zm
      · rw [hq] at h2
        rw [h2]
        conv => whnf
        repeat (first | ((first | refine zs1 ?_ | refine zs2 ?_ | refine zs3 ?_ | refine zs4 ?_ | refine zs5 ?_ | refine zs6 [] ?_); conv => whnf))
        exact VOut.same rfl
    · rw [List.drop_of_length_le (by omega), fidx] at h2
      rw [h2]
      conv => whnf
      repeat (first | ((first | refine zs1 ?_ | refine zs2 ?_ | refine zs3 ?_ | refine zs4 ?_ | refine zs5 ?_ | refine zs6 [] ?_); conv => whnf))
      exact VOut.same rfl
theorem vc_ixDE (l : List Ie) (q : Ie → Bool) (g : FuncId) (caps : List D) (hl : l.length ≤ 4000000) (hso : ∀ (e : Ie) (h : Hp), e ∈ l → VC Tryz.prog g ([vIe e] ++ D.vs caps) h (B (q e)) h) (h : Hp) :
    VC Tryz.prog 108 [ies l, .func (.func g) [] (D.vs caps)] h (I (fidx q l 0)) h := by
  obtain ⟨E, hE⟩ : ∃ E, E = fidx q l 0 := ⟨_, rfl⟩
  rw [← hE]
  refine VC.body Tryz.func108 rfl Tryz.ntmps108 Tryz.call108 (h.grows_refl) rfl ?_; conv => whnf
  rw [rens_dvs]
  refine VCode.lp (fun k : Nat => [(0, ies l), (1, .func (.func g) [] (D.vs caps)), (7, I l.length), (8, I k)]) (fun _ => []) (fun k => k ≤ l.length ∧ E = fidx q (l.drop k) k) (fun k => l.length - k) 0 ⟨Nat.zero_le _, hE⟩ ?_ ?_
  · conv => whnf
    refine Retell.turn ⟨[], 0, [], []⟩ (TurnOk.mk' _ _ [] [] (OutOk.lift _) rfl (by decide) zb trivial trivial rfl) zw zm
  · rintro k ⟨h1, h2⟩
    conv => whnf
    refine VIte.dec (fun h3 => ?_) (fun h3 => ?_)
    · have ha : l[k]? = some l[k] := List.getElem?_eq_getElem (by omega)
      have hm := fun h => hso l[k] h (List.getElem_mem (by omega))
      generalize l[k] = a at ha hm
      rw [fidx_at ha] at h2
      conv => whnf
      repeat' (first | ((first | refine zs1 ?_ | refine zs2 ?_ | refine zs3 ?_ | refine zs4 ?_ | refine zs5 ?_ | refine zs6 [] ?_); conv => whnf) | ((first | apply zi1 | apply zi2 | apply zi3 | apply zi4 | apply zi5) <;> intro _ <;> conv => whnf) | (refine VAny.ix encIe_len k (by omega) rfl ha ?_; conv => whnf))
      refine VCall.intro (hm _) ?_
      conv => whnf
      cases hq : q a
      · rw [hq] at h2
        conv => whnf
        repeat (first | ((first | refine zs1 ?_ | refine zs2 ?_ | refine zs3 ?_ | refine zs4 ?_ | refine zs5 ?_ | refine zs6 [] ?_); conv => whnf))
        refine LEnd.intro (k + 1) ⟨by omega, h2⟩ (by omega) ?_
        conv => whnf
        refine Retell.turn ⟨[], 0, [], []⟩ (TurnOk.mk' _ _ [] [] (OutOk.lift _) rfl (by decide) zb trivial trivial rfl) zw zm
      · rw [hq] at h2
        rw [h2]
        conv => whnf
        repeat (first | ((first | refine zs1 ?_ | refine zs2 ?_ | refine zs3 ?_ | refine zs4 ?_ | refine zs5 ?_ | refine zs6 [] ?_); conv => whnf))
        exact VOut.same rfl
    · rw [List.drop_of_length_le (by omega), fidx] at h2
      rw [h2]
      conv => whnf
      repeat (first | ((first | refine zs1 ?_ | refine zs2 ?_ | refine zs3 ?_ | refine zs4 ?_ | refine zs5 ?_ | refine zs6 [] ?_); conv => whnf))
      exact VOut.same rfl
theorem vc_ixDI (l : List Int) (q : Int → Bool) (g : FuncId) (caps : List D) (hl : l.length ≤ 4000000) (hso : ∀ (e : Int) (h : Hp), e ∈ l → VC Tryz.prog g ([I e] ++ D.vs caps) h (B (q e)) h) (h : Hp) :
    VC Tryz.prog 43 [ints l, .func (.func g) [] (D.vs caps)] h (I (fidx q l 0)) h := by
  obtain ⟨E, hE⟩ : ∃ E, E = fidx q l 0 := ⟨_, rfl⟩
  rw [← hE]
  refine VC.body Tryz.func43 rfl Tryz.ntmps43 Tryz.call43 (h.grows_refl) rfl ?_; conv => whnf
  rw [rens_dvs]
  refine VCode.lp (fun k : Nat => [(0, ints l), (1, .func (.func g) [] (D.vs caps)), (7, I l.length), (8, I k)]) (fun _ => []) (fun k => k ≤ l.length ∧ E = fidx q (l.drop k) k) (fun k => l.length - k) 0 ⟨Nat.zero_le _, hE⟩ ?_ ?_
  · conv => whnf
    refine Retell.turn ⟨[], 0, [], []⟩ (TurnOk.mk' _ _ [] [] (OutOk.lift _) rfl (by decide) zb trivial trivial rfl) zw zm
  · rintro k ⟨h1, h2⟩
    conv => whnf
    refine VIte.dec (fun h3 => ?_) (fun h3 => ?_)
    · have ha : l[k]? = some l[k] := List.getElem?_eq_getElem (by omega)
      have hm := fun h => hso l[k] h (List.getElem_mem (by omega))
      generalize l[k] = a at ha hm
      rw [fidx_at ha] at h2
      conv => whnf
      repeat' (first | ((first | refine zs1 ?_ | refine zs2 ?_ | refine zs3 ?_ | refine zs4 ?_ | refine zs5 ?_ | refine zs6 [] ?_); conv => whnf) | ((first | apply zi1 | apply zi2 | apply zi3 | apply zi4 | apply zi5) <;> intro _ <;> conv => whnf) | (refine VAny.ix encI_len k (by omega) rfl ha ?_; conv => whnf))
      refine VCall.intro (hm _) ?_
      conv => whnf
      cases hq : q a
      · rw [hq] at h2
        conv => whnf
        repeat (first | ((first | refine zs1 ?_ | refine zs2 ?_ | refine zs3 ?_ | refine zs4 ?_ | refine zs5 ?_ | refine zs6 [] ?_); conv => whnf))
        refine LEnd.intro (k + 1) ⟨by omega, h2⟩ (by omega) ?_
        conv => whnf
        refine Retell.turn ⟨[], 0, [], []⟩ (TurnOk.mk' _ _ [] [] (OutOk.lift _) rfl (by decide) zb trivial trivial rfl) zw zm
      · rw [hq] at h2
        rw [h2]
        conv => whnf
        repeat (first | ((first | refine zs1 ?_ | refine zs2 ?_ | refine zs3 ?_ | refine zs4 ?_ | refine zs5 ?_ | refine zs6 [] ?_); conv => whnf))
        exact VOut.same rfl
    · rw [List.drop_of_length_le (by omega), fidx] at h2
      rw [h2]
      conv => whnf
      repeat (first | ((first | refine zs1 ?_ | refine zs2 ?_ | refine zs3 ?_ | refine zs4 ?_ | refine zs5 ?_ | refine zs6 [] ?_); conv => whnf))
      exact VOut.same rfl
theorem vc_coDB (l : List Bs) (q : Bs → Bool) (g : FuncId) (caps : List D) (hl : l.length ≤ 4000000) (hso : ∀ (e : Bs) (h : Hp), e ∈ l → VC Tryz.prog g ([vBs e] ++ D.vs caps) h (B (q e)) h) (h : Hp) :
    VC Tryz.prog 88 [bss l, .func (.func g) [] (D.vs caps)] h (B (l.any q)) h := by
  have e := fidx_nn (q := q) l 0 (Int.le_refl _)
  have c := fun h => vc_ixDB l q g caps hl hso h
  generalize fidx q l 0 = E at e c
  refine VC.body Tryz.func88 rfl Tryz.ntmps88 Tryz.call88 (h.grows_refl) rfl ?_; conv => whnf
  rw [rens_dvs]
  repeat' (first | ((first | refine zs1 ?_ | refine zs2 ?_ | refine zs3 ?_ | refine zs4 ?_ | refine zs5 ?_); conv => whnf) | ((first | apply zi1 | apply zi2 | apply zi3 | apply zi4 | apply zi5) <;> intro _ <;> first | (exfalso; omega) | contradiction | (conv => whnf)) | (refine VCall.intro (c _) ?_; conv => whnf))
  refine VOut.same ?_
  show B (decide (0 ≤ E)) = _
  congr 1
  rw [Bool.eq_iff_iff, decide_eq_true_eq]
  exact e
theorem vc_coDE (l : List Ie) (q : Ie → Bool) (g : FuncId) (caps : List D) (hl : l.length ≤ 4000000) (hso : ∀ (e : Ie) (h : Hp), e ∈ l → VC Tryz.prog g ([vIe e] ++ D.vs caps) h (B (q e)) h) (h : Hp) :
    VC Tryz.prog 90 [ies l, .func (.func g) [] (D.vs caps)] h (B (l.any q)) h := by
  have e := fidx_nn (q := q) l 0 (Int.le_refl _)
  have c := fun h => vc_ixDE l q g caps hl hso h
  generalize fidx q l 0 = E at e c
  refine VC.body Tryz.func90 rfl Tryz.ntmps90 Tryz.call90 (h.grows_refl) rfl ?_; conv => whnf
  rw [rens_dvs]
  repeat' (first | ((first | refine zs1 ?_ | refine zs2 ?_ | refine zs3 ?_ | refine zs4 ?_ | refine zs5 ?_); conv => whnf) | ((first | apply zi1 | apply zi2 | apply zi3 | apply zi4 | apply zi5) <;> intro _ <;> first | (exfalso; omega) | contradiction | (conv => whnf)) | (refine VCall.intro (c _) ?_; conv => whnf))
  refine VOut.same ?_
  show B (decide (0 ≤ E)) = _
  congr 1
  rw [Bool.eq_iff_iff, decide_eq_true_eq]
  exact e
theorem vc_coDI (l : List Int) (q : Int → Bool) (g : FuncId) (caps : List D) (hl : l.length ≤ 4000000) (hso : ∀ (e : Int) (h : Hp), e ∈ l → VC Tryz.prog g ([I e] ++ D.vs caps) h (B (q e)) h) (h : Hp) :
    VC Tryz.prog 26 [ints l, .func (.func g) [] (D.vs caps)] h (B (l.any q)) h := by
  have e := fidx_nn (q := q) l 0 (Int.le_refl _)
  have c := fun h => vc_ixDI l q g caps hl hso h
  generalize fidx q l 0 = E at e c
  refine VC.body Tryz.func26 rfl Tryz.ntmps26 Tryz.call26 (h.grows_refl) rfl ?_; conv => whnf
  rw [rens_dvs]
  repeat' (first | ((first | refine zs1 ?_ | refine zs2 ?_ | refine zs3 ?_ | refine zs4 ?_ | refine zs5 ?_); conv => whnf) | ((first | apply zi1 | apply zi2 | apply zi3 | apply zi4 | apply zi5) <;> intro _ <;> first | (exfalso; omega) | contradiction | (conv => whnf)) | (refine VCall.intro (c _) ?_; conv => whnf))
  refine VOut.same ?_
  show B (decide (0 ≤ E)) = _
  congr 1
  rw [Bool.eq_iff_iff, decide_eq_true_eq]
  exact e
theorem vc_ev1B0 (q : Bs → Bool) (g : FuncId) (x : Bs) (hso : ∀ (h : Hp), VC Tryz.prog g [vBs x] h (B (q x)) h) (h : Hp) : VC Tryz.prog 89 [vBs x, .fp [(D.func (.func g) [] [])]] h (B (!q x)) h := by
  generalize q x = r at *
  refine VC.body Tryz.func89 rfl Tryz.ntmps89 Tryz.call89 (h.grows_refl) rfl ?_; conv => whnf
  repeat' (first | ((first | refine zs1 ?_ | refine zs2 ?_ | refine zs3 ?_ | refine zs4 ?_ | refine zs5 ?_); conv => whnf) | ((first | apply zi1 | apply zi2 | apply zi3 | apply zi4 | apply zi5) <;> intro _ <;> first | (exfalso; omega) | contradiction | (conv => whnf)))
  refine VCall.intro (hso _) ?_
  conv => whnf
  repeat' (first | ((first | refine zs1 ?_ | refine zs2 ?_ | refine zs3 ?_ | refine zs4 ?_ | refine zs5 ?_); conv => whnf) | ((first | apply zi1 | apply zi2 | apply zi3 | apply zi4 | apply zi5) <;> intro _ <;> first | (exfalso; omega) | contradiction | (conv => whnf)))
  exact VOut.same rfl
theorem vc_evB0 (l : List Bs) (q : Bs → Bool) (g : FuncId) (hl : l.length ≤ 4000000) (hso : ∀ (x : Bs) (h : Hp), x ∈ l → VC Tryz.prog g [vBs x] h (B (q x)) h) (h : Hp) : VC Tryz.prog 71 [bss l, .func (.func g) [] []] h (B (l.all q)) h := by
  have c := fun h => vc_coDB l (fun x => !q x) 89 [.pt [(D.func (.func g) [] [])]] hl (fun e h he => vc_ev1B0 q g e (fun h => hso e h he) h) h
  have e : (!l.any fun x => !q x) = l.all q := by rw [List.all_eq_not_any_not]
  generalize (l.any fun x => !q x) = F at *
  refine VC.body Tryz.func71 rfl Tryz.ntmps71 Tryz.call71 (h.grows_refl) rfl ?_; conv => whnf
  repeat' (first | ((first | refine zs1 ?_ | refine zs2 ?_ | refine zs3 ?_ | refine zs4 ?_ | refine zs5 ?_); conv => whnf) | ((first | apply zi1 | apply zi2 | apply zi3 | apply zi4 | apply zi5) <;> intro _ <;> first | (exfalso; omega) | contradiction | (conv => whnf)))
  refine VCall.intro (VC.give (args' := [bss l, .func (.func 89) [] [.fp [(D.func (.func g) [] [])]]]) (loc' := [.dead]) [(0, [(D.func (.func g) [] [])])] [] (OutOk.lift _) zb zf (by exact FmAll.nil) rfl zw (c _)) ?_
  conv => whnf
  repeat' (first | ((first | refine zs1 ?_ | refine zs2 ?_ | refine zs3 ?_ | refine zs4 ?_ | refine zs5 ?_); conv => whnf) | ((first | apply zi1 | apply zi2 | apply zi3 | apply zi4 | apply zi5) <;> intro _ <;> first | (exfalso; omega) | contradiction | (conv => whnf)))
  refine VOut.same ?_
  rw [← e]; rfl
theorem vc_ev1E0 (q : Ie → Bool) (g : FuncId) (x : Ie) (hso : ∀ (h : Hp), VC Tryz.prog g [vIe x] h (B (q x)) h) (h : Hp) : VC Tryz.prog 91 [vIe x, .fp [(D.func (.func g) [] [])]] h (B (!q x)) h := by
  generalize q x = r at *
  refine VC.body Tryz.func91 rfl Tryz.ntmps91 Tryz.call91 (h.grows_refl) rfl ?_; conv => whnf
  repeat' (first | ((first | refine zs1 ?_ | refine zs2 ?_ | refine zs3 ?_ | refine zs4 ?_ | refine zs5 ?_); conv => whnf) | ((first | apply zi1 | apply zi2 | apply zi3 | apply zi4 | apply zi5) <;> intro _ <;> first | (exfalso; omega) | contradiction | (conv => whnf)))
  refine VCall.intro (hso _) ?_
  conv => whnf
  repeat' (first | ((first | refine zs1 ?_ | refine zs2 ?_ | refine zs3 ?_ | refine zs4 ?_ | refine zs5 ?_); conv => whnf) | ((first | apply zi1 | apply zi2 | apply zi3 | apply zi4 | apply zi5) <;> intro _ <;> first | (exfalso; omega) | contradiction | (conv => whnf)))
  exact VOut.same rfl
theorem vc_evE0 (l : List Ie) (q : Ie → Bool) (g : FuncId) (hl : l.length ≤ 4000000) (hso : ∀ (x : Ie) (h : Hp), x ∈ l → VC Tryz.prog g [vIe x] h (B (q x)) h) (h : Hp) : VC Tryz.prog 73 [ies l, .func (.func g) [] []] h (B (l.all q)) h := by
  have c := fun h => vc_coDE l (fun x => !q x) 91 [.pt [(D.func (.func g) [] [])]] hl (fun e h he => vc_ev1E0 q g e (fun h => hso e h he) h) h
  have e : (!l.any fun x => !q x) = l.all q := by rw [List.all_eq_not_any_not]
  generalize (l.any fun x => !q x) = F at *
  refine VC.body Tryz.func73 rfl Tryz.ntmps73 Tryz.call73 (h.grows_refl) rfl ?_; conv => whnf
  repeat' (first | ((first | refine zs1 ?_ | refine zs2 ?_ | refine zs3 ?_ | refine zs4 ?_ | refine zs5 ?_); conv => whnf) | ((first | apply zi1 | apply zi2 | apply zi3 | apply zi4 | apply zi5) <;> intro _ <;> first | (exfalso; omega) | contradiction | (conv => whnf)))
  refine VCall.intro (VC.give (args' := [ies l, .func (.func 91) [] [.fp [(D.func (.func g) [] [])]]]) (loc' := [.dead]) [(0, [(D.func (.func g) [] [])])] [] (OutOk.lift _) zb zf (by exact FmAll.nil) rfl zw (c _)) ?_
  conv => whnf
  repeat' (first | ((first | refine zs1 ?_ | refine zs2 ?_ | refine zs3 ?_ | refine zs4 ?_ | refine zs5 ?_); conv => whnf) | ((first | apply zi1 | apply zi2 | apply zi3 | apply zi4 | apply zi5) <;> intro _ <;> first | (exfalso; omega) | contradiction | (conv => whnf)))
  refine VOut.same ?_
  rw [← e]; rfl
theorem vc_ev1E1 (q : Ie → Bool) (g : FuncId) (ds : List D) (x : Ie) (hso : ∀ (h : Hp), VC Tryz.prog g [vIe x, .fp ds] h (B (q x)) h) (h : Hp) : VC Tryz.prog 91 [vIe x, .fp [(D.func (.func g) [] [.pt ds])]] h (B (!q x)) h := by
  generalize q x = r at *
  refine VC.body Tryz.func91 rfl Tryz.ntmps91 Tryz.call91 (h.grows_refl) rfl ?_; conv => whnf
  repeat' (first | ((first | refine zs1 ?_ | refine zs2 ?_ | refine zs3 ?_ | refine zs4 ?_ | refine zs5 ?_); conv => whnf) | ((first | apply zi1 | apply zi2 | apply zi3 | apply zi4 | apply zi5) <;> intro _ <;> first | (exfalso; omega) | contradiction | (conv => whnf)))
  refine VCall.intro (hso _) ?_
  conv => whnf
  repeat' (first | ((first | refine zs1 ?_ | refine zs2 ?_ | refine zs3 ?_ | refine zs4 ?_ | refine zs5 ?_); conv => whnf) | ((first | apply zi1 | apply zi2 | apply zi3 | apply zi4 | apply zi5) <;> intro _ <;> first | (exfalso; omega) | contradiction | (conv => whnf)))
  exact VOut.same rfl
theorem vc_evE1 (l : List Ie) (q : Ie → Bool) (g : FuncId) (ds : List D) (hl : l.length ≤ 4000000) (hso : ∀ (x : Ie) (h : Hp), x ∈ l → VC Tryz.prog g [vIe x, .fp ds] h (B (q x)) h) (h : Hp) : VC Tryz.prog 73 [ies l, .func (.func g) [] [.fp ds]] h (B (l.all q)) h := by
  have c := fun h => vc_coDE l (fun x => !q x) 91 [.pt [(D.func (.func g) [] [.pt ds])]] hl (fun e h he => vc_ev1E1 q g ds e (fun h => hso e h he) h) h
  have e : (!l.any fun x => !q x) = l.all q := by rw [List.all_eq_not_any_not]
  generalize (l.any fun x => !q x) = F at *
  refine VC.body Tryz.func73 rfl Tryz.ntmps73 Tryz.call73 (h.grows_refl) rfl ?_; conv => whnf
  repeat' (first | ((first | refine zs1 ?_ | refine zs2 ?_ | refine zs3 ?_ | refine zs4 ?_ | refine zs5 ?_); conv => whnf) | ((first | apply zi1 | apply zi2 | apply zi3 | apply zi4 | apply zi5) <;> intro _ <;> first | (exfalso; omega) | contradiction | (conv => whnf)))
  refine VCall.intro (VC.give (args' := [ies l, .func (.func 91) [] [.fp [(D.func (.func g) [] [.pt ds])]]]) (loc' := [.dead]) [(0, [(D.func (.func g) [] [.pt ds])])] [] (OutOk.lift _) zb zf (by exact FmAll.nil) rfl zw (c _)) ?_
  conv => whnf
  repeat' (first | ((first | refine zs1 ?_ | refine zs2 ?_ | refine zs3 ?_ | refine zs4 ?_ | refine zs5 ?_); conv => whnf) | ((first | apply zi1 | apply zi2 | apply zi3 | apply zi4 | apply zi5) <;> intro _ <;> first | (exfalso; omega) | contradiction | (conv => whnf)))
  refine VOut.same ?_
  rw [← e]; rfl
theorem vc_ev1I0 (q : Int → Bool) (g : FuncId) (x : Int) (hso : ∀ (h : Hp), VC Tryz.prog g [I x] h (B (q x)) h) (h : Hp) : VC Tryz.prog 92 [I x, .fp [(D.func (.func g) [] [])]] h (B (!q x)) h := by
  generalize q x = r at *
  refine VC.body Tryz.func92 rfl Tryz.ntmps92 Tryz.call92 (h.grows_refl) rfl ?_; conv => whnf
  repeat' (first | ((first | refine zs1 ?_ | refine zs2 ?_ | refine zs3 ?_ | refine zs4 ?_ | refine zs5 ?_); conv => whnf) | ((first | apply zi1 | apply zi2 | apply zi3 | apply zi4 | apply zi5) <;> intro _ <;> first | (exfalso; omega) | contradiction | (conv => whnf)))
  refine VCall.intro (hso _) ?_
  conv => whnf
  repeat' (first | ((first | refine zs1 ?_ | refine zs2 ?_ | refine zs3 ?_ | refine zs4 ?_ | refine zs5 ?_); conv => whnf) | ((first | apply zi1 | apply zi2 | apply zi3 | apply zi4 | apply zi5) <;> intro _ <;> first | (exfalso; omega) | contradiction | (conv => whnf)))
  exact VOut.same rfl
theorem vc_evI0 (l : List Int) (q : Int → Bool) (g : FuncId) (hl : l.length ≤ 4000000) (hso : ∀ (x : Int) (h : Hp), x ∈ l → VC Tryz.prog g [I x] h (B (q x)) h) (h : Hp) : VC Tryz.prog 77 [ints l, .func (.func g) [] []] h (B (l.all q)) h := by
  have c := fun h => vc_coDI l (fun x => !q x) 92 [.pt [(D.func (.func g) [] [])]] hl (fun e h he => vc_ev1I0 q g e (fun h => hso e h he) h) h
  have e : (!l.any fun x => !q x) = l.all q := by rw [List.all_eq_not_any_not]
  generalize (l.any fun x => !q x) = F at *
  refine VC.body Tryz.func77 rfl Tryz.ntmps77 Tryz.call77 (h.grows_refl) rfl ?_; conv => whnf
  repeat' (first | ((first | refine zs1 ?_ | refine zs2 ?_ | refine zs3 ?_ | refine zs4 ?_ | refine zs5 ?_); conv => whnf) | ((first | apply zi1 | apply zi2 | apply zi3 | apply zi4 | apply zi5) <;> intro _ <;> first | (exfalso; omega) | contradiction | (conv => whnf)))
  refine VCall.intro (VC.give (args' := [ints l, .func (.func 92) [] [.fp [(D.func (.func g) [] [])]]]) (loc' := [.dead]) [(0, [(D.func (.func g) [] [])])] [] (OutOk.lift _) zb zf (by exact FmAll.nil) rfl zw (c _)) ?_
  conv => whnf
  repeat' (first | ((first | refine zs1 ?_ | refine zs2 ?_ | refine zs3 ?_ | refine zs4 ?_ | refine zs5 ?_); conv => whnf) | ((first | apply zi1 | apply zi2 | apply zi3 | apply zi4 | apply zi5) <;> intro _ <;> first | (exfalso; omega) | contradiction | (conv => whnf)))
  refine VOut.same ?_
  rw [← e]; rfl
end Go.Proofs.YtccpfempgmkmbaaGreat

open Go.Vm
open Riv
namespace Go.Proofs.YtccpfempgmkmbaaGreat
set_option maxRecDepth 20000
set_option maxHeartbeats 4000000

/-! ### Coasts that are right -/
structure COk (c : Cst) : Prop where
  nb : 1 ≤ c.bs.length ∧ c.bs.length ≤ 12
  ni : c.ie.length ≤ 5
  b : ∀ b ∈ c.bs, ((-300 ≤ b.x ∧ b.x ≤ 300) ∧ (-300 ≤ b.y ∧ b.y ≤ 300)) ∧ (0 ≤ b.s ∧ b.s ≤ 4)
  i : ∀ i ∈ c.ie, ((-300 ≤ i.x ∧ i.x ≤ 300) ∧ (-300 ≤ i.y ∧ i.y ≤ 300)) ∧ (0 ≤ i.f ∧ i.f ≤ 2)
  o : ∀ i ∈ c.ie, 0 ≤ i.o ∧ i.o ≤ (c.bs.length : Int) - 1
def okBs (b : Bs) : Bool := knB b.x b.y && decide (0 ≤ b.s ∧ b.s ≤ 4)
def okIe (b : Ie) : Bool := knB b.x b.y && decide (0 ≤ b.f ∧ b.f ≤ 2)
def okOf (n : Nat) (b : Ie) : Bool := decide (0 ≤ b.o ∧ b.o ≤ (n : Int) - 1)
theorem vc_right1 (b : Bs) (h : Hp) : VC Tryz.prog 72 [vBs b] h (B (okBs b)) h := by
  have c1 := fun h => vc_known b.x b.y h
  have c2 := fun h => vc_in b.s 0 4 h
  unfold okBs
  generalize knB b.x b.y = p at *
  generalize decide (0 ≤ b.s ∧ b.s ≤ 4) = q at *
  unfold vPt at c1
  cases p
  · refine VC.body Tryz.func72 rfl Tryz.ntmps72 Tryz.call72 (h.grows_refl) rfl ?_; conv => whnf
    repeat' (first | ((first | refine zs1 ?_ | refine zs2 ?_ | refine zs3 ?_ | refine zs4 ?_ | refine zs5 ?_); conv => whnf) | ((first | apply zi1 | apply zi2 | apply zi3 | apply zi4 | apply zi5) <;> intro _ <;> first | (exfalso; omega) | contradiction | (conv => whnf)) | (refine VCall.intro (c1 _) ?_; conv => whnf) | (refine VCall.intro (c2 _) ?_; conv => whnf))
    all_goals exact VOut.same rfl
  · refine VC.body Tryz.func72 rfl Tryz.ntmps72 Tryz.call72 (h.grows_refl) rfl ?_; conv => whnf
    repeat' (first | ((first | refine zs1 ?_ | refine zs2 ?_ | refine zs3 ?_ | refine zs4 ?_ | refine zs5 ?_); conv => whnf) | ((first | apply zi1 | apply zi2 | apply zi3 | apply zi4 | apply zi5) <;> intro _ <;> first | (exfalso; omega) | contradiction | (conv => whnf)) | (refine VCall.intro (c1 _) ?_; conv => whnf) | (refine VCall.intro (c2 _) ?_; conv => whnf))
    all_goals exact VOut.same rfl
theorem vc_right2 (b : Ie) (h : Hp) : VC Tryz.prog 74 [vIe b] h (B (okIe b)) h := by
  have c1 := fun h => vc_known b.x b.y h
  have c2 := fun h => vc_in b.f 0 2 h
  unfold okIe
  generalize knB b.x b.y = p at *
  generalize decide (0 ≤ b.f ∧ b.f ≤ 2) = q at *
  unfold vPt at c1
  cases p
  · refine VC.body Tryz.func74 rfl Tryz.ntmps74 Tryz.call74 (h.grows_refl) rfl ?_; conv => whnf
    repeat' (first | ((first | refine zs1 ?_ | refine zs2 ?_ | refine zs3 ?_ | refine zs4 ?_ | refine zs5 ?_); conv => whnf) | ((first | apply zi1 | apply zi2 | apply zi3 | apply zi4 | apply zi5) <;> intro _ <;> first | (exfalso; omega) | contradiction | (conv => whnf)) | (refine VCall.intro (c1 _) ?_; conv => whnf) | (refine VCall.intro (c2 _) ?_; conv => whnf))
    all_goals exact VOut.same rfl
  · refine VC.body Tryz.func74 rfl Tryz.ntmps74 Tryz.call74 (h.grows_refl) rfl ?_; conv => whnf
    repeat' (first | ((first | refine zs1 ?_ | refine zs2 ?_ | refine zs3 ?_ | refine zs4 ?_ | refine zs5 ?_); conv => whnf) | ((first | apply zi1 | apply zi2 | apply zi3 | apply zi4 | apply zi5) <;> intro _ <;> first | (exfalso; omega) | contradiction | (conv => whnf)) | (refine VCall.intro (c1 _) ?_; conv => whnf) | (refine VCall.intro (c2 _) ?_; conv => whnf))
    all_goals exact VOut.same rfl
theorem vc_right3 (c : Cst) (b : Ie) (h : Hp) (hn : c.bs.length ≤ 4000000) : VC Tryz.prog 75 [vIe b, .fp (encCt c)] h (B (okOf c.bs.length b)) h := by
  have c2 := fun h => vc_in b.o 0 ((c.bs.length : Int) - 1) h
  unfold okOf
  generalize decide (0 ≤ b.o ∧ b.o ≤ (c.bs.length : Int) - 1) = q at *
  refine VC.body Tryz.func75 rfl Tryz.ntmps75 Tryz.call75 (h.grows_refl) rfl ?_; conv => whnf
  repeat' (first | ((first | refine zs1 ?_ | refine zs2 ?_ | refine zs3 ?_ | refine zs4 ?_ | refine zs5 ?_); conv => whnf) | ((first | apply zi1 | apply zi2 | apply zi3 | apply zi4 | apply zi5) <;> intro _ <;> first | (exfalso; omega) | contradiction | (conv => whnf)) | (refine VCall.intro (c2 _) ?_; conv => whnf))
  exact VOut.same rfl
theorem COk.oks {c : Cst} (o : COk c) : c.bs.all okBs = true ∧ c.ie.all okIe = true ∧ c.ie.all (okOf c.bs.length) = true := by
  refine ⟨List.all_eq_true.2 fun b hb => ?_, List.all_eq_true.2 fun b hb => ?_, List.all_eq_true.2 fun b hb => ?_⟩
  · have := o.b b hb
    unfold okBs knB
    rw [decide_eq_true this.1, decide_eq_true this.2]; rfl
  · have := o.i b hb
    unfold okIe knB
    rw [decide_eq_true this.1, decide_eq_true this.2]; rfl
  · unfold okOf
    exact decide_eq_true (o.o b hb)
theorem vc_right (c : Cst) (h : Hp) (o : COk c) : VC Tryz.prog 52 [vCt c] h (I 0) h := by
  obtain ⟨h1, h2, h3⟩ := o.oks
  have hnb := o.nb
  have hni := o.ni
  have c0 := fun h => vc_in (c.bs.length : Int) 1 12 h
  rw [decide_eq_true (by omega)] at c0
  have c1 := fun h => vc_evB0 c.bs okBs 72 (by omega) (fun x h _ => vc_right1 x h) h
  have c2 := fun h => vc_evE0 c.ie okIe 74 (by omega) (fun x h _ => vc_right2 x h) h
  have c3 := fun h => vc_evE1 c.ie (okOf c.bs.length) 75 (encCt c) (by omega) (fun x h _ => vc_right3 c x h (by omega)) h
  rw [h1] at c1
  rw [h2] at c2
  rw [h3] at c3
  obtain ⟨bs, ie⟩ := c
  dsimp only at *
  show VC Tryz.prog 52 [.agg [bss bs, ies ie]] h (I 0) h
  refine VC.body Tryz.func52 rfl Tryz.ntmps52 Tryz.call52 (h.grows_refl) rfl ?_; conv => whnf
  repeat' (first | ((first | refine zs1 ?_ | refine zs2 ?_ | refine zs3 ?_ | refine zs4 ?_ | refine zs5 ?_); conv => whnf) | ((first | apply zi1 | apply zi2 | apply zi3 | apply zi4 | apply zi5) <;> intro _ <;> first | (exfalso; omega) | contradiction | (conv => whnf)) | (refine VCall.intro (c0 _) ?_; conv => whnf) | (refine VCall.intro (c1 _) ?_; conv => whnf) | (refine VCall.intro (c2 _) ?_; conv => whnf))
  refine VCall.intro (VC.give (args' := [ies ie, .func (.func 75) [] [.fp (encCt ⟨bs, ie⟩)]]) (loc' := [.dead]) [(0, encCt ⟨bs, ie⟩)] [] (OutOk.lift _) zb zf (by exact FmAll.nil) rfl zw (c3 _)) ?_
  conv => whnf
  repeat' (first | ((first | refine zs1 ?_ | refine zs2 ?_ | refine zs3 ?_ | refine zs4 ?_ | refine zs5 ?_); conv => whnf) | ((first | apply zi1 | apply zi2 | apply zi3 | apply zi4 | apply zi5) <;> intro _ <;> first | (exfalso; omega) | contradiction | (conv => whnf)))
  exact VOut.same rfl
/-! ### The sites -/
structure Sit where
  x : Int
  y : Int
  s : Int
def encSt (a : Sit) : List D := [DI a.x, DI a.y, DI a.s]
theorem encSt_len (a : Sit) : (encSt a).length = 3 := rfl
def vSt (a : Sit) : V := .agg [I a.x, I a.y, I a.s]
def sB (b : Bs) : Sit := ⟨2 * b.x, 2 * b.y, b.s⟩
def zBs : Bs := ⟨0, 0, 0⟩
def sI (l : List Bs) (i : Ie) : List Sit := if i.f = 1 then [⟨i.x + (l.getD i.o.toNat zBs).x, i.y + (l.getD i.o.toNat zBs).y, (l.getD i.o.toNat zBs).s⟩] else if i.f = 2 then [⟨2 * i.x, 2 * i.y, (l.getD i.o.toNat zBs).s⟩] else []
def sitesC (c : Cst) : List Sit := c.bs.map sB ++ c.ie.flatMap (sI c.bs)
def encWk (c : Cst) : List D := [.sl 3 c.bs.length (c.bs.flatMap encBs), .sl 4 c.ie.length (c.ie.flatMap encIe), .sl 3 (sitesC c).length ((sitesC c).flatMap encSt)]
def NoCl (l : List Sit) : Prop := ∀ a ∈ l, ∀ b ∈ l, a.x = b.x ∧ a.y = b.y → a.s = b.s
theorem sI_len (l : List Bs) (i : Ie) : (sI l i).length ≤ 1 := by
  unfold sI
  split
  · simp
  · split <;> simp
def isA (c : Cst) (k : Nat) : List Sit := c.bs.map sB ++ (c.ie.take k).flatMap (sI c.bs)
theorem isA_step {c : Cst} {k : Nat} {i : Ie} (h : c.ie[k]? = some i) : isA c (k + 1) = isA c k ++ sI c.bs i := by
  unfold isA
  rw [List.take_add_one, h, List.flatMap_append]
  simp
theorem isA_len (c : Cst) : ∀ k, (isA c k).length ≤ c.bs.length + k
  | 0 => by simp [isA]
  | k + 1 => by
    have ih := isA_len c k
    cases h : c.ie[k]? with
    | none =>
      have : isA c (k + 1) = isA c k := by
        unfold isA
        rw [List.take_add_one, h]; simp
      rw [this]; omega
    | some i =>
      have := sI_len c.bs i
      rw [isA_step h, List.length_append]; omega
theorem top34 : eqTop Tryz.prog 34 = some (Sh.cons 0 1 false Sh.int (Sh.cons 1 1 false Sh.int Sh.nil)) := by kernel_rfl
theorem veqP (a b c d : Int) : vaggeq Tryz.prog .eql 34 (.agg [I a, I b]) (.agg [I c, I d]) = some (B (decide (a = c ∧ b = d))) := by
  have : ((a == c) && ((b == d) && true)) = decide (a = c ∧ b = d) := by
    rw [Bool.eq_iff_iff, decide_eq_true_eq]; simp
  rw [← this]
  unfold vaggeq
  rw [top34]
  rfl
theorem vc_opened (c : Cst) (h : Hp) (o : COk c) (hc : NoCl (sitesC c)) : VC Tryz.prog 53 [vCt c] h (.fp (encWk c)) h := by
  have hnb := o.nb
  have hni := o.ni
  have hob := o.b
  have hoi := o.i
  have hoo := o.o
  have hSl := isA_len c c.ie.length
  have hSe : isA c c.ie.length = sitesC c := by unfold isA sitesC; rw [List.take_of_length_le (Nat.le_refl _)]
  have hIl := fun k => isA_len c k
  have hIs := fun k i h => isA_step (c := c) (k := k) (i := i) h
  have hI0 : isA c 0 = c.bs.map sB := by unfold isA; simp
  unfold encWk
  rw [hSe] at hSl
  generalize isA c = A at *
  generalize sitesC c = S at *
  obtain ⟨bs, ie⟩ := c
  dsimp only at *
  unfold vCt
  refine VC.bodyC 99 Tryz.func53 rfl Tryz.ntmps53 Tryz.call53 (h.grows_refl) rfl ?_
  conv => whnf
  repeat' (first | ((first | refine zs1 ?_ | refine zs2 ?_ | refine zs3 ?_ | refine zs4 ?_ | refine zs5 ?_); conv => whnf) | ((first | apply zi1 | apply zi2 | apply zi3 | apply zi4 | apply zi5) <;> intro _ <;> first | (exfalso; omega) | contradiction | (conv => whnf)))
  refine VCode.lpC (outer := h.lift) (marks := []) 99 (fun k : Nat => [(2, .nilptr), (3, .ptr (.loc 0) 0), (20, bss bs), (21, I bs.length), (22, I k)]) (fun k => [.cells true [bss bs, ies ie, .gl (.loc 1) 3 ((bs.take k).map sB).length], .flat true (((bs.take k).map sB).flatMap encSt)]) (fun k => k ≤ bs.length) (fun k => bs.length - k) 0 (Nat.zero_le _) ?_ ?_
  · conv => whnf
    refine Retell.turn ⟨[1,9], 9, [], []⟩ (TurnOk.mk' _ _ [] [] (OutOk.lift _) rfl (by decide) zb trivial trivial rfl) zw zm
  · intro k hk
    rcases Nat.lt_or_ge k bs.length with h3 | h3
    · have ha : bs[k]? = some bs[k] := List.getElem?_eq_getElem h3
      have hb := hob bs[k] (List.getElem_mem h3)
      have hst : (bs.take (k + 1)).map sB = (bs.take k).map sB ++ [sB bs[k]] := by rw [List.take_add_one, ha, List.map_append]; rfl
      have hl : ((bs.take k).map sB).length = k := by rw [List.length_map, List.length_take]; omega
      generalize bs[k] = b at *
      generalize (bs.take k).map sB = L at *
      conv => whnf
      repeat' (first | ((first | refine zs1 ?_ | refine zs2 ?_ | refine zs3 ?_ | refine zs4 ?_ | refine zs5 ?_); conv => whnf) | ((first | apply zi1 | apply zi2 | apply zi3 | apply zi4 | apply zi5) <;> intro _ <;> first | (exfalso; omega) | contradiction | (conv => whnf)) | (refine VAny.ix encBs_len k rfl rfl ha ?_; conv => whnf))
      refine zs6 [] ?_
      conv => whnf
      repeat' (first | ((first | refine zs1 ?_ | refine zs2 ?_ | refine zs3 ?_ | refine zs4 ?_ | refine zs5 ?_); conv => whnf) | ((first | apply zi1 | apply zi2 | apply zi3 | apply zi4 | apply zi5) <;> intro _ <;> first | (exfalso; omega) | contradiction | (conv => whnf)) | (refine VMem.app1 (l := L) (sB b) encSt_len rfl rfl rfl rfl rfl (by omega) ?_; conv => whnf))
      refine LEnd.intro (k + 1) (by omega) (by omega) ?_
      rw [hst]
      conv => whnf
      rw [List.length_append]
      refine Retell.turn ⟨[0,4], 5, [], []⟩ (TurnOk.mk' _ _ [] [] (OutOk.lift _) rfl (by decide) zb trivial trivial rfl) zw zm
    · obtain rfl : k = bs.length := by omega
      rw [List.take_of_length_le (Nat.le_refl _), ← hI0]
      conv => whnf
      repeat' (first | ((first | refine zs1 ?_ | refine zs2 ?_ | refine zs3 ?_ | refine zs4 ?_ | refine zs5 ?_); conv => whnf) | ((first | apply zi1 | apply zi2 | apply zi3 | apply zi4 | apply zi5) <;> intro _ <;> first | (exfalso; omega) | contradiction | (conv => whnf)))
      refine VCode.lpC (outer := h.lift) (marks := []) 99 (fun k : Nat => [(2, .nilptr), (3, .ptr (.loc 0) 0), (52, ies ie), (53, I ie.length), (54, I k)]) (fun k => [.cells true [bss bs, ies ie, .gl (.loc 1) 3 (A k).length], .flat true ((A k).flatMap encSt)]) (fun k => k ≤ ie.length) (fun k => ie.length - k) 0 (Nat.zero_le _) ?_ ?_
      · conv => whnf
        refine Retell.turn ⟨[0,1], 9, [], []⟩ (TurnOk.mk' _ _ [] [] (OutOk.lift _) rfl (by decide) zb trivial trivial rfl) zw zm
      · intro k hk
        rcases Nat.lt_or_ge k ie.length with h5 | h5
        · have hx : ie[k]? = some ie[k] := List.getElem?_eq_getElem h5
          have hx1 := hoi ie[k] (List.getElem_mem h5)
          have hx2 := hoo ie[k] (List.getElem_mem h5)
          have hst := hIs k _ hx
          generalize ie[k] = i at *
          have hof : bs[i.o.toNat]? = some (bs.getD i.o.toNat zBs) := by rw [List.getD_eq_getElem?_getD, List.getElem?_eq_getElem (by omega)]; rfl
          have hob2 := hob _ (List.mem_of_getElem? hof)
          unfold sI at hst
          generalize bs.getD i.o.toNat zBs = f at *
          have hLl := hIl k
          generalize A k = L at *
          by_cases hf1 : i.f = 1
          · rw [if_pos hf1] at hst
            conv => whnf
            repeat' (first | ((first | refine zs1 ?_ | refine zs2 ?_ | refine zs3 ?_ | refine zs4 ?_ | refine zs5 ?_); conv => whnf) | ((first | apply zi1 | apply zi2 | apply zi3 | apply zi4 | apply zi5) <;> intro _ <;> first | (exfalso; omega) | contradiction | (conv => whnf)) | (refine VAny.ix encIe_len k rfl rfl hx ?_; conv => whnf))
            refine zs6 [] ?_
            conv => whnf
            repeat' (first | ((first | refine zs1 ?_ | refine zs2 ?_ | refine zs3 ?_ | refine zs4 ?_ | refine zs5 ?_); conv => whnf) | ((first | apply zi1 | apply zi2 | apply zi3 | apply zi4 | apply zi5) <;> intro _ <;> first | (exfalso; omega) | contradiction | (conv => whnf)) | (refine VAny.ix encBs_len i.o.toNat (by omega) rfl hof ?_; conv => whnf))
            refine zs6 [] ?_
            conv => whnf
            repeat' (first | ((first | refine zs1 ?_ | refine zs2 ?_ | refine zs3 ?_ | refine zs4 ?_ | refine zs5 ?_); conv => whnf) | ((first | apply zi1 | apply zi2 | apply zi3 | apply zi4 | apply zi5) <;> intro _ <;> first | (exfalso; omega) | contradiction | (conv => whnf)) | (refine VMem.app1 (l := L) (⟨i.x + f.x, i.y + f.y, f.s⟩ : Sit) encSt_len rfl rfl rfl rfl rfl (by omega) ?_; conv => whnf))
            refine LEnd.intro (k + 1) (by omega) (by omega) ?_
            rw [hst]
            conv => whnf
            rw [List.length_append]
            refine Retell.turn ⟨[0,5], 6, [], []⟩ (TurnOk.mk' _ _ [] [] (OutOk.lift _) rfl (by decide) zb trivial trivial rfl) zw zm
          · rw [if_neg hf1] at hst
            by_cases hf2 : i.f = 2
            · rw [if_pos hf2] at hst
              conv => whnf
              repeat' (first | ((first | refine zs1 ?_ | refine zs2 ?_ | refine zs3 ?_ | refine zs4 ?_ | refine zs5 ?_); conv => whnf) | ((first | apply zi1 | apply zi2 | apply zi3 | apply zi4 | apply zi5) <;> intro _ <;> first | (exfalso; omega) | contradiction | (conv => whnf)) | (refine VAny.ix encIe_len k rfl rfl hx ?_; conv => whnf))
              refine zs6 [] ?_
              conv => whnf
              repeat' (first | ((first | refine zs1 ?_ | refine zs2 ?_ | refine zs3 ?_ | refine zs4 ?_ | refine zs5 ?_); conv => whnf) | ((first | apply zi1 | apply zi2 | apply zi3 | apply zi4 | apply zi5) <;> intro _ <;> first | (exfalso; omega) | contradiction | (conv => whnf)) | (refine VAny.ix encBs_len i.o.toNat (by omega) rfl hof ?_; conv => whnf))
              refine zs6 [] ?_
              conv => whnf
              repeat' (first | ((first | refine zs1 ?_ | refine zs2 ?_ | refine zs3 ?_ | refine zs4 ?_ | refine zs5 ?_); conv => whnf) | ((first | apply zi1 | apply zi2 | apply zi3 | apply zi4 | apply zi5) <;> intro _ <;> first | (exfalso; omega) | contradiction | (conv => whnf)) | (refine VMem.app1 (l := L) (⟨2 * i.x, 2 * i.y, f.s⟩ : Sit) encSt_len rfl rfl rfl rfl rfl (by omega) ?_; conv => whnf))
              refine LEnd.intro (k + 1) (by omega) (by omega) ?_
              rw [hst]
              conv => whnf
              rw [List.length_append]
              refine Retell.turn ⟨[0,5], 6, [], []⟩ (TurnOk.mk' _ _ [] [] (OutOk.lift _) rfl (by decide) zb trivial trivial rfl) zw zm
            · rw [if_neg hf2, List.append_nil] at hst
              conv => whnf
              repeat' (first | ((first | refine zs1 ?_ | refine zs2 ?_ | refine zs3 ?_ | refine zs4 ?_ | refine zs5 ?_); conv => whnf) | ((first | apply zi1 | apply zi2 | apply zi3 | apply zi4 | apply zi5) <;> intro _ <;> first | (exfalso; omega) | contradiction | (conv => whnf)) | (refine VAny.ix encIe_len k rfl rfl hx ?_; conv => whnf))
              refine zs6 [] ?_
              conv => whnf
              repeat' (first | ((first | refine zs1 ?_ | refine zs2 ?_ | refine zs3 ?_ | refine zs4 ?_ | refine zs5 ?_); conv => whnf) | ((first | apply zi1 | apply zi2 | apply zi3 | apply zi4 | apply zi5) <;> intro _ <;> first | (exfalso; omega) | contradiction | (conv => whnf)) | (refine VAny.ix encBs_len i.o.toNat (by omega) rfl hof ?_; conv => whnf))
              refine LEnd.intro (k + 1) (by omega) (by omega) ?_
              rw [hst]
              conv => whnf
              refine Retell.turn ⟨[0,1], 6, [], []⟩ (TurnOk.mk' _ _ [] [] (OutOk.lift _) rfl (by decide) zb trivial trivial rfl) zw zm
        · obtain rfl : k = ie.length := by omega
          rw [hSe]
          conv => whnf
          repeat' (first | ((first | refine zs1 ?_ | refine zs2 ?_ | refine zs3 ?_ | refine zs4 ?_ | refine zs5 ?_); conv => whnf) | ((first | apply zi1 | apply zi2 | apply zi3 | apply zi4 | apply zi5) <;> intro _ <;> first | (exfalso; omega) | contradiction | (conv => whnf)))
          refine VCode.lpC (outer := h.lift) (marks := []) 99 (fun k : Nat => [(2, .nilptr), (3, .ptr (.loc 0) 0), (125, .gl (.loc 1) 3 S.length), (126, I S.length), (127, I k)]) (fun k => [.cells true [bss bs, ies ie, .gl (.loc 1) 3 S.length], .flat true (S.flatMap encSt)]) (fun k => k ≤ S.length) (fun k => S.length - k) 0 (Nat.zero_le _) ?_ ?_
          · conv => whnf
            refine Retell.turn ⟨[0,1], 9, [], []⟩ (TurnOk.mk' _ _ [] [] (OutOk.lift _) rfl (by decide) zb trivial trivial rfl) zw zm
          · intro k hk
            rcases Nat.lt_or_ge k S.length with h7 | h7
            · have hx : S[k]? = some S[k] := List.getElem?_eq_getElem h7
              have hm := List.getElem_mem h7
              generalize S[k] = a at *
              conv => whnf
              repeat' (first | ((first | refine zs1 ?_ | refine zs2 ?_ | refine zs3 ?_ | refine zs4 ?_ | refine zs5 ?_); conv => whnf) | ((first | apply zi1 | apply zi2 | apply zi3 | apply zi4 | apply zi5) <;> intro _ <;> first | (exfalso; omega) | contradiction | (conv => whnf)) | (refine VLd.recd encSt_len k rfl rfl rfl rfl hx rfl ?_; conv => whnf) | (refine VAny.intro (v := .gl (.loc 1) 3 k) ⟨by omega, k, by omega, .inl ⟨rfl, rfl⟩⟩ ?_; conv => whnf))
              refine VCode.lpC (outer := h.lift) (marks := []) 99 (fun j : Nat => [(2, .nilptr), (3, .ptr (.loc 0) 0), (125, .gl (.loc 1) 3 S.length), (126, I S.length), (127, I k), (10, .ptr (.loc 2) 0), (137, .gl (.loc 1) 3 k), (138, I k), (139, I j)]) (fun j => [.cells true [bss bs, ies ie, .gl (.loc 1) 3 S.length], .flat true (S.flatMap encSt), .flat true (encSt a)]) (fun j => j ≤ k) (fun j => k - j) 0 (Nat.zero_le _) ?_ ?_
              · conv => whnf
                refine Retell.turn ⟨[0,1,2], 9, [], []⟩ (TurnOk.mk' _ _ [] [] (OutOk.lift _) rfl (by decide) zb trivial trivial rfl) zw zm
              · intro j hj
                rcases Nat.lt_or_ge j k with h9 | h9
                · have hy : S[j]? = some S[j] := List.getElem?_eq_getElem (by omega)
                  have hcl := hc a hm S[j] (List.getElem_mem (by omega))
                  generalize S[j] = b at *
                  by_cases hab : a.x = b.x ∧ a.y = b.y
                  · have hs := hcl hab
                    have hv := veqP a.x a.y b.x b.y
                    rw [decide_eq_true hab] at hv
                    conv => whnf
                    repeat' (first | ((first | refine zs1 ?_ | refine zs2 ?_ | refine zs3 ?_ | refine zs4 ?_ | refine zs5 ?_); conv => whnf) | ((first | apply zi1 | apply zi2 | apply zi3 | apply zi4 | apply zi5) <;> intro _ <;> first | (exfalso; omega) | contradiction | (conv => whnf)) | (refine VLd.recd encSt_len j rfl rfl rfl rfl hy rfl ?_; conv => whnf) | (refine VAgg.intro hv ?_; conv => whnf))
                    refine LEnd.intro (j + 1) (by omega) (by omega) ?_
                    conv => whnf
                    refine Retell.turn ⟨[0,1,2], 9, [], []⟩ (TurnOk.mk' _ _ [] [] (OutOk.lift _) rfl (by decide) zb trivial trivial rfl) zw zm
                  · have hv := veqP a.x a.y b.x b.y
                    rw [decide_eq_false hab] at hv
                    conv => whnf
                    repeat' (first | ((first | refine zs1 ?_ | refine zs2 ?_ | refine zs3 ?_ | refine zs4 ?_ | refine zs5 ?_); conv => whnf) | ((first | apply zi1 | apply zi2 | apply zi3 | apply zi4 | apply zi5) <;> intro _ <;> first | (exfalso; omega) | contradiction | (conv => whnf)) | (refine VLd.recd encSt_len j rfl rfl rfl rfl hy rfl ?_; conv => whnf) | (refine VAgg.intro hv ?_; conv => whnf))
                    refine LEnd.intro (j + 1) (by omega) (by omega) ?_
                    conv => whnf
                    refine Retell.turn ⟨[0,1,2], 9, [], []⟩ (TurnOk.mk' _ _ [] [] (OutOk.lift _) rfl (by decide) zb trivial trivial rfl) zw zm
                · obtain rfl : j = k := by omega
                  conv => whnf
                  repeat' (first | ((first | refine zs1 ?_ | refine zs2 ?_ | refine zs3 ?_ | refine zs4 ?_ | refine zs5 ?_); conv => whnf) | ((first | apply zi1 | apply zi2 | apply zi3 | apply zi4 | apply zi5) <;> intro _ <;> first | (exfalso; omega) | contradiction | (conv => whnf)))
                  refine LEnd.intro (j + 1) (by omega) (by omega) ?_
                  conv => whnf
                  refine Retell.turn ⟨[0,1], 9, [], []⟩ (TurnOk.mk' _ _ [] [] (OutOk.lift _) rfl (by decide) zb trivial trivial rfl) zw zm
            · obtain rfl : k = S.length := by omega
              have fl : (S.flatMap encSt).length = S.length * 3 := flat_len encSt_len _
              conv => whnf
              repeat' (first | ((first | refine zs1 ?_ | refine zs2 ?_ | refine zs3 ?_ | refine zs4 ?_ | refine zs5 ?_); conv => whnf) | ((first | apply zi1 | apply zi2 | apply zi3 | apply zi4 | apply zi5) <;> intro _ <;> first | (exfalso; omega) | contradiction | (conv => whnf)))
              refine VOut.data 9 [(1, S.flatMap encSt), (0, [.sl 3 bs.length (bs.flatMap encBs), .sl 4 ie.length (ie.flatMap encIe), .sl 3 S.length (S.flatMap encSt)])] [] rfl zr (by exact FmAll.nil) zw
end Go.Proofs.YtccpfempgmkmbaaGreat

namespace Sea
def nrK (f : Nat → Int) : Nat → List Nat × Int
  | 0 => ([], 0)
  | k + 1 => if k = 0 ∨ f k < (nrK f k).2 then ([k], f k) else if f k = (nrK f k).2 then ((nrK f k).1 ++ [k], (nrK f k).2) else nrK f k
structure NrI (f : Nat → Int) (k : Nat) (p : List Nat × Int) : Prop where
  le : ∀ i, i < k → p.2 ≤ f i
  mem : ∀ i, i ∈ p.1 ↔ i < k ∧ f i = p.2
  ne : p.1 ≠ []
theorem nrK_ok (f : Nat → Int) : ∀ k, NrI f (k + 1) (nrK f (k + 1))
  | 0 => by
    rw [nrK, if_pos (.inl rfl)]
    refine ⟨fun i hi => ?_, fun i => ?_, by simp⟩
    · rw [show i = 0 by omega]; exact Int.le_refl _
    · simp only [List.mem_singleton]
      constructor
      · rintro rfl; exact ⟨by omega, rfl⟩
      · rintro ⟨h, _⟩; omega
  | k + 1 => by
    have h := nrK_ok f k
    rw [nrK]
    generalize nrK f (k + 1) = p at *
    split
    · rename_i hc
      have hlt : f (k + 1) < p.2 := by rcases hc with hc | hc; omega; exact hc
      refine ⟨fun i hi => ?_, fun i => ?_, by simp⟩
      · rcases Nat.lt_or_ge i (k + 1) with h1 | h1
        · have := h.le i h1; dsimp only; omega
        · rw [show i = k + 1 by omega]; exact Int.le_refl _
      · simp only [List.mem_singleton]
        constructor
        · rintro rfl; exact ⟨by omega, rfl⟩
        · rintro ⟨h1, h2⟩
          rcases Nat.lt_or_ge i (k + 1) with h3 | h3
          · have := h.le i h3; omega
          · omega
    · rename_i hc
      have hge : p.2 ≤ f (k + 1) := by
        rcases Int.lt_or_le (f (k + 1)) p.2 with h1 | h1
        · exact absurd (.inr h1) hc
        · exact h1
      split
      · rename_i he
        refine ⟨fun i hi => ?_, fun i => ?_, by simp⟩
        · rcases Nat.lt_or_ge i (k + 1) with h1 | h1
          · exact h.le i h1
          · rw [show i = k + 1 by omega]; exact hge
        · rw [List.mem_append, List.mem_singleton, h.mem]
          constructor
          · rintro (⟨h1, h2⟩ | rfl)
            · exact ⟨by omega, h2⟩
            · exact ⟨by omega, he⟩
          · rintro ⟨h1, h2⟩
            rcases Nat.lt_or_ge i (k + 1) with h3 | h3
            · exact .inl ⟨h3, h2⟩
            · exact .inr (by omega)
      · rename_i he
        refine ⟨fun i hi => ?_, fun i => ?_, h.ne⟩
        · rcases Nat.lt_or_ge i (k + 1) with h1 | h1
          · exact h.le i h1
          · rw [show i = k + 1 by omega]; exact hge
        · rw [h.mem]
          constructor
          · rintro ⟨h1, h2⟩; exact ⟨by omega, h2⟩
          · rintro ⟨h1, h2⟩
            rcases Nat.lt_or_ge i (k + 1) with h3 | h3
            · exact ⟨h3, h2⟩
            · rw [show i = k + 1 by omega] at h2; exact absurd h2 he
def oneS (st : Nat → Int) (l : List Nat) : Int := if l.any (fun i => decide (st i ≠ st (l.headD 0))) then -1 else st (l.headD 0)
theorem oneS_all {st : Nat → Int} {l : List Nat} {s : Int} (hl : l ≠ []) (h : ∀ i ∈ l, st i = s) : oneS st l = s := by
  have hd : st (l.headD 0) = s := by
    cases l with
    | nil => exact absurd rfl hl
    | cons a l => exact h a List.mem_cons_self
  unfold oneS
  rw [if_neg, hd]
  rw [List.any_eq_true]
  rintro ⟨i, hi, h2⟩
  rw [decide_eq_true_eq, hd] at h2
  exact h2 (h i hi)
theorem oneS_two {st : Nat → Int} {l : List Nat} {i j : Nat} (hi : i ∈ l) (hj : j ∈ l) (h : st i ≠ st j) : oneS st l = -1 := by
  unfold oneS
  rw [if_pos]
  rw [List.any_eq_true]
  by_cases h1 : st i = st (l.headD 0)
  · exact ⟨j, hj, by rw [decide_eq_true_eq, ← h1]; exact fun e => h e.symm⟩
  · exact ⟨i, hi, by rw [decide_eq_true_eq]; exact h1⟩
theorem whose_two {f st : Nat → Int} {k : Nat} {m0 m1 : Int} {i0 i1 : Nat} (hk : 0 < k) (hst : ∀ i, i < k → st i = 0 ∨ st i = 1) (h0 : i0 < k ∧ st i0 = 0 ∧ f i0 = m0) (h1 : i1 < k ∧ st i1 = 1 ∧ f i1 = m1)
    (l0 : ∀ i, i < k → st i = 0 → m0 ≤ f i) (l1 : ∀ i, i < k → st i = 1 → m1 ≤ f i) : oneS st (nrK f k).1 = if m0 < m1 then 0 else if m1 < m0 then 1 else -1 := by
  obtain ⟨n, rfl⟩ : ∃ n, k = n + 1 := ⟨k - 1, by omega⟩
  have h := nrK_ok f n
  generalize nrK f (n + 1) = p at *
  have a0 := h.le i0 h0.1
  have a1 := h.le i1 h1.1
  rw [h0.2.2] at a0
  rw [h1.2.2] at a1
  have hb : p.2 = m0 ∨ p.2 = m1 := by
    obtain ⟨i, hi⟩ := List.exists_mem_of_ne_nil _ h.ne
    obtain ⟨g1, g2⟩ := (h.mem i).1 hi
    rcases hst i g1 with e | e
    · have := l0 i g1 e; left; omega
    · have := l1 i g1 e; right; omega
  split
  · rename_i hlt
    refine oneS_all h.ne fun i hi => ?_
    obtain ⟨g1, g2⟩ := (h.mem i).1 hi
    rcases hst i g1 with e | e
    · exact e
    · have := l1 i g1 e; omega
  · split
    · rename_i hlt
      refine oneS_all h.ne fun i hi => ?_
      obtain ⟨g1, g2⟩ := (h.mem i).1 hi
      rcases hst i g1 with e | e
      · have := l0 i g1 e; omega
      · exact e
    · exact oneS_two ((h.mem i0).2 ⟨h0.1, by omega⟩) ((h.mem i1).2 ⟨h1.1, by omega⟩) (by rw [h0.2.1, h1.2.1]; decide)
def ds (X Y x y : Int) : Int := (X - 2 * x) * (X - 2 * x) + (Y - 2 * y) * (Y - 2 * y)
theorem sq_nonneg (a : Int) : 0 ≤ a * a := by
  rcases Int.le_total 0 a with h | h
  · exact Int.mul_nonneg h h
  · exact Int.mul_nonneg_of_nonpos_of_nonpos h h
theorem ds_row (X x y : Int) (Y : Int) : ds X (2 * y) x y ≤ ds X Y x y := by
  unfold ds
  have := sq_nonneg (Y - 2 * y)
  rw [show 2 * y - 2 * y = 0 by omega]
  omega
theorem sq_lt {a b : Int} (ha : 0 ≤ a) (hb : 0 ≤ b) : a * a < b * b ↔ a < b := by
  constructor
  · intro h
    rcases Int.lt_or_le a b with h1 | h1
    · exact h1
    · have := Int.mul_le_mul h1 h1 hb ha
      omega
  · intro h
    have h1 := Int.mul_le_mul_of_nonneg_right (Int.le_of_lt h) ha
    have h2 := Int.mul_lt_mul_of_pos_left h (show 0 < b by omega)
    have : b * a = a * b := Int.mul_comm _ _
    omega
end Sea

namespace Sea
def stS (i : Nat) : Int := ((i % 2 : Nat) : Int)
def xS (a b i : Nat) : Int := if i % 2 = 0 then 2 * ((a : Int) - 1) else 2 * (b : Int)
def fS (a b : Nat) (x y : Int) (i : Nat) : Int := ds (xS a b i) (2 * ((i / 2 : Nat) : Int)) x y
theorem ds_abs {c x : Int} (y : Int) : ds (2 * c) (2 * y) x y = 4 * ((c - x) * (c - x)) := by
  unfold ds
  rw [show 2 * y - 2 * y = 0 by omega, show 2 * c - 2 * x = 2 * (c - x) by omega, show (0 : Int) * 0 = 0 from rfl, Int.add_zero]
  generalize c - x = d
  rw [Int.mul_assoc, Int.mul_left_comm d 2 d, ← Int.mul_assoc]
  rfl
theorem st_whose {H a b : Nat} {x y : Nat} (hab : a < b) (hy : y < H) :
    (if oneS stS (nrK (fS a b x y) (2 * H)).1 = 0 then (1 : Int) else if oneS stS (nrK (fS a b x y) (2 * H)).1 = 1 then 2 else 3) = if x < a then 1 else if b ≤ x then 2 else if x + x + 1 = a + b then 3 else if x + x + 1 < a + b then 1 else 2 := by
  have hw := whose_two (f := fS a b x y) (st := stS) (k := 2 * H) (m0 := 4 * (((a : Int) - 1 - x) * ((a : Int) - 1 - x))) (m1 := 4 * (((b : Int) - x) * ((b : Int) - x))) (i0 := 2 * y) (i1 := 2 * y + 1) (by omega)
    (fun i _ => by unfold stS; omega)
    ⟨by omega, by unfold stS; omega, by
      unfold fS xS
      rw [if_pos (by omega), show 2 * y / 2 = y by omega]
      exact ds_abs _⟩
    ⟨by omega, by unfold stS; omega, by
      unfold fS xS
      rw [if_neg (by omega), show (2 * y + 1) / 2 = y by omega]
      exact ds_abs _⟩
    (fun i hi he => by
      unfold stS at he
      unfold fS xS
      rw [if_pos (by omega), ← ds_abs (c := (a : Int) - 1) (x := x) y]
      exact ds_row _ _ _ _)
    (fun i hi he => by
      unfold stS at he
      unfold fS xS
      rw [if_neg (by omega), ← ds_abs (c := (b : Int)) (x := x) y]
      exact ds_row _ _ _ _)
  rw [hw]
  have hab2 : ∀ d e : Nat, ((d : Int) * d < (e : Int) * e ↔ d < e) := fun d e => by
    have := sq_lt (a := (d : Int)) (b := (e : Int)) (by omega) (by omega)
    rw [this]; omega
  have hneg : ∀ d : Int, (-d) * (-d) = d * d := fun d => Int.neg_mul_neg d d
  -- the distances as numbers
  obtain ⟨d, hd⟩ : ∃ d : Nat, ((a : Int) - 1 - x) * ((a : Int) - 1 - x) = (d : Int) * d ∧ ((x < a ∧ d + x + 1 = a) ∨ (a ≤ x ∧ x + 1 = a + d)) := by
    rcases Nat.lt_or_ge x a with h | h
    · exact ⟨a - 1 - x, by rw [show ((a - 1 - x : Nat) : Int) = (a : Int) - 1 - x by omega], .inl ⟨h, by omega⟩⟩
    · exact ⟨x + 1 - a, by rw [show ((x + 1 - a : Nat) : Int) = -((a : Int) - 1 - x) by omega, hneg], .inr ⟨h, by omega⟩⟩
  obtain ⟨e, he⟩ : ∃ e : Nat, ((b : Int) - x) * ((b : Int) - x) = (e : Int) * e ∧ ((x < b ∧ e + x = b) ∨ (b ≤ x ∧ x = b + e)) := by
    rcases Nat.lt_or_ge x b with h | h
    · exact ⟨b - x, by rw [show ((b - x : Nat) : Int) = (b : Int) - x by omega], .inl ⟨h, by omega⟩⟩
    · exact ⟨x - b, by rw [show ((x - b : Nat) : Int) = -((b : Int) - x) by omega, hneg], .inr ⟨h, by omega⟩⟩
  have h1 := hab2 d e
  have h2 := hab2 e d
  rw [hd.1, he.1]
  have g1 : (4 * ((d : Int) * d) < 4 * ((e : Int) * e)) ↔ d < e := by rw [← h1]; omega
  have g2 : (4 * ((e : Int) * e) < 4 * ((d : Int) * d)) ↔ e < d := by rw [← h2]; omega
  have hd2 := hd.2
  have he2 := he.2
  simp only [g1, g2]
  by_cases k1 : d < e
  · rw [if_pos k1, if_pos rfl]
    split
    · rfl
    · split
      · omega
      · split
        · omega
        · split
          · rfl
          · omega
  · rw [if_neg k1]
    by_cases k2 : e < d
    · rw [if_pos k2, if_neg (by decide), if_pos rfl]
      split
      · omega
      · split
        · rfl
        · split
          · omega
          · split
            · omega
            · rfl
    · rw [if_neg k2, if_neg (by decide), if_neg (by decide)]
      split
      · omega
      · split
        · omega
        · split
          · rfl
          · omega
end Sea

open Go.Vm
open Riv
namespace Go.Proofs.YtccpfempgmkmbaaGreat
set_option maxRecDepth 20000
set_option maxHeartbeats 4000000

/-! ### The neighbours of a cell, handed on one by one -/
def vBes (m : Mp) (n : Nat) : V := .func (.func 68) [] [.fp [DI n], .fp (encM m)]
theorem vc_beside (m : Mp) (n : Nat) (h : Hp) : VC Tryz.prog 47 [vM m, I n] h (vBes m n) h := by
  refine VC.body Tryz.func47 rfl Tryz.ntmps47 Tryz.call47 (h.grows_refl) rfl ?_; conv => whnf
  repeat' (first | ((first | refine zs1 ?_ | refine zs2 ?_ | refine zs3 ?_ | refine zs4 ?_ | refine zs5 ?_ | refine zs6 [] ?_); conv => whnf) | ((first | apply zi1 | apply zi2 | apply zi3 | apply zi4 | apply zi5) <;> intro _ <;> conv => whnf))
  refine VOut.data 2 [(0, encM m), (1, [DI n])] [] rfl zf (by exact FmAll.nil) zw
def nbO (W L n : Nat) : Nat → Option Nat
  | 0 => if n < W then none else some (n - W)
  | 1 => if n % W = 0 then none else some (n - 1)
  | 2 => if n % W = W - 1 then none else some (n + 1)
  | 3 => if L ≤ n + W then none else some (n + W)
  | _ => none
def nbY (W L n k : Nat) : Option (List V) := (nbO W L n k).map fun q : Nat => [I q]
theorem fm4 (a b c d : Prop) [Decidable a] [Decidable b] [Decidable c] [Decidable d] (x y z t : Nat) : [(if a then none else some x), (if b then none else some y), (if c then none else some z), (if d then none else some t)].filterMap id = (if a then [] else [x]) ++ (if b then [] else [y]) ++ (if c then [] else [z]) ++ (if d then [] else [t]) := by
  by_cases h1 : a <;> by_cases h2 : b <;> by_cases h3 : c <;> by_cases h4 : d <;> simp [h1, h2, h3, h4]
theorem nbO_list (W L n : Nat) : (List.range 4).filterMap (nbO W L n) = nbs W L n := by
  have h := fm4 (n < W) (n % W = 0) (n % W = W - 1) (L ≤ n + W) (n - W) (n - 1) (n + 1) (n + W)
  unfold nbs
  rw [← h, show List.range 4 = [0, 1, 2, 3] from rfl]
  rfl
theorem nbO_mem {W L n k q : Nat} (hk : k < 4) (h : nbO W L n k = some q) : q ∈ nbs W L n := by
  rw [← nbO_list]
  exact List.mem_filterMap.2 ⟨k, List.mem_range.2 hk, h⟩
theorem nbY_some {W L n k : Nat} {vs : List V} (h : nbY W L n k = some vs) : ∃ q, nbO W L n k = some q ∧ vs = [I q] := by
  unfold nbY at h
  cases hq : nbO W L n k with
  | none => rw [hq] at h; cases h
  | some q => rw [hq] at h; cases h; exact ⟨q, rfl, rfl⟩
theorem nbY_none {W L n k : Nat} (h : nbY W L n k = none) : nbO W L n k = none := by
  unfold nbY at h
  cases hq : nbO W L n k with
  | none => rfl
  | some q => rw [hq] at h; cases h
def nbF {α : Type} (f : α → Nat → α) (W L n : Nat) (x : α) (k : Nat) : α := (((List.range k).filterMap (nbO W L n))).foldl f x
theorem nbF_zero {α : Type} (f : α → Nat → α) (W L n : Nat) (x : α) : nbF f W L n x 0 = x := rfl
theorem nbF_all {α : Type} (f : α → Nat → α) (W L n : Nat) (x : α) : nbF f W L n x 4 = (nbs W L n).foldl f x := by unfold nbF; rw [nbO_list]
theorem nbF_none {α : Type} {f : α → Nat → α} {W L n : Nat} {x : α} {k : Nat} (h : nbO W L n k = none) : nbF f W L n x (k + 1) = nbF f W L n x k := by
  unfold nbF
  rw [List.range_succ, List.filterMap_append]
  simp [h]
theorem nbF_some {α : Type} {f : α → Nat → α} {W L n q : Nat} {x : α} {k : Nat} (h : nbO W L n k = some q) : nbF f W L n x (k + 1) = f (nbF f W L n x k) q := by
  unfold nbF
  rw [List.range_succ, List.filterMap_append, List.foldl_append]
  simp [h]
theorem iter_beside (m : Mp) (W n : Nat) (hW : 2 ≤ W ∧ W ≤ 100000) (hm : m.w = W) (hn : n < m.c.length) (hc : m.c.length ≤ 4000000) : IterS Tryz.prog 68 [] [.fp [DI n], .fp (encM m)] 4 (nbY W m.c.length n) := by
  intro h i J hs h0
  obtain ⟨g, g0, g1, hI⟩ := iterS_seq (ys := nbY W m.c.length n) hs h0
  have hgr : ∀ j, j ≤ 4 → h.grows (g j) := by
    intro j
    induction j with
    | zero => intro _; rw [g0]; exact h.grows_refl
    | succ j ih =>
      intro hj
      rcases g1 j (by omega) with ⟨_, e⟩ | ⟨vs, _, hv⟩
      · rw [e]; exact ih (by omega)
      · exact fun k hk => hv.1 k (ih (by omega) k hk)
  have gA := g1 0 (by omega)
  have gB := g1 1 (by omega)
  have gC := g1 2 (by omega)
  have gD := g1 3 (by omega)
  have hend := hgr 4 (by omega)
  refine ⟨g 4, ?_, hI⟩
  clear hI hgr g1 hs h0
  generalize g 4 = h4 at *
  generalize g 3 = h3 at *
  generalize g 2 = h2 at *
  generalize g 1 = h1 at *
  obtain rfl : h = g 0 := g0.symm
  generalize g 0 = h0 at *
  clear g0
  have e1 : (n : Int).tmod (W : Int) = ((n % W : Nat) : Int) := Int.ofNat_tmod n W
  have hr := Nat.mod_lt n (show 0 < W by omega)
  simp only [nbY, nbO] at gA gB gC gD
  obtain ⟨mw, mh, mc⟩ := m
  dsimp only at hm hn hc gA gB gC gD
  subst hm
  rw [show encM ⟨(W : Int), mh, mc⟩ = [DI W, DI mh, .sl 1 mc.length (mc.flatMap encI)] from rfl]
  have key : ∀ {c : Prop} [Decidable c] {q : Nat} {a b : Hp}, (((if c then none else some q : Option Nat).map fun q : Nat => [I q]) = none ∧ b = a ∨ ∃ vs, ((if c then none else some q : Option Nat).map fun q : Nat => [I q]) = some vs ∧ VY Tryz.prog i vs a (.s (.bool true)) b) → (c ∧ b = a) ∨ (¬ c ∧ VY Tryz.prog i [I q] a (.s (.bool true)) b) := by
    intro c _ q a b h
    by_cases hc : c
    · rw [if_pos hc] at h
      rcases h with ⟨_, h⟩ | ⟨vs, h, _⟩
      · exact .inl ⟨hc, h⟩
      · cases h
    · rw [if_neg hc] at h
      rcases h with ⟨h, _⟩ | ⟨vs, h, hv⟩
      · cases h
      · cases h; exact .inr ⟨hc, hv⟩
  have gA := key gA
  have gB := key gB
  have gC := key gC
  have gD := key gD
  clear key
  have qA : ¬ n < W → ((n - W : Nat) : Int) = (n : Int) - W := fun h => by omega
  have qB : ¬ n % W = 0 → ((n - 1 : Nat) : Int) = (n : Int) - 1 := fun h => by
    have : n ≠ 0 := fun e => h (by rw [e]; exact Nat.zero_mod W)
    omega
  have qC : ((n + 1 : Nat) : Int) = (n : Int) + 1 := by omega
  have qD : ((n + W : Nat) : Int) = (n : Int) + W := by omega
  rw [qC] at gC
  rw [qD] at gD
  generalize n % W = r at *
  rcases gA with ⟨a1, rfl⟩ | ⟨a1, yA⟩ <;> rcases gB with ⟨b1, rfl⟩ | ⟨b1, yB⟩ <;> rcases gC with ⟨c1, rfl⟩ | ⟨c1, yC⟩ <;> rcases gD with ⟨d1, rfl⟩ | ⟨d1, yD⟩
  all_goals (
    (try rw [qA a1] at yA)
    (try rw [qB b1] at yB)
    refine VC.body Tryz.func68 rfl Tryz.ntmps68 Tryz.call68 hend rfl ?_
    conv => whnf)
  all_goals (
    refine zs6 [] ?_
    conv => whnf
    repeat' (first | ((first | refine zs1 ?_ | refine zs2 ?_ | refine zs3 ?_ | refine zs4 ?_ | refine zs5 ?_); conv => whnf) | ((first | apply zi1 | apply zi2 | apply zi3 | apply zi4 | apply zi5) <;> intro _ <;> first | (exfalso; omega) | contradiction | (conv => whnf)) | (refine VYield.intro (VY.lift _ yA) ?_; conv => whnf) | (refine VYield.intro (VY.lift _ yB) ?_; conv => whnf) | (refine VYield.intro (VY.lift _ yC) ?_; conv => whnf) | (refine VYield.intro (VY.lift _ yD) ?_; conv => whnf)))
  all_goals first
    | exact VOut.lifted (r := .tuple []) hend
    | (exfalso; omega)
end Go.Proofs.YtccpfempgmkmbaaGreat

open Go.Vm
open Riv
namespace Go.Proofs.YtccpfempgmkmbaaGreat
set_option maxRecDepth 20000
set_option maxHeartbeats 4000000

theorem sz_mul {W H : Int} (hW : 0 ≤ W ∧ W ≤ 12) (hH : 0 ≤ H ∧ H ≤ 12) : 0 ≤ W * H ∧ W * H ≤ 144 :=
  ⟨Int.mul_nonneg hW.1 hH.1, by have := Int.mul_le_mul hW.2 hH.2 hH.1 (show (0 : Int) ≤ 12 by decide); omega⟩
theorem outW_one {o : Vm.Id → Option Blk} {iy i0 : Vm.Id} {a c d : Blk} (n0 : i0 ≠ iy) : outW (outW (outW o iy c) i0 a) iy d = outW (outW o i0 a) iy d := by
  funext k
  unfold outW
  by_cases e : k = iy
  · subst e; simp only [if_true]
  · simp only [if_neg e]
structure CJ (o : Vm.Id → Option Blk) (e : Int) (g : Hp) : Prop where
  o : g.outer = o
  b0 : g.get (.loc 0) = some (.flat true [DI e])
  b1 : g.get (.loc 1) = some .mark
theorem vc_check (m : Mp) (h : Hp) (hl : m.c.length ≤ 4000000) : VC Tryz.prog 14 [vM m] h (I (chkM m)) h := by
  obtain ⟨E, hE⟩ : ∃ E, E = chkM m := ⟨_, rfl⟩
  rw [← hE]
  unfold chkM at hE
  have cC := fun h => vc_ContFI m.c (fun x => !decide (0 ≤ x ∧ x ≤ 3)) 27 hl vc_Check1 h
  rw [any_kind] at cC
  obtain ⟨mw, mh, mc⟩ := m
  dsimp only at hE hl cC
  show VC Tryz.prog 14 [.agg [I mw, I mh, ints mc]] h (I E) h
  by_cases h0 : ((3 ≤ mw ∧ mw ≤ 12) ∧ 1 ≤ mh ∧ mh ≤ 12) ∧ (mc.length : Int) = mw * mh
  · have hm := sz_mul (W := mw) (H := mh) (by omega) (by omega)
    rw [if_pos h0] at hE
    obtain ⟨⟨h1, h2⟩, h3⟩ := h0
    obtain ⟨W, rfl⟩ : ∃ W : Nat, mw = W := ⟨mw.toNat, by omega⟩
    obtain ⟨H, rfl⟩ : ∃ H : Nat, mh = H := ⟨mh.toNat, by omega⟩
    rw [Int.toNat_natCast, Int.toNat_natCast] at hE
    have hL : mc.length = W * H := by
      have e : ((W * H : Nat) : Int) = (W : Int) * H := by rw [Int.natCast_mul]
      omega
    have hit := iter_Chunk mc W H (by omega) hL hl
    have hrl := fun y hy => rowL_len (W := W) (y := y) hL hy
    have hlt : ∀ y, y < H → y * W + W ≤ mc.length := fun y hy => by
      have h1 : (y + 1) * W ≤ H * W := Nat.mul_le_mul_right _ hy
      rw [Nat.add_mul, Nat.one_mul, Nat.mul_comm H] at h1; omega
    have hr0 : ∀ y, y < H → (rowL mc W y)[0]? = some (at0 mc (y * W)) := fun y hy => by
      have := hlt y hy
      have := rowL_at (c := mc) (W := W) (y := y) (k := 0) (by omega) (by omega)
      rw [Nat.add_zero] at this; exact this
    have hr1 : ∀ y, y < H → (rowL mc W y)[W - 1]? = some (at0 mc (y * W + W - 1)) := fun y hy => by
      have := hlt y hy
      have := rowL_at (c := mc) (W := W) (y := y) (k := W - 1) (by omega) (by omega)
      rw [show y * W + W - 1 = y * W + (W - 1) by omega]; exact this
    have cK := fun h => vc_Chunk mc W h (by omega)
    clear hL
    cases hk : kindB mc
    · rw [hk] at hE cC
      rw [cond_false] at hE
      subst hE
      refine VC.body Tryz.func14 rfl Tryz.ntmps14 Tryz.call14 (h.grows_refl) rfl ?_; conv => whnf
      repeat' (first | ((first | refine zs1 ?_ | refine zs2 ?_ | refine zs3 ?_ | refine zs4 ?_ | refine zs5 ?_); conv => whnf) | ((first | apply zi1 | apply zi2 | apply zi3 | apply zi4 | apply zi5) <;> intro _ <;> first | (exfalso; omega) | contradiction | (conv => whnf)) | (refine VCall.intro (vc_from _ _ _ _) ?_; conv => whnf) | (refine VCall.intro (cC _) ?_; conv => whnf))
      all_goals first | exact VOut.same rfl | (exfalso; simp at *; omega)
    · rw [hk] at hE cC
      rw [cond_true] at hE
      refine VC.bodyC 3 Tryz.func14 rfl Tryz.ntmps14 Tryz.call14 (h.grows_refl) rfl ?_
      conv => whnf
      repeat' (first | ((first | refine zs1 ?_ | refine zs2 ?_ | refine zs3 ?_ | refine zs4 ?_ | refine zs5 ?_); conv => whnf) | ((first | apply zi1 | apply zi2 | apply zi3 | apply zi4 | apply zi5) <;> intro _ <;> first | (exfalso; omega) | contradiction | (conv => whnf)) | (refine VCall.intro (vc_from _ _ _ _) ?_; conv => whnf) | (refine VCall.intro (cC _) ?_; conv => whnf) | (refine VCall.intro (cK _) ?_; conv => whnf))
      refine VCode.tell [(1, .fp [DI W, DI H, dints mc]), (3, .ptr (.loc 0) 0), (33, vChunk mc W)] [.flat true [DI 0]] (marks' := []) ?_ ?_
      · conv => whnf
        refine Retell.turn ⟨[1], 2, [(0, [DI W, DI H, dints mc])], []⟩ (TurnOk.mk' _ _ [(0, [DI W, DI H, dints mc])] [] (OutOk.lift _) rfl (by decide) zb zf trivial rfl) zw zm
      · conv => whnf
        refine VCode.iterN H (fun y => some [ints (rowL mc W y)]) (fun y g => CJ h.lift 0 g ∧ ∀ z, z < y → sideB mc W z = true) (fun x g => x = .exit 0 ∧ CJ h.lift 9 g ∧ ∃ z, z < H ∧ sideB mc W z = false) _ (.loc 2) rfl hit rfl rfl ⟨⟨rfl, rfl, rfl⟩, fun z hz => by omega⟩ ?_ ?_ ?_ ?_
        · rintro y g hy hn _
          cases hn
        · rintro y g vs hy hvs ⟨⟨j0, j1, j2⟩, ha⟩ hlp
          cases hvs
          have hA := hr0 y hy
          have hB := hr1 y hy
          have hR := hrl y hy
          have hS : sideB mc W y = decide (at0 mc (y * W) = 1 ∧ at0 mc (y * W + W - 1) = 2) := rfl
          generalize at0 mc (y * W) = a at hA hS
          generalize at0 mc (y * W + W - 1) = b at hB hS
          generalize rowL mc W y = R at hA hB hR
          by_cases hs : a = 1 ∧ b = 2
          · left
            refine ⟨g, VRound.vy' hlp rfl rfl rfl g.grows_refl fun l0 => ?_, ⟨⟨j0, j1, j2⟩, fun z hz => ?_⟩, hlp⟩
            · refine VRound.tell [(1, .fp [DI W, DI H, dints mc]), (3, .ptr (.out (.loc 0)) 0), (34, ints R)] ?_ ?_
              · conv => whnf
                refine Retell.turn ⟨[], 0, [], []⟩ (TurnOk.mk' _ _ [] [] (OutOk.lift _) rfl (by decide) zb trivial trivial rfl) zw zm
              · conv => whnf
                repeat (first | ((first | refine zs1 ?_ | refine zs2 ?_ | refine zs3 ?_ | refine zs4 ?_ | refine zs5 ?_ | refine zs6 [] ?_); conv => whnf))
                refine VBegin.intro (get_out hlp _) rfl ?_
                conv => whnf
                repeat' (first | ((first | refine zs1 ?_ | refine zs2 ?_ | refine zs3 ?_ | refine zs4 ?_ | refine zs5 ?_); conv => whnf) | ((first | apply zi1 | apply zi2 | apply zi3 | apply zi4 | apply zi5) <;> intro _ <;> first | (exfalso; omega) | contradiction | (conv => whnf)) | (refine VAny.ix encI_len 0 (by omega) rfl hA ?_; conv => whnf) | (refine VAny.ix encI_len (W - 1) (by omega) rfl hB ?_; conv => whnf))
                exact RFin.on (outW_get _ _ _ _) (VOut.back (get_out hlp []) rfl)
            · rcases Nat.lt_or_ge z y with h5 | h5
              · exact ha z h5
              · obtain rfl : z = y := by omega
                rw [hS]; exact decide_eq_true hs
          · have n0 : g.get (.loc 0) ≠ none := by rw [j1]; simp
            have n2 : (g.set (.loc 0) (.flat true [DI 9])).get (.loc 2) ≠ none := by rw [Hp.get_set g _ _ _ n0, if_neg (by decide), hlp]; simp
            refine Rnd.stop (.exit 0) rfl hlp (g.set (.loc 0) (.flat true [DI 9])) n2 ?_ ⟨rfl, ⟨j0, ?_, ?_⟩, y, hy, by rw [hS]; exact decide_eq_false hs⟩
            · refine VRound.vy' hlp rfl rfl rfl grows_set2 fun l0 => ?_
              refine VRound.tell [(1, .fp [DI W, DI H, dints mc]), (3, .ptr (.out (.loc 0)) 0), (34, ints R)] ?_ ?_
              · conv => whnf
                refine Retell.turn ⟨[], 0, [], []⟩ (TurnOk.mk' _ _ [] [] (OutOk.lift _) rfl (by decide) zb trivial trivial rfl) zw zm
              · conv => whnf
                repeat (first | ((first | refine zs1 ?_ | refine zs2 ?_ | refine zs3 ?_ | refine zs4 ?_ | refine zs5 ?_ | refine zs6 [] ?_); conv => whnf))
                refine VBegin.intro (get_out hlp _) rfl ?_
                conv => whnf
                repeat' (first | ((first | refine zs1 ?_ | refine zs2 ?_ | refine zs3 ?_ | refine zs4 ?_ | refine zs5 ?_); conv => whnf) | ((first | apply zi1 | apply zi2 | apply zi3 | apply zi4 | apply zi5) <;> intro _ <;> first | (exfalso; omega) | contradiction | (conv => whnf)) | (refine VAny.ix encI_len 0 (by omega) rfl hA ?_; conv => whnf) | (refine VAny.ix encI_len (W - 1) (by omega) rfl hB ?_; conv => whnf) | (refine VMem.st1 rfl rfl rfl (get_outNe (by decide) (get_out j1 _)) rfl ?_; conv => whnf))
                all_goals (
                  refine RFin.off rfl (get_outNe (by decide) (outW_get _ _ _ _)) (VOut.liftS ?_ grows_set2)
                  rw [lift_set n2, lift_set n0]
                  exact outW_one (by decide))
            · rw [Hp.get_set _ _ _ _ n2, if_neg (by decide), Hp.get_set _ _ _ _ n0, if_pos rfl]
            · rw [Hp.get_set _ _ _ _ n2, if_neg (by decide), Hp.get_set _ _ _ _ n0, if_neg (by decide)]; exact j2
        · rintro ⟨go, gl⟩ ⟨⟨j0, j1, j2⟩, ha⟩ hlp
          dsimp only at j0
          subst j0
          have j1 : gl[0]? = some _ := j1
          have j2 : gl[1]? = some _ := j2
          have l0 := (List.getElem?_eq_some_iff.1 j1).1
          have key : ∀ (x : Nat) (A : Blk), x ≠ 2 → (gl.set 2 A)[x]? = gl[x]? := fun x A hx => List.getElem?_set_ne (Ne.symm hx)
          have hE0 : E = 0 := by
            rw [hE]
            have : (List.range H).all (sideB mc W) = true := by
              rw [List.all_eq_true]
              exact fun z hz => ha z (List.mem_range.1 hz)
            rw [this]; rfl
          subst hE0
          refine Told.mk [(3, .ptr (.loc 0) 0)] [.flat true [DI 0]] (marks' := []) ?_ ?_
          · conv => whnf
            refine Retell.turn ⟨[0], gl.length, [], []⟩ (TurnOk.mk' _ _ [] [] (OutOk.lift _) (Nat.ble_eq_true_of_le (by simp)) (by simp) (BTos.flat (blt_of l0) ((key 0 _ (by decide)).trans j1) rfl BTos.nil) trivial trivial rfl) zw (MkTo.drop (show 1 ∉ ([0] : List Nat) by decide) ((key 1 _ (by decide)).trans j2) MkTo.nil)
          · conv => whnf
            repeat' (first | ((first | refine zs1 ?_ | refine zs2 ?_ | refine zs3 ?_ | refine zs4 ?_ | refine zs5 ?_ | refine zs6 [] ?_); conv => whnf) | ((first | apply zi1 | apply zi2 | apply zi3 | apply zi4 | apply zi5) <;> intro _ <;> conv => whnf))
            exact VOut.same rfl
        · rintro x ⟨go, gl⟩ _ ⟨rfl, ⟨j0, j1, j2⟩, z, hz, hb⟩ hlp
          dsimp only at j0
          subst j0
          have j1 : gl[0]? = some _ := j1
          have j2 : gl[1]? = some _ := j2
          have l0 := (List.getElem?_eq_some_iff.1 j1).1
          have key : ∀ (x : Nat) (A : Blk), x ≠ 2 → (gl.set 2 A)[x]? = gl[x]? := fun x A hx => List.getElem?_set_ne (Ne.symm hx)
          have hE0 : E = 9 := by
            rw [hE]
            have : (List.range H).all (sideB mc W) = false := by
              cases hx : (List.range H).all (sideB mc W) with
              | false => rfl
              | true =>
                rw [List.all_eq_true] at hx
                rw [hx z (List.mem_range.2 hz)] at hb; cases hb
            rw [this]; rfl
          subst hE0
          refine Told.mk [(3, .ptr (.loc 0) 0)] [.flat true [DI 9]] (marks' := []) ?_ ?_
          · conv => whnf
            refine Retell.turn ⟨[0], gl.length, [], []⟩ (TurnOk.mk' _ _ [] [] (OutOk.lift _) (Nat.ble_eq_true_of_le (by simp)) (by simp) (BTos.flat (blt_of l0) ((key 0 _ (by decide)).trans j1) rfl BTos.nil) trivial trivial rfl) zw (MkTo.drop (show 1 ∉ ([0] : List Nat) by decide) ((key 1 _ (by decide)).trans j2) MkTo.nil)
          · conv => whnf
            repeat' (first | ((first | refine zs1 ?_ | refine zs2 ?_ | refine zs3 ?_ | refine zs4 ?_ | refine zs5 ?_ | refine zs6 [] ?_); conv => whnf) | ((first | apply zi1 | apply zi2 | apply zi3 | apply zi4 | apply zi5) <;> intro _ <;> conv => whnf))
            exact VOut.same rfl
  · rw [if_neg h0] at hE
    subst hE
    have hm : (0 ≤ mw ∧ mw ≤ 12) → (0 ≤ mh ∧ mh ≤ 12) → 0 ≤ mw * mh ∧ mw * mh ≤ 144 := sz_mul
    refine VC.body Tryz.func14 rfl Tryz.ntmps14 Tryz.call14 (h.grows_refl) rfl ?_; conv => whnf
    repeat' (first | ((first | refine zs1 ?_ | refine zs2 ?_ | refine zs3 ?_ | refine zs4 ?_ | refine zs5 ?_); conv => whnf) | ((first | apply zi1 | apply zi2 | apply zi3 | apply zi4 | apply zi5) <;> intro _ <;> first | (exfalso; omega) | contradiction | (conv => whnf)) | (refine VCall.intro (vc_from _ _ _ _) ?_; conv => whnf) | (refine VCall.intro (cC _) ?_; conv => whnf))
    all_goals first | exact VOut.same rfl | (exfalso; simp at *; omega)
end Go.Proofs.YtccpfempgmkmbaaGreat


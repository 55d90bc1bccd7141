/- Part 5 of the proof that two base points leave no enclaves. No condition. -/
import Derived.Test.YtajnkenbhmkjaaaGreatBn4
import Derived.Test.YtajnkenbhmkjaaaGreatRows
set_option linter.unusedVariables false
set_option linter.unusedSimpArgs false
namespace Riv
structure Mp where
  w : Int
  h : Int
  c : List Int
  deriving DecidableEq
def Nb (W a b : Nat) : Prop := a = b + W ∨ b = a + W ∨ (a = b + 1 ∧ a % W ≠ 0) ∨ (b = a + 1 ∧ b % W ≠ 0)
instance (W a b : Nat) : Decidable (Nb W a b) := by unfold Nb; infer_instance
theorem Nb.symm {W a b : Nat} (h : Nb W a b) : Nb W b a := by
  rcases h with h | h | h | h
  · exact .inr (.inl h)
  · exact .inl h
  · exact .inr (.inr (.inr h))
  · exact .inr (.inr (.inl h))
def nbs (W L n : Nat) : List Nat := (if n < W then [] else [n - W]) ++ (if n % W = 0 then [] else [n - 1]) ++ (if n % W = W - 1 then [] else [n + 1]) ++ (if L ≤ n + W then [] else [n + W])
theorem mod_succ {W n : Nat} (hW : 2 ≤ W) : (n + 1) % W = if n % W = W - 1 then 0 else n % W + 1 := by
  have h1 := Nat.div_add_mod n W
  have h2 := Nat.mod_lt n (show 0 < W by omega)
  generalize n % W = r at *
  generalize n / W = q at *
  subst h1
  split
  · rename_i h
    subst h
    rw [show W * q + (W - 1) + 1 = W * (q + 1) by rw [Nat.mul_succ]; omega, Nat.mul_mod_right]
  · rw [Nat.add_assoc, Nat.mul_add_mod, Nat.mod_eq_of_lt (by omega)]
theorem nbs_iff {W L H n k : Nat} (hW : 2 ≤ W) (hL : L = W * H) (hn : n < L) : k ∈ nbs W L n ↔ k < L ∧ Nb W n k := by
  have hm := mod_succ (n := n) hW
  have hr := Nat.mod_lt n (show 0 < W by omega)
  have hend : n % W ≠ W - 1 → n + 1 < L := by
    intro h
    rw [if_neg h] at hm
    have : n + 1 ≠ L := fun e => by
      rw [e, hL, Nat.mul_mod_right] at hm
      omega
    omega
  unfold nbs Nb
  simp only [List.mem_append]
  constructor
  · rintro (((h | h) | h) | h)
    · split at h
      · simp at h
      · simp at h; subst h; exact ⟨by omega, .inl (by omega)⟩
    · split at h
      · simp at h
      · rename_i h2
        simp at h; subst h
        have : n ≠ 0 := fun e => h2 (by rw [e]; exact Nat.zero_mod W)
        exact ⟨by omega, .inr (.inr (.inl ⟨by omega, h2⟩))⟩
    · split at h
      · simp at h
      · rename_i h2
        simp at h; subst h
        exact ⟨hend h2, .inr (.inr (.inr ⟨rfl, by rw [hm, if_neg h2]; omega⟩))⟩
    · split at h
      · simp at h
      · simp at h; subst h; exact ⟨by omega, .inr (.inl rfl)⟩
  · rintro ⟨h0, h | h | h | h⟩
    · refine .inl (.inl (.inl ?_))
      rw [if_neg (by omega)]; simp; omega
    · refine .inr ?_
      rw [if_neg (by omega)]; simp; omega
    · refine .inl (.inl (.inr ?_))
      rw [if_neg h.2]; simp; omega
    · refine .inl (.inr ?_)
      have h2 := h.2
      rw [h.1, hm] at h2
      rw [if_neg (fun e => h2 (by rw [if_pos e]))]
      simp; omega
end Riv

namespace Riv
def at0 (l : List Int) (n : Nat) : Int := l.getD n (-1)
def Thr (c : List Int) (s : Int) (k : Nat) : Prop := at0 c k = 0 ∨ at0 c k = s
def Opn (c : List Int) (k : Nat) : Prop := at0 c k = 0 ∨ at0 c k = 3
instance (c : List Int) (s : Int) (k : Nat) : Decidable (Thr c s k) := by unfold Thr; infer_instance
instance (c : List Int) (k : Nat) : Decidable (Opn c k) := by unfold Opn; infer_instance
structure Fit (c : List Int) (W : Nat) (s : Int) (T : List Int) (n : Nat) : Prop where
  own : at0 c n = s → at0 T n = 0
  opn : at0 c n ≠ s → Opn c n → (at0 T n = -1 ∧ ∀ k, k < c.length → Nb W n k → Thr c s k → at0 T k = -1) ∨ ∃ k, k < c.length ∧ Nb W n k ∧ Thr c s k ∧ at0 T k ≠ -1 ∧ at0 T n = at0 T k + 1 ∧ ∀ j, j < c.length → Nb W n j → Thr c s j → at0 T j ≠ -1 → at0 T k ≤ at0 T j
  oth : at0 c n ≠ s → ¬ Opn c n → at0 T n = -1
structure Hld (c : List Int) (W : Nat) (s : Int) (T : List Int) : Prop where
  len : T.length = c.length
  fit : ∀ n, n < c.length → Fit c W s T n
theorem low_ex : ∀ T : List Int, ∃ B : Nat, ∀ n, -1 - (B : Int) ≤ at0 T n
  | [] => ⟨0, fun n => by simp [at0]⟩
  | x :: T => by
    obtain ⟨B, hB⟩ := low_ex T
    refine ⟨B + x.natAbs, fun n => ?_⟩
    cases n with
    | zero => simp [at0]; omega
    | succ n =>
      have := hB n
      simp only [at0, List.getD_cons_succ] at this ⊢
      omega
theorem at0_out {T : List Int} {n : Nat} (h : T.length ≤ n) : at0 T n = -1 := by
  unfold at0
  rw [List.getD_eq_getElem?_getD, List.getElem?_eq_none h]; rfl
theorem Hld.low {c : List Int} {W : Nat} {s : Int} {T : List Int} (h : Hld c W s T) (n : Nat) : -1 ≤ at0 T n := by
  obtain ⟨B, hB⟩ := low_ex T
  revert hB
  induction B with
  | zero => intro hB; have := hB n; omega
  | succ B ih =>
    intro hB
    refine ih fun m => ?_
    rcases Nat.lt_or_ge m c.length with hm | hm
    · have hf := h.fit m hm
      by_cases h1 : at0 c m = s
      · rw [hf.own h1]; omega
      · by_cases h2 : Opn c m
        · rcases hf.opn h1 h2 with h3 | ⟨k, _, _, _, _, h3, _⟩
          · rw [h3.1]; omega
          · have := hB k; omega
        · rw [hf.oth h1 h2]; omega
    · rw [at0_out (by rw [h.len]; exact hm)]; omega
theorem Hld.step {c : List Int} {W : Nat} {s : Int} {T : List Int} (h : Hld c W s T) {n : Nat} (hn : n < c.length) (k : Nat) : at0 T n = (k : Int) + 1 ↔ at0 c n ≠ s ∧ Opn c n ∧ (∃ j, j < c.length ∧ Nb W n j ∧ Thr c s j ∧ at0 T j = k) ∧ ∀ j, j < c.length → Nb W n j → Thr c s j → at0 T j ≠ -1 → (k : Int) ≤ at0 T j := by
  have hf := h.fit n hn
  constructor
  · intro h0
    have h1 : at0 c n ≠ s := fun e => by have := hf.own e; omega
    have h2 : Opn c n := Decidable.byContradiction fun e => by have := hf.oth h1 e; omega
    rcases hf.opn h1 h2 with h3 | ⟨j, a1, a2, a3, a4, a5, a6⟩
    · have := h3.1; omega
    · have e : at0 T j = k := by omega
      exact ⟨h1, h2, ⟨j, a1, a2, a3, e⟩, fun i b1 b2 b3 b4 => by have := a6 i b1 b2 b3 b4; omega⟩
  · rintro ⟨h1, h2, ⟨j, a1, a2, a3, a4⟩, h4⟩
    rcases hf.opn h1 h2 with h3 | ⟨i, b1, b2, b3, b4, b5, b6⟩
    · have := h3.2 j a1 a2 a3; omega
    · have e1 := b6 j a1 a2 a3 (by omega)
      have e2 := h4 i b1 b2 b3 b4
      omega
theorem Hld.zero {c : List Int} {W : Nat} {s : Int} {T : List Int} (h : Hld c W s T) {n : Nat} (hn : n < c.length) : at0 T n = 0 ↔ at0 c n = s := by
  have hf := h.fit n hn
  constructor
  · intro h0
    refine Decidable.byContradiction fun h1 => ?_
    by_cases h2 : Opn c n
    · rcases hf.opn h1 h2 with h3 | ⟨j, a1, a2, a3, a4, a5, a6⟩
      · have := h3.1; omega
      · have := h.low j; omega
    · have := hf.oth h1 h2; omega
  · exact hf.own
theorem Hld.same {c : List Int} {W : Nat} {s : Int} {T U : List Int} (h : Hld c W s T) (g : Hld c W s U) : ∀ (k : Nat) (n : Nat), n < c.length → (at0 T n = k ↔ at0 U n = k) := by
  intro k
  induction k using Nat.strongRecOn with
  | _ k ih =>
    intro n hn
    cases k with
    | zero => exact (h.zero hn).trans (g.zero hn).symm
    | succ k =>
      have half : ∀ {T U : List Int}, Hld c W s T → Hld c W s U → (∀ m, m < k + 1 → ∀ n, n < c.length → (at0 T n = (m : Int) ↔ at0 U n = (m : Int))) → at0 T n = (k : Int) + 1 → at0 U n = (k : Int) + 1 := by
        intro T U h g ih h0
        obtain ⟨h1, h2, ⟨j, a1, a2, a3, a4⟩, h4⟩ := (h.step hn k).1 h0
        refine (g.step hn k).2 ⟨h1, h2, ⟨j, a1, a2, a3, (ih k (by omega) j a1).1 a4⟩, fun i b1 b2 b3 b4 => ?_⟩
        rcases Int.lt_or_le (at0 U i) k with h5 | h5
        · exfalso
          have h6 := g.low i
          have h7 := (ih (at0 U i).toNat (by omega) i b1).2 (by omega)
          have := h4 i b1 b2 b3 (by omega)
          omega
        · exact h5
      rw [show ((k + 1 : Nat) : Int) = (k : Int) + 1 by omega]
      exact ⟨half h g ih, half g h fun m hm n hn => (ih m hm n hn).symm⟩
theorem ext0 {T U : List Int} (hl : T.length = U.length) (h : ∀ n, n < T.length → at0 T n = at0 U n) : T = U := by
  apply List.ext_getElem hl
  intro n h1 h2
  have := h n h1
  unfold at0 at this
  rw [List.getD_eq_getElem?_getD, List.getD_eq_getElem?_getD, List.getElem?_eq_getElem h1, List.getElem?_eq_getElem h2] at this
  exact this
end Riv

namespace Riv
def t0 (c : List Int) (s : Int) : List Int := c.map fun x => if x = s then 0 else -1
def putB (c : List Int) (st : Int) (T : List Int) (k : Nat) : List Int := if at0 T k = -1 ∧ Opn c k then T.set k (st + 1) else T
def cellB (c : List Int) (W : Nat) (s st : Int) (T : List Int) (n : Nat) : List Int := if at0 T n = st ∧ Thr c s n then (nbs W c.length n).foldl (putB c st) T else T
def stepB (c : List Int) (W : Nat) (s : Int) (T : List Int) (st : Nat) : List Int := (List.range c.length).foldl (cellB c W s st) T
def bfs (c : List Int) (W : Nat) (s : Int) : List Int := (List.range c.length).foldl (stepB c W s) (t0 c s)
def cnt (T : List Int) : Nat := T.countP fun x => decide (x ≠ -1)
theorem at0_set {T : List Int} {k : Nat} {v : Int} (hk : k < T.length) (j : Nat) : at0 (T.set k v) j = if j = k then v else at0 T j := by
  unfold at0
  rw [List.getD_eq_getElem?_getD, List.getD_eq_getElem?_getD]
  split
  · rename_i h; subst h
    rw [List.getElem?_set_self hk]; rfl
  · rename_i h
    rw [List.getElem?_set_ne (fun e => h e.symm)]
theorem cnt_set : ∀ {T : List Int} {k : Nat} {v : Int}, k < T.length → at0 T k = -1 → v ≠ -1 → cnt (T.set k v) = cnt T + 1
  | x :: T, 0, v, _, h, hv => by
    have h : x = -1 := h
    subst h
    simp [cnt, hv]
  | x :: T, k + 1, v, hk, h, hv => by
    have := cnt_set (T := T) (k := k) (v := v) (by simpa using hk) (by simpa [at0] using h) hv
    unfold cnt at *
    rw [List.set_cons_succ, List.countP_cons, List.countP_cons, this]
    omega
theorem cnt_le (T : List Int) : cnt T ≤ T.length := List.countP_le_length
theorem cnt_pos : ∀ {T : List Int} {n : Nat}, at0 T n ≠ -1 → 1 ≤ cnt T := by
  intro T n h
  rcases Nat.lt_or_ge n T.length with hn | hn
  · unfold cnt
    refine List.countP_pos_iff.2 ⟨T[n], List.getElem_mem hn, ?_⟩
    unfold at0 at h
    rw [List.getD_eq_getElem?_getD, List.getElem?_eq_getElem hn] at h
    simpa using h
  · exact absurd (at0_out hn) h
theorem at0_t0 {c : List Int} {s : Int} {n : Nat} (hn : n < c.length) : at0 (t0 c s) n = if at0 c n = s then 0 else -1 := by
  unfold at0 t0
  rw [List.getD_eq_getElem?_getD, List.getD_eq_getElem?_getD, List.getElem?_map, List.getElem?_eq_getElem hn]
  rfl
structure BI (c : List Int) (W : Nat) (s : Int) (st : Nat) (T : List Int) (P : Nat → Prop) : Prop where
  len : T.length = c.length
  own : ∀ n, n < c.length → at0 c n = s → at0 T n = 0
  oth : ∀ n, n < c.length → at0 c n ≠ s → ¬ Opn c n → at0 T n = -1
  rng : ∀ n, -1 ≤ at0 T n ∧ at0 T n ≤ st + 1
  got : ∀ n, n < c.length → at0 c n ≠ s → at0 T n ≠ -1 → Opn c n ∧ ∃ k, k < c.length ∧ Nb W n k ∧ Thr c s k ∧ at0 T k = at0 T n - 1 ∧ 0 ≤ at0 T k ∧ ∀ j, j < c.length → Nb W n j → Thr c s j → at0 T j ≠ -1 → at0 T k ≤ at0 T j
  non : ∀ n, n < c.length → at0 c n ≠ s → Opn c n → at0 T n = -1 → ∀ k, k < c.length → Nb W n k → Thr c s k → at0 T k = -1 ∨ (st : Int) < at0 T k ∨ (at0 T k = st ∧ ¬ P k)
  cn : ∀ n, at0 T n ≠ -1 → at0 T n + 1 ≤ cnt T
theorem putB_ok {c : List Int} {W : Nat} {s : Int} {st : Nat} {T : List Int} {P : Nat → Prop} {n k : Nat} (h : BI c W s st T P) (hn : n < c.length) (hk : k < c.length) (hT : at0 T n = st) (ht : Thr c s n) (hnb : Nb W n k) :
    BI c W s st (putB c st T k) P ∧ (Opn c k → at0 (putB c st T k) k ≠ -1) ∧ ∀ j, at0 T j ≠ -1 → at0 (putB c st T k) j = at0 T j := by
  unfold putB
  split
  · rename_i hc
    have hkl : k < T.length := by rw [h.len]; exact hk
    have hat := fun j => at0_set (v := (st : Int) + 1) hkl j
    have hks : at0 c k ≠ s := fun e => by have := h.own k hk e; omega
    have hkeep : ∀ j, at0 T j ≠ -1 → at0 (T.set k ((st : Int) + 1)) j = at0 T j := fun j hj => by
      rw [hat, if_neg]
      intro e; subst e; exact hj hc.1
    have hself := hat k
    rw [if_pos rfl] at hself
    refine ⟨⟨by rw [List.length_set]; exact h.len, fun m hm e => ?_, fun m hm e e2 => ?_, fun m => ?_, fun m hm e e2 => ?_, fun m hm e e2 e3 j hj hnj htj => ?_, fun m hm => ?_⟩, fun _ => by rw [hself]; omega, hkeep⟩
    · have := h.own m hm e
      rw [hkeep m (by omega)]; exact this
    · rw [hat, if_neg]
      · exact h.oth m hm e e2
      · intro e3; subst e3; exact e2 hc.2
    · rw [hat]
      split
      · omega
      · exact h.rng m
    · by_cases hmk : m = k
      · subst hmk
        refine ⟨hc.2, n, hn, hnb.symm, ht, ?_, ?_, fun j hj hnj htj hj1 => ?_⟩
        · rw [hself, hkeep n (by omega)]; omega
        · rw [hkeep n (by omega)]; omega
        · rw [hkeep n (by omega), hT]
          rw [hat] at hj1 ⊢
          split
          · omega
          · rename_i hjm
            rw [if_neg hjm] at hj1
            rcases h.non m hm e hc.2 hc.1 j hj hnj htj with h1 | h1 | h1 <;> omega
      · rw [hat, if_neg hmk] at e2
        obtain ⟨g1, i, g2, g3, g4, g5, g6, g7⟩ := h.got m hm e e2
        refine ⟨g1, i, g2, g3, g4, ?_, ?_, fun j hj hnj htj hj1 => ?_⟩
        · rw [hkeep i (by omega), hkeep m e2]; exact g5
        · rw [hkeep i (by omega)]; exact g6
        · rw [hkeep i (by omega)]
          by_cases hjk : j = k
          · subst hjk
            rw [hself]
            have := (h.rng m).2
            omega
          · rw [hat, if_neg hjk] at hj1 ⊢
            exact g7 j hj hnj htj hj1
    · have hmk : m ≠ k := fun e4 => by subst e4; rw [hself] at e3; omega
      rw [hat, if_neg hmk] at e3
      by_cases hjk : j = k
      · subst hjk; rw [hself]; exact .inr (.inl (by omega))
      · rw [hat, if_neg hjk]
        exact h.non m hm e e2 e3 j hj hnj htj
    · rw [cnt_set hkl hc.1 (by omega)]
      have h1 := h.cn n (by omega)
      rw [hat] at hm ⊢
      split
      · rw [hT] at h1; omega
      · rename_i hmk
        rw [if_neg hmk] at hm
        have := h.cn m hm
        omega
  · rename_i hc
    exact ⟨h, fun h1 h2 => hc ⟨h2, h1⟩, fun _ _ => rfl⟩
theorem putL_ok {c : List Int} {W : Nat} {s : Int} {st : Nat} {P : Nat → Prop} {n : Nat} (hn : n < c.length) (ht : Thr c s n) : ∀ (l : List Nat) (T : List Int), (∀ k ∈ l, k < c.length ∧ Nb W n k) → BI c W s st T P → at0 T n = st →
    BI c W s st (l.foldl (putB c st) T) P ∧ (∀ k ∈ l, Opn c k → at0 (l.foldl (putB c st) T) k ≠ -1) ∧ ∀ j, at0 T j ≠ -1 → at0 (l.foldl (putB c st) T) j = at0 T j
  | [], T, _, h, _ => ⟨h, fun k hk => (by cases hk), fun _ _ => rfl⟩
  | k :: l, T, hl, h, hT => by
    have hk := hl k List.mem_cons_self
    obtain ⟨h1, h2, h3⟩ := putB_ok h hn hk.1 hT ht hk.2
    obtain ⟨g1, g2, g3⟩ := putL_ok hn ht l (putB c st T k) (fun j hj => hl j (List.mem_cons_of_mem _ hj)) h1 (by rw [h3 n (by omega)]; exact hT)
    rw [List.foldl_cons]
    refine ⟨g1, fun j hj ho => ?_, fun j hj => ?_⟩
    · rcases List.mem_cons.1 hj with rfl | hj
      · have := h2 ho
        rw [g3 _ this]; exact this
      · exact g2 j hj ho
    · rw [g3 j (by rw [h3 j hj]; exact hj), h3 j hj]
theorem cellB_ok {c : List Int} {W H : Nat} {s : Int} {st : Nat} {T : List Int} {P : Nat → Prop} {n : Nat} (hW : 2 ≤ W) (hL : c.length = W * H) (h : BI c W s st T P) (hn : n < c.length) :
    BI c W s st (cellB c W s st T n) (fun j => P j ∨ j = n) := by
  unfold cellB
  split
  · rename_i hc
    obtain ⟨h1, h2, h3⟩ := putL_ok hn hc.2 (nbs W c.length n) T (fun k hk => (nbs_iff hW hL hn).1 hk) h hc.1
    refine ⟨h1.len, h1.own, h1.oth, h1.rng, h1.got, fun m hm e e2 e3 k hk hnk htk => ?_, h1.cn⟩
    rcases h1.non m hm e e2 e3 k hk hnk htk with h4 | h4 | h4
    · exact .inl h4
    · exact .inr (.inl h4)
    · by_cases hkn : k = n
      · subst hkn
        exact absurd e3 (h2 m ((nbs_iff hW hL hk).2 ⟨hm, hnk.symm⟩) e2)
      · exact .inr (.inr ⟨h4.1, fun h5 => by rcases h5 with h5 | h5; exact h4.2 h5; exact hkn h5⟩)
  · rename_i hc
    refine ⟨h.len, h.own, h.oth, h.rng, h.got, fun m hm e e2 e3 k hk hnk htk => ?_, h.cn⟩
    rcases h.non m hm e e2 e3 k hk hnk htk with h4 | h4 | h4
    · exact .inl h4
    · exact .inr (.inl h4)
    · refine .inr (.inr ⟨h4.1, fun h5 => ?_⟩)
      rcases h5 with h5 | h5
      · exact h4.2 h5
      · subst h5; exact hc ⟨h4.1, htk⟩
theorem cellL_ok {c : List Int} {W H : Nat} {s : Int} {st : Nat} (hW : 2 ≤ W) (hL : c.length = W * H) : ∀ (N : Nat) (T : List Int), N ≤ c.length → BI c W s st T (fun _ => False) → BI c W s st ((List.range N).foldl (cellB c W s st) T) (fun j => j < N)
  | 0, T, _, h => ⟨h.len, h.own, h.oth, h.rng, h.got, fun m hm e e2 e3 k hk hnk htk => by
      rcases h.non m hm e e2 e3 k hk hnk htk with h4 | h4 | h4
      · exact .inl h4
      · exact .inr (.inl h4)
      · exact .inr (.inr ⟨h4.1, fun h5 => by omega⟩), h.cn⟩
  | N + 1, T, hN, h => by
    have h1 := cellL_ok hW hL N T (by omega) h
    rw [List.range_succ, List.foldl_append]
    have h2 := cellB_ok hW hL h1 (n := N) (by omega)
    refine ⟨h2.len, h2.own, h2.oth, h2.rng, h2.got, fun m hm e e2 e3 k hk hnk htk => ?_, h2.cn⟩
    rcases h2.non m hm e e2 e3 k hk hnk htk with h4 | h4 | h4
    · exact .inl h4
    · exact .inr (.inl h4)
    · exact .inr (.inr ⟨h4.1, fun h5 => h4.2 (by omega)⟩)
theorem stepB_ok {c : List Int} {W H : Nat} {s : Int} {st : Nat} {T : List Int} (hW : 2 ≤ W) (hL : c.length = W * H) (h : BI c W s st T (fun _ => False)) : BI c W s (st + 1) (stepB c W s T st) (fun _ => False) := by
  have h1 := cellL_ok hW hL c.length T (Nat.le_refl _) h
  unfold stepB
  refine ⟨h1.len, h1.own, h1.oth, fun n => by have := h1.rng n; omega, h1.got, fun m hm e e2 e3 k hk hnk htk => ?_, h1.cn⟩
  rcases h1.non m hm e e2 e3 k hk hnk htk with h4 | h4 | h4
  · exact .inl h4
  · rcases Int.lt_or_le ((st + 1 : Nat) : Int) (at0 ((List.range c.length).foldl (cellB c W s st) T) k) with h5 | h5
    · exact .inr (.inl h5)
    · exact .inr (.inr ⟨by omega, fun h => h⟩)
  · exact absurd hk h4.2
theorem bi0 {c : List Int} {W : Nat} {s : Int} : BI c W s 0 (t0 c s) (fun _ => False) := by
  have hl : (t0 c s).length = c.length := by unfold t0; rw [List.length_map]
  have hat : ∀ n, at0 (t0 c s) n = 0 ∨ at0 (t0 c s) n = -1 := fun n => by
    rcases Nat.lt_or_ge n c.length with hn | hn
    · rw [at0_t0 hn]; split <;> simp
    · exact .inr (at0_out (by rw [hl]; exact hn))
  refine ⟨hl, fun n hn e => by rw [at0_t0 hn, if_pos e], fun n hn e _ => by rw [at0_t0 hn, if_neg e], fun n => by have := hat n; omega, fun n hn e e2 => ?_, fun n hn e e2 e3 k hk hnk htk => ?_, fun n hn => ?_⟩
  · rw [at0_t0 hn, if_neg e] at e2; exact absurd rfl e2
  · rcases hat k with h1 | h1
    · exact .inr (.inr ⟨h1, fun h => h⟩)
    · exact .inl h1
  · have h1 := cnt_pos hn
    rcases hat n with h2 | h2
    · rw [h2]; omega
    · exact absurd h2 hn
theorem stepL_ok {c : List Int} {W H : Nat} {s : Int} (hW : 2 ≤ W) (hL : c.length = W * H) : ∀ N : Nat, BI c W s N ((List.range N).foldl (stepB c W s) (t0 c s)) (fun _ => False)
  | 0 => bi0
  | N + 1 => by
    rw [List.range_succ, List.foldl_append]
    exact stepB_ok hW hL (stepL_ok hW hL N)
theorem bfs_hld {c : List Int} {W H : Nat} {s : Int} (hW : 2 ≤ W) (hL : c.length = W * H) : Hld c W s (bfs c W s) := by
  have h := stepL_ok (s := s) hW hL c.length
  have hb : ∀ n, at0 ((List.range c.length).foldl (stepB c W s) (t0 c s)) n ≠ -1 → at0 ((List.range c.length).foldl (stepB c W s) (t0 c s)) n < c.length := fun n hn => by
    have h1 := h.cn n hn
    have h2 := cnt_le ((List.range c.length).foldl (stepB c W s) (t0 c s))
    rw [h.len] at h2
    omega
  refine ⟨h.len, fun n hn => ⟨fun e => h.own n hn e, fun e e2 => ?_, fun e e2 => h.oth n hn e e2⟩⟩
  unfold bfs
  by_cases h0 : at0 ((List.range c.length).foldl (stepB c W s) (t0 c s)) n = -1
  · refine .inl ⟨h0, fun k hk hnk htk => ?_⟩
    rcases h.non n hn e e2 h0 k hk hnk htk with h4 | h4 | h4
    · exact h4
    · refine Decidable.byContradiction fun h5 => ?_
      have := hb k h5
      omega
    · refine Decidable.byContradiction fun h5 => ?_
      have := hb k h5
      omega
  · obtain ⟨_, k, g1, g2, g3, g4, g5, g6⟩ := h.got n hn e h0
    exact .inr ⟨k, g1, g2, g3, by omega, by omega, g6⟩
end Riv

namespace Riv
abbrev TB := List Int × Bool
structure RI (c : List Int) (W : Nat) (s : Int) (T : List Int) : Prop where
  len : T.length = c.length
  own : ∀ n, n < c.length → at0 c n = s → at0 T n = 0
  low : ∀ n, -1 ≤ at0 T n
  got : ∀ n, n < c.length → at0 c n ≠ s → at0 T n ≠ -1 → Opn c n ∧ ∃ k, k < c.length ∧ Nb W n k ∧ Thr c s k ∧ at0 T k ≠ -1 ∧ at0 T k + 1 ≤ at0 T n
  cn : ∀ n, at0 T n ≠ -1 → at0 T n + 1 ≤ cnt T
def wgt : List Int → Nat
  | [] => 0
  | x :: T => (if x = -1 then 200 else x.toNat) + wgt T
theorem wgt_set : ∀ {T : List Int} {k : Nat} {v : Int}, k < T.length → 0 ≤ v → v < 200 → (at0 T k = -1 ∨ v < at0 T k) → wgt (T.set k v) < wgt T
  | x :: T, 0, v, _, h0, h1, h => by
    have h : x = -1 ∨ v < x := h
    rw [List.set_cons_zero, wgt, wgt, if_neg (by omega)]
    rcases h with h | h
    · rw [if_pos h]; omega
    · rw [if_neg (by omega)]; omega
  | x :: T, k + 1, v, hk, h0, h1, h => by
    have := wgt_set (T := T) (k := k) (by simpa using hk) h0 h1 (by simpa [at0] using h)
    rw [List.set_cons_succ, wgt, wgt]; omega
theorem wgt_le : ∀ {T : List Int}, (∀ n, at0 T n ≤ 200) → wgt T ≤ 200 * T.length
  | [], _ => by simp [wgt]
  | x :: T, h => by
    have h1 := wgt_le (T := T) fun n => by have := h (n + 1); simpa [at0] using this
    have h2 : x ≤ 200 := h 0
    rw [wgt, List.length_cons]
    split <;> omega
structure RJ (c : List Int) (W : Nat) (s : Int) (R T : List Int) (ch : Bool) (P : Nat → Nat → Prop) : Prop where
  ri : RI c W s T
  no : ch = false → T = R ∧ ∀ a b, a < c.length → b < c.length → P a b → at0 R a ≠ -1 → at0 c a ≠ 3 → Nb W a b → Opn c b → at0 R b ≠ -1 ∧ at0 R b ≤ at0 R a + 1
  yes : ch = true → wgt T < wgt R
theorem RJ.mono {c : List Int} {W : Nat} {s : Int} {R T : List Int} {ch : Bool} {P Q : Nat → Nat → Prop} (h : RJ c W s R T ch P) (hq : ∀ a b, a < c.length → b < c.length → Q a b → (at0 R a ≠ -1 → at0 c a ≠ 3 → P a b)) : RJ c W s R T ch Q :=
  ⟨h.ri, fun e => ⟨(h.no e).1, fun a b h1 h2 h3 h4 h5 => (h.no e).2 a b h1 h2 (hq a b h1 h2 h3 h4 h5) h4 h5⟩, h.yes⟩
end Riv

namespace Riv
def ls1 (o n : Int) : Int := if n ≠ -1 ∧ (o = -1 ∨ n < o) then n else o
def leastL (l : List Int) : Int := l.foldl ls1 (-1)
end Riv

namespace Riv
def bat (m : List Bool) (n : Nat) : Bool := m.getD n false
inductive Con (mk : List Bool) (W : Nat) : Nat → Nat → Prop
  | refl {n : Nat} : bat mk n = true → Con mk W n n
  | step {a b c : Nat} : Con mk W a b → Nb W b c → bat mk c = true → Con mk W a c
theorem bat_lt {m : List Bool} {n : Nat} (h : bat m n = true) : n < m.length := by
  rcases Nat.lt_or_ge n m.length with h1 | h1
  · exact h1
  · unfold bat at h
    rw [List.getD_eq_getElem?_getD, List.getElem?_eq_none h1] at h
    simp at h
theorem Con.mk {m : List Bool} {W a b : Nat} (h : Con m W a b) : bat m a = true ∧ bat m b = true := by
  induction h with
  | refl h => exact ⟨h, h⟩
  | step _ _ h ih => exact ⟨ih.1, h⟩
theorem Con.trans {m : List Bool} {W a b c : Nat} (h : Con m W a b) (g : Con m W b c) : Con m W a c := by
  induction g with
  | refl _ => exact h
  | step _ h1 h2 ih => exact Con.step ih h1 h2
theorem Con.symm {m : List Bool} {W a b : Nat} (h : Con m W a b) : Con m W b a := by
  induction h with
  | refl h => exact Con.refl h
  | step h1 h2 h3 ih => exact ((Con.refl h3).step h2.symm (h1.mk).2).trans ih
theorem rise_eq : ∀ {a b : List Nat}, a.Pairwise (· < ·) → b.Pairwise (· < ·) → (∀ x, x ∈ a ↔ x ∈ b) → a = b
  | [], [], _, _, _ => rfl
  | [], y :: b, _, _, h => by have := (h y).2 List.mem_cons_self; cases this
  | x :: a, [], _, _, h => by have := (h x).1 List.mem_cons_self; cases this
  | x :: a, y :: b, ha, hb, h => by
    rw [List.pairwise_cons] at ha hb
    have e : x = y := by
      have h1 := (h x).1 List.mem_cons_self
      have h2 := (h y).2 List.mem_cons_self
      rcases List.mem_cons.1 h1 with h1 | h1
      · exact h1
      · rcases List.mem_cons.1 h2 with h2 | h2
        · exact h2.symm
        · have := hb.1 x h1; have := ha.1 y h2; omega
    subst e
    rw [rise_eq ha.2 hb.2 fun z => ?_]
    constructor
    · intro hz
      rcases List.mem_cons.1 ((h z).1 (List.mem_cons_of_mem _ hz)) with e | e
      · have := ha.1 z hz; omega
      · exact e
    · intro hz
      rcases List.mem_cons.1 ((h z).2 (List.mem_cons_of_mem _ hz)) with e | e
      · have := hb.1 z hz; omega
      · exact e
theorem nodup_len : ∀ (n : Nat) (l : List Nat), l.Nodup → (∀ x ∈ l, x < n) → l.length ≤ n
  | 0, l, _, h => by
    cases l with
    | nil => simp
    | cons x l => have := h x List.mem_cons_self; omega
  | n + 1, l, hd, h => by
    have h1 : (l.filter fun x => decide (x ≠ n)).length ≤ n := nodup_len n _ (hd.filter _) fun x hx => by
      rw [List.mem_filter] at hx
      have := h x hx.1
      have h3 : x ≠ n := by simpa using hx.2
      omega
    have h2 : l.length ≤ (l.filter fun x => decide (x ≠ n)).length + 1 := by
      clear h1 h
      induction l with
      | nil => simp
      | cons x l ih =>
        rw [List.nodup_cons] at hd
        by_cases hx : x = n
        · subst hx
          have : l.filter (fun y => decide (y ≠ x)) = l := List.filter_eq_self.2 fun y hy => by
            have : y ≠ x := fun e => hd.1 (e ▸ hy)
            simpa using this
          rw [List.filter_cons_of_neg (by simp), this]
          simp
        · rw [List.filter_cons_of_pos (by simpa using hx)]
          have := ih hd.2
          simp only [List.length_cons]; omega
    omega
def folL (mk : List Bool) (rec : Nat → List Nat → List Nat) : List Nat → List Nat → List Nat
  | [], M => M
  | k :: ks, M => if k ∉ M ∧ bat mk k = true then folL mk rec ks (rec k M) else folL mk rec ks M
def folW (mk : List Bool) (W : Nat) : Nat → Nat → List Nat → List Nat
  | 0, _, M => M
  | N + 1, n, M => folL mk (folW mk W N) (nbs W mk.length n) (M ++ [n])
structure FO (mk : List Bool) (W n : Nat) (M R : List Nat) : Prop where
  pre : M <+: R
  nd : R.Nodup
  own : n ∈ R
  mrk : ∀ x ∈ R, x ∉ M → bat mk x = true ∧ Con mk W n x
  clo : ∀ x ∈ R, x ∉ M → ∀ k, Nb W x k → bat mk k = true → k ∈ R
structure FL (mk : List Bool) (W n : Nat) (M0 M ks R : List Nat) : Prop where
  pre : M <+: R
  nd : R.Nodup
  mrk : ∀ x ∈ R, x ∉ M → bat mk x = true ∧ Con mk W n x
  clo : ∀ x ∈ R, x ∉ M → ∀ k, Nb W x k → bat mk k = true → k ∈ R
  kin : ∀ k ∈ ks, bat mk k = true → k ∈ R
theorem folL_ok {mk : List Bool} {W H n N : Nat} (hW : 2 ≤ W) (hL : mk.length = W * H) (hm : bat mk n = true) {rec : Nat → List Nat → List Nat}
    (hr : ∀ k M, bat mk k = true → k ∉ M → M.Nodup → (∀ x ∈ M, x < mk.length) → mk.length ≤ N + M.length → FO mk W k M (rec k M)) {M0 : List Nat} :
    ∀ (ks M : List Nat), (∀ k ∈ ks, k < mk.length ∧ Nb W n k) → M.Nodup → (∀ x ∈ M, x < mk.length) → mk.length ≤ N + M.length → FL mk W n M0 M ks (folL mk rec ks M)
  | [], M, _, hd, _, _ => ⟨List.prefix_refl _, hd, fun x h1 h2 => absurd h1 h2, fun x h1 h2 => absurd h1 h2, fun k hk => (by cases hk)⟩
  | k :: ks, M, hk, hd, hx, hN => by
    rw [folL]
    have hk1 := hk k List.mem_cons_self
    split
    · rename_i hc
      have h1 := hr k M hc.2 hc.1 hd hx hN
      have hcon : Con mk W n k := (Con.refl hm).step hk1.2 hc.2
      have hx1 : ∀ x ∈ rec k M, x < mk.length := fun x h2 => by
        by_cases h3 : x ∈ M
        · exact hx x h3
        · exact bat_lt (h1.mrk x h2 h3).1
      have hlen : M.length ≤ (rec k M).length := h1.pre.length_le
      have h2 := folL_ok (N := N) (M0 := M0) hW hL hm hr ks (rec k M) (fun j hj => hk j (List.mem_cons_of_mem _ hj)) h1.nd hx1 (by omega)
      refine ⟨h1.pre.trans h2.pre, h2.nd, fun x a1 a2 => ?_, fun x a1 a2 j a3 a4 => ?_, fun j hj a1 => ?_⟩
      · by_cases h3 : x ∈ rec k M
        · have h4 := h1.mrk x h3 a2
          exact ⟨h4.1, hcon.trans h4.2⟩
        · exact h2.mrk x a1 h3
      · by_cases h3 : x ∈ rec k M
        · exact h2.pre.subset (h1.clo x h3 a2 j a3 a4)
        · exact h2.clo x a1 h3 j a3 a4
      · rcases List.mem_cons.1 hj with rfl | hj
        · exact h2.pre.subset h1.own
        · exact h2.kin j hj a1
    · rename_i hc
      have h2 := folL_ok (N := N) (M0 := M0) hW hL hm hr ks M (fun j hj => hk j (List.mem_cons_of_mem _ hj)) hd hx hN
      refine ⟨h2.pre, h2.nd, h2.mrk, h2.clo, fun j hj a1 => ?_⟩
      rcases List.mem_cons.1 hj with rfl | hj
      · exact h2.pre.subset (Decidable.byContradiction fun h3 => hc ⟨h3, a1⟩)
      · exact h2.kin j hj a1
theorem folW_ok {mk : List Bool} {W H : Nat} (hW : 2 ≤ W) (hL : mk.length = W * H) : ∀ (N n : Nat) (M : List Nat), bat mk n = true → n ∉ M → M.Nodup → (∀ x ∈ M, x < mk.length) → mk.length ≤ N + M.length → FO mk W n M (folW mk W N n M)
  | 0, n, M, h1, h2, h3, h4, h5 => by
    exfalso
    have h6 : (M ++ [n]).Nodup := by
      rw [List.nodup_append]
      exact ⟨h3, by simp, fun a ha b hb => by simp at hb; subst hb; intro e; subst e; exact h2 ha⟩
    have h7 := nodup_len mk.length (M ++ [n]) h6 fun x hx => by
      rcases List.mem_append.1 hx with hx | hx
      · exact h4 x hx
      · simp at hx; subst hx; exact bat_lt h1
    rw [List.length_append] at h7
    simp at h7; omega
  | N + 1, n, M, h1, h2, h3, h4, h5 => by
    have h6 : (M ++ [n]).Nodup := by
      rw [List.nodup_append]
      exact ⟨h3, by simp, fun a ha b hb => by simp at hb; subst hb; intro e; subst e; exact h2 ha⟩
    have h7 : ∀ x ∈ M ++ [n], x < mk.length := fun x hx => by
      rcases List.mem_append.1 hx with hx | hx
      · exact h4 x hx
      · simp at hx; subst hx; exact bat_lt h1
    have hn := bat_lt h1
    rw [folW]
    have h := folL_ok (N := N) (M0 := M ++ [n]) hW hL h1 (folW_ok hW hL N) (nbs W mk.length n) (M ++ [n]) (fun k hk => (nbs_iff hW hL hn).1 hk) h6 h7 (by rw [List.length_append]; simp; omega)
    have hnin : n ∈ folL mk (folW mk W N) (nbs W mk.length n) (M ++ [n]) := h.pre.subset (by simp)
    refine ⟨(List.prefix_append _ _).trans h.pre, h.nd, hnin, fun x a1 a2 => ?_, fun x a1 a2 k a3 a4 => ?_⟩
    · by_cases hx : x = n
      · subst hx; exact ⟨h1, Con.refl h1⟩
      · exact h.mrk x a1 (by simp [a2, hx])
    · by_cases hx : x = n
      · subst hx
        exact h.kin k ((nbs_iff hW hL hn).2 ⟨bat_lt a4, a3⟩) a4
      · exact h.clo x a1 (by simp [a2, hx]) k a3 a4
def srtN (l : List Nat) : List Nat := l.mergeSort fun x y => decide (x ≤ y)
theorem srtN_mem {l : List Nat} {x : Nat} : x ∈ srtN l ↔ x ∈ l := List.mem_mergeSort
theorem srtN_rise {l : List Nat} (h : l.Nodup) : (srtN l).Pairwise (· < ·) := by
  have h1 := List.pairwise_mergeSort (le := fun x y : Nat => decide (x ≤ y)) (by intro a b c h1 h2; simp only [decide_eq_true_eq] at *; omega) (by intro a b; simp only [Bool.or_eq_true, decide_eq_true_eq]; omega) l
  have h2 : (srtN l).Nodup := (List.mergeSort_perm l _).nodup_iff.2 h
  unfold srtN at *
  exact (h1.and h2).imp fun h => by
    have := h.1; have := h.2
    simp only [decide_eq_true_eq] at *; omega
def pstep (mk : List Bool) (W : Nat) (x : List Nat × List (List Nat)) (n : Nat) : List Nat × List (List Nat) :=
  if n ∉ x.1 ∧ bat mk n = true then (folW mk W mk.length n x.1, x.2 ++ [srtN ((folW mk W mk.length n x.1).drop x.1.length)]) else x
def parts (mk : List Bool) (W : Nat) : List (List Nat) := ((List.range mk.length).foldl (pstep mk W) ([], [])).2
structure Nam (mk : List Bool) (W : Nat) (nm : Nat → Int) : Prop where
  non : ∀ k, bat mk k = false → nm k = -1
  con : ∀ k, bat mk k = true → ∃ y : Nat, nm k = y ∧ Con mk W y k ∧ ∀ z, Con mk W z k → y ≤ z
def canon (L : Nat) (nm : Nat → Int) (N : Nat) : List (List Nat) := ((List.range N).filter fun i : Nat => decide (nm i = (i : Int))).map fun i : Nat => (List.range L).filter fun k => decide (nm k = (i : Int))
structure PI (mk : List Bool) (W : Nat) (nm : Nat → Int) (N : Nat) (x : List Nat × List (List Nat)) : Prop where
  nd : x.1.Nodup
  met : ∀ k, k ∈ x.1 ↔ ∃ y, y < N ∧ Con mk W y k
  out : x.2 = canon mk.length nm N
theorem pstep_ok {mk : List Bool} {W H N : Nat} {nm : Nat → Int} {x : List Nat × List (List Nat)} (hW : 2 ≤ W) (hL : mk.length = W * H) (hm : Nam mk W nm) (h : PI mk W nm N x) (hN : N < mk.length) : PI mk W nm (N + 1) (pstep mk W x N) := by
  obtain ⟨M, out⟩ := x
  have hnd := h.nd
  have hmet := h.met
  have hout := h.out
  dsimp only at hnd hmet hout
  unfold pstep
  dsimp only
  have hMlt : ∀ k ∈ M, k < mk.length := fun k hk => by
    obtain ⟨y, _, h2⟩ := (hmet k).1 hk
    exact bat_lt h2.mk.2
  have hcan : canon mk.length nm (N + 1) = canon mk.length nm N ++ (if nm N = N then [(List.range mk.length).filter fun k => decide (nm k = N)] else []) := by
    unfold canon
    rw [List.range_succ, List.filter_append, List.map_append]
    congr 1
    by_cases e : nm N = (N : Int)
    · rw [if_pos e]; simp [e]
    · rw [if_neg e]; simp [e]
  split
  · rename_i hc
    have hf := folW_ok hW hL mk.length N M hc.2 hc.1 hnd hMlt (by omega)
    generalize folW mk W mk.length N M = R at hf
    obtain ⟨new, rfl⟩ := hf.pre
    have hfirst : ∀ z, Con mk W z N → N ≤ z := fun z hz => by
      rcases Nat.lt_or_ge z N with h1 | h1
      · exact absurd ((hmet N).2 ⟨z, h1, hz⟩) hc.1
      · exact h1
    have hnmN : nm N = N := by
      obtain ⟨y, h1, h2, h3⟩ := hm.con N hc.2
      have := h3 N (Con.refl hc.2)
      have := hfirst y h2
      omega
    have hnd2 := hf.nd
    rw [List.nodup_append] at hnd2
    have hnew : ∀ k, k ∈ new ↔ Con mk W N k := fun k => by
      constructor
      · intro hk
        have h1 : k ∉ M := fun h2 => hnd2.2.2 k h2 k hk rfl
        exact (hf.mrk k (List.mem_append_right _ hk) h1).2
      · intro hk
        have h1 : ∀ j, Con mk W N j → j ∉ M := fun j hj h2 => by
          obtain ⟨y, h3, h4⟩ := (hmet j).1 h2
          exact hc.1 ((hmet N).2 ⟨y, h3, h4.trans hj.symm⟩)
        have h2 : k ∈ M ++ new := by
          induction hk with
          | refl _ => exact hf.own
          | step g1 g2 g3 ih => exact hf.clo _ (ih) (h1 _ g1) _ g2 g3
        rcases List.mem_append.1 h2 with h3 | h3
        · exact absurd h3 (h1 k hk)
        · exact h3
    refine ⟨hf.nd, fun k => ?_, ?_⟩
    · rw [List.mem_append, hmet, hnew]
      constructor
      · rintro (⟨y, h1, h2⟩ | h1)
        · exact ⟨y, by omega, h2⟩
        · exact ⟨N, by omega, h1⟩
      · rintro ⟨y, h1, h2⟩
        rcases Nat.lt_or_ge y N with h3 | h3
        · exact .inl ⟨y, h3, h2⟩
        · have : y = N := by omega
          subst this; exact .inr h2
    · rw [hcan, if_pos hnmN, hout]
      dsimp only
      rw [List.drop_left]
      congr 1
      congr 1
      refine rise_eq (srtN_rise hnd2.2.1) (List.Pairwise.filter _ List.pairwise_lt_range) fun k => ?_
      rw [srtN_mem, hnew, List.mem_filter, List.mem_range, decide_eq_true_eq]
      constructor
      · intro hk
        refine ⟨bat_lt hk.mk.2, ?_⟩
        obtain ⟨y, h1, h2, h3⟩ := hm.con k hk.mk.2
        have := h3 N hk
        have := hfirst y (h2.trans hk.symm)
        omega
      · rintro ⟨h1, h2⟩
        have hb : bat mk k = true := by
          cases hb : bat mk k with
          | true => rfl
          | false => have := hm.non k hb; omega
        obtain ⟨y, h3, h4, _⟩ := hm.con k hb
        have : y = N := by omega
        subst this; exact h4
  · rename_i hc
    have hno : ∀ k, Con mk W N k → k ∈ M := fun k hk => by
      have h1 : N ∈ M := Decidable.byContradiction fun h2 => hc ⟨h2, hk.mk.1⟩
      obtain ⟨y, h3, h4⟩ := (hmet N).1 h1
      exact (hmet k).2 ⟨y, h3, h4.trans hk⟩
    have hnmN : nm N ≠ N := fun e => by
      have hb : bat mk N = true := by
        cases hb : bat mk N with
        | true => rfl
        | false => have := hm.non N hb; omega
      obtain ⟨y, h1, h2, h3⟩ := hm.con N hb
      obtain ⟨z, h4, h5⟩ := (hmet N).1 (hno N (Con.refl hb))
      have := h3 z h5
      omega
    refine ⟨hnd, fun k => ?_, ?_⟩
    · dsimp only
      rw [hmet]
      constructor
      · rintro ⟨y, h1, h2⟩; exact ⟨y, by omega, h2⟩
      · rintro ⟨y, h1, h2⟩
        rcases Nat.lt_or_ge y N with h3 | h3
        · exact ⟨y, h3, h2⟩
        · have : y = N := by omega
          subst this; exact (hmet k).1 (hno k h2)
    · dsimp only
      rw [hcan, if_neg hnmN, List.append_nil, hout]
theorem parts_eq {mk : List Bool} {W H : Nat} {nm : Nat → Int} (hW : 2 ≤ W) (hL : mk.length = W * H) (hm : Nam mk W nm) : parts mk W = canon mk.length nm mk.length := by
  have key : ∀ N, N ≤ mk.length → PI mk W nm N ((List.range N).foldl (pstep mk W) ([], [])) := by
    intro N
    induction N with
    | zero => intro _; exact ⟨List.nodup_nil, fun k => by simp, rfl⟩
    | succ N ih =>
      intro hN
      rw [List.range_succ, List.foldl_append]
      exact pstep_ok hW hL hm (ih (by omega)) (by omega)
  exact (key _ (Nat.le_refl _)).out
end Riv

namespace Riv
def nput (W a : Nat) (x : TB) (b : Nat) : TB := if at0 x.1 a ≠ -1 ∧ at0 x.1 b ≠ -1 ∧ Nb W a b ∧ at0 x.1 a < at0 x.1 b then (x.1.set b (at0 x.1 a), true) else x
def ncell (W L : Nat) (x : TB) (a : Nat) : TB := (List.range L).foldl (nput W a) x
def nround (W L : Nat) (T : List Int) : TB := (List.range L).foldl (ncell W L) (T, false)
def ngo (W L : Nat) : Nat → List Int → List Int
  | 0, T => T
  | N + 1, T => bif (nround W L T).2 then ngo W L N (nround W L T).1 else (nround W L T).1
def n0 (mk : List Bool) : List Int := mk.zipIdx.map fun x => bif x.1 then (x.2 : Int) else -1
def names (W : Nat) (mk : List Bool) : List Int := ngo W mk.length 40000 (n0 mk)
structure NI (mk : List Bool) (W : Nat) (T : List Int) : Prop where
  len : T.length = mk.length
  non : ∀ k, bat mk k = false → at0 T k = -1
  con : ∀ k, bat mk k = true → ∃ y : Nat, at0 T k = y ∧ Con mk W y k ∧ y ≤ k
structure NJ (mk : List Bool) (W : Nat) (R T : List Int) (ch : Bool) (P : Nat → Nat → Prop) : Prop where
  ri : NI mk W T
  no : ch = false → T = R ∧ ∀ a b, a < mk.length → b < mk.length → P a b → at0 R a ≠ -1 → at0 R b ≠ -1 → Nb W a b → at0 R b ≤ at0 R a
  yes : ch = true → wgt T < wgt R
theorem nput_ok {mk : List Bool} {W : Nat} {R : List Int} {x : TB} {P : Nat → Nat → Prop} {a b : Nat} (hW : 2 ≤ W) (hL : mk.length ≤ 160) (h : NJ mk W R x.1 x.2 P) (ha : a < mk.length) (hb : b < mk.length) :
    NJ mk W R (nput W a x b).1 (nput W a x b).2 (fun i j => P i j ∨ (i = a ∧ j = b)) := by
  obtain ⟨T, ch⟩ := x
  dsimp only at h
  unfold nput
  dsimp only
  have hI := h.ri
  split
  · rename_i hc
    dsimp only
    have hbl : b < T.length := by rw [hI.len]; exact hb
    have hset := fun j => at0_set (v := at0 T a) hbl j
    have mka : bat mk a = true := by
      cases e : bat mk a with
      | true => rfl
      | false => exact absurd (hI.non a e) hc.1
    have mkb : bat mk b = true := by
      cases e : bat mk b with
      | true => rfl
      | false => exact absurd (hI.non b e) hc.2.1
    obtain ⟨y, h1, h2, h3⟩ := hI.con a mka
    obtain ⟨z, g1, g2, g3⟩ := hI.con b mkb
    refine ⟨⟨by rw [List.length_set]; exact hI.len, fun k hk => ?_, fun k hk => ?_⟩, fun e => by simp at e, fun _ => ?_⟩
    · rw [hset, if_neg (fun e => by subst e; rw [mkb] at hk; cases hk)]; exact hI.non k hk
    · rw [hset]
      split
      · rename_i e; subst e
        exact ⟨y, h1, h2.step hc.2.2.1 mkb, by omega⟩
      · exact hI.con k hk
    · have h5 := wgt_set (v := at0 T a) hbl (by omega) (by omega) (.inr hc.2.2.2)
      cases ch with
      | false => rw [← (h.no rfl).1]; exact h5
      | true => exact Nat.lt_trans h5 (h.yes rfl)
  · rename_i hc
    dsimp only
    refine ⟨hI, fun e => ?_, h.yes⟩
    obtain ⟨e1, e2⟩ := h.no e
    refine ⟨e1, fun i j hi hj hp g1 g2 g3 => ?_⟩
    rcases hp with hp | ⟨rfl, rfl⟩
    · exact e2 i j hi hj hp g1 g2 g3
    · rw [e1] at hc
      rcases Int.lt_or_le (at0 R i) (at0 R j) with h5 | h5
      · exact absurd ⟨g1, g2, g3, h5⟩ hc
      · exact h5
theorem NJ.mono {mk : List Bool} {W : Nat} {R T : List Int} {ch : Bool} {P Q : Nat → Nat → Prop} (h : NJ mk W R T ch P) (hq : ∀ a b, a < mk.length → b < mk.length → Q a b → P a b) : NJ mk W R T ch Q :=
  ⟨h.ri, fun e => ⟨(h.no e).1, fun a b h1 h2 h3 => (h.no e).2 a b h1 h2 (hq a b h1 h2 h3)⟩, h.yes⟩
theorem ncell_ok {mk : List Bool} {W : Nat} {R : List Int} {P : Nat → Nat → Prop} {a : Nat} (hW : 2 ≤ W) (hL : mk.length ≤ 160) (ha : a < mk.length) {x : TB} (h : NJ mk W R x.1 x.2 P) : ∀ N, N ≤ mk.length →
    NJ mk W R ((List.range N).foldl (nput W a) x).1 ((List.range N).foldl (nput W a) x).2 (fun i j => P i j ∨ (i = a ∧ j < N))
  | 0, _ => h.mono fun a b _ _ h4 => by rcases h4 with h4 | h4; exact h4; omega
  | N + 1, hN => by
    have h1 := ncell_ok hW hL ha h N (by omega)
    rw [List.range_succ, List.foldl_append]
    exact (nput_ok hW hL h1 ha (show N < mk.length by omega)).mono fun i j _ _ h4 => by
      rcases h4 with h4 | h4
      · exact .inl (.inl h4)
      · rcases Nat.lt_or_ge j N with h5 | h5
        · exact .inl (.inr ⟨h4.1, h5⟩)
        · exact .inr ⟨h4.1, by omega⟩
theorem nround_ok {mk : List Bool} {W : Nat} {R : List Int} (hW : 2 ≤ W) (hL : mk.length ≤ 160) (h : NI mk W R) : ∀ N, N ≤ mk.length →
    NJ mk W R ((List.range N).foldl (ncell W mk.length) (R, false)).1 ((List.range N).foldl (ncell W mk.length) (R, false)).2 (fun i _ => i < N)
  | 0, _ => ⟨h, fun _ => ⟨rfl, fun a b _ _ h4 => by omega⟩, fun e => by simp at e⟩
  | N + 1, hN => by
    have h1 := nround_ok hW hL h N (by omega)
    rw [List.range_succ, List.foldl_append]
    exact (ncell_ok hW hL (show N < mk.length by omega) h1 mk.length (Nat.le_refl _)).mono fun i j _ hj h4 => by
      rcases Nat.lt_or_ge i N with h5 | h5
      · exact .inl h5
      · exact .inr ⟨by omega, hj⟩
theorem ngo_ok {mk : List Bool} {W : Nat} (hW : 2 ≤ W) (hL : mk.length ≤ 160) : ∀ (N : Nat) (R : List Int), NI mk W R → wgt R < N → Nam mk W (at0 (ngo W mk.length N R)) ∧ (ngo W mk.length N R).length = mk.length
  | 0, _, _, hN => absurd hN (Nat.not_lt_zero _)
  | N + 1, R, h, hN => by
    have h1 := nround_ok hW hL h mk.length (Nat.le_refl _)
    rw [ngo]
    unfold nround
    generalize hx : (List.range mk.length).foldl (ncell W mk.length) (R, false) = x at h1
    obtain ⟨T, ch⟩ := x
    dsimp only at h1 ⊢
    cases ch with
    | true =>
      have := h1.yes rfl
      exact ngo_ok hW hL N T h1.ri (by omega)
    | false =>
      obtain ⟨e, h2⟩ := h1.no rfl
      subst e
      show Nam mk W (at0 T) ∧ T.length = mk.length
      have hne : ∀ k, bat mk k = true → at0 T k ≠ -1 := fun k hk => by
        obtain ⟨y, h3, _⟩ := h.con k hk; omega
      have hsame : ∀ z k, Con mk W z k → at0 T z = at0 T k := by
        intro z k hz
        induction hz with
        | refl _ => rfl
        | step g1 g2 g3 ih =>
          rename_i b c
          have hb := g1.mk.2
          have a1 := h2 b c (bat_lt hb) (bat_lt g3) (bat_lt hb) (hne b hb) (hne c g3) g2
          have a2 := h2 c b (bat_lt g3) (bat_lt hb) (bat_lt g3) (hne c g3) (hne b hb) g2.symm
          omega
      refine ⟨⟨h.non, fun k hk => ?_⟩, h.len⟩
      obtain ⟨y, h3, h4, h5⟩ := h.con k hk
      refine ⟨y, h3, h4, fun z hz => ?_⟩
      have h6 := hsame z k hz
      obtain ⟨u, h7, _, h8⟩ := h.con z hz.mk.1
      omega
theorem at0_n0 {mk : List Bool} (k : Nat) : at0 (n0 mk) k = bif bat mk k then (k : Int) else -1 := by
  unfold at0 n0 bat
  rw [List.getD_eq_getElem?_getD, List.getD_eq_getElem?_getD, List.getElem?_map, List.getElem?_zipIdx]
  cases mk[k]? with
  | none => rfl
  | some b => simp
theorem ni0 {mk : List Bool} {W : Nat} : NI mk W (n0 mk) := by
  refine ⟨by unfold n0; simp, fun k hk => by rw [at0_n0, hk]; rfl, fun k hk => ⟨k, by rw [at0_n0, hk]; rfl, Con.refl hk, Nat.le_refl _⟩⟩
theorem names_ok {mk : List Bool} {W : Nat} (hW : 2 ≤ W) (hL : mk.length ≤ 160) : Nam mk W (at0 (names W mk)) ∧ (names W mk).length = mk.length := by
  refine ngo_ok hW hL _ _ ni0 ?_
  have := wgt_le (T := n0 mk) fun n => by
    rw [at0_n0]
    cases hb : bat mk n with
    | true => have := bat_lt hb; simp only [cond_true]; omega
    | false => simp
  have h2 := (ni0 (mk := mk) (W := W)).len
  rw [h2] at this
  omega
end Riv

namespace Riv
def ownr (a b : Int) : Int := if a = -1 ∧ b = -1 then 0 else if a = b then 3 else if b = -1 ∨ (a ≠ -1 ∧ a < b) then 1 else 2
theorem ownr_bd (a b : Int) : 0 ≤ ownr a b ∧ ownr a b ≤ 3 := by
  unfold ownr
  split
  · decide
  · split
    · decide
    · split <;> decide
theorem ownr_least (a b : Int) (h : a ≠ b) : ownr a b = if leastL [a, b] = a then 1 else 2 := by
  unfold ownr leastL
  simp only [List.foldl_cons, List.foldl_nil, ls1]
  by_cases ha : a = -1
  · subst ha
    have hb : ¬ b = -1 := fun e => h e.symm
    simp [hb, h]
  · by_cases hb : b = -1
    · subst hb; simp [ha]
    · rcases Int.lt_or_le b a with h1 | h1
      · have h2 : ¬ a < b := by omega
        have h3 : ¬ b = a := fun e => h e.symm
        simp [ha, hb, h1, h, h2, h3]
      · have h2 : ¬ b < a := by omega
        have h3 : a < b := by omega
        simp [ha, hb, h, h2, h3]
def lowT (T : List Int) (l : List Nat) : Int := l.foldl (fun o n => ls1 o (at0 T n)) (-1)
theorem ls1_least (o n : Int) : leastL [o, n] = ls1 o n := by
  unfold leastL
  simp only [List.foldl_cons, List.foldl_nil]
  have : ls1 (-1) o = o := by unfold ls1; split <;> simp_all
  rw [this]
structure Sh where
  f : Int
  o : Int
  nr : Bool
  deriving DecidableEq
def marks (c : List Int) : List Bool := c.map fun x => decide (x = 3)
def isl (c : List Int) (W : Nat) : List (List Nat) := parts (marks c) W
def own1 (c : List Int) (W : Nat) (l : List Nat) : Int := ownr (lowT (bfs c W 1) l) (lowT (bfs c W 2) l)
def gv1 (x : Int × Int) (o : Int) : Int × (Int × Int) := if o = 3 then (if x.2 < x.1 then (2, x.1, x.2 + 1) else (1, x.1 + 1, x.2)) else (o, x)
def gvL : Int × Int → List Int → List Int
  | _, [] => []
  | x, o :: l => (gv1 x o).1 :: gvL (gv1 x o).2 l
def many (k : Int) (l : List Int) : Int := (l.countP fun o => decide (o = k) : Nat)
def own0 (c : List Int) (W : Nat) : List Int := (isl c W).map (own1 c W)
def ownI (c : List Int) (W : Nat) : List Int := gvL (many 1 (own0 c W), many 2 (own0 c W)) (own0 c W)
def rg1 (l : List Int) (i : Nat) : List Int := if at0 l i = 3 then l.set i (if many 2 l < many 1 l then 2 else 1) else l
def rgL (l : List Int) : List Int := (List.range l.length).foldl rg1 l
theorem many_app (k : Int) (a b : List Int) : many k (a ++ b) = many k a + many k b := by unfold many; rw [List.countP_append]; omega
theorem many_cons (k x : Int) (b : List Int) : many k (x :: b) = (if x = k then 1 else 0) + many k b := by
  unfold many; rw [List.countP_cons]
  by_cases h : x = k <;> simp [h] <;> omega
theorem gv1_snd (a b o : Int) : (gv1 (a, b) o).2 = (a - (if o = 1 then 1 else 0) + (if (gv1 (a, b) o).1 = 1 then 1 else 0), b - (if o = 2 then 1 else 0) + (if (gv1 (a, b) o).1 = 2 then 1 else 0)) := by
  unfold gv1
  by_cases h3 : o = 3
  · subst h3
    rw [if_pos rfl]
    split <;> simp
  · rw [if_neg h3]
    refine Prod.ext ?_ ?_
    · dsimp only; split <;> omega
    · dsimp only; split <;> omega
theorem rg_go : ∀ (rest done : List Int), (List.range' done.length rest.length).foldl rg1 (done ++ rest) = done ++ gvL (many 1 (done ++ rest), many 2 (done ++ rest)) rest
  | [], done => by simp [gvL]
  | o :: rest, done => by
    rw [List.length_cons, List.range'_succ, List.foldl_cons, gvL]
    have hat : at0 (done ++ o :: rest) done.length = o := by
      unfold at0
      rw [List.getD_eq_getElem?_getD, List.getElem?_append_right (Nat.le_refl _), Nat.sub_self]; rfl
    have hset : ∀ v : Int, (done ++ o :: rest).set done.length v = (done ++ [v]) ++ rest := fun v => by
      rw [List.set_append_right _ _ (Nat.le_refl _), Nat.sub_self, List.set_cons_zero, List.append_assoc]; rfl
    have ih := fun v => rg_go rest (done ++ [v])
    simp only [List.length_append, List.length_singleton] at ih
    have hm : ∀ (k v : Int), many k ((done ++ [v]) ++ rest) = many k (done ++ o :: rest) - (if o = k then 1 else 0) + (if v = k then 1 else 0) := fun k v => by
      rw [many_app, many_app, many_app, many_cons, many_cons]
      have : many k [] = 0 := rfl
      rw [this]
      omega
    have hr : rg1 (done ++ o :: rest) done.length = (done ++ [(gv1 (many 1 (done ++ o :: rest), many 2 (done ++ o :: rest)) o).1]) ++ rest := by
      unfold rg1 gv1
      rw [hat]
      split
      · rename_i h3
        rw [hset]
        split <;> rfl
      · rw [List.append_assoc]; rfl
    rw [hr, ih, hm, hm, List.append_assoc, List.singleton_append, ← gv1_snd]
theorem rg_eq (l : List Int) : rgL l = gvL (many 1 l, many 2 l) l := by
  have := rg_go l []
  simp only [List.length_nil, List.nil_append] at this
  unfold rgL
  rw [List.range_eq_range']
  exact this
theorem gvL_len : ∀ (x : Int × Int) (l : List Int), (gvL x l).length = l.length
  | _, [] => rfl
  | x, o :: l => by rw [gvL, List.length_cons, List.length_cons, gvL_len]
def shr (c : List Int) (W : Nat) : List Sh := ((isl c W).zip ((own0 c W).zip (ownI c W))).map fun x => ⟨((x.1.headD 0 : Nat) : Int), x.2.2, decide (x.2.1 = 1 ∨ x.2.1 = 2)⟩
def setAll (out : List Int) (l : List Nat) (o : Int) : List Int := l.foldl (fun out n => out.set n o) out
def ownW (c : List Int) (W : Nat) : List Int := c.zipIdx.map fun x => if x.1 = 0 then ownr (at0 (bfs c W 1) x.2) (at0 (bfs c W 2) x.2) else x.1
def owns (c : List Int) (W : Nat) : List Int := ((isl c W).zip (ownI c W)).foldl (fun out x => setAll out x.1 x.2) (ownW c W)
theorem setAll_len : ∀ (l : List Nat) (out : List Int) (o : Int), (setAll out l o).length = out.length
  | [], _, _ => rfl
  | n :: l, out, o => by have := setAll_len l (out.set n o) o; unfold setAll at *; rw [List.foldl_cons, this, List.length_set]
end Riv

namespace Riv
def rnm (c : List Int) (W : Nat) : List Int := names W (marks c)
def firsts (c : List Int) (W : Nat) : List Nat := (List.range c.length).filter fun i : Nat => decide (at0 (rnm c W) i = (i : Int))
theorem marks_len (c : List Int) : (marks c).length = c.length := by simp [marks]
theorem bat_marks (c : List Int) (k : Nat) : bat (marks c) k = decide (at0 c k = 3) := by
  unfold bat marks at0
  simp only [List.getD_eq_getElem?_getD, List.getElem?_map]
  cases c[k]? with
  | none => rfl
  | some x => rfl
theorem rnm_ok {c : List Int} {W : Nat} (hW : 2 ≤ W) (hL : c.length ≤ 160) : Nam (marks c) W (at0 (rnm c W)) ∧ (rnm c W).length = c.length := by
  have := names_ok (mk := marks c) hW (by rw [marks_len]; exact hL)
  rw [marks_len] at this
  exact this
theorem isl_eq {c : List Int} {W H : Nat} (hW : 2 ≤ W) (hL : c.length = W * H) (h1 : c.length ≤ 160) : isl c W = (firsts c W).map fun i : Nat => (List.range c.length).filter fun k => decide (at0 (rnm c W) k = (i : Int)) := by
  unfold isl
  rw [parts_eq hW (by rw [marks_len]; exact hL) (rnm_ok hW h1).1, marks_len]
  rfl
theorem fold_set_len : ∀ (l : List (List Nat × Int)) (out : List Int), (l.foldl (fun out x => setAll out x.1 x.2) out).length = out.length
  | [], _ => rfl
  | x :: l, out => by rw [List.foldl_cons, fold_set_len, setAll_len]
theorem ownW_len (c : List Int) (W : Nat) : (ownW c W).length = c.length := by simp [ownW]
theorem ownI_len {c : List Int} {W H : Nat} (hW : 2 ≤ W) (hL : c.length = W * H) (h1 : c.length ≤ 160) : (ownI c W).length = (firsts c W).length ∧ (own0 c W).length = (firsts c W).length := by
  have : (own0 c W).length = (firsts c W).length := by unfold own0; rw [List.length_map, isl_eq hW hL h1, List.length_map]
  exact ⟨by unfold ownI; rw [gvL_len, this], this⟩
theorem owns_len (c : List Int) (W : Nat) : (owns c W).length = c.length := by unfold owns; rw [fold_set_len, ownW_len]
theorem at0_ownW {c : List Int} {W k : Nat} (h : k < c.length) : at0 (ownW c W) k = if at0 c k = 0 then ownr (at0 (bfs c W 1) k) (at0 (bfs c W 2) k) else at0 c k := by
  have e : at0 c k = c[k] := by unfold at0; rw [List.getD_eq_getElem?_getD, List.getElem?_eq_getElem h]; rfl
  rw [e]
  unfold ownW
  show (List.map _ c.zipIdx).getD k (-1) = _
  rw [List.getD_eq_getElem?_getD, List.getElem?_map, List.getElem?_zipIdx, List.getElem?_eq_getElem h]
  simp
end Riv

namespace Riv
theorem isl_in {c : List Int} {W H : Nat} (hW : 2 ≤ W) (hL : c.length = W * H) (h1 : c.length ≤ 160) : ∀ cs ∈ isl c W, ∀ n ∈ cs, n < c.length := by
  intro cs hcs n hn
  rw [isl_eq hW hL h1] at hcs
  obtain ⟨i, _, rfl⟩ := List.mem_map.1 hcs
  exact List.mem_range.1 (List.mem_filter.1 hn).1
end Riv

namespace Riv
def setHi (out : List Go.Vm.Spn) (h : Int) : List Go.Vm.Spn := match out.getLast? with
  | none => out
  | some x => out.dropLast ++ [⟨x.lo, h⟩]
def r1 (p : Int → Bool) (x : List Go.Vm.Spn × Bool) (s : Int) : List Go.Vm.Spn × Bool := (bif p s then (bif x.2 then setHi x.1 s else x.1 ++ [⟨s, s⟩]) else x.1, p s)
end Riv

namespace Riv
abbrev Dk := Nat × Int
structure Dealt (nx : Dk → Int → Int × Dk) : Prop where
  lo : ∀ d k, 0 ≤ (nx d k).1
  hi : ∀ d k, 0 < k → (nx d k).1 < k
  n : ∀ d k, (nx d k).2.1 ≤ d.1 + 1
structure MOk (W H : Nat) (c : List Int) : Prop where
  w : 3 ≤ W ∧ W ≤ 12
  h : 1 ≤ H ∧ H ≤ 12
  len : c.length = W * H
  kind : ∀ n, n < c.length → 0 ≤ at0 c n ∧ at0 c n ≤ 3
  side : ∀ y, y < H → at0 c (y * W) = 1 ∧ at0 c (y * W + W - 1) = 2
section
variable (nx : Dk → Int → Int × Dk)
variable {nx}
end
end Riv

namespace Riv
def sideB (c : List Int) (W : Nat) (y : Nat) : Bool := decide (at0 c (y * W) = 1 ∧ at0 c (y * W + W - 1) = 2)
def kindB (c : List Int) : Bool := c.all fun x => decide (0 ≤ x ∧ x ≤ 3)
def chkM (m : Mp) : Int :=
  if ((3 ≤ m.w ∧ m.w ≤ 12) ∧ 1 ≤ m.h ∧ m.h ≤ 12) ∧ (m.c.length : Int) = m.w * m.h then
    (bif kindB m.c then (bif (List.range m.h.toNat).all (sideB m.c m.w.toNat) then 0 else 9) else 4)
  else 3
theorem chkM_ok {m : Mp} (h : chkM m = 0) : ∃ W H : Nat, m.w = W ∧ m.h = H ∧ MOk W H m.c := by
  unfold chkM at h
  split at h
  · rename_i h1
    obtain ⟨W, eW⟩ : ∃ W : Nat, m.w = W := ⟨m.w.toNat, by omega⟩
    obtain ⟨H, eH⟩ : ∃ H : Nat, m.h = H := ⟨m.h.toNat, by omega⟩
    cases hk : kindB m.c with
    | false => rw [hk] at h; simp at h
    | true =>
      rw [hk, cond_true] at h
      cases hs : (List.range m.h.toNat).all (sideB m.c m.w.toNat) with
      | false => rw [hs] at h; simp at h
      | true =>
        rw [eW, eH, Int.toNat_natCast, Int.toNat_natCast] at hs
        rw [eW, eH] at h1
        refine ⟨W, H, eW, eH, ⟨by omega, by omega⟩, ⟨by omega, by omega⟩, ?_, fun n hn => ?_, fun y hy => ?_⟩
        · have := h1.2
          have e : ((W * H : Nat) : Int) = (W : Int) * H := by rw [Int.natCast_mul]
          omega
        · unfold kindB at hk
          rw [List.all_eq_true] at hk
          have e : at0 m.c n = m.c[n] := by unfold at0; rw [List.getD_eq_getElem?_getD, List.getElem?_eq_getElem hn]; rfl
          rw [e]
          exact of_decide_eq_true (hk _ (List.getElem_mem hn))
        · rw [List.all_eq_true] at hs
          exact of_decide_eq_true (hs y (List.mem_range.2 hy))
  · simp at h
end Riv

open Go.Vm
open Riv
namespace Go.Proofs.YtajnkenbhmkjaaaGreat
set_option maxRecDepth 20000
set_option maxHeartbeats 2000000

def vM (m : Mp) : V := .agg [I m.w, I m.h, ints m.c]
def encM (m : Mp) : List D := [DI m.w, DI m.h, .sl 1 m.c.length (m.c.flatMap encI)]
def vSd (m : Mp) (s : Int) : V := .agg [I m.w, I m.h, ints m.c, I s]
end Go.Proofs.YtajnkenbhmkjaaaGreat

open Go.Vm
open Riv
namespace Go.Proofs.YtajnkenbhmkjaaaGreat
set_option maxRecDepth 20000
set_option maxHeartbeats 4000000

theorem vc_from (n a b : Int) (h : Hp) : VC Tryz.prog 60 [I n, I a, I b] h (B (decide (a ≤ n ∧ n ≤ b))) h := by
  refine VC.body Tryz.func60 rfl Tryz.ntmps60 Tryz.call60 (h.grows_refl) rfl ?_; conv => whnf
  repeat' (first | ((first | refine zs1 ?_ | refine zs2 ?_ | refine zs3 ?_ | refine zs4 ?_ | refine zs5 ?_ | refine zs6 [] ?_); conv => whnf) | ((first | apply zi1 | apply zi2 | apply zi3 | apply zi4 | apply zi5) <;> intro _ <;> conv => whnf))
  all_goals (refine VOut.same ?_; simp [V.ren]; try omega)
theorem vc_least (l : List Int) (h : Hp) (hl : l.length ≤ 4000000) : VC Tryz.prog 81 [ints l] h (I (leastL l)) h := by
  obtain ⟨E, hE⟩ : ∃ E, E = leastL l := ⟨_, rfl⟩
  rw [← hE]
  unfold leastL at hE
  refine VC.body Tryz.func81 rfl Tryz.ntmps81 Tryz.call81 (h.grows_refl) rfl ?_; conv => whnf
  repeat' (first | ((first | refine zs1 ?_ | refine zs2 ?_ | refine zs3 ?_ | refine zs4 ?_ | refine zs5 ?_ | refine zs6 [] ?_); conv => whnf) | ((first | apply zi1 | apply zi2 | apply zi3 | apply zi4 | apply zi5) <;> intro _ <;> conv => whnf))
  refine VCode.lp (fun y : Nat × Int => [(3, I y.2), (6, ints l), (7, I l.length), (8, I y.1)]) (fun _ => []) (fun y => y.1 ≤ l.length ∧ E = (l.drop y.1).foldl ls1 y.2) (fun y => l.length - y.1) (0, -1) ⟨Nat.zero_le _, hE⟩ ?_ ?_
  · conv => whnf
    refine Retell.turn ⟨[], 0, [], []⟩ (TurnOk.mk' _ _ [] [] (OutOk.lift _) rfl (by decide) zb trivial trivial rfl) zw zm
  · rintro ⟨k, o⟩ ⟨h4, h5⟩
    dsimp only at h4 h5
    conv => whnf
    refine VIte.dec (fun h6 => ?_) (fun h6 => ?_)
    · have hk : l[k]? = some l[k] := List.getElem?_eq_getElem (by omega)
      rw [List.drop_eq_getElem_cons (by omega), List.foldl_cons] at h5
      generalize l[k] = x at hk h5
      have hs : ls1 o x = if x ≠ -1 ∧ (o = -1 ∨ x < o) then x else o := rfl
      conv => whnf
      refine VAny.ix encI_len k rfl rfl hk ?_
      conv => whnf
      repeat' (first | ((first | refine zs1 ?_ | refine zs2 ?_ | refine zs3 ?_ | refine zs4 ?_ | refine zs5 ?_ | refine zs6 [] ?_); conv => whnf) | ((first | apply zi1 | apply zi2 | apply zi3 | apply zi4 | apply zi5) <;> intro _ <;> conv => whnf))
      all_goals first
        | (rw [if_pos (by omega)] at hs; rw [hs] at h5
           refine LEnd.intro (k + 1, x) ⟨by dsimp only; omega, h5⟩ (by dsimp only; omega) ?_
           conv => whnf
           refine Retell.turn ⟨[], 0, [], []⟩ (TurnOk.mk' _ _ [] [] (OutOk.lift _) rfl (by decide) zb trivial trivial rfl) zw zm)
        | (rw [if_neg (by omega)] at hs; rw [hs] at h5
           refine LEnd.intro (k + 1, o) ⟨by dsimp only; omega, h5⟩ (by dsimp only; omega) ?_
           conv => whnf
           refine Retell.turn ⟨[], 0, [], []⟩ (TurnOk.mk' _ _ [] [] (OutOk.lift _) rfl (by decide) zb trivial trivial rfl) zw zm)
    · rw [List.drop_of_length_le (by omega)] at h5
      rw [h5]
      conv => whnf
      repeat' (first | ((first | refine zs1 ?_ | refine zs2 ?_ | refine zs3 ?_ | refine zs4 ?_ | refine zs5 ?_ | refine zs6 [] ?_); conv => whnf) | ((first | apply zi1 | apply zi2 | apply zi3 | apply zi4 | apply zi5) <;> intro _ <;> conv => whnf))
      exact VOut.same rfl
end Go.Proofs.YtajnkenbhmkjaaaGreat

open Go.Vm
open Riv
namespace Go.Proofs.YtajnkenbhmkjaaaGreat
set_option maxRecDepth 20000
set_option maxHeartbeats 4000000

theorem vc_nearer (a b : Int) (h : Hp) : VC Tryz.prog 64 [I a, I b] h (I (ownr a b)) h := by
  obtain ⟨E, hE⟩ : ∃ E, E = ownr a b := ⟨_, rfl⟩
  rw [← hE]
  have hl := ownr_least a b
  obtain ⟨m, hm⟩ : ∃ m, m = leastL [a, b] := ⟨_, rfl⟩
  rw [← hm] at hl
  rw [← hE] at hl
  have cL := fun h => vc_least [a, b] h (by simp)
  rw [← hm] at cL
  unfold ownr at hE
  refine VC.body Tryz.func64 rfl Tryz.ntmps64 Tryz.call64 (h.grows_refl) rfl ?_; conv => whnf
  repeat' (first | ((first | refine zs1 ?_ | refine zs2 ?_ | refine zs3 ?_ | refine zs4 ?_ | refine zs5 ?_ | refine zs6 [] ?_); conv => whnf) | ((first | apply zi1 | apply zi2 | apply zi3 | apply zi4 | apply zi5) <;> intro _ <;> conv => whnf))
  all_goals try (
    refine VCall.intro (VC.give (args' := [ints [a, b]]) (loc' := [.dead]) [(0, [a, b].flatMap Vm.encI)] [] (OutOk.lift _) zb zf (by exact FmAll.nil) rfl zw (cL _)) ?_
    conv => whnf
    repeat' (first | ((first | refine zs1 ?_ | refine zs2 ?_ | refine zs3 ?_ | refine zs4 ?_ | refine zs5 ?_ | refine zs6 [] ?_); conv => whnf) | ((first | apply zi1 | apply zi2 | apply zi3 | apply zi4 | apply zi5) <;> intro _ <;> conv => whnf)))
  all_goals first
    | (rw [if_pos (by omega)] at hE; rw [hE]; exact VOut.same rfl)
    | (rw [if_neg (by omega), if_pos (by omega)] at hE; rw [hE]; exact VOut.same rfl)
    | (rw [hl (by omega), if_pos (by omega)]; exact VOut.same rfl)
    | (rw [hl (by omega), if_neg (by omega)]; exact VOut.same rfl)
end Go.Proofs.YtajnkenbhmkjaaaGreat

open Go.Vm
open Riv
namespace Go.Proofs.YtajnkenbhmkjaaaGreat
set_option maxRecDepth 20000
set_option maxHeartbeats 4000000

theorem vc_through (m : Mp) (s x : Int) (k : Nat) (h : Hp) (hk : m.c[k]? = some x) : VC Tryz.prog 79 [vSd m s, I k] h (B (decide (x = 0 ∨ x = s))) h := by
  refine VC.body Tryz.func79 rfl Tryz.ntmps79 Tryz.call79 (h.grows_refl) rfl ?_; conv => whnf
  repeat' (first | ((first | refine zs1 ?_ | refine zs2 ?_ | refine zs3 ?_ | refine zs4 ?_ | refine zs5 ?_ | refine zs6 [] ?_); conv => whnf) | ((first | apply zi1 | apply zi2 | apply zi3 | apply zi4 | apply zi5) <;> intro _ <;> conv => whnf) | (refine VAny.ix encI_len k rfl rfl hk ?_; conv => whnf))
  all_goals (refine VOut.same ?_; simp [V.ren]; try omega)
  all_goals (rename_i hx; rw [Bool.eq_iff_iff]; simp [hx])
end Go.Proofs.YtajnkenbhmkjaaaGreat

open Go.Vm
open Riv
namespace Go.Proofs.YtajnkenbhmkjaaaGreat
set_option maxRecDepth 20000
set_option maxHeartbeats 4000000

def fidx {α : Type} (q : α → Bool) : List α → Int → Int
  | [], _ => -1
  | a :: l, i => bif q a then i else fidx q l (i + 1)
theorem fidx_at {α : Type} {q : α → Bool} {l : List α} {k : Nat} {a : α} {i : Int} (h : l[k]? = some a) : fidx q (l.drop k) i = bif q a then i else fidx q (l.drop (k + 1)) (i + 1) := by
  obtain ⟨hlt, rfl⟩ := List.getElem?_eq_some_iff.1 h
  rw [List.drop_eq_getElem_cons hlt, fidx]
theorem fidx_nn {α : Type} {q : α → Bool} : ∀ (l : List α) (i : Int), 0 ≤ i → (0 ≤ fidx q l i ↔ l.any q = true)
  | [], i, _ => by simp [fidx]
  | a :: l, i, hi => by
    rw [fidx, List.any_cons]
    cases q a
    · rw [cond_false, Bool.false_or]; exact fidx_nn l (i + 1) (by omega)
    · rw [cond_true, Bool.true_or]; simp [hi]
theorem vc_IndexFI (l : List Int) (q : Int → Bool) (g : FuncId) (hl : l.length ≤ 4000000) (hso : ∀ (e : Int) (h : Hp), VC Tryz.prog g [I e] h (B (q e)) h) (h : Hp) :
    VC Tryz.prog 67 [ints l, .func (.func g) [] []] h (I (fidx q l 0)) h := by
  obtain ⟨E, hE⟩ : ∃ E, E = fidx q l 0 := ⟨_, rfl⟩
  rw [← hE]
  refine VC.body Tryz.func67 rfl Tryz.ntmps67 Tryz.call67 (h.grows_refl) rfl ?_; conv => whnf
  repeat (first | ((first | refine zs1 ?_ | refine zs2 ?_ | refine zs3 ?_ | refine zs4 ?_ | refine zs5 ?_ | refine zs6 [] ?_); conv => whnf))
  refine VCode.lp (fun k : Nat => [(0, ints l), (1, .func (.func g) [] []), (7, I l.length), (8, I k)]) (fun _ => []) (fun k => k ≤ l.length ∧ E = fidx q (l.drop k) k) (fun k => l.length - k) 0 ⟨Nat.zero_le _, hE⟩ ?_ ?_
  · conv => whnf
    refine Retell.turn ⟨[], 0, [], []⟩ (TurnOk.mk' _ _ [] [] (OutOk.lift _) rfl (by decide) zb trivial trivial rfl) zw zm
  · rintro k ⟨h1, h2⟩
    conv => whnf
    refine VIte.dec (fun h3 => ?_) (fun h3 => ?_)
    · have ha : l[k]? = some l[k] := List.getElem?_eq_getElem (by omega)
      have hm := hso l[k]
      generalize l[k] = a at ha hm
      rw [fidx_at ha] at h2
      conv => whnf
      repeat' (first | ((first | refine zs1 ?_ | refine zs2 ?_ | refine zs3 ?_ | refine zs4 ?_ | refine zs5 ?_ | refine zs6 [] ?_); conv => whnf) | ((first | apply zi1 | apply zi2 | apply zi3 | apply zi4 | apply zi5) <;> intro _ <;> conv => whnf) | (refine VAny.ix encI_len k (by omega) rfl ha ?_; conv => whnf))
      refine VCall.intro (hm _) ?_
      conv => whnf
      cases hq : q a
      · rw [hq] at h2
        conv => whnf
        repeat (first | ((first | refine zs1 ?_ | refine zs2 ?_ | refine zs3 ?_ | refine zs4 ?_ | refine zs5 ?_ | refine zs6 [] ?_); conv => whnf))
        refine LEnd.intro (k + 1) ⟨by omega, h2⟩ (by omega) ?_
        conv => whnf
        refine Retell.turn ⟨[], 0, [], []⟩ (TurnOk.mk' _ _ [] [] (OutOk.lift _) rfl (by decide) zb trivial trivial rfl) zw zm
      · rw [hq] at h2
        rw [h2]
        conv => whnf
        repeat (first | ((first | refine zs1 ?_ | refine zs2 ?_ | refine zs3 ?_ | refine zs4 ?_ | refine zs5 ?_ | refine zs6 [] ?_); conv => whnf))
        exact VOut.same rfl
    · rw [List.drop_of_length_le (by omega), fidx] at h2
      rw [h2]
      conv => whnf
      repeat (first | ((first | refine zs1 ?_ | refine zs2 ?_ | refine zs3 ?_ | refine zs4 ?_ | refine zs5 ?_ | refine zs6 [] ?_); conv => whnf))
      exact VOut.same rfl
theorem vc_ContFI (l : List Int) (q : Int → Bool) (g : FuncId) (hl : l.length ≤ 4000000) (hso : ∀ (e : Int) (h : Hp), VC Tryz.prog g [I e] h (B (q e)) h) (h : Hp) :
    VC Tryz.prog 46 [ints l, .func (.func g) [] []] h (B (l.any q)) h := by
  have e := fidx_nn (q := q) l 0 (Int.le_refl _)
  have c := fun h => vc_IndexFI l q g hl hso h
  generalize fidx q l 0 = E at e c
  refine VC.body Tryz.func46 rfl Tryz.ntmps46 Tryz.call46 (h.grows_refl) rfl ?_; conv => whnf
  repeat' (first | ((first | refine zs1 ?_ | refine zs2 ?_ | refine zs3 ?_ | refine zs4 ?_ | refine zs5 ?_ | refine zs6 [] ?_); conv => whnf) | ((first | apply zi1 | apply zi2 | apply zi3 | apply zi4 | apply zi5) <;> intro _ <;> conv => whnf) | (refine VCall.intro (c _) ?_; conv => whnf))
  refine VOut.same ?_
  show B (decide (0 ≤ E)) = _
  congr 1
  rw [Bool.eq_iff_iff, decide_eq_true_eq]
  exact e
theorem vc_Check1 (x : Int) (h : Hp) : VC Tryz.prog 61 [I x] h (B (!decide (0 ≤ x ∧ x ≤ 3))) h := by
  refine VC.body Tryz.func61 rfl Tryz.ntmps61 Tryz.call61 (h.grows_refl) rfl ?_; conv => whnf
  repeat' (first | ((first | refine zs1 ?_ | refine zs2 ?_ | refine zs3 ?_ | refine zs4 ?_ | refine zs5 ?_ | refine zs6 [] ?_); conv => whnf) | ((first | apply zi1 | apply zi2 | apply zi3 | apply zi4 | apply zi5) <;> intro _ <;> conv => whnf) | (refine VCall.intro (vc_from _ _ _ _) ?_; conv => whnf))
  exact VOut.same rfl
theorem any_kind (c : List Int) : (c.any fun x => !decide (0 ≤ x ∧ x ≤ 3)) = !kindB c := by
  unfold kindB
  rw [List.all_eq_not_any_not, Bool.not_not]
/-! ### The rows of a map -/
def vChunk (c : List Int) (W : Nat) : V := .func (.func 78) [] [.fp [dints c], .fp [DI W]]
theorem vc_Chunk (c : List Int) (W : Nat) (h : Hp) (hW : 1 ≤ W) : VC Tryz.prog 62 [ints c, I W] h (vChunk c W) h := by
  refine VC.body Tryz.func62 rfl Tryz.ntmps62 Tryz.call62 (h.grows_refl) rfl ?_; conv => whnf
  repeat' (first | ((first | refine zs1 ?_ | refine zs2 ?_ | refine zs3 ?_ | refine zs4 ?_ | refine zs5 ?_ | refine zs6 [] ?_); conv => whnf) | ((first | apply zi1 | apply zi2 | apply zi3 | apply zi4 | apply zi5) <;> intro _ <;> conv => whnf))
  · exfalso; omega
  · refine VOut.data 2 [(0, [dints c]), (1, [DI W])] [] rfl zf (by exact FmAll.nil) zw
def rowL (c : List Int) (W y : Nat) : List Int := (c.drop (y * W)).take W
theorem rowL_at {c : List Int} {W y k : Nat} (hk : k < W) (hc : y * W + k < c.length) : (rowL c W y)[k]? = some (at0 c (y * W + k)) := by
  unfold rowL at0
  rw [List.getElem?_take, if_pos hk, List.getElem?_drop, List.getD_eq_getElem?_getD, List.getElem?_eq_getElem hc]; rfl
theorem rowL_len {c : List Int} {W H y : Nat} (hL : c.length = W * H) (hy : y < H) : (rowL c W y).length = W := by
  have h1 : (y + 1) * W ≤ H * W := Nat.mul_le_mul_right _ hy
  rw [Nat.add_mul, Nat.one_mul, Nat.mul_comm H] at h1
  unfold rowL
  rw [List.length_take, List.length_drop]; omega
theorem iter_Chunk (c : List Int) (W H : Nat) (hW : 1 ≤ W ∧ W ≤ 100000) (hL : c.length = W * H) (hc : c.length ≤ 4000000) : IterN Tryz.prog 78 [] [.fp [dints c], .fp [DI W]] H (fun y => some [ints (rowL c W y)]) := by
  intro h i J E hs h0
  obtain ⟨S, g, g0, hS, g1, g2⟩ := iterN_seq (ys := fun y => some [ints (rowL c W y)]) H hs h0
  have hgr : ∀ j, j ≤ S → h.grows (g j) := by
    intro j
    induction j with
    | zero => intro _; rw [g0]; exact h.grows_refl
    | succ j ih =>
      intro hj
      rcases g1 j (by omega) with ⟨e, _⟩ | ⟨vs, _, hv⟩
      · cases e
      · exact fun k hk => hv.1 k (ih (by omega) k hk)
  have hrow : ∀ y, y < H → (rowL c W y).length = W := fun y hy => rowL_len hL hy
  have hle : ∀ y, y ≤ H → y * W ≤ c.length := fun y hy => by
    have h1 : y * W ≤ H * W := Nat.mul_le_mul_right _ hy
    rw [Nat.mul_comm H] at h1; omega
  have hlt : ∀ y, y < H → y * W + W ≤ c.length := fun y hy => by
    have h1 : (y + 1) * W ≤ H * W := Nat.mul_le_mul_right _ hy
    rw [Nat.add_mul, Nat.one_mul, Nat.mul_comm H] at h1; omega
  have hsub : ∀ y, rowL c W y = (c.drop (y * W)).take W := fun _ => rfl
  have hX : ∀ A : Nat, A ≤ c.length → (((c.drop (A : Int).toNat).take ((c.length : Int) - (A : Int)).toNat).length) = c.length - A := fun A hA => by rw [List.length_take, List.length_drop]; omega
  have hR : ∀ (A : Nat) (X : Nat), A + W ≤ c.length → X = c.length - A → (c.drop (A : Int).toNat).take ((A : Int) + min (W : Int) (X : Int) - (A : Int)).toNat = (c.drop A).take W := fun A X hA hx => by
    rw [Int.toNat_natCast, show ((A : Int) + min (W : Int) (X : Int) - (A : Int)).toNat = W by omega]
  rcases g2 with ⟨hSm, hI⟩ | ⟨hSm, vs, gE, e1, e2, e3⟩
  · refine ⟨g H, ?_, .inl hI⟩
    refine VC.body Tryz.func78 rfl Tryz.ntmps78 Tryz.call78 (hgr _ (by omega)) rfl ?_
    conv => whnf
    repeat' (first | ((first | refine zs1 ?_ | refine zs2 ?_ | refine zs3 ?_ | refine zs4 ?_ | refine zs5 ?_ | refine zs6 [] ?_); conv => whnf) | ((first | apply zi1 | apply zi2 | apply zi3 | apply zi4 | apply zi5) <;> intro _ <;> conv => whnf))
    refine VCode.lpo (fun y : Nat => [(0, .yld (.out i)), (1, .fp [dints c]), (2, .fp [DI W]), (4, I (y * W : Nat))]) (fun y => (g y).lift) (fun _ => []) (fun y => y ≤ H) (fun y => H - y) 0 (Nat.zero_le _) (by rw [g0]) ?_ ?_
    · rw [Nat.zero_mul]
      conv => whnf
      refine Retell.turn ⟨[], 0, [], []⟩ (TurnOk.mk' _ _ [] [] (OutOk.lift _) rfl (by decide) zb trivial trivial rfl) zw zm
    · rintro y hy
      have hs1 : y < H → ((y + 1) * W : Nat) = y * W + W := fun _ => by rw [Nat.add_mul, Nat.one_mul]
      have hy1 := hle y hy
      have hy2 := hlt y
      have hy3 := hsub y
      have hst := g1 y
      obtain ⟨A, hA⟩ : ∃ A, A = y * W := ⟨_, rfl⟩
      rw [← hA] at hs1 hy1 hy2 hy3 ⊢
      have hend : ¬ y < H → A = c.length := fun hh => by
        obtain rfl : y = H := by omega
        rw [hA, hL, Nat.mul_comm]
      conv => whnf
      repeat (first | ((first | refine zs1 ?_ | refine zs2 ?_ | refine zs3 ?_ | refine zs4 ?_ | refine zs5 ?_ | refine zs6 [] ?_); conv => whnf))
      refine VIte.dec (fun h3 => ?_) (fun h3 => ?_)
      · have hyH : y < H := Decidable.byContradiction fun hh => by have := hend hh; omega
        rcases hst (by omega) with ⟨e, _⟩ | ⟨vs, e, hv⟩
        · cases e
        · cases e
          have hs2 := hs1 hyH
          have hy5 := hy2 hyH
          have e7 := hX A hy1
          have e8 := hR A _ hy5 e7
          rw [← hy3] at e8
          generalize rowL c W y = R at hv hy3 e8
          conv => whnf
          repeat' (first | ((first | refine zs1 ?_ | refine zs2 ?_ | refine zs3 ?_ | refine zs4 ?_ | refine zs5 ?_ | refine zs6 [] ?_); conv => whnf) | ((first | apply zi1 | apply zi2 | apply zi3 | apply zi4 | apply zi5) <;> intro _ <;> conv => whnf) | (refine VAny.sub encI_len rfl (by omega) ?_; conv => whnf) | (refine VAny.subM encI_len rfl rfl (by omega) ?_; conv => whnf))
          rw [e8]
          refine VYield.intro (VY.lift _ hv) ?_
          conv => whnf
          repeat' (first | ((first | refine zs1 ?_ | refine zs2 ?_ | refine zs3 ?_ | refine zs4 ?_ | refine zs5 ?_ | refine zs6 [] ?_); conv => whnf) | ((first | apply zi1 | apply zi2 | apply zi3 | apply zi4 | apply zi5) <;> intro _ <;> conv => whnf) | (refine VAny.sub encI_len rfl (by omega) ?_; conv => whnf) | (refine VAny.subM encI_len rfl rfl (by omega) ?_; conv => whnf))
          refine LEndO.intro (y + 1) (by omega) (by omega) rfl ?_
          rw [hs2]
          conv => whnf
          refine Retell.turn ⟨[], 0, [], []⟩ (TurnOk.mk' _ _ [] [] (OutOk.lift _) rfl (by decide) zb trivial trivial rfl) zw zm
      · have hyH : y = H := by
          refine Decidable.byContradiction fun hh => ?_
          have := hy2 (by omega)
          omega
        subst hyH
        conv => whnf
        exact VOut.lifted (r := .tuple []) (hgr _ (by omega))
  · refine ⟨gE, ?_, .inr e3⟩
    have hgE : h.grows gE := fun k hk => e2.1 k (hgr S (Nat.le_refl _) k hk)
    refine VC.body Tryz.func78 rfl Tryz.ntmps78 Tryz.call78 hgE rfl ?_
    conv => whnf
    repeat' (first | ((first | refine zs1 ?_ | refine zs2 ?_ | refine zs3 ?_ | refine zs4 ?_ | refine zs5 ?_ | refine zs6 [] ?_); conv => whnf) | ((first | apply zi1 | apply zi2 | apply zi3 | apply zi4 | apply zi5) <;> intro _ <;> conv => whnf))
    refine VCode.lpo (fun y : Nat => [(0, .yld (.out i)), (1, .fp [dints c]), (2, .fp [DI W]), (4, I (y * W : Nat))]) (fun y => (g y).lift) (fun _ => []) (fun y => y ≤ S) (fun y => S - y) 0 (Nat.zero_le _) (by rw [g0]) ?_ ?_
    · rw [Nat.zero_mul]
      conv => whnf
      refine Retell.turn ⟨[], 0, [], []⟩ (TurnOk.mk' _ _ [] [] (OutOk.lift _) rfl (by decide) zb trivial trivial rfl) zw zm
    · rintro y hy
      have hs2 : ((y + 1) * W : Nat) = y * W + W := by rw [Nat.add_mul, Nat.one_mul]
      have hy1 := hle y (by omega)
      have hy5 := hlt y (by omega)
      have hy3 := hsub y
      have hst := g1 y
      obtain ⟨A, hA⟩ : ∃ A, A = y * W := ⟨_, rfl⟩
      rw [← hA] at hs2 hy1 hy5 hy3 ⊢
      have e7 := hX A hy1
      have e8 := hR A _ hy5 e7
      rw [← hy3] at e8
      rcases Nat.eq_or_lt_of_le hy with hkS | hkS
      · subst hkS
        cases e1
        generalize rowL c W y = R at e2 hy3 e8
        conv => whnf
        repeat' (first | ((first | refine zs1 ?_ | refine zs2 ?_ | refine zs3 ?_ | refine zs4 ?_ | refine zs5 ?_ | refine zs6 [] ?_); conv => whnf) | ((first | apply zi1 | apply zi2 | apply zi3 | apply zi4 | apply zi5) <;> intro _ <;> conv => whnf) | (refine VAny.sub encI_len rfl (by omega) ?_; conv => whnf) | (refine VAny.subM encI_len rfl rfl (by omega) ?_; conv => whnf))
        · rw [e8]
          refine VYield.intro (VY.lift _ e2) ?_
          conv => whnf
          repeat' (first | ((first | refine zs1 ?_ | refine zs2 ?_ | refine zs3 ?_ | refine zs4 ?_ | refine zs5 ?_ | refine zs6 [] ?_); conv => whnf) | ((first | apply zi1 | apply zi2 | apply zi3 | apply zi4 | apply zi5) <;> intro _ <;> conv => whnf) | (refine VAny.sub encI_len rfl (by omega) ?_; conv => whnf) | (refine VAny.subM encI_len rfl rfl (by omega) ?_; conv => whnf))
          exact VOut.lifted (r := .tuple []) hgE
        · exfalso; omega
      · rcases hst hkS with ⟨e, _⟩ | ⟨vs, e, hv⟩
        · cases e
        · cases e
          generalize rowL c W y = R at hv hy3 e8
          conv => whnf
          repeat' (first | ((first | refine zs1 ?_ | refine zs2 ?_ | refine zs3 ?_ | refine zs4 ?_ | refine zs5 ?_ | refine zs6 [] ?_); conv => whnf) | ((first | apply zi1 | apply zi2 | apply zi3 | apply zi4 | apply zi5) <;> intro _ <;> conv => whnf) | (refine VAny.sub encI_len rfl (by omega) ?_; conv => whnf) | (refine VAny.subM encI_len rfl rfl (by omega) ?_; conv => whnf))
          · rw [e8]
            refine VYield.intro (VY.lift _ hv) ?_
            conv => whnf
            repeat' (first | ((first | refine zs1 ?_ | refine zs2 ?_ | refine zs3 ?_ | refine zs4 ?_ | refine zs5 ?_ | refine zs6 [] ?_); conv => whnf) | ((first | apply zi1 | apply zi2 | apply zi3 | apply zi4 | apply zi5) <;> intro _ <;> conv => whnf) | (refine VAny.sub encI_len rfl (by omega) ?_; conv => whnf) | (refine VAny.subM encI_len rfl rfl (by omega) ?_; conv => whnf))
            refine LEndO.intro (y + 1) (by omega) (by omega) rfl ?_
            rw [hs2]
            conv => whnf
            refine Retell.turn ⟨[], 0, [], []⟩ (TurnOk.mk' _ _ [] [] (OutOk.lift _) rfl (by decide) zb trivial trivial rfl) zw zm
          · exfalso; omega
end Go.Proofs.YtajnkenbhmkjaaaGreat

open Go.Vm
open Riv
namespace Go.Proofs.YtajnkenbhmkjaaaGreat
set_option maxRecDepth 20000
set_option maxHeartbeats 4000000

/-! ### The neighbours of a cell, handed on one by one -/
def vBes (m : Mp) (n : Nat) : V := .func (.func 88) [] [.fp [DI n], .fp (encM m)]
theorem vc_beside (m : Mp) (n : Nat) (h : Hp) : VC Tryz.prog 80 [vM m, I n] h (vBes m n) h := by
  refine VC.body Tryz.func80 rfl Tryz.ntmps80 Tryz.call80 (h.grows_refl) rfl ?_; conv => whnf
  repeat' (first | ((first | refine zs1 ?_ | refine zs2 ?_ | refine zs3 ?_ | refine zs4 ?_ | refine zs5 ?_ | refine zs6 [] ?_); conv => whnf) | ((first | apply zi1 | apply zi2 | apply zi3 | apply zi4 | apply zi5) <;> intro _ <;> conv => whnf))
  refine VOut.data 2 [(0, encM m), (1, [DI n])] [] rfl zf (by exact FmAll.nil) zw
def nbO (W L n : Nat) : Nat → Option Nat
  | 0 => if n < W then none else some (n - W)
  | 1 => if n % W = 0 then none else some (n - 1)
  | 2 => if n % W = W - 1 then none else some (n + 1)
  | 3 => if L ≤ n + W then none else some (n + W)
  | _ => none
def nbY (W L n k : Nat) : Option (List V) := (nbO W L n k).map fun q : Nat => [I q]
theorem fm4 (a b c d : Prop) [Decidable a] [Decidable b] [Decidable c] [Decidable d] (x y z t : Nat) : [(if a then none else some x), (if b then none else some y), (if c then none else some z), (if d then none else some t)].filterMap id = (if a then [] else [x]) ++ (if b then [] else [y]) ++ (if c then [] else [z]) ++ (if d then [] else [t]) := by
  by_cases h1 : a <;> by_cases h2 : b <;> by_cases h3 : c <;> by_cases h4 : d <;> simp [h1, h2, h3, h4]
theorem nbO_list (W L n : Nat) : (List.range 4).filterMap (nbO W L n) = nbs W L n := by
  have h := fm4 (n < W) (n % W = 0) (n % W = W - 1) (L ≤ n + W) (n - W) (n - 1) (n + 1) (n + W)
  unfold nbs
  rw [← h, show List.range 4 = [0, 1, 2, 3] from rfl]
  rfl
theorem nbO_mem {W L n k q : Nat} (hk : k < 4) (h : nbO W L n k = some q) : q ∈ nbs W L n := by
  rw [← nbO_list]
  exact List.mem_filterMap.2 ⟨k, List.mem_range.2 hk, h⟩
theorem nbY_some {W L n k : Nat} {vs : List V} (h : nbY W L n k = some vs) : ∃ q, nbO W L n k = some q ∧ vs = [I q] := by
  unfold nbY at h
  cases hq : nbO W L n k with
  | none => rw [hq] at h; cases h
  | some q => rw [hq] at h; cases h; exact ⟨q, rfl, rfl⟩
theorem nbY_none {W L n k : Nat} (h : nbY W L n k = none) : nbO W L n k = none := by
  unfold nbY at h
  cases hq : nbO W L n k with
  | none => rfl
  | some q => rw [hq] at h; cases h
def nbF {α : Type} (f : α → Nat → α) (W L n : Nat) (x : α) (k : Nat) : α := (((List.range k).filterMap (nbO W L n))).foldl f x
theorem nbF_zero {α : Type} (f : α → Nat → α) (W L n : Nat) (x : α) : nbF f W L n x 0 = x := rfl
theorem nbF_all {α : Type} (f : α → Nat → α) (W L n : Nat) (x : α) : nbF f W L n x 4 = (nbs W L n).foldl f x := by unfold nbF; rw [nbO_list]
theorem nbF_none {α : Type} {f : α → Nat → α} {W L n : Nat} {x : α} {k : Nat} (h : nbO W L n k = none) : nbF f W L n x (k + 1) = nbF f W L n x k := by
  unfold nbF
  rw [List.range_succ, List.filterMap_append]
  simp [h]
theorem nbF_some {α : Type} {f : α → Nat → α} {W L n q : Nat} {x : α} {k : Nat} (h : nbO W L n k = some q) : nbF f W L n x (k + 1) = f (nbF f W L n x k) q := by
  unfold nbF
  rw [List.range_succ, List.filterMap_append, List.foldl_append]
  simp [h]
theorem iter_beside (m : Mp) (W n : Nat) (hW : 2 ≤ W ∧ W ≤ 100000) (hm : m.w = W) (hn : n < m.c.length) (hc : m.c.length ≤ 4000000) : IterS Tryz.prog 88 [] [.fp [DI n], .fp (encM m)] 4 (nbY W m.c.length n) := by
  intro h i J hs h0
  obtain ⟨g, g0, g1, hI⟩ := iterS_seq (ys := nbY W m.c.length n) hs h0
  have hgr : ∀ j, j ≤ 4 → h.grows (g j) := by
    intro j
    induction j with
    | zero => intro _; rw [g0]; exact h.grows_refl
    | succ j ih =>
      intro hj
      rcases g1 j (by omega) with ⟨_, e⟩ | ⟨vs, _, hv⟩
      · rw [e]; exact ih (by omega)
      · exact fun k hk => hv.1 k (ih (by omega) k hk)
  have gA := g1 0 (by omega)
  have gB := g1 1 (by omega)
  have gC := g1 2 (by omega)
  have gD := g1 3 (by omega)
  have hend := hgr 4 (by omega)
  refine ⟨g 4, ?_, hI⟩
  clear hI hgr g1 hs h0
  generalize g 4 = h4 at *
  generalize g 3 = h3 at *
  generalize g 2 = h2 at *
  generalize g 1 = h1 at *
  obtain rfl : h = g 0 := g0.symm
  generalize g 0 = h0 at *
  clear g0
  have e1 : (n : Int).tmod (W : Int) = ((n % W : Nat) : Int) := Int.ofNat_tmod n W
  have hr := Nat.mod_lt n (show 0 < W by omega)
  simp only [nbY, nbO] at gA gB gC gD
  obtain ⟨mw, mh, mc⟩ := m
  dsimp only at hm hn hc gA gB gC gD
  subst hm
  rw [show encM ⟨(W : Int), mh, mc⟩ = [DI W, DI mh, .sl 1 mc.length (mc.flatMap encI)] from rfl]
  have key : ∀ {c : Prop} [Decidable c] {q : Nat} {a b : Hp}, (((if c then none else some q : Option Nat).map fun q : Nat => [I q]) = none ∧ b = a ∨ ∃ vs, ((if c then none else some q : Option Nat).map fun q : Nat => [I q]) = some vs ∧ VY Tryz.prog i vs a (.s (.bool true)) b) → (c ∧ b = a) ∨ (¬ c ∧ VY Tryz.prog i [I q] a (.s (.bool true)) b) := by
    intro c _ q a b h
    by_cases hc : c
    · rw [if_pos hc] at h
      rcases h with ⟨_, h⟩ | ⟨vs, h, _⟩
      · exact .inl ⟨hc, h⟩
      · cases h
    · rw [if_neg hc] at h
      rcases h with ⟨h, _⟩ | ⟨vs, h, hv⟩
      · cases h
      · cases h; exact .inr ⟨hc, hv⟩
  have gA := key gA
  have gB := key gB
  have gC := key gC
  have gD := key gD
  clear key
  have qA : ¬ n < W → ((n - W : Nat) : Int) = (n : Int) - W := fun h => by omega
  have qB : ¬ n % W = 0 → ((n - 1 : Nat) : Int) = (n : Int) - 1 := fun h => by
    have : n ≠ 0 := fun e => h (by rw [e]; exact Nat.zero_mod W)
    omega
  have qC : ((n + 1 : Nat) : Int) = (n : Int) + 1 := by omega
  have qD : ((n + W : Nat) : Int) = (n : Int) + W := by omega
  rw [qC] at gC
  rw [qD] at gD
  generalize n % W = r at *
  rcases gA with ⟨a1, rfl⟩ | ⟨a1, yA⟩ <;> rcases gB with ⟨b1, rfl⟩ | ⟨b1, yB⟩ <;> rcases gC with ⟨c1, rfl⟩ | ⟨c1, yC⟩ <;> rcases gD with ⟨d1, rfl⟩ | ⟨d1, yD⟩
  all_goals (
    (try rw [qA a1] at yA)
    (try rw [qB b1] at yB)
    refine VC.body Tryz.func88 rfl Tryz.ntmps88 Tryz.call88 hend rfl ?_
    conv => whnf)
  all_goals (
    refine zs6 [] ?_
    conv => whnf
    repeat' (first | ((first | refine zs1 ?_ | refine zs2 ?_ | refine zs3 ?_ | refine zs4 ?_ | refine zs5 ?_); conv => whnf) | ((first | apply zi1 | apply zi2 | apply zi3 | apply zi4 | apply zi5) <;> intro _ <;> first | (exfalso; omega) | contradiction | (conv => whnf)) | (refine VYield.intro (VY.lift _ yA) ?_; conv => whnf) | (refine VYield.intro (VY.lift _ yB) ?_; conv => whnf) | (refine VYield.intro (VY.lift _ yC) ?_; conv => whnf) | (refine VYield.intro (VY.lift _ yD) ?_; conv => whnf)))
  all_goals first
    | exact VOut.lifted (r := .tuple []) hend
    | (exfalso; omega)
end Go.Proofs.YtajnkenbhmkjaaaGreat

open Go.Vm
open Riv
namespace Go.Proofs.YtajnkenbhmkjaaaGreat
set_option maxRecDepth 20000
set_option maxHeartbeats 4000000

theorem sz_mul {W H : Int} (hW : 0 ≤ W ∧ W ≤ 12) (hH : 0 ≤ H ∧ H ≤ 12) : 0 ≤ W * H ∧ W * H ≤ 144 :=
  ⟨Int.mul_nonneg hW.1 hH.1, by have := Int.mul_le_mul hW.2 hH.2 hH.1 (show (0 : Int) ≤ 12 by decide); omega⟩
theorem outW_one {o : Vm.Id → Option Blk} {iy i0 : Vm.Id} {a c d : Blk} (n0 : i0 ≠ iy) : outW (outW (outW o iy c) i0 a) iy d = outW (outW o i0 a) iy d := by
  funext k
  unfold outW
  by_cases e : k = iy
  · subst e; simp only [if_true]
  · simp only [if_neg e]
structure CJ (o : Vm.Id → Option Blk) (e : Int) (g : Hp) : Prop where
  o : g.outer = o
  b0 : g.get (.loc 0) = some (.flat true [DI e])
  b1 : g.get (.loc 1) = some .mark
theorem vc_check (m : Mp) (h : Hp) (hl : m.c.length ≤ 4000000) : VC Tryz.prog 40 [vM m] h (I (chkM m)) h := by
  obtain ⟨E, hE⟩ : ∃ E, E = chkM m := ⟨_, rfl⟩
  rw [← hE]
  unfold chkM at hE
  have cC := fun h => vc_ContFI m.c (fun x => !decide (0 ≤ x ∧ x ≤ 3)) 61 hl vc_Check1 h
  rw [any_kind] at cC
  obtain ⟨mw, mh, mc⟩ := m
  dsimp only at hE hl cC
  show VC Tryz.prog 40 [.agg [I mw, I mh, ints mc]] h (I E) h
  by_cases h0 : ((3 ≤ mw ∧ mw ≤ 12) ∧ 1 ≤ mh ∧ mh ≤ 12) ∧ (mc.length : Int) = mw * mh
  · have hm := sz_mul (W := mw) (H := mh) (by omega) (by omega)
    rw [if_pos h0] at hE
    obtain ⟨⟨h1, h2⟩, h3⟩ := h0
    obtain ⟨W, rfl⟩ : ∃ W : Nat, mw = W := ⟨mw.toNat, by omega⟩
    obtain ⟨H, rfl⟩ : ∃ H : Nat, mh = H := ⟨mh.toNat, by omega⟩
    rw [Int.toNat_natCast, Int.toNat_natCast] at hE
    have hL : mc.length = W * H := by
      have e : ((W * H : Nat) : Int) = (W : Int) * H := by rw [Int.natCast_mul]
      omega
    have hit := iter_Chunk mc W H (by omega) hL hl
    have hrl := fun y hy => rowL_len (W := W) (y := y) hL hy
    have hlt : ∀ y, y < H → y * W + W ≤ mc.length := fun y hy => by
      have h1 : (y + 1) * W ≤ H * W := Nat.mul_le_mul_right _ hy
      rw [Nat.add_mul, Nat.one_mul, Nat.mul_comm H] at h1; omega
    have hr0 : ∀ y, y < H → (rowL mc W y)[0]? = some (at0 mc (y * W)) := fun y hy => by
      have := hlt y hy
      have := rowL_at (c := mc) (W := W) (y := y) (k := 0) (by omega) (by omega)
      rw [Nat.add_zero] at this; exact this
    have hr1 : ∀ y, y < H → (rowL mc W y)[W - 1]? = some (at0 mc (y * W + W - 1)) := fun y hy => by
      have := hlt y hy
      have := rowL_at (c := mc) (W := W) (y := y) (k := W - 1) (by omega) (by omega)
      rw [show y * W + W - 1 = y * W + (W - 1) by omega]; exact this
    have cK := fun h => vc_Chunk mc W h (by omega)
    clear hL
    cases hk : kindB mc
    · rw [hk] at hE cC
      rw [cond_false] at hE
      subst hE
      refine VC.body Tryz.func40 rfl Tryz.ntmps40 Tryz.call40 (h.grows_refl) rfl ?_; conv => whnf
      repeat' (first | ((first | refine zs1 ?_ | refine zs2 ?_ | refine zs3 ?_ | refine zs4 ?_ | refine zs5 ?_); conv => whnf) | ((first | apply zi1 | apply zi2 | apply zi3 | apply zi4 | apply zi5) <;> intro _ <;> first | (exfalso; omega) | contradiction | (conv => whnf)) | (refine VCall.intro (vc_from _ _ _ _) ?_; conv => whnf) | (refine VCall.intro (cC _) ?_; conv => whnf))
      all_goals first | exact VOut.same rfl | (exfalso; simp at *; omega)
    · rw [hk] at hE cC
      rw [cond_true] at hE
      refine VC.bodyC 3 Tryz.func40 rfl Tryz.ntmps40 Tryz.call40 (h.grows_refl) rfl ?_
      conv => whnf
      repeat' (first | ((first | refine zs1 ?_ | refine zs2 ?_ | refine zs3 ?_ | refine zs4 ?_ | refine zs5 ?_); conv => whnf) | ((first | apply zi1 | apply zi2 | apply zi3 | apply zi4 | apply zi5) <;> intro _ <;> first | (exfalso; omega) | contradiction | (conv => whnf)) | (refine VCall.intro (vc_from _ _ _ _) ?_; conv => whnf) | (refine VCall.intro (cC _) ?_; conv => whnf) | (refine VCall.intro (cK _) ?_; conv => whnf))
      refine VCode.tell [(1, .fp [DI W, DI H, dints mc]), (3, .ptr (.loc 0) 0), (33, vChunk mc W)] [.flat true [DI 0]] (marks' := []) ?_ ?_
      · conv => whnf
        refine Retell.turn ⟨[1], 2, [(0, [DI W, DI H, dints mc])], []⟩ (TurnOk.mk' _ _ [(0, [DI W, DI H, dints mc])] [] (OutOk.lift _) rfl (by decide) zb zf trivial rfl) zw zm
      · conv => whnf
        refine VCode.iterN H (fun y => some [ints (rowL mc W y)]) (fun y g => CJ h.lift 0 g ∧ ∀ z, z < y → sideB mc W z = true) (fun x g => x = .exit 0 ∧ CJ h.lift 9 g ∧ ∃ z, z < H ∧ sideB mc W z = false) _ (.loc 2) rfl hit rfl rfl ⟨⟨rfl, rfl, rfl⟩, fun z hz => by omega⟩ ?_ ?_ ?_ ?_
        · rintro y g hy hn _
          cases hn
        · rintro y g vs hy hvs ⟨⟨j0, j1, j2⟩, ha⟩ hlp
          cases hvs
          have hA := hr0 y hy
          have hB := hr1 y hy
          have hR := hrl y hy
          have hS : sideB mc W y = decide (at0 mc (y * W) = 1 ∧ at0 mc (y * W + W - 1) = 2) := rfl
          generalize at0 mc (y * W) = a at hA hS
          generalize at0 mc (y * W + W - 1) = b at hB hS
          generalize rowL mc W y = R at hA hB hR
          by_cases hs : a = 1 ∧ b = 2
          · left
            refine ⟨g, VRound.vy' hlp rfl rfl rfl g.grows_refl fun l0 => ?_, ⟨⟨j0, j1, j2⟩, fun z hz => ?_⟩, hlp⟩
            · refine VRound.tell [(1, .fp [DI W, DI H, dints mc]), (3, .ptr (.out (.loc 0)) 0), (34, ints R)] ?_ ?_
              · conv => whnf
                refine Retell.turn ⟨[], 0, [], []⟩ (TurnOk.mk' _ _ [] [] (OutOk.lift _) rfl (by decide) zb trivial trivial rfl) zw zm
              · conv => whnf
                repeat (first | ((first | refine zs1 ?_ | refine zs2 ?_ | refine zs3 ?_ | refine zs4 ?_ | refine zs5 ?_ | refine zs6 [] ?_); conv => whnf))
                refine VBegin.intro (get_out hlp _) rfl ?_
                conv => whnf
                repeat' (first | ((first | refine zs1 ?_ | refine zs2 ?_ | refine zs3 ?_ | refine zs4 ?_ | refine zs5 ?_); conv => whnf) | ((first | apply zi1 | apply zi2 | apply zi3 | apply zi4 | apply zi5) <;> intro _ <;> first | (exfalso; omega) | contradiction | (conv => whnf)) | (refine VAny.ix encI_len 0 (by omega) rfl hA ?_; conv => whnf) | (refine VAny.ix encI_len (W - 1) (by omega) rfl hB ?_; conv => whnf))
                exact RFin.on (outW_get _ _ _ _) (VOut.back (get_out hlp []) rfl)
            · rcases Nat.lt_or_ge z y with h5 | h5
              · exact ha z h5
              · obtain rfl : z = y := by omega
                rw [hS]; exact decide_eq_true hs
          · have n0 : g.get (.loc 0) ≠ none := by rw [j1]; simp
            have n2 : (g.set (.loc 0) (.flat true [DI 9])).get (.loc 2) ≠ none := by rw [Hp.get_set g _ _ _ n0, if_neg (by decide), hlp]; simp
            refine Rnd.stop (.exit 0) rfl hlp (g.set (.loc 0) (.flat true [DI 9])) n2 ?_ ⟨rfl, ⟨j0, ?_, ?_⟩, y, hy, by rw [hS]; exact decide_eq_false hs⟩
            · refine VRound.vy' hlp rfl rfl rfl grows_set2 fun l0 => ?_
              refine VRound.tell [(1, .fp [DI W, DI H, dints mc]), (3, .ptr (.out (.loc 0)) 0), (34, ints R)] ?_ ?_
              · conv => whnf
                refine Retell.turn ⟨[], 0, [], []⟩ (TurnOk.mk' _ _ [] [] (OutOk.lift _) rfl (by decide) zb trivial trivial rfl) zw zm
              · conv => whnf
                repeat (first | ((first | refine zs1 ?_ | refine zs2 ?_ | refine zs3 ?_ | refine zs4 ?_ | refine zs5 ?_ | refine zs6 [] ?_); conv => whnf))
                refine VBegin.intro (get_out hlp _) rfl ?_
                conv => whnf
                repeat' (first | ((first | refine zs1 ?_ | refine zs2 ?_ | refine zs3 ?_ | refine zs4 ?_ | refine zs5 ?_); conv => whnf) | ((first | apply zi1 | apply zi2 | apply zi3 | apply zi4 | apply zi5) <;> intro _ <;> first | (exfalso; omega) | contradiction | (conv => whnf)) | (refine VAny.ix encI_len 0 (by omega) rfl hA ?_; conv => whnf) | (refine VAny.ix encI_len (W - 1) (by omega) rfl hB ?_; conv => whnf) | (refine VMem.st1 rfl rfl rfl (get_outNe (by decide) (get_out j1 _)) rfl ?_; conv => whnf))
                all_goals (
                  refine RFin.off rfl (get_outNe (by decide) (outW_get _ _ _ _)) (VOut.liftS ?_ grows_set2)
                  rw [lift_set n2, lift_set n0]
                  exact outW_one (by decide))
            · rw [Hp.get_set _ _ _ _ n2, if_neg (by decide), Hp.get_set _ _ _ _ n0, if_pos rfl]
            · rw [Hp.get_set _ _ _ _ n2, if_neg (by decide), Hp.get_set _ _ _ _ n0, if_neg (by decide)]; exact j2
        · rintro ⟨go, gl⟩ ⟨⟨j0, j1, j2⟩, ha⟩ hlp
          dsimp only at j0
          subst j0
          have j1 : gl[0]? = some _ := j1
          have j2 : gl[1]? = some _ := j2
          have l0 := (List.getElem?_eq_some_iff.1 j1).1
          have key : ∀ (x : Nat) (A : Blk), x ≠ 2 → (gl.set 2 A)[x]? = gl[x]? := fun x A hx => List.getElem?_set_ne (Ne.symm hx)
          have hE0 : E = 0 := by
            rw [hE]
            have : (List.range H).all (sideB mc W) = true := by
              rw [List.all_eq_true]
              exact fun z hz => ha z (List.mem_range.1 hz)
            rw [this]; rfl
          subst hE0
          refine Told.mk [(3, .ptr (.loc 0) 0)] [.flat true [DI 0]] (marks' := []) ?_ ?_
          · conv => whnf
            refine Retell.turn ⟨[0], gl.length, [], []⟩ (TurnOk.mk' _ _ [] [] (OutOk.lift _) (Nat.ble_eq_true_of_le (by simp)) (by simp) (BTos.flat (blt_of l0) ((key 0 _ (by decide)).trans j1) rfl BTos.nil) trivial trivial rfl) zw (MkTo.drop (show 1 ∉ ([0] : List Nat) by decide) ((key 1 _ (by decide)).trans j2) MkTo.nil)
          · conv => whnf
            repeat' (first | ((first | refine zs1 ?_ | refine zs2 ?_ | refine zs3 ?_ | refine zs4 ?_ | refine zs5 ?_ | refine zs6 [] ?_); conv => whnf) | ((first | apply zi1 | apply zi2 | apply zi3 | apply zi4 | apply zi5) <;> intro _ <;> conv => whnf))
            exact VOut.same rfl
        · rintro x ⟨go, gl⟩ _ ⟨rfl, ⟨j0, j1, j2⟩, z, hz, hb⟩ hlp
          dsimp only at j0
          subst j0
          have j1 : gl[0]? = some _ := j1
          have j2 : gl[1]? = some _ := j2
          have l0 := (List.getElem?_eq_some_iff.1 j1).1
          have key : ∀ (x : Nat) (A : Blk), x ≠ 2 → (gl.set 2 A)[x]? = gl[x]? := fun x A hx => List.getElem?_set_ne (Ne.symm hx)
          have hE0 : E = 9 := by
            rw [hE]
            have : (List.range H).all (sideB mc W) = false := by
              cases hx : (List.range H).all (sideB mc W) with
              | false => rfl
              | true =>
                rw [List.all_eq_true] at hx
                rw [hx z (List.mem_range.2 hz)] at hb; cases hb
            rw [this]; rfl
          subst hE0
          refine Told.mk [(3, .ptr (.loc 0) 0)] [.flat true [DI 9]] (marks' := []) ?_ ?_
          · conv => whnf
            refine Retell.turn ⟨[0], gl.length, [], []⟩ (TurnOk.mk' _ _ [] [] (OutOk.lift _) (Nat.ble_eq_true_of_le (by simp)) (by simp) (BTos.flat (blt_of l0) ((key 0 _ (by decide)).trans j1) rfl BTos.nil) trivial trivial rfl) zw (MkTo.drop (show 1 ∉ ([0] : List Nat) by decide) ((key 1 _ (by decide)).trans j2) MkTo.nil)
          · conv => whnf
            repeat' (first | ((first | refine zs1 ?_ | refine zs2 ?_ | refine zs3 ?_ | refine zs4 ?_ | refine zs5 ?_ | refine zs6 [] ?_); conv => whnf) | ((first | apply zi1 | apply zi2 | apply zi3 | apply zi4 | apply zi5) <;> intro _ <;> conv => whnf))
            exact VOut.same rfl
  · rw [if_neg h0] at hE
    subst hE
    have hm : (0 ≤ mw ∧ mw ≤ 12) → (0 ≤ mh ∧ mh ≤ 12) → 0 ≤ mw * mh ∧ mw * mh ≤ 144 := sz_mul
    refine VC.body Tryz.func40 rfl Tryz.ntmps40 Tryz.call40 (h.grows_refl) rfl ?_; conv => whnf
    repeat' (first | ((first | refine zs1 ?_ | refine zs2 ?_ | refine zs3 ?_ | refine zs4 ?_ | refine zs5 ?_); conv => whnf) | ((first | apply zi1 | apply zi2 | apply zi3 | apply zi4 | apply zi5) <;> intro _ <;> first | (exfalso; omega) | contradiction | (conv => whnf)) | (refine VCall.intro (vc_from _ _ _ _) ?_; conv => whnf) | (refine VCall.intro (cC _) ?_; conv => whnf))
    all_goals first | exact VOut.same rfl | (exfalso; simp at *; omega)
end Go.Proofs.YtajnkenbhmkjaaaGreat

open Go.Vm
open Riv
namespace Go.Vm
theorem wrap_u64 {n : Int} (h : 0 ≤ n ∧ n < 18446744073709551616) : IntKind.u64.wrap n = n := by
  unfold IntKind.wrap
  simp [IntKind.bits, IntKind.signed]
  omega
theorem VArith.u64 {n : Int} {K : Int → Prop} (h : 0 ≤ n ∧ n < 18446744073709551616) (hk : K n) : VArith .u64 n K := VArith.wr (by rw [wrap_u64 h]; exact hk)
theorem VArith.mask {n : Nat} {K : Int → Prop} (h : n < 4294967296) (hk : K n) : VArith .u64 (((BitVec.ofInt IntKind.u64.bits (n : Int) &&& BitVec.ofInt IntKind.u64.bits 4294967295).toNat : Nat) : Int) K := by
  have e : (BitVec.ofInt IntKind.u64.bits (n : Int) &&& BitVec.ofInt IntKind.u64.bits 4294967295).toNat = n := by
    rw [BitVec.toNat_and]
    have e1 : (BitVec.ofInt IntKind.u64.bits 4294967295).toNat = 2 ^ 32 - 1 := by decide
    have e2 : (BitVec.ofInt IntKind.u64.bits (n : Int)).toNat = n := by
      rw [BitVec.toNat_ofInt]
      simp only [IntKind.bits]
      omega
    rw [e1, e2, Nat.and_two_pow_sub_one_eq_mod]
    omega
  rw [e]
  exact VArith.u64 (by omega) hk
theorem shr32 {n : Nat} (h : n < 4294967296) : (n : Int).fdiv (2 ^ (min (32 : Int).toNat IntKind.u64.bits)) = 0 := by
  rw [show (2 : Int) ^ (min (32 : Int).toNat IntKind.u64.bits) = 4294967296 by decide]
  rw [Int.fdiv_eq_ediv_of_nonneg _ (by decide)]
  omega
end Go.Vm
namespace Go.Proofs.YtajnkenbhmkjaaaGreat
set_option maxRecDepth 20000
set_option maxHeartbeats 4000000
abbrev U (n : Int) : V := .s (.int .u64 n)
theorem vc_Mul64 (n : Nat) (hn : n < 4294967296) (h : Hp) : VC Tryz.prog 70 [U 1, U n] h (.tuple [U 0, U n]) h := by
  have e := shr32 hn
  have e1 : Int.fdiv 1 (2 ^ (min (32 : Int).toNat IntKind.u64.bits)) = 0 := by decide
  have e0 : Int.fdiv 0 (2 ^ (min (32 : Int).toNat IntKind.u64.bits)) = 0 := by decide
  refine VC.body Tryz.func70 rfl Tryz.ntmps70 Tryz.call70 (h.grows_refl) rfl ?_; conv => whnf
  repeat' (first | ((first | refine zs1 ?_ | refine zs2 ?_ | refine zs3 ?_ | refine zs4 ?_ | refine zs5 ?_ | refine zs6 [] ?_); conv => whnf) | ((first | apply zi1 | apply zi2 | apply zi3 | apply zi4 | apply zi5) <;> intro _ <;> conv => whnf) | (refine VArith.mask hn ?_; conv => whnf) | (refine VArith.mask (n := 1) (by decide) ?_; simp only [Int.natCast_one]; conv => whnf) | (refine VArith.mask (n := 0) (by decide) ?_; simp only [Int.natCast_zero]; conv => whnf) | (simp only [e, e1, e0, Int.one_mul, Int.zero_mul, Int.zero_add, Int.add_zero]; conv => whnf) | (refine VArith.u64 (by omega) ?_; conv => whnf))
  exact VOut.same rfl
theorem vc_Mul (n : Nat) (hn : n < 4294967296) (h : Hp) : VC Tryz.prog 52 [U 1, U n] h (.tuple [U 0, U n]) h := by
  refine VC.body Tryz.func52 rfl Tryz.ntmps52 Tryz.call52 (h.grows_refl) rfl ?_; conv => whnf
  repeat' (first | ((first | refine zs1 ?_ | refine zs2 ?_ | refine zs3 ?_ | refine zs4 ?_ | refine zs5 ?_ | refine zs6 [] ?_); conv => whnf) | ((first | apply zi1 | apply zi2 | apply zi3 | apply zi4 | apply zi5) <;> intro _ <;> conv => whnf) | (refine VCall.intro (vc_Mul64 n hn _) ?_; conv => whnf))
  exact VOut.same rfl
end Go.Proofs.YtajnkenbhmkjaaaGreat
namespace Go.Vm
theorem flatI (l : List Int) : l.flatMap encI = l.map DI := by
  induction l with
  | nil => rfl
  | cons a l ih => rw [List.flatMap_cons, ih]; rfl
theorem VOut.own1 {h : Hp} {loc : List Blk} {esz n : Nat} {ds : List D} (j L : Nat) (hL : Nat.ble loc.length L = true) (hj : loc[j]? = some (.flat true ds)) : VOut h ⟨h.lift, loc⟩ (.gl (.loc j) esz n) (.gl h.fresh esz n) (h.push (.flat true ds)) := by
  refine VOut.upd [] [.flat true ds] [j] L hL (by intro p hp; cases hp) (by simp) rfl ?_ ?_ rfl
  · intro k b hk
    cases k with
    | zero => rw [List.getElem?_cons_zero, Option.some.injEq] at hk; subst hk; exact ⟨j, rfl, hj⟩
    | succ k => simp at hk
  · intro σ x hx
    have : (V.gl h.fresh esz n).ren (backR h.loc.length [j] L) = .gl (.loc j) esz n := by simp [V.ren, backR, Hp.fresh]
    rw [this]; exact hx
def repL (a z : Int) (n k : Nat) : List Int := List.replicate k a ++ List.replicate (n - k) z
theorem repL_len (a z : Int) {n k : Nat} (h : k ≤ n) : (repL a z n k).length = n := by unfold repL; simp; omega
theorem VMem.copyRep {P : Program} {t ty : TypeId} {e bytes : Nat} {zero : List V} {s_ : Nat} {a_ : Bool} {z_ : V} {h : Hp} {i : Id} {a z : Int} {n k o1 n1 n2 : Nat} {K : V → Hp → Prop} (hTt : tiOf P t = some ⟨.slice e 1 bytes zero, s_, a_, z_⟩)
    (hb : h.get i = some (.flat true ((repL a z n k).flatMap encI))) (hk : k ≤ n) (h1 : o1 = k) (h2 : n1 = n - k) (h3 : n2 = k)
    (hK : K (.s (.int .i64 (min k (n - k) : Nat))) (h.set i (.flat true ((repL a z n (k + min k (n - k))).flatMap encI)))) : VMem P (opCopy #[t, t] ty) [.slice i o1 1 n1 none, .gl i 1 n2] h K := by
  subst h1 h2 h3
  refine VMem.intro (does_copy (n := n2) (m := min n2 (n - n2)) (news := ((List.replicate n2 a).map DI).map D.v) (l := ((repL a z n n2).flatMap encI).map D.v) (tiOf_ok P) hTt hb rfl ?_ ?_ rfl ?_) hK
  · simp only [SegOf]
    refine ⟨trivial, trivial, _, true, _, hb, rfl, by rw [List.length_map, flat_len encI_len, repL_len a z hk]; omega, ?_⟩
    rw [flatI, ← List.map_take, ← List.map_take, repL, List.take_append_of_le_length (by simp), List.take_of_length_le (by simp)]
  · rw [List.length_map, flat_len encI_len, repL_len a z hk]; omega
  · simp only [Blk.row, flatI, ← List.map_take, ← List.map_drop]
    rw [← List.map_append, ← List.map_append, ← List.map_append, ← List.map_append]
    congr 3
    rw [Nat.mul_one]
    generalize hm : min n2 (n - n2) = m
    unfold repL
    rw [List.take_append_of_le_length (by simp), List.take_of_length_le (by simp), List.take_replicate, List.drop_append, List.drop_of_length_le (by simp), List.nil_append, List.length_replicate, List.drop_replicate, Nat.min_eq_left (by omega), ← List.replicate_append_replicate]
    congr 2
    rw [show n - (n2 + m) = n - n2 - (n2 + m - n2) by omega]
theorem VMem.copyOne {P : Program} {t ty : TypeId} {e bytes : Nat} {zero : List V} {s_ : Nat} {a_ : Bool} {z_ : V} {h : Hp} {i : Id} {a z : Int} {n : Nat} {K : V → Hp → Prop} (hTt : tiOf P t = some ⟨.slice e 1 bytes zero, s_, a_, z_⟩)
    (hb : h.get i = some (.flat true ((List.replicate n z).flatMap encI)))
    (hK : K (.s (.int .i64 (min 1 n : Nat))) (h.set i (.flat true ((repL a z n (min 1 n)).flatMap encI)))) : VMem P (opCopy #[t, t] ty) [.gl i 1 n, .fs 1 1 [DI a]] h K := by
  refine VMem.intro (does_copy_gl (k := 1) (m := min 1 n) (news := ([a].map DI).map D.v) (l := ((List.replicate n z).flatMap encI).map D.v) (tiOf_ok P) hTt hb rfl ?_ ?_ rfl ?_) hK
  · simp only [SegOf]
    exact ⟨trivial, trivial, by simp, rfl⟩
  · rw [List.length_map, flat_len encI_len, List.length_replicate]; omega
  · simp only [Blk.row, flatI, ← List.map_take, ← List.map_drop]
    rw [← List.map_append, ← List.map_append]
    congr 3
    rw [Nat.mul_one]
    unfold repL
    cases n with
    | zero => rfl
    | succ n =>
      rw [show min 1 (n + 1) = 1 by omega, List.drop_replicate]
      rfl
end Go.Vm
namespace Go.Proofs.YtajnkenbhmkjaaaGreat
set_option maxRecDepth 20000
set_option maxHeartbeats 4000000
theorem vc_Repeat (a : Int) (n : Nat) (h : Hp) (hn : n ≤ 1000000) : VC Tryz.prog 30 [ints [a], I n] h (.gl h.fresh 1 n) (h.push (.flat true ((List.replicate n a).flatMap encI))) := by
  show VC Tryz.prog 30 [.fs 1 1 [DI a], I n] h _ _
  refine VC.body Tryz.func30 rfl Tryz.ntmps30 Tryz.call30 (h.grows_push _) rfl ?_
  conv => whnf
  repeat' (first | ((first | refine zs1 ?_ | refine zs2 ?_ | refine zs3 ?_ | refine zs4 ?_ | refine zs5 ?_); conv => whnf) | ((first | apply zi1 | apply zi2 | apply zi3 | apply zi4 | apply zi5) <;> intro _ <;> first | (exfalso; omega) | contradiction | (conv => whnf)) | (refine VArith.u64 (by omega) ?_; conv => whnf) | (refine VCall.intro (vc_Mul n (by omega) _) ?_; conv => whnf) | (refine VMem.make (0 : Int) encI_len rfl rfl rfl rfl rfl rfl (by omega) ?_; conv => whnf) | (refine VMem.copyOne (a := a) (z := 0) (n := n) rfl rfl ?_; conv => whnf))
  refine VCode.lp (outer := h.lift) (marks := []) (fun k : Nat => [(7, .gl (.loc 0) 1 n), (8, I k)]) (fun k => [.flat true ((repL a 0 n k).flatMap encI)]) (fun k => k ≤ n ∧ (k = 0 → n = 0)) (fun k => n - k) (min 1 n) ⟨by omega, by omega⟩ ?_ ?_
  · generalize hm : min 1 n = m
    conv => whnf
    refine Retell.turn ⟨[0], 1, [], []⟩ (TurnOk.mk' _ _ [] [] (OutOk.lift _) rfl (by decide) zb trivial trivial rfl) zw zm
  · rintro k ⟨h1, h2⟩
    conv => whnf
    repeat (first | ((first | refine zs1 ?_ | refine zs2 ?_ | refine zs3 ?_ | refine zs4 ?_ | refine zs5 ?_ | refine zs6 [] ?_); conv => whnf))
    refine VIte.dec (fun h3 => ?_) (fun h3 => ?_)
    · conv => whnf
      refine zs6 [] ?_
      conv => whnf
      repeat (first | ((first | refine zs1 ?_ | refine zs2 ?_ | refine zs3 ?_ | refine zs4 ?_ | refine zs5 ?_ | refine zs6 [] ?_); conv => whnf))
      refine VAny.intro (v := .slice (.loc 0) (k * 1) 1 (n - k) none) ⟨by omega, n - k, by omega, .inr ⟨by omega, rfl⟩⟩ ?_
      conv => whnf
      repeat (first | ((first | refine zs1 ?_ | refine zs2 ?_ | refine zs3 ?_ | refine zs4 ?_ | refine zs5 ?_ | refine zs6 [] ?_); conv => whnf))
      refine VAny.intro (v := .gl (.loc 0) 1 k) ⟨by omega, k, by omega, .inl ⟨rfl, rfl⟩⟩ ?_
      conv => whnf
      repeat (first | ((first | refine zs1 ?_ | refine zs2 ?_ | refine zs3 ?_ | refine zs4 ?_ | refine zs5 ?_ | refine zs6 [] ?_); conv => whnf))
      refine VMem.copyRep (a := a) (z := 0) (n := n) (k := k) rfl rfl h1 (by omega) rfl rfl ?_
      generalize hm : min k (n - k) = m
      conv => whnf
      repeat (first | ((first | refine zs1 ?_ | refine zs2 ?_ | refine zs3 ?_ | refine zs4 ?_ | refine zs5 ?_ | refine zs6 [] ?_); conv => whnf))
      refine LEnd.intro (k + m) ⟨by omega, by omega⟩ (by omega) ?_
      conv => whnf
      refine Retell.turn ⟨[0], 1, [], []⟩ (TurnOk.mk' _ _ [] [] (OutOk.lift _) rfl (by decide) zb trivial trivial rfl) zw zm
    · obtain rfl : k = n := by omega
      rw [show repL a 0 k k = List.replicate k a by unfold repL; rw [Nat.sub_self]; simp]
      conv => whnf
      repeat' (first | ((first | refine zs1 ?_ | refine zs2 ?_ | refine zs3 ?_ | refine zs4 ?_ | refine zs5 ?_ | refine zs6 [] ?_); conv => whnf) | ((first | apply zi1 | apply zi2 | apply zi3 | apply zi4 | apply zi5) <;> intro _ <;> conv => whnf))
      exact VOut.own1 0 1 rfl rfl
end Go.Proofs.YtajnkenbhmkjaaaGreat

open Go.Vm
open Riv
namespace Go.Proofs.YtajnkenbhmkjaaaGreat
set_option maxRecDepth 20000
set_option maxHeartbeats 4000000

/-! ### Lists that are written place by place -/
theorem at0_get {l : List Int} {n : Nat} (hn : n < l.length) : l[n]? = some (at0 l n) := by
  unfold at0; rw [List.getD_eq_getElem?_getD, List.getElem?_eq_getElem hn]; rfl
def t0k (c : List Int) (s : Int) (k : Nat) : List Int := t0 (c.take k) s ++ List.replicate (c.length - k) (-1)
theorem t0_len (c : List Int) (s : Int) : (t0 c s).length = c.length := by unfold t0; rw [List.length_map]
theorem t0k_len {c : List Int} {s : Int} {k : Nat} (h : k ≤ c.length) : (t0k c s k).length = c.length := by
  unfold t0k; rw [List.length_append, t0_len, List.length_take, List.length_replicate]; omega
theorem t0k_zero (c : List Int) (s : Int) : t0k c s 0 = List.replicate c.length (-1) := rfl
theorem t0k_all (c : List Int) (s : Int) : t0k c s c.length = t0 c s := by
  unfold t0k; rw [List.take_of_length_le (Nat.le_refl _), Nat.sub_self]; simp
theorem t0k_step {c : List Int} {s x : Int} {k : Nat} (h : c[k]? = some x) : t0k c s (k + 1) = if x = s then (t0k c s k).set k 0 else t0k c s k := by
  obtain ⟨hlt, rfl⟩ := List.getElem?_eq_some_iff.1 h
  have e : List.replicate (c.length - k) (-1 : Int) = -1 :: List.replicate (c.length - (k + 1)) (-1) := by
    rw [show c.length - k = (c.length - (k + 1)) + 1 by omega]; rfl
  have hl : (t0 (c.take k) s).length = k := by rw [t0_len, List.length_take]; omega
  have e2 : t0 (c.take (k + 1)) s = t0 (c.take k) s ++ [if c[k] = s then 0 else -1] := by
    unfold t0
    rw [List.take_add_one, List.getElem?_eq_getElem hlt, List.map_append]; rfl
  unfold t0k
  rw [e2, e]
  split
  · rw [List.set_append_right _ _ (by omega), hl, Nat.sub_self, List.set_cons_zero]; simp
  · simp
theorem putB_len (c : List Int) (st : Int) (T : List Int) (k : Nat) : (putB c st T k).length = T.length := by
  unfold putB; split <;> simp
theorem nbF_len {f : List Int → Nat → List Int} (hf : ∀ T k, (f T k).length = T.length) (W L n : Nat) (T : List Int) (k : Nat) : (nbF f W L n T k).length = T.length := by
  unfold nbF
  generalize (List.range k).filterMap (nbO W L n) = l
  induction l generalizing T with
  | nil => rfl
  | cons a l ih => rw [List.foldl_cons, ih, hf]
theorem fold_len {f : List Int → Nat → List Int} (hf : ∀ T k, (f T k).length = T.length) : ∀ (l : List Nat) (T : List Int), (l.foldl f T).length = T.length
  | [], _ => rfl
  | a :: l, T => by rw [List.foldl_cons, fold_len hf l, hf]
theorem cellB_len (c : List Int) (W : Nat) (s st : Int) (T : List Int) (n : Nat) : (cellB c W s st T n).length = T.length := by
  unfold cellB
  split
  · exact fold_len (putB_len c st) _ T
  · rfl
theorem stepB_len (c : List Int) (W : Nat) (s : Int) (T : List Int) (st : Nat) : (stepB c W s T st).length = T.length := fold_len (cellB_len c W s st) _ T
def bfsK (c : List Int) (W : Nat) (s : Int) (k : Nat) : List Int := (List.range k).foldl (stepB c W s) (t0 c s)
theorem bfsK_len (c : List Int) (W : Nat) (s : Int) (k : Nat) : (bfsK c W s k).length = c.length := by unfold bfsK; rw [fold_len (stepB_len c W s), t0_len]
theorem bfsK_step (c : List Int) (W : Nat) (s : Int) (k : Nat) : bfsK c W s (k + 1) = stepB c W s (bfsK c W s k) k := by unfold bfsK; rw [List.range_succ, List.foldl_append]; rfl
def stepK (c : List Int) (W : Nat) (s : Int) (T : List Int) (st k : Nat) : List Int := (List.range k).foldl (cellB c W s st) T
theorem stepK_len (c : List Int) (W : Nat) (s : Int) (T : List Int) (st k : Nat) : (stepK c W s T st k).length = T.length := fold_len (cellB_len c W s st) _ T
theorem stepK_step (c : List Int) (W : Nat) (s : Int) (T : List Int) (st k : Nat) : stepK c W s T st (k + 1) = cellB c W s st (stepK c W s T st k) k := by unfold stepK; rw [List.range_succ, List.foldl_append]; rfl
structure TJ (o : Vm.Id → Option Blk) (L : Nat) (T : List Int) (g : Hp) : Prop where
  o : g.outer = o
  b0 : g.get (.loc 0) = some (.cells true [.gl (.loc 1) 1 L])
  b1 : g.get (.loc 1) = some (.flat true (T.flatMap encI))
  b2 : g.get (.loc 2) = some .mark
theorem vc_table {W H : Nat} (m : Mp) (s : Int) (h : Hp) (o : MOk W H m.c) (hw : m.w = W) (hs : s = 1 ∨ s = 2) : VC Tryz.prog 63 [vSd m s] h (ints (bfs m.c W s)) h := by
  have hWb := o.w
  have hHb := o.h
  have hL := o.len
  have hlen : m.c.length ≤ 144 := by
    rw [hL]
    exact Nat.le_trans (Nat.mul_le_mul hWb.2 hHb.2) (by decide)
  obtain ⟨R, hR⟩ : ∃ R, R = bfs m.c W s := ⟨_, rfl⟩
  have hRl : R.length = m.c.length := by rw [hR]; exact bfsK_len _ _ _ _
  rw [← hR]
  have cT := fun k x hk h => vc_through m s x k h hk
  have cB := fun n h => vc_beside m n h
  have itB := fun n hn => iter_beside m W n (by omega) hw hn (by omega)
  obtain ⟨mw, mh, c⟩ := m
  dsimp only at hw o hL hlen hR hRl cT itB
  subst hw
  show VC Tryz.prog 63 [.agg [I W, I mh, ints c, I s]] h (ints R) h
  obtain ⟨mapD, hmapD⟩ : ∃ l, l = [DI W, DI mh, dints c, DI s] := ⟨_, rfl⟩
  refine VC.bodyC 2 Tryz.func63 rfl Tryz.ntmps63 Tryz.call63 (h.grows_refl) rfl ?_
  conv => whnf
  repeat' (first | ((first | refine zs1 ?_ | refine zs2 ?_ | refine zs3 ?_ | refine zs4 ?_ | refine zs5 ?_); conv => whnf) | ((first | apply zi1 | apply zi2 | apply zi3 | apply zi4 | apply zi5) <;> intro _ <;> conv => whnf))
  refine VCut.at' (outer := h.lift) (marks := []) 99 [(1, .fp [DI W, DI mh, dints c, DI s]), (3, .func (.func 79) [.agg [I W, I mh, ints c, I s]] [])] [] ?_ ?_
  · conv => whnf
    refine Retell.turn ⟨[], 1, [(0, [DI W, DI mh, dints c, DI s])], []⟩ (TurnOk.mk' _ _ [(0, [DI W, DI mh, dints c, DI s])] [] (OutOk.lift _) rfl (by decide) zb zf trivial rfl) zw zm
  conv => whnf
  repeat' (first | ((first | refine zs1 ?_ | refine zs2 ?_ | refine zs3 ?_ | refine zs4 ?_ | refine zs5 ?_); conv => whnf) | ((first | apply zi1 | apply zi2 | apply zi3 | apply zi4 | apply zi5) <;> intro _ <;> conv => whnf))
  refine VCall.intro (VC.give (args' := [ints [-1], I c.length]) (loc' := [.dead]) [(0, [DI (-1)])] [] (OutOk.lift _) zb zf (by exact FmAll.nil) rfl zw (vc_Repeat (-1) c.length _ (by omega))) ?_
  conv => whnf
  repeat' (first | ((first | refine zs1 ?_ | refine zs2 ?_ | refine zs3 ?_ | refine zs4 ?_ | refine zs5 ?_); conv => whnf) | ((first | apply zi1 | apply zi2 | apply zi3 | apply zi4 | apply zi5) <;> intro _ <;> conv => whnf))
  refine VCode.lpC (outer := h.lift) (marks := []) 99 (fun k : Nat => [(1, .fp [DI W, DI mh, dints c, DI s]), (3, .func (.func 79) [.agg [I W, I mh, ints c, I s]] []), (4, .ptr (.loc 0) 0), (20, ints c), (21, I c.length), (22, I k)]) (fun k => [.cells true [.gl (.loc 1) 1 c.length], .flat true ((t0k c s k).flatMap encI)]) (fun k => k ≤ c.length) (fun k => c.length - k) 0 (Nat.zero_le _) ?_ ?_
  · rw [t0k_zero]
    conv => whnf
    refine Retell.turn ⟨[2,1], 3, [], []⟩ (TurnOk.mk' _ _ [] [] (OutOk.lift _) rfl (by decide) zb trivial trivial rfl) zw zm
  · rintro k hk
    rcases Nat.lt_or_ge k c.length with h3 | h3
    · have hx := at0_get h3
      have hst := t0k_step (s := s) hx
      have hkl : (t0k c s k)[k]? = some (at0 (t0k c s k) k) := at0_get (by rw [t0k_len hk]; exact h3)
      generalize at0 c k = x at hx hst
      generalize t0k c s k = T at hst hkl
      by_cases hxs : x = s
      · rw [if_pos hxs] at hst
        conv => whnf
        repeat' (first | ((first | refine zs1 ?_ | refine zs2 ?_ | refine zs3 ?_ | refine zs4 ?_ | refine zs5 ?_); conv => whnf) | ((first | apply zi1 | apply zi2 | apply zi3 | apply zi4 | apply zi5) <;> intro _ <;> first | (exfalso; omega) | contradiction | (conv => whnf)) | (refine VAny.ix encI_len k rfl rfl hx ?_; conv => whnf) | (refine VMem.setRec encI_len k 0 (0 : Int) rfl rfl rfl hkl (by decide) rfl (by simp) ?_; conv => whnf))
        refine LEnd.intro (k + 1) (by omega) (by omega) ?_
        rw [hst]
        conv => whnf
        refine Retell.turn ⟨[0,1], 2, [], []⟩ (TurnOk.mk' _ _ [] [] (OutOk.lift _) rfl (by decide) zb trivial trivial rfl) zw zm
      · rw [if_neg hxs] at hst
        conv => whnf
        repeat' (first | ((first | refine zs1 ?_ | refine zs2 ?_ | refine zs3 ?_ | refine zs4 ?_ | refine zs5 ?_); conv => whnf) | ((first | apply zi1 | apply zi2 | apply zi3 | apply zi4 | apply zi5) <;> intro _ <;> first | (exfalso; omega) | contradiction | (conv => whnf)) | (refine VAny.ix encI_len k rfl rfl hx ?_; conv => whnf))
        refine LEnd.intro (k + 1) (by omega) (by omega) ?_
        rw [hst]
        conv => whnf
        refine Retell.turn ⟨[0,1], 2, [], []⟩ (TurnOk.mk' _ _ [] [] (OutOk.lift _) rfl (by decide) zb trivial trivial rfl) zw zm
    · obtain rfl : k = c.length := by omega
      rw [t0k_all]
      conv => whnf
      repeat' (first | ((first | refine zs1 ?_ | refine zs2 ?_ | refine zs3 ?_ | refine zs4 ?_ | refine zs5 ?_); conv => whnf) | ((first | apply zi1 | apply zi2 | apply zi3 | apply zi4 | apply zi5) <;> intro _ <;> first | (exfalso; omega) | contradiction | (conv => whnf)))
      refine VCode.lpC (outer := h.lift) (marks := []) 99 (fun st : Nat => [(1, .fp [DI W, DI mh, dints c, DI s]), (3, .func (.func 79) [.agg [I W, I mh, ints c, I s]] []), (4, .ptr (.loc 0) 0), (38, I c.length), (39, I st)]) (fun st => [.cells true [.gl (.loc 1) 1 c.length], .flat true ((bfsK c W s st).flatMap encI)]) (fun st => st ≤ c.length) (fun st => c.length - st) 0 (Nat.zero_le _) ?_ ?_
      · rw [show bfsK c W s 0 = t0 c s from rfl]
        conv => whnf
        refine Retell.turn ⟨[0,1], 2, [], []⟩ (TurnOk.mk' _ _ [] [] (OutOk.lift _) rfl (by decide) zb trivial trivial rfl) zw zm
      · rintro st hst
        rcases Nat.lt_or_ge st c.length with h5 | h5
        · have hB := bfsK_step c W s st
          have hBl := bfsK_len c W s st
          have hst2 : stepB c W s (bfsK c W s st) st = stepK c W s (bfsK c W s st) st c.length := rfl
          rw [hst2] at hB
          have hSl := fun n => stepK_len c W s (bfsK c W s st) st n
          have hSt := fun n => stepK_step c W s (bfsK c W s st) st n
          have hS0 : stepK c W s (bfsK c W s st) st 0 = bfsK c W s st := rfl
          rw [← hS0]
          generalize bfsK c W s st = T0 at *
          conv => whnf
          repeat' (first | ((first | refine zs1 ?_ | refine zs2 ?_ | refine zs3 ?_ | refine zs4 ?_ | refine zs5 ?_); conv => whnf) | ((first | apply zi1 | apply zi2 | apply zi3 | apply zi4 | apply zi5) <;> intro _ <;> first | (exfalso; omega) | contradiction | (conv => whnf)))
          refine VCode.lpC (outer := h.lift) (marks := []) 99 (fun n : Nat => [(1, .fp [DI W, DI mh, dints c, DI s]), (3, .func (.func 79) [.agg [I W, I mh, ints c, I s]] []), (4, .ptr (.loc 0) 0), (38, I c.length), (39, I st), (7, .fp [DI st]), (45, I c.length), (46, I n)]) (fun n => [.cells true [.gl (.loc 1) 1 c.length], .flat true ((stepK c W s T0 st n).flatMap encI)]) (fun n => n ≤ c.length) (fun n => c.length - n) 0 (Nat.zero_le _) ?_ ?_
          · generalize stepK c W s T0 st 0 = T
            conv => whnf
            refine Retell.turn ⟨[0,1], 3, [(2, [DI st])], []⟩ (TurnOk.mk' _ _ [(2, [DI st])] [] (OutOk.lift _) rfl (by decide) zb zf trivial rfl) zw zm
          · rintro n hn
            rcases Nat.lt_or_ge n c.length with h6 | h6
            · have hx := at0_get h6
              have hSn := hSt n
              have hTl := hSl n
              rw [hBl] at hTl
              generalize stepK c W s T0 st n = T at hSn hTl
              have ha : T[n]? = some (at0 T n) := at0_get (by omega)
              have cTn := cT n _ hx
              unfold cellB at hSn
              obtain ⟨x, hxe⟩ : ∃ x, x = at0 c n := ⟨_, rfl⟩
              obtain ⟨a, hae⟩ : ∃ a, a = at0 T n := ⟨_, rfl⟩
              rw [← hxe] at hx cTn
              rw [← hae] at ha
              have hthr : Thr c s n ↔ x = 0 ∨ x = s := by unfold Thr; rw [← hxe]
              by_cases hcond : at0 T n = st ∧ Thr c s n
              · rw [if_pos hcond] at hSn
                rw [decide_eq_true (hthr.1 hcond.2)] at cTn
                have hast : a = st := by rw [hae]; exact hcond.1
                clear hcond hthr hxe hae
                conv => whnf
                repeat' (first | ((first | refine zs1 ?_ | refine zs2 ?_ | refine zs3 ?_ | refine zs4 ?_ | refine zs5 ?_); conv => whnf) | ((first | apply zi1 | apply zi2 | apply zi3 | apply zi4 | apply zi5) <;> intro _ <;> conv => whnf))
                all_goals try (exfalso; omega)
                refine zs6 [] ?_
                conv => whnf
                repeat' (first | ((first | refine zs1 ?_ | refine zs2 ?_ | refine zs3 ?_ | refine zs4 ?_ | refine zs5 ?_); conv => whnf) | ((first | apply zi1 | apply zi2 | apply zi3 | apply zi4 | apply zi5) <;> intro _ <;> first | (exfalso; omega) | contradiction | (conv => whnf)) | (refine VLd.recc encI_len n 0 rfl rfl rfl ha (by decide) rfl (by simp) ?_; conv => whnf) | (refine VCall.intro (cTn _) ?_; conv => whnf) | (refine VCall.intro (cB n _) ?_; conv => whnf))
                refine VCode.tell [(1, .fp [DI W, DI mh, dints c, DI s]), (3, .func (.func 79) [.agg [I W, I mh, ints c, I s]] []), (4, .ptr (.loc 0) 0), (38, I c.length), (39, I st), (7, .fp [DI st]), (45, I c.length), (46, I n), (64, vBes ⟨W, mh, c⟩ n)] [.cells true [.gl (.loc 1) 1 c.length], .flat true (T.flatMap encI)] (marks' := []) ?_ ?_
                · conv => whnf
                  refine Retell.turn ⟨[0,1], 2, [], []⟩ (TurnOk.mk' _ _ [] [] (OutOk.lift _) rfl (by decide) zb trivial trivial rfl) zw zm
                · conv => whnf
                  refine VCode.iterS 4 (nbY W c.length n) (fun k g => TJ h.lift c.length (nbF (putB c st) W c.length n T k) g) _ (.loc 3) rfl (itB n h6) rfl rfl ⟨rfl, rfl, rfl, rfl⟩ ?_ ?_ ?_
                  · rintro k g hk hy hJ
                    rw [nbF_none (nbY_none hy)]; exact hJ
                  · rintro k g vs hk hy ⟨j0, j1, j2, j3⟩ hlp
                    obtain ⟨q, hq, rfl⟩ := nbY_some hy
                    rw [nbF_some hq]
                    have hqL := ((nbs_iff (by omega) hL h6).1 (nbO_mem hk hq)).1
                    have hUl := nbF_len (putB_len c st) W c.length n T k
                    rw [hTl] at hUl
                    generalize nbF (putB c st) W c.length n T k = U at j2 hUl
                    have hb : U[q]? = some (at0 U q) := at0_get (by omega)
                    have hy := at0_get hqL
                    unfold putB
                    obtain ⟨y, hye⟩ : ∃ y, y = at0 c q := ⟨_, rfl⟩
                    obtain ⟨b, hbe⟩ : ∃ b, b = at0 U q := ⟨_, rfl⟩
                    rw [← hye] at hy
                    rw [← hbe] at hb
                    have hopn : Opn c q ↔ y = 0 ∨ y = 3 := by unfold Opn; rw [← hye]
                    by_cases hput : at0 U q = -1 ∧ Opn c q
                    · rw [if_pos hput]
                      have h8 : b = -1 := by rw [hbe]; exact hput.1
                      have h9 := hopn.1 hput.2
                      clear hput hopn hye hbe
                      have n1 : g.get (.loc 1) ≠ none := by rw [j2]; simp
                      refine ⟨g.set (.loc 1) (.flat true ((U.set q ((st : Int) + 1)).flatMap encI)), ?_, ⟨j0, ?_, ?_, ?_⟩, ?_⟩
                      · refine VRound.vy' hlp rfl rfl rfl (Hp.grows_set _ _ _) fun l0 => ?_
                        refine VRound.tell [(1, .fp [DI W, DI mh, dints c, DI s]), (4, .ptr (.out (.loc 0)) 0), (7, .fp [DI st]), (65, I q)] ?_ ?_
                        · conv => whnf
                          refine Retell.turn ⟨[], 0, [], []⟩ (TurnOk.mk' _ _ [] [] (OutOk.lift _) rfl (by decide) zb trivial trivial rfl) zw zm
                        · conv => whnf
                          repeat (first | ((first | refine zs1 ?_ | refine zs2 ?_ | refine zs3 ?_ | refine zs4 ?_ | refine zs5 ?_ | refine zs6 [] ?_); conv => whnf))
                          refine VBegin.intro (get_out hlp _) rfl ?_
                          conv => whnf
                          repeat' (first | ((first | refine zs1 ?_ | refine zs2 ?_ | refine zs3 ?_ | refine zs4 ?_ | refine zs5 ?_); conv => whnf) | ((first | apply zi1 | apply zi2 | apply zi3 | apply zi4 | apply zi5) <;> intro _ <;> first | (exfalso; omega) | contradiction | (conv => whnf)) | (refine VLd.cell rfl rfl (get_setO (by decide) j1 _) rfl ?_; conv => whnf) | (refine VLd.recc encI_len q 0 rfl rfl (get_setO (by decide) j2 _) hb (by decide) rfl (by simp) ?_; conv => whnf) | (refine VAny.ix encI_len q rfl rfl hy ?_; conv => whnf) | (refine VMem.setRec encI_len q 0 ((st : Int) + 1) rfl rfl (get_setO (by decide) j2 _) hb (by decide) rfl (by simp) ?_; conv => whnf))
                          all_goals (
                            refine RFin.on (get_outNe (by decide) (outW_get _ _ _ _)) (VOut.liftS ?_ (Hp.grows_set _ _ _))
                            rw [lift_set n1]
                            exact outer_fix1 (get_out hlp []) (by decide))
                      · rw [Hp.get_set _ _ _ _ n1, if_neg (by decide)]; exact j1
                      · rw [Hp.get_set _ _ _ _ n1, if_pos rfl]
                      · rw [Hp.get_set _ _ _ _ n1, if_neg (by decide)]; exact j3
                      · rw [Hp.get_set _ _ _ _ n1, if_neg (by decide)]; exact hlp
                    · rw [if_neg hput]
                      have h8 : ¬ (b = -1 ∧ (y = 0 ∨ y = 3)) := fun hh => hput ⟨by rw [← hbe]; exact hh.1, hopn.2 hh.2⟩
                      clear hput hopn hye hbe
                      refine ⟨g, ?_, ⟨j0, j1, j2, j3⟩, hlp⟩
                      · refine VRound.vy' hlp rfl rfl rfl g.grows_refl fun l0 => ?_
                        refine VRound.tell [(1, .fp [DI W, DI mh, dints c, DI s]), (4, .ptr (.out (.loc 0)) 0), (7, .fp [DI st]), (65, I q)] ?_ ?_
                        · conv => whnf
                          refine Retell.turn ⟨[], 0, [], []⟩ (TurnOk.mk' _ _ [] [] (OutOk.lift _) rfl (by decide) zb trivial trivial rfl) zw zm
                        · conv => whnf
                          repeat (first | ((first | refine zs1 ?_ | refine zs2 ?_ | refine zs3 ?_ | refine zs4 ?_ | refine zs5 ?_ | refine zs6 [] ?_); conv => whnf))
                          refine VBegin.intro (get_out hlp _) rfl ?_
                          conv => whnf
                          repeat' (first | ((first | refine zs1 ?_ | refine zs2 ?_ | refine zs3 ?_ | refine zs4 ?_ | refine zs5 ?_); conv => whnf) | ((first | apply zi1 | apply zi2 | apply zi3 | apply zi4 | apply zi5) <;> intro _ <;> first | (exfalso; omega) | contradiction | (conv => whnf)) | (refine VLd.cell rfl rfl (get_setO (by decide) j1 _) rfl ?_; conv => whnf) | (refine VLd.recc encI_len q 0 rfl rfl (get_setO (by decide) j2 _) hb (by decide) rfl (by simp) ?_; conv => whnf) | (refine VAny.ix encI_len q rfl rfl hy ?_; conv => whnf))
                          all_goals first
                            | exact RFin.on (outW_get _ _ _ _) (VOut.back (get_out hlp []) rfl)
                            | (exfalso; omega)
                  · rintro ⟨go, gl⟩ ⟨j0, j1, j2, j3⟩ hlp
                    dsimp only at j0
                    subst j0
                    rw [nbF_all, ← hSn] at j2
                    obtain ⟨U, hU⟩ : ∃ U, U = stepK c W s T0 st (n + 1) := ⟨_, rfl⟩
                    rw [← hU] at j2
                    have j1 : gl[0]? = some _ := j1
                    have j2 : gl[1]? = some _ := j2
                    have j3 : gl[2]? = some _ := j3
                    have l0 := (List.getElem?_eq_some_iff.1 j1).1
                    have l1 := (List.getElem?_eq_some_iff.1 j2).1
                    have key : ∀ (x : Nat) (A : Blk), x ≠ 3 → (gl.set 3 A)[x]? = gl[x]? := fun x A hx => List.getElem?_set_ne (Ne.symm hx)
                    refine Told.mk [(1, .fp [DI W, DI mh, dints c, DI s]), (3, .func (.func 79) [.agg [I W, I mh, ints c, I s]] []), (4, .ptr (.loc 0) 0), (38, I c.length), (39, I st), (7, .fp [DI st]), (45, I c.length), (46, I n)] [.cells true [.gl (.loc 1) 1 c.length], .flat true (U.flatMap encI)] (marks' := []) ?_ ?_
                    · conv => whnf
                      refine Retell.turn ⟨[0, 1], gl.length, [], []⟩ (TurnOk.mk' _ _ [] [] (OutOk.lift _) (Nat.ble_eq_true_of_le (by simp)) (by simp) (BTos.cells (blt_of l0) ((key 0 _ (by decide)).trans j1) rfl zw (BTos.flat (blt_of l1) ((key 1 _ (by decide)).trans j2) rfl BTos.nil)) trivial trivial rfl) zw (MkTo.drop (show 2 ∉ ([0, 1] : List Nat) by decide) ((key 2 _ (by decide)).trans j3) MkTo.nil)
                    · conv => whnf
                      repeat' (first | ((first | refine zs1 ?_ | refine zs2 ?_ | refine zs3 ?_ | refine zs4 ?_ | refine zs5 ?_ | refine zs6 [] ?_); conv => whnf) | ((first | apply zi1 | apply zi2 | apply zi3 | apply zi4 | apply zi5) <;> intro _ <;> conv => whnf))
                      refine LEnd.intro (n + 1) (by omega) (by omega) ?_
                      rw [← hU]
                      conv => whnf
                      refine Retell.turn ⟨[0,1], 2, [], []⟩ (TurnOk.mk' _ _ [] [] (OutOk.lift _) rfl (by decide) zb trivial trivial rfl) zw zm
              · rw [if_neg hcond] at hSn
                have hno : ¬ (a = st ∧ (x = 0 ∨ x = s)) := fun hh => hcond ⟨by rw [← hae]; exact hh.1, hthr.2 hh.2⟩
                clear hcond hxe hae
                by_cases hth : x = 0 ∨ x = s
                · rw [decide_eq_true hth] at cTn
                  conv => whnf
                  repeat' (first | ((first | refine zs1 ?_ | refine zs2 ?_ | refine zs3 ?_ | refine zs4 ?_ | refine zs5 ?_); conv => whnf) | ((first | apply zi1 | apply zi2 | apply zi3 | apply zi4 | apply zi5) <;> intro _ <;> conv => whnf))
                  all_goals try (exfalso; omega)
                  refine zs6 [] ?_
                  conv => whnf
                  repeat' (first | ((first | refine zs1 ?_ | refine zs2 ?_ | refine zs3 ?_ | refine zs4 ?_ | refine zs5 ?_); conv => whnf) | ((first | apply zi1 | apply zi2 | apply zi3 | apply zi4 | apply zi5) <;> intro _ <;> first | (exfalso; omega) | contradiction | (conv => whnf)) | (refine VLd.recc encI_len n 0 rfl rfl rfl ha (by decide) rfl (by simp) ?_; conv => whnf) | (refine VCall.intro (cTn _) ?_; conv => whnf) | (refine VCall.intro (cB n _) ?_; conv => whnf))
                  all_goals first
                    | (exfalso; omega)
                    | (refine LEnd.intro (n + 1) (by omega) (by omega) ?_
                       rw [hSn]
                       conv => whnf
                       refine Retell.turn ⟨[0,1], 2, [], []⟩ (TurnOk.mk' _ _ [] [] (OutOk.lift _) rfl (by decide) zb trivial trivial rfl) zw zm)
                · rw [decide_eq_false hth] at cTn
                  conv => whnf
                  repeat' (first | ((first | refine zs1 ?_ | refine zs2 ?_ | refine zs3 ?_ | refine zs4 ?_ | refine zs5 ?_); conv => whnf) | ((first | apply zi1 | apply zi2 | apply zi3 | apply zi4 | apply zi5) <;> intro _ <;> conv => whnf))
                  all_goals try (exfalso; omega)
                  refine zs6 [] ?_
                  conv => whnf
                  repeat' (first | ((first | refine zs1 ?_ | refine zs2 ?_ | refine zs3 ?_ | refine zs4 ?_ | refine zs5 ?_); conv => whnf) | ((first | apply zi1 | apply zi2 | apply zi3 | apply zi4 | apply zi5) <;> intro _ <;> first | (exfalso; omega) | contradiction | (conv => whnf)) | (refine VLd.recc encI_len n 0 rfl rfl rfl ha (by decide) rfl (by simp) ?_; conv => whnf) | (refine VCall.intro (cTn _) ?_; conv => whnf) | (refine VCall.intro (cB n _) ?_; conv => whnf))
                  all_goals first
                    | (exfalso; omega)
                    | (refine LEnd.intro (n + 1) (by omega) (by omega) ?_
                       rw [hSn]
                       conv => whnf
                       refine Retell.turn ⟨[0,1], 2, [], []⟩ (TurnOk.mk' _ _ [] [] (OutOk.lift _) rfl (by decide) zb trivial trivial rfl) zw zm)
            · obtain rfl : n = c.length := by omega
              rw [← hB]
              conv => whnf
              repeat' (first | ((first | refine zs1 ?_ | refine zs2 ?_ | refine zs3 ?_ | refine zs4 ?_ | refine zs5 ?_); conv => whnf) | ((first | apply zi1 | apply zi2 | apply zi3 | apply zi4 | apply zi5) <;> intro _ <;> first | (exfalso; omega) | contradiction | (conv => whnf)))
              refine LEnd.intro (st + 1) (by omega) (by omega) ?_
              generalize bfsK c W s (st + 1) = T
              conv => whnf
              refine Retell.turn ⟨[0,1], 2, [], []⟩ (TurnOk.mk' _ _ [] [] (OutOk.lift _) rfl (by decide) zb trivial trivial rfl) zw zm
        · obtain rfl : st = c.length := by omega
          rw [show bfsK c W s c.length = R by rw [hR]; rfl]
          conv => whnf
          repeat' (first | ((first | refine zs1 ?_ | refine zs2 ?_ | refine zs3 ?_ | refine zs4 ?_ | refine zs5 ?_); conv => whnf) | ((first | apply zi1 | apply zi2 | apply zi3 | apply zi4 | apply zi5) <;> intro _ <;> first | (exfalso; omega) | contradiction | (conv => whnf)))
          rw [show ints R = .fs 1 c.length (R.flatMap encI) by unfold ints; rw [hRl]]
          have hRf : (R.flatMap encI).length = c.length * 1 := by rw [flat_len encI_len, hRl]
          refine VOut.data 2 [(1, R.flatMap encI)] [] rfl zf (by exact FmAll.nil) zw
end Go.Proofs.YtajnkenbhmkjaaaGreat

open Go.Vm
open Riv
namespace Go.Proofs.YtajnkenbhmkjaaaGreat
set_option maxRecDepth 20000
set_option maxHeartbeats 4000000

theorem ofs (k : Nat) : ((k : Nat) : Int).toNat * (0 + 1) = k * 1 + 0 := by simp
end Go.Proofs.YtajnkenbhmkjaaaGreat

open Go.Vm
open Riv
namespace Go.Proofs.YtajnkenbhmkjaaaGreat
set_option maxRecDepth 20000
set_option maxHeartbeats 4000000
theorem MOk.le {W H : Nat} {c : List Int} (o : MOk W H c) : c.length ≤ 144 := by
  rw [o.len]
  exact Nat.le_trans (Nat.mul_le_mul o.w.2 o.h.2) (by decide)
end Go.Proofs.YtajnkenbhmkjaaaGreat

open Go.Vm
open Riv
namespace Go.Proofs.YtajnkenbhmkjaaaGreat
set_option maxRecDepth 20000
set_option maxHeartbeats 4000000

/-! ### Tables of any numbers: a sum that wraps never helps one to hold -/
abbrev wr (n : Int) : Int := IntKind.i64.wrap n
end Go.Proofs.YtajnkenbhmkjaaaGreat

open Go.Vm
open Riv
namespace Go.Proofs.YtajnkenbhmkjaaaGreat
set_option maxRecDepth 20000
set_option maxHeartbeats 4000000

structure GJ (o : Vm.Id → Option Blk) (l : List Int) (g : Hp) : Prop where
  o : g.outer = o
  li : ∃ m, (m = 1 ∨ 4 ≤ m) ∧ g.get (.loc 0) = some (.cells true [.gl (.loc m) 1 l.length]) ∧ g.get (.loc m) = some (.flat true (l.flatMap encI))
  b2 : g.get (.loc 2) = some .mark
def upG (m : Nat) (b : Blk) : List (Vm.Id × Blk) := [(.loc m, .dead), (.loc 0, b)]
theorem upG_ok {m : Nat} {b b' b2 : Blk} {g : Hp} (jm : g.get (.loc m) = some b2) (j0 : g.get (.loc 0) = some b') : ∀ p ∈ upG m b, g.get p.1 ≠ none := by
  intro p hp
  simp only [upG, List.mem_cons, List.not_mem_nil, or_false] at hp
  rcases hp with rfl | rfl <;> simp only
  · rw [jm]; simp
  · rw [j0]; simp
theorem GJ.step {o : Vm.Id → Option Blk} {l : List Int} {e : Int} {g : Hp} {m : Nat} (jo : g.outer = o) (j0 : g.get (.loc 0) = some (.cells true [.gl (.loc m) 1 l.length])) (jm : g.get (.loc m) = some (.flat true (l.flatMap encI))) (j2 : g.get (.loc 2) = some .mark) (hm : m = 1 ∨ 4 ≤ m) {b6 : Blk} (j3 : g.get (.loc 3) = some b6) :
    g.grows ((g.sets (upG m (.cells true [.gl g.fresh 1 (l.length + 1)]))).pushes [.flat true ((l ++ [e]).flatMap encI)]) ∧
    GJ o (l ++ [e]) ((g.sets (upG m (.cells true [.gl g.fresh 1 (l.length + 1)]))).pushes [.flat true ((l ++ [e]).flatMap encI)]) ∧
    ((g.sets (upG m (.cells true [.gl g.fresh 1 (l.length + 1)]))).pushes [.flat true ((l ++ [e]).flatMap encI)]).get (.loc 3) = some b6 := by
  have hgr := Hp.grows_sets (news := [.flat true ((l ++ [e]).flatMap encI)]) (upG_ok (b := .cells true [.gl g.fresh 1 (l.length + 1)]) jm j0)
  obtain ⟨go, gl⟩ := g
  simp only [Hp.get] at j0 j2 jm j3
  have l0 := (List.getElem?_eq_some_iff.1 j0).1
  have l2 := (List.getElem?_eq_some_iff.1 j2).1
  have l3 := (List.getElem?_eq_some_iff.1 j3).1
  have key : ∀ y, y < gl.length → y ≠ m → y ≠ 0 → ∀ (A B G : Blk), (((gl.set m A).set 0 B) ++ [G])[y]? = gl[y]? := by
    intro y hy h1 h2 A B G
    rw [List.getElem?_append_left (by simpa using hy), List.getElem?_set_ne (Ne.symm h2), List.getElem?_set_ne (Ne.symm h1)]
  refine ⟨hgr, ⟨jo, ⟨gl.length, .inr (by omega), ?_, ?_⟩, ?_⟩, ?_⟩
  · show (((gl.set m _).set 0 _) ++ [_])[0]? = _
    rw [List.getElem?_append_left (by simpa using l0), List.getElem?_set_self (by simpa using l0)]
    simp [Hp.fresh]
  · show (((gl.set m _).set 0 _) ++ [_])[gl.length]? = _
    rw [List.getElem?_append_right (by simp)]
    simp
  · exact (key 2 l2 (by omega) (by omega) _ _ _).trans j2
  · exact (key 3 l3 (by omega) (by omega) _ _ _).trans j3
end Go.Proofs.YtajnkenbhmkjaaaGreat

open Go.Vm
open Riv
namespace Go.Proofs.YtajnkenbhmkjaaaGreat
set_option maxRecDepth 20000
set_option maxHeartbeats 4000000

structure Rvd (l : List Int) (k : Nat) (m : List Int) : Prop where
  len : m.length = l.length
  le : 2 * k ≤ l.length + 1
  at' : ∀ j, j < l.length → m[j]? = if j < k ∨ l.length - k ≤ j then l[l.length - 1 - j]? else l[j]?
theorem Rvd.step {l m : List Int} {k : Nat} {a b : Int} (h : Rvd l k m) (hk : 2 * k + 1 < l.length) (ha : m[k]? = some a) (hb : m[l.length - 1 - k]? = some b) : Rvd l (k + 1) ((m.set k b).set (l.length - 1 - k) a) where
  len := by simp [h.len]
  le := by omega
  at' := fun j hj => by
    have hl := h.len
    have e1 := h.at' k (by omega)
    have e2 := h.at' (l.length - 1 - k) (by omega)
    rw [ha, if_neg (by omega)] at e1
    rw [hb, if_neg (by omega)] at e2
    rw [List.getElem?_set, List.length_set]
    by_cases h1 : l.length - 1 - k = j
    · rw [if_pos h1, if_pos (by omega), if_pos (by omega), e1]
      congr 1; omega
    · rw [if_neg h1, List.getElem?_set]
      by_cases h2 : k = j
      · rw [if_pos h2, if_pos (by omega), if_pos (by omega), e2]
        subst h2; rfl
      · rw [if_neg h2, h.at' j hj]
        have : (j < k ∨ l.length - k ≤ j) ↔ (j < k + 1 ∨ l.length - (k + 1) ≤ j) := by omega
        simp only [this]
theorem Rvd.done {l m : List Int} {k : Nat} (h : Rvd l k m) (hk : l.length ≤ 2 * k + 1) : m = l.reverse := by
  apply List.ext_getElem?
  intro j
  have hl := h.len
  rcases Nat.lt_or_ge j l.length with h1 | h1
  · rw [h.at' j h1, List.getElem?_reverse h1]
    split
    · rfl
    · congr 1; omega
  · rw [List.getElem?_eq_none (by omega), List.getElem?_eq_none (by simpa using h1)]
theorem vc_reverse (l : List Int) (i : Vm.Id) (h : Hp) (hb : h.get i = some (.flat true (l.flatMap encI))) (hn : l.length ≤ 4000000) :
    VC Tryz.prog 73 [.gl i 1 l.length] h (.tuple []) (h.set i (.flat true (l.reverse.flatMap encI))) := by
  have hd : ∀ p ∈ [(i, Blk.flat true (l.reverse.flatMap encI))], h.get p.1 ≠ none := by
    intro p hp
    simp only [List.mem_cons, List.not_mem_nil, or_false] at hp
    subst hp; simp only; rw [hb]; simp
  have hgr : h.grows (h.set i (.flat true (l.reverse.flatMap encI))) := h.grows_set _ _
  refine VC.body Tryz.func73 rfl Tryz.ntmps73 Tryz.call73 hgr rfl ?_; conv => whnf
  repeat (first | ((first | refine zs1 ?_ | refine zs2 ?_ | refine zs3 ?_ | refine zs4 ?_ | refine zs5 ?_ | refine zs6 [] ?_); conv => whnf))
  have hlift : h.lift i = some (.flat true (l.flatMap encI)) := get_out hb []
  refine VCode.lpo (fun x : Nat × List Int => [(0, .gl (.out i) 1 l.length), (2, I x.1), (3, I ((l.length : Int) - 1 - x.1))]) (fun x => outW h.lift i (.flat true (x.2.flatMap encI))) (fun _ => []) (fun x => Rvd l x.1 x.2) (fun x => l.length - x.1) (0, l) ⟨rfl, by omega, fun j hj => ?_⟩ (outW_id hlift) ?_ ?_
  · rw [if_neg (by omega)]
  · conv => whnf
    refine Retell.turn ⟨[], 0, [], []⟩ (TurnOk.mk' _ _ [] [] (OutOk.outW (OutOk.lift _) rfl) rfl (by decide) zb trivial trivial rfl) zw zm
  · rintro ⟨k, m⟩ hr
    simp only at hr ⊢
    have hl := hr.len
    conv => whnf
    refine VIte.dec (fun h3 => ?_) (fun h3 => ?_)
    · have ha : m[k]? = some m[k] := List.getElem?_eq_getElem (by omega)
      have hc : m[l.length - 1 - k]? = some m[l.length - 1 - k] := List.getElem?_eq_getElem (by omega)
      generalize m[k] = a at ha
      generalize m[l.length - 1 - k] = c at hc
      have hst := hr.step (by omega) ha hc
      have hc2 : (m.set k c)[l.length - 1 - k]? = some c := by rw [List.getElem?_set, if_neg (by omega)]; exact hc
      conv => whnf
      repeat' (first | ((first | refine zs1 ?_ | refine zs2 ?_ | refine zs3 ?_ | refine zs4 ?_ | refine zs5 ?_ | refine zs6 [] ?_); conv => whnf) | ((first | apply zi1 | apply zi2 | apply zi3 | apply zi4 | apply zi5) <;> intro _ <;> conv => whnf) | (refine VLd.recc encI_len (l.length - 1 - k) 0 rfl rfl (outW_get _ _ _ _) hc (by decide) rfl (by simp only [Nat.zero_add, Nat.mul_one]; omega) ?_; conv => whnf) | (refine VLd.recc encI_len k 0 rfl rfl (outW_get _ _ _ _) ha (by decide) rfl (by simp only [Nat.zero_add, Nat.mul_one]; omega) ?_; conv => whnf))
      refine VMem.setRec encI_len k 0 c rfl rfl (outW_get _ _ _ _) ha (by decide) rfl (by simp only [Nat.zero_add, Nat.mul_one]; omega) ?_
      conv => whnf
      repeat (first | ((first | refine zs1 ?_ | refine zs2 ?_ | refine zs3 ?_ | refine zs4 ?_ | refine zs5 ?_ | refine zs6 [] ?_); conv => whnf))
      refine VMem.setRec encI_len (l.length - 1 - k) 0 a rfl rfl (outW_get _ _ _ _) hc2 (by decide) rfl (by simp only [Nat.zero_add, Nat.mul_one]; omega) ?_
      conv => whnf
      repeat (first | ((first | refine zs1 ?_ | refine zs2 ?_ | refine zs3 ?_ | refine zs4 ?_ | refine zs5 ?_ | refine zs6 [] ?_); conv => whnf))
      refine LEndO.intro (k + 1, (m.set k c).set (l.length - 1 - k) a) hst (by simp only; omega) ((outW_same (outW _ _ _) _ _ _).trans (outW_same _ _ _ _)) ?_
      conv => whnf
      refine Retell.turn ⟨[], 0, [], []⟩ (TurnOk.mk' _ _ [] [] (OutOk.outW (OutOk.lift _) rfl) rfl (by decide) zb trivial trivial rfl) zw zm
    · conv => whnf
      have hm := hr.done (by omega)
      subst hm
      have := VOut.upd (loc := []) (r1 := .tuple []) (r := .tuple []) [(i, .flat true (l.reverse.flatMap encI))] [] [] 0 rfl hd (by simp) rfl (by intro k b hk; simp at hk) (fun σ x hx => hx) (outer := outW h.lift i (.flat true (l.reverse.flatMap encI))) rfl
      have he : (h.sets [(i, Blk.flat true (l.reverse.flatMap encI))]).pushes [] = h.set i (.flat true (l.reverse.flatMap encI)) := by simp [Hp.sets, Hp.pushes]
      rw [he] at this
      exact this
/-! ### Ways -/
def natI (l : List Nat) : List Int := l.map fun n : Nat => (n : Int)
end Go.Proofs.YtajnkenbhmkjaaaGreat

open Go.Vm
open Riv
namespace Go.Proofs.YtajnkenbhmkjaaaGreat
set_option maxRecDepth 20000
set_option maxHeartbeats 4000000
theorem natI_at {ks : List Nat} {i : Nat} (hi : i < ks.length) : (natI ks)[i]? = some ((ks.getD i 0 : Nat) : Int) := by
  unfold natI
  rw [List.getElem?_map, List.getD_eq_getElem?_getD, List.getElem?_eq_getElem hi]; rfl
theorem natI_len (ks : List Nat) : (natI ks).length = ks.length := by unfold natI; rw [List.length_map]
end Go.Proofs.YtajnkenbhmkjaaaGreat

open Go.Vm
open Riv
namespace Go.Vm
theorem VCut.atO {P : Program} {ro : Option Nat} {c : Code} {n : Nat} {fr : Fr} {outer0 : Id → Option Blk} {loc0 : List Blk} {marks : List Id} {Q : X → St → Prop} (m : Nat) (slots : List (Nat × V)) (outer : Id → Option Blk) (loc : List Blk) (ho : outer0 = outer)
    (hst : frSK slots .leaf fun fr' => Retell isOut ⟨n, fr, ⟨outer, loc0⟩, marks⟩ ⟨n, fr', ⟨outer, loc⟩, marks⟩)
    (hb : frSK slots .leaf fun fr' => vcut P ro isOut m c ⟨n, fr', ⟨outer, loc⟩, marks⟩ Q) : VCut P ro isOut c ⟨n, fr, ⟨outer0, loc0⟩, marks⟩ Q := by
  subst ho
  exact VCut.at' m slots loc hst hb
end Go.Vm
namespace Go.Proofs.YtajnkenbhmkjaaaGreat
set_option maxRecDepth 20000
set_option maxHeartbeats 4000000

def encB (b : Bool) : List D := [DB b]
theorem encB_len (b : Bool) : (encB b).length = 1 := rfl
def metB (L : Nat) (M : List Nat) : List Bool := (List.range L).map fun k => decide (k ∈ M)
theorem metB_len (L : Nat) (M : List Nat) : (metB L M).length = L := by simp [metB]
theorem metB_at {L k : Nat} (M : List Nat) (hk : k < L) : (metB L M)[k]? = some (decide (k ∈ M)) := by
  unfold metB; rw [List.getElem?_map, List.getElem?_range hk]; rfl
theorem metB_nil (L : Nat) : metB L [] = List.replicate L false := by
  apply List.ext_getElem?
  intro k
  rcases Nat.lt_or_ge k L with h | h
  · rw [metB_at [] h, List.getElem?_replicate, if_pos h]; simp
  · rw [List.getElem?_eq_none (by rw [metB_len]; exact h), List.getElem?_eq_none (by simpa using h)]
theorem metB_set {L n : Nat} (M : List Nat) (hn : n < L) : (metB L M).set n true = metB L (M ++ [n]) := by
  apply List.ext_getElem?
  intro k
  rcases Nat.lt_or_ge k L with h | h
  · rw [metB_at _ h]
    by_cases e : n = k
    · subst e
      rw [List.getElem?_set_self (by rw [metB_len]; exact h)]; simp
    · rw [List.getElem?_set_ne e, metB_at _ h]
      have : (k ∈ M ++ [n]) ↔ k ∈ M := by simp; exact fun e2 => absurd e2.symm e
      simp only [this]
  · rw [List.getElem?_eq_none (by rw [List.length_set, metB_len]; exact h), List.getElem?_eq_none (by rw [metB_len]; exact h)]
def folS (mk : List Bool) (rec : Nat → List Nat → List Nat) (M : List Nat) (k : Nat) : List Nat := if k ∉ M ∧ bat mk k = true then rec k M else M
theorem folL_fold (mk : List Bool) (rec : Nat → List Nat → List Nat) : ∀ (ks M : List Nat), ks.foldl (folS mk rec) M = folL mk rec ks M
  | [], _ => rfl
  | k :: ks, M => by
    rw [List.foldl_cons, folL_fold mk rec ks, folL]
    unfold folS
    split <;> rfl
structure MI (L : Nat) (M1 M : List Nat) : Prop where
  pre : M1 <+: M
  nd : M.Nodup
  lt : ∀ x ∈ M, x < L
theorem MI.len {L : Nat} {M1 M : List Nat} (h : MI L M1 M) : M1.length ≤ M.length ∧ M.length ≤ L := ⟨h.pre.length_le, nodup_len L M h.nd h.lt⟩
theorem folW_mi {mk : List Bool} {W H N n : Nat} {M : List Nat} (hW : 2 ≤ W) (hL : mk.length = W * H) (h1 : bat mk n = true) (h2 : n ∉ M) (h3 : M.Nodup) (h4 : ∀ x ∈ M, x < mk.length) (h5 : mk.length ≤ N + M.length) : MI mk.length M (folW mk W N n M) ∧ n ∈ folW mk W N n M := by
  have h := folW_ok hW hL N n M h1 h2 h3 h4 h5
  refine ⟨⟨h.pre, h.nd, fun x hx => ?_⟩, h.own⟩
  by_cases hm : x ∈ M
  · exact h4 x hm
  · exact bat_lt (h.mrk x hx hm).1
theorem nbM_ok {mk : List Bool} {W H N n : Nat} {M1 : List Nat} (hW : 2 ≤ W) (hL : mk.length = W * H) (h0 : MI mk.length M1 M1) (h5 : mk.length ≤ N + M1.length) : ∀ k, k ≤ 4 → MI mk.length M1 (nbF (folS mk (folW mk W N)) W mk.length n M1 k)
  | 0, _ => h0
  | k + 1, hk => by
    have ih := nbM_ok (n := n) hW hL h0 h5 k (by omega)
    cases hq : nbO W mk.length n k with
    | none => rw [nbF_none hq]; exact ih
    | some q =>
      rw [nbF_some hq]
      generalize nbF (folS mk (folW mk W N)) W mk.length n M1 k = U at ih
      unfold folS
      split
      · rename_i hc
        have h := (folW_mi hW hL (N := N) hc.2 hc.1 ih.nd ih.lt (by have := ih.len.1; omega)).1
        exact ⟨ih.pre.trans h.pre, h.nd, h.lt⟩
      · exact ih
def ownF (own : List Int) (M R : List Nat) : List Int := own ++ natI (R.drop M.length)
theorem ownF_len (own : List Int) {M R : List Nat} (h : M.length ≤ R.length) : (ownF own M R).length = own.length + (R.length - M.length) := by
  unfold ownF; rw [List.length_append, natI_len, List.length_drop]
theorem ownF_one (own : List Int) (M : List Nat) (n : Nat) : ownF own M (M ++ [n]) = own ++ [(n : Int)] := by
  unfold ownF
  rw [List.drop_append_of_le_length (Nat.le_refl _), List.drop_of_length_le (Nat.le_refl _)]; rfl
theorem ownF_ownF (own : List Int) {M R S : List Nat} (h1 : M <+: R) (h2 : R <+: S) : ownF (ownF own M R) R S = ownF own M S := by
  obtain ⟨a, rfl⟩ := h1
  obtain ⟨b, rfl⟩ := h2
  unfold ownF natI
  simp
def oF (o : Vm.Id → Option Blk) (mI oI : Vm.Id) (L : Nat) (M : List Nat) : Vm.Id → Option Blk := outW (outW o mI (.flat true ((metB L M).flatMap encB))) oI .dead
theorem oF_set {o : Vm.Id → Option Blk} {mI oI : Vm.Id} {L : Nat} {M R : List Nat} (hne : mI ≠ oI) : outW (oF o mI oI L M) mI (.flat true ((metB L R).flatMap encB)) = oF o mI oI L R := by
  unfold oF
  rw [outW_comm (o := outW o mI _) (i := oI) (j := mI) (fun e => hne e.symm), outW_same]
theorem oF_met {o : Vm.Id → Option Blk} {mI oI : Vm.Id} {L : Nat} {M : List Nat} (hne : mI ≠ oI) (loc : List Blk) : (⟨oF o mI oI L M, loc⟩ : Hp).get (.out mI) = some (.flat true ((metB L M).flatMap encB)) := by
  show oF o mI oI L M mI = _
  unfold oF outW
  rw [if_neg hne, if_pos rfl]
theorem oF_oth {o : Vm.Id → Option Blk} {mI oI i : Vm.Id} {L : Nat} {M : List Nat} {r : Option Blk} (h1 : i ≠ mI) (h2 : i ≠ oI) (loc : List Blk) (h : o i = r) : (⟨oF o mI oI L M, loc⟩ : Hp).get (.out i) = r := by
  show oF o mI oI L M i = _
  unfold oF outW
  rw [if_neg h2, if_neg h1]; exact h
theorem OutOk.oF {h : Hp} {mI oI : Vm.Id} {L : Nat} {M : List Nat} : OutOk (oF h.lift mI oI L M) := OutOk.outW (OutOk.outW (OutOk.lift _) rfl) rfl
def upF (mI : Vm.Id) (L : Nat) (R : List Nat) (m : Nat) (b : Blk) : List (Vm.Id × Blk) := [(.out mI, .flat true ((metB L R).flatMap encB)), (.loc m, .dead), (.loc 0, b)]
theorem upF_ok {mI : Vm.Id} {L m : Nat} {R : List Nat} {b b0 b' b2 : Blk} {g : Hp} (jI : g.get (.out mI) = some b0) (jm : g.get (.loc m) = some b2) (j0 : g.get (.loc 0) = some b') : ∀ p ∈ upF mI L R m b, g.get p.1 ≠ none := by
  intro p hp
  simp only [upF, List.mem_cons, List.not_mem_nil, or_false] at hp
  rcases hp with rfl | rfl | rfl <;> simp only
  · rw [jI]; simp
  · rw [jm]; simp
  · rw [j0]; simp
theorem FJ.step {o : Vm.Id → Option Blk} {mI oI : Vm.Id} {L : Nat} {M R : List Nat} {l l' : List Int} {g : Hp} {m : Nat} (hne : mI ≠ oI) (jo : g.outer = oF o mI oI L M) (j0 : g.get (.loc 0) = some (.cells true [.gl (.loc m) 1 l.length])) (jm : g.get (.loc m) = some (.flat true (l.flatMap encI))) (j2 : g.get (.loc 2) = some .mark) (hm : m = 1 ∨ 4 ≤ m) {b6 : Blk} (j3 : g.get (.loc 3) = some b6) :
    g.grows ((g.sets (upF mI L R m (.cells true [.gl g.fresh 1 l'.length]))).pushes [.flat true (l'.flatMap encI)]) ∧
    GJ (oF o mI oI L R) l' ((g.sets (upF mI L R m (.cells true [.gl g.fresh 1 l'.length]))).pushes [.flat true (l'.flatMap encI)]) ∧
    ((g.sets (upF mI L R m (.cells true [.gl g.fresh 1 l'.length]))).pushes [.flat true (l'.flatMap encI)]).get (.loc 3) = some b6 := by
  obtain ⟨go, gl⟩ := g
  dsimp only at jo
  subst jo
  have jI := oF_met (o := o) (L := L) (M := M) hne gl
  have hgr := Hp.grows_sets (news := [.flat true (l'.flatMap encI)]) (upF_ok (L := L) (R := R) (b := .cells true [.gl (Hp.fresh ⟨oF o mI oI L M, gl⟩) 1 l'.length]) jI jm j0)
  simp only [Hp.get] at j0 j2 jm j3
  have l0 := (List.getElem?_eq_some_iff.1 j0).1
  have l2 := (List.getElem?_eq_some_iff.1 j2).1
  have l3 := (List.getElem?_eq_some_iff.1 j3).1
  have key : ∀ y, y < gl.length → y ≠ m → y ≠ 0 → ∀ (A B G : Blk), (((gl.set m A).set 0 B) ++ [G])[y]? = gl[y]? := by
    intro y hy h1 h2 A B G
    rw [List.getElem?_append_left (by simpa using hy), List.getElem?_set_ne (Ne.symm h2), List.getElem?_set_ne (Ne.symm h1)]
  refine ⟨hgr, ⟨?_, ⟨gl.length, .inr (by omega), ?_, ?_⟩, ?_⟩, ?_⟩
  · exact oF_set hne
  · show (((gl.set m _).set 0 _) ++ [_])[0]? = _
    rw [List.getElem?_append_left (by simpa using l0), List.getElem?_set_self (by simpa using l0)]
    simp [Hp.fresh]
  · show (((gl.set m _).set 0 _) ++ [_])[gl.length]? = _
    rw [List.getElem?_append_right (by simp)]
    simp
  · exact (key 2 l2 (by omega) (by omega) _ _ _).trans j2
  · exact (key 3 l3 (by omega) (by omega) _ _ _).trans j3
end Go.Proofs.YtajnkenbhmkjaaaGreat

open Go.Vm
open Riv
namespace Go.Proofs.YtajnkenbhmkjaaaGreat
set_option maxRecDepth 20000
set_option maxHeartbeats 4000000

theorem vc_isl1 (x : Int) (h : Hp) : VC Tryz.prog 83 [I x] h (B (decide (x = 3))) h := by
  refine VC.body Tryz.func83 rfl Tryz.ntmps83 Tryz.call83 (h.grows_refl) rfl ?_; conv => whnf
  repeat' (first | ((first | refine zs1 ?_ | refine zs2 ?_ | refine zs3 ?_ | refine zs4 ?_ | refine zs5 ?_ | refine zs6 [] ?_); conv => whnf) | ((first | apply zi1 | apply zi2 | apply zi3 | apply zi4 | apply zi5) <;> intro _ <;> conv => whnf))
  refine VOut.same ?_
  have : (x == 3) = decide (x = 3) := by rw [Bool.eq_iff_iff, decide_eq_true_eq, beq_iff_eq]
  simp only [V.ren, this]
def vFolI (w hh : Int) (c : List Int) (mC fC : Vm.Id) : V := .func (.func 89) [] [.ptr mC 0, .fp [DI w, DI hh, dints c], .fp [.func (.func 83) [] []], .fp [dints c], .ptr fC 0]
structure MemI (w hh : Int) (c : List Int) (mC mI fC : Vm.Id) (M : List Nat) (h : Hp) : Prop where
  mc : h.get mC = some (.cells true [.gl mI 1 c.length])
  mi : h.get mI = some (.flat true ((metB c.length M).flatMap encB))
  fc : h.get fC = some (.cells true [vFolI w hh c mC fC])
structure DjtI (mC mI fC oI : Vm.Id) : Prop where
  cI : mC ≠ mI
  co : mC ≠ oI
  fI : fC ≠ mI
  fo : fC ≠ oI
  Io : mI ≠ oI
def effI (h : Hp) (mI oI : Vm.Id) (L : Nat) (R : List Nat) (l : List Int) : Hp := (h.sets [(mI, .flat true ((metB L R).flatMap encB)), (oI, .dead)]).pushes [.flat true (l.flatMap encI)]
theorem vc_folI {W H : Nat} (m : Mp) (o : MOk W H m.c) (hw : m.w = W) : ∀ (N n : Nat) (M : List Nat) (own : List Int) (mC mI fC oI : Vm.Id) (h : Hp), bat (marks m.c) n = true → n ∉ M → M.Nodup → (∀ x ∈ M, x < m.c.length) → m.c.length ≤ N + M.length → own.length ≤ M.length →
    MemI m.w m.h m.c mC mI fC M h → h.get oI = some (.flat true (own.flatMap encI)) → DjtI mC mI fC oI →
    VC Tryz.prog 89 [I n, .gl oI 1 own.length, .ptr mC 0, .fp (encM m), .fp [.func (.func 83) [] []], .fp [dints m.c], .ptr fC 0] h (.gl h.fresh 1 (ownF own M (folW (marks m.c) W N n M)).length) (effI h mI oI m.c.length (folW (marks m.c) W N n M) (ownF own M (folW (marks m.c) W N n M)))
  | 0, n, M, own, mC, mI, fC, oI, h, h1, h2, h3, h4, h5, h6, h7, h8, h9 => by
    have h10 := nodup_len m.c.length (M ++ [n]) (by
      rw [List.nodup_append]
      exact ⟨h3, by simp, fun a ha b hb => by simp at hb; subst hb; intro e; subst e; exact h2 ha⟩) fun x hx => by
      rcases List.mem_append.1 hx with hx | hx
      · exact h4 x hx
      · simp at hx; subst hx; have := bat_lt h1; rw [marks_len] at this; exact this
    rw [List.length_append, List.length_singleton] at h10
    omega
  | N + 1, n, M, own, mC, mI, fC, oI, h, h1, h2, h3, h4, h5, h6, h7, h8, h9 => by
    have IH := fun n M own mC mI fC oI h => vc_folI m o hw N n M own mC mI fC oI h
    have hWb := o.w
    have hHb := o.h
    have hL := o.len
    have hm144 := MOk.le o
    have cB := fun n h => vc_beside m n h
    have itB := fun n hn => iter_beside m W n (by omega) hw hn (by omega)
    have hmkl := marks_len m.c
    have hnl := bat_lt h1
    have hR : folW (marks m.c) W (N + 1) n M = folL (marks m.c) (folW (marks m.c) W N) (nbs W (marks m.c).length n) (M ++ [n]) := rfl
    rw [← folL_fold, ← nbF_all] at hR
    have hmi0 : MI (marks m.c).length (M ++ [n]) (M ++ [n]) := by
      refine ⟨List.prefix_refl _, ?_, fun x hx => ?_⟩
      · rw [List.nodup_append]
        exact ⟨h3, by simp, fun a ha b hb => by simp at hb; subst hb; intro e; subst e; exact h2 ha⟩
      · rcases List.mem_append.1 hx with hx | hx
        · rw [hmkl]; exact h4 x hx
        · simp at hx; subst hx; exact hnl
    have hMI := fun j hj => nbM_ok (mk := (marks m.c)) (N := N) (n := n) (W := W) (H := H) (by omega) (by rw [hmkl]; exact hL) hmi0 (by rw [List.length_append, List.length_singleton, hmkl]; omega) j hj
    have hMl : (M ++ [n]).length = M.length + 1 := by simp
    have hfo : ∀ k M, bat (marks m.c) k = true → k ∉ M → M.Nodup → (∀ x ∈ M, x < (marks m.c).length) → (marks m.c).length ≤ N + M.length → M <+: folW (marks m.c) W N k M := fun k M a1 a2 a3 a4 a5 => (folW_mi (by omega) (by rw [hmkl]; exact hL) a1 a2 a3 a4 a5).1.pre
    have hpre0 : M <+: M ++ [n] := List.prefix_append _ _
    obtain ⟨R, hRe⟩ : ∃ R, R = folW (marks m.c) W (N + 1) n M := ⟨_, rfl⟩
    rw [← hRe] at hR ⊢
    clear hRe
    have hset := metB_set (L := m.c.length) M (n := n) (by omega)
    have hmat := metB_at (L := m.c.length) (k := n) M (by omega)
    have hown1 := ownF_one own M n
    have hgrow : h.grows (effI h mI oI m.c.length R (ownF own M R)) := by
      refine Hp.grows_sets fun e he => ?_
      simp only [List.mem_cons, List.not_mem_nil, or_false] at he
      rcases he with rfl | rfl <;> simp only
      · rw [h7.mi]; simp
      · rw [h8]; simp
    obtain ⟨mw, mh, c⟩ := m
    dsimp only at *
    subst hw
    show VC Tryz.prog 89 [I n, .gl oI 1 own.length, .ptr mC 0, .fp [DI W, DI mh, dints c], .fp [.func (.func 83) [] []], .fp [dints c], .ptr fC 0] h _ _
    refine VC.bodyC 3 Tryz.func89 rfl Tryz.ntmps89 Tryz.call89 hgrow rfl ?_
    conv => whnf
    have hno : ∀ (i : Vm.Id) (j : Nat), Vm.Id.out i ≠ .loc j := fun _ _ e => by cases e
    have hMle := hmi0.len.2
    repeat' (first | ((first | refine zs1 ?_ | refine zs2 ?_ | refine zs3 ?_ | refine zs4 ?_ | refine zs5 ?_); conv => whnf) | ((first | apply zi1 | apply zi2 | apply zi3 | apply zi4 | apply zi5) <;> intro _ <;> conv => whnf) | (refine VLd.cell rfl rfl (get_out h7.mc _) rfl ?_; conv => whnf))
    refine VMem.setRec encB_len n 0 true rfl rfl (get_out h7.mi _) hmat (by decide) rfl (ofs _) ?_
    rw [hset]
    conv => whnf
    repeat' (first | ((first | refine zs1 ?_ | refine zs2 ?_ | refine zs3 ?_ | refine zs4 ?_ | refine zs5 ?_); conv => whnf) | ((first | apply zi1 | apply zi2 | apply zi3 | apply zi4 | apply zi5) <;> intro _ <;> conv => whnf))
    refine VMem.app1B (α := Int) (l := own) (n : Int) encI_len rfl (get_outNe (fun e => h9.Io e.symm) (get_out h8 _)) rfl rfl rfl (by omega) ?_
    rw [← hown1]
    conv => whnf
    repeat' (first | ((first | refine zs1 ?_ | refine zs2 ?_ | refine zs3 ?_ | refine zs4 ?_ | refine zs5 ?_); conv => whnf) | ((first | apply zi1 | apply zi2 | apply zi3 | apply zi4 | apply zi5) <;> intro _ <;> conv => whnf))
    have hol : own.length + 1 = (ownF own M (M ++ [n])).length := by rw [hown1, List.length_append, List.length_singleton]
    refine VCut.atO (outer := oF h.lift mI oI c.length (M ++ [n])) (marks := []) 99 [(0, I n), (2, .ptr (.out mC) 0), (3, .fp [DI W, DI mh, dints c]), (4, .fp [.func (.func 83) [] []]), (5, .fp [dints c]), (6, .ptr (.out fC) 0), (8, .ptr (.loc 0) 0)] [.cells true [.gl (.loc 1) 1 (own.length + 1)], .flat true ((ownF own M (M ++ [n])).flatMap encI)] rfl ?_ ?_
    · generalize ownF own M (M ++ [n]) = o1
      conv => whnf
      refine Retell.turn ⟨[0, 2], 3, [], []⟩ (TurnOk.mk' _ _ [] [] OutOk.oF rfl (by decide) zb trivial trivial rfl) zw zm
    · conv => whnf
      repeat' (first | ((first | refine zs1 ?_ | refine zs2 ?_ | refine zs3 ?_ | refine zs4 ?_ | refine zs5 ?_); conv => whnf) | ((first | apply zi1 | apply zi2 | apply zi3 | apply zi4 | apply zi5) <;> intro _ <;> conv => whnf) | (refine VCall.intro (cB n _) ?_; conv => whnf))
      refine VCode.tell [(2, .ptr (.out mC) 0), (4, .fp [.func (.func 83) [] []]), (5, .fp [dints c]), (6, .ptr (.out fC) 0), (8, .ptr (.loc 0) 0), (20, vBes ⟨W, mh, c⟩ n)] [.cells true [.gl (.loc 1) 1 (own.length + 1)], .flat true ((ownF own M (M ++ [n])).flatMap encI)] (marks' := []) ?_ ?_
      · generalize ownF own M (M ++ [n]) = o1
        conv => whnf
        refine Retell.turn ⟨[0, 1], 2, [], []⟩ (TurnOk.mk' _ _ [] [] OutOk.oF rfl (by decide) zb trivial trivial rfl) zw zm
      · conv => whnf
        refine VCode.iterS 4 (nbY W c.length n) (fun j g => GJ (oF h.lift mI oI c.length (nbF (folS (marks c) (folW (marks c) W N)) W (marks c).length n (M ++ [n]) j)) (ownF own M (nbF (folS (marks c) (folW (marks c) W N)) W (marks c).length n (M ++ [n]) j)) g) _ (.loc 3) rfl (itB n (by omega)) rfl rfl ⟨rfl, ⟨1, .inl rfl, by rw [nbF_zero, ← hol]; rfl, rfl⟩, rfl⟩ ?_ ?_ ?_
        · rintro j g hj hy hJ
          rw [nbF_none (by rw [hmkl]; exact nbY_none hy)]; exact hJ
        · rintro j g vs hj hy hJ hlp
          obtain ⟨q, hq, rfl⟩ := nbY_some hy
          have hqc : q < c.length := by
            have := ((nbs_iff (by omega) hL (by omega)).1 (nbO_mem hj hq)).1
            exact this
          rw [← hmkl] at hq
          rw [nbF_some hq]
          have hI := hMI j (by omega)
          generalize nbF (folS (marks c) (folW (marks c) W N)) W (marks c).length n (M ++ [n]) j = Mk at hJ hI
          have hpreM : M <+: Mk := hpre0.trans hI.pre
          have hlenM := hI.len
          have hlown := ownF_len own hpreM.length_le
          have hpp := fun S (hS : Mk <+: S) => ownF_ownF own hpreM hS
          obtain ⟨jo, ⟨m, hm, j0, jm⟩, j2⟩ := hJ
          obtain ⟨l, hl0⟩ : ∃ l, l = ownF own M Mk := ⟨_, rfl⟩
          rw [← hl0] at j0 jm hlown
          simp only [← hl0] at hpp
          have kmc : g.get (.out mC) = some ((Blk.cells true [.gl mI 1 c.length]).ren .out) := by
            show g.outer mC = _
            rw [jo]; exact oF_oth h9.cI h9.co [] (get_out h7.mc [])
          have kfc : g.get (.out fC) = some ((Blk.cells true [vFolI W mh c mC fC]).ren .out) := by
            show g.outer fC = _
            rw [jo]; exact oF_oth h9.fI h9.fo [] (get_out h7.fc [])
          have kmi : g.get (.out mI) = some (.flat true ((metB c.length Mk).flatMap encB)) := by
            show g.outer mI = _
            rw [jo]; exact oF_met h9.Io []
          have hqm := metB_at Mk hqc
          have hx := at0_get hqc
          have cSq := fun h => vc_isl1 (at0 c q) h
          rw [← bat_marks] at cSq
          unfold folS
          have hm0 : Vm.Id.loc m ≠ .loc 0 := by intro h0; injection h0; omega
          have hm3 : Vm.Id.loc m ≠ .loc 3 := by intro h0; injection h0; omega
          by_cases hgo : q ∉ Mk ∧ bat (marks c) q = true
          · rw [if_pos hgo]
            rw [decide_eq_false hgo.1] at hqm
            rw [hgo.2] at cSq
            have hfp := hfo q Mk hgo.2 hgo.1 hI.nd hI.lt (by omega)
            have IHq := fun H hM hb => IH q Mk l (.out (.out mC)) (.out (.out mI)) (.out (.out fC)) (.out (.loc m)) H hgo.2 hgo.1 hI.nd (fun x hx => by have := hI.lt x hx; omega) (by omega) (by omega) hM hb ⟨fun e => h9.cI (by injection e with e; injection e), (fun e => by injection e with e; cases e), fun e => h9.fI (by injection e with e; injection e), (fun e => by injection e with e; cases e), (fun e => by injection e with e; cases e)⟩
            have hown2 := hpp _ hfp
            have hfl := hfp.length_le
            have hl2 := ownF_len l hfl
            generalize folW (marks c) W N q Mk = S at IHq hown2 hfl hl2
            rw [← hown2]
            generalize ownF l Mk S = l' at IHq hl2
            obtain ⟨s1, s2, s3⟩ := FJ.step (R := S) (l' := l') h9.Io jo j0 jm j2 hm hlp
            refine ⟨_, ?_, s2, s3⟩
            refine VRound.vy' hlp rfl rfl rfl s1 fun l0 => ?_
            refine VRound.tell [(2, .ptr (.out (.out mC)) 0), (4, .fp [.func (.func 83) [] []]), (5, .fp [dints c]), (6, .ptr (.out (.out fC)) 0), (8, .ptr (.out (.loc 0)) 0), (21, I q)] ?_ ?_
            · conv => whnf
              refine Retell.turn ⟨[], 0, [], []⟩ (TurnOk.mk' _ _ [] [] (OutOk.lift _) rfl (by decide) zb trivial trivial rfl) zw zm
            · conv => whnf
              repeat (first | ((first | refine zs1 ?_ | refine zs2 ?_ | refine zs3 ?_ | refine zs4 ?_ | refine zs5 ?_ | refine zs6 [] ?_); conv => whnf))
              refine VBegin.intro (get_out hlp _) rfl ?_
              conv => whnf
              refine zs6 [] ?_
              conv => whnf
              repeat' (first | ((first | refine zs1 ?_ | refine zs2 ?_ | refine zs3 ?_ | refine zs4 ?_ | refine zs5 ?_); conv => whnf) | ((first | apply zi1 | apply zi2 | apply zi3 | apply zi4 | apply zi5) <;> intro _ <;> conv => whnf) | (refine VLd.cell rfl rfl (get_setO (hno _ _) kmc _) rfl ?_; conv => whnf) | (refine VLd.recc encB_len q 0 rfl rfl (get_setO (hno _ _) kmi _) hqm (by decide) rfl (ofs _) ?_; conv => whnf) | (refine VAny.ix encI_len q rfl rfl hx ?_; conv => whnf) | (refine VCall.intro (cSq _) ?_; conv => whnf))
              repeat' (first | ((first | refine zs1 ?_ | refine zs2 ?_ | refine zs3 ?_ | refine zs4 ?_ | refine zs5 ?_); conv => whnf) | ((first | apply zi1 | apply zi2 | apply zi3 | apply zi4 | apply zi5) <;> intro _ <;> conv => whnf) | (refine VLd.cell rfl rfl (get_setO (hno _ _) kfc _) rfl ?_; conv => whnf) | (refine VLd.cell rfl rfl (get_setO (by decide) j0 _) rfl ?_; conv => whnf))
              refine VCall.intro (IHq _ ⟨get_setO (hno _ _) kmc _, get_setO (hno _ _) kmi _, get_setO (hno _ _) kfc _⟩ (get_setO hm3 jm _)) ?_
              conv => whnf
              repeat' (first | ((first | refine zs1 ?_ | refine zs2 ?_ | refine zs3 ?_ | refine zs4 ?_ | refine zs5 ?_); conv => whnf) | ((first | apply zi1 | apply zi2 | apply zi3 | apply zi4 | apply zi5) <;> intro _ <;> conv => whnf))
              refine VMem.st1 rfl rfl rfl (b := .cells true [.gl (.out (.loc m)) 1 l.length]) (get_outNe (fun e => hm0 e.symm) (get_outNe (fun e => by cases e) (get_setO (by decide) j0 _))) rfl ?_
              conv => whnf
              repeat' (first | ((first | refine zs1 ?_ | refine zs2 ?_ | refine zs3 ?_ | refine zs4 ?_ | refine zs5 ?_); conv => whnf) | ((first | apply zi1 | apply zi2 | apply zi3 | apply zi4 | apply zi5) <;> intro _ <;> conv => whnf))
              refine RFin.on (get_outNe (by decide) (get_outNe (fun e => hm3 e.symm) (get_outNe (fun e => by cases e) (outW_get _ _ _ _)))) ?_
              refine VOut.upd (upF mI c.length S m (.cells true [.gl g.fresh 1 l'.length])) [.flat true (l'.flatMap encI)] [0] 1 ?_ (upF_ok kmi jm j0) ?_ ?_ ?_ ?_ ?_
              · rfl
              · decide
              · rfl
              · intro k' b' hk'
                cases k' with
                | zero => rw [List.getElem?_cons_zero, Option.some.injEq] at hk'; subst hk'; exact ⟨0, rfl, rfl⟩
                | succ k' => simp at hk'
              · intro σ x hx; exact hx
              · have e1 : (Blk.cells true [V.gl g.fresh 1 l'.length]).ren (backR g.loc.length [0] 1) = .cells true [.gl (.loc 0) 1 l'.length] := by simp [Blk.ren, V.ren, backR, Hp.fresh]
                simp only [upF, List.map_cons, List.map_nil, e1]
                exact outer_fix3 (get_out hlp []) (fun e => by cases e) (fun e => hm3 e.symm) (by decide)
          · rw [if_neg hgo, ← hl0]
            refine ⟨g, ?_, ⟨jo, ⟨m, hm, j0, jm⟩, j2⟩, hlp⟩
            have hgo2 : q ∈ Mk ∨ bat (marks c) q = false := by
              by_cases hqM : q ∈ Mk
              · exact .inl hqM
              · right
                cases hb : bat (marks c) q with
                | false => rfl
                | true => exact absurd ⟨hqM, hb⟩ hgo
            rcases hgo2 with hb | hb
            all_goals (
              first | rw [decide_eq_true hb] at hqm | rw [hb] at cSq
              refine VRound.vy' hlp rfl rfl rfl g.grows_refl fun l0 => ?_
              refine VRound.tell [(2, .ptr (.out (.out mC)) 0), (4, .fp [.func (.func 83) [] []]), (5, .fp [dints c]), (21, I q)] ?_ ?_
              · conv => whnf
                refine Retell.turn ⟨[], 0, [], []⟩ (TurnOk.mk' _ _ [] [] (OutOk.lift _) rfl (by decide) zb trivial trivial rfl) zw zm
              · conv => whnf
                repeat (first | ((first | refine zs1 ?_ | refine zs2 ?_ | refine zs3 ?_ | refine zs4 ?_ | refine zs5 ?_ | refine zs6 [] ?_); conv => whnf))
                refine VBegin.intro (get_out hlp _) rfl ?_
                conv => whnf
                refine zs6 [] ?_
                conv => whnf
                repeat' (first | ((first | refine zs1 ?_ | refine zs2 ?_ | refine zs3 ?_ | refine zs4 ?_ | refine zs5 ?_); conv => whnf) | ((first | apply zi1 | apply zi2 | apply zi3 | apply zi4 | apply zi5) <;> intro _ <;> conv => whnf) | (refine VLd.cell rfl rfl (get_setO (hno _ _) kmc _) rfl ?_; conv => whnf) | (refine VLd.recc encB_len q 0 rfl rfl (get_setO (hno _ _) kmi _) hqm (by decide) rfl (ofs _) ?_; conv => whnf) | (refine VAny.ix encI_len q rfl rfl hx ?_; conv => whnf) | (refine VCall.intro (cSq _) ?_; conv => whnf))
                all_goals first
                  | exact RFin.on (outW_get _ _ _ _) (VOut.back (get_out hlp []) rfl)
                  | contradiction
                  | skip)
        · rintro ⟨go, gl⟩ ⟨jo, ⟨m, hm, j0, jm⟩, j2⟩ hlp
          dsimp only at jo
          subst jo
          rw [← hR] at j0 jm ⊢
          have hlR : M.length ≤ R.length := by
            have := hMI 4 (by omega)
            rw [← hR] at this
            have := this.len
            omega
          have hol2 := ownF_len own hlR
          generalize ownF own M R = l at j0 jm hol2 hgrow ⊢
          have j0 : gl[0]? = some _ := j0
          have jm : gl[m]? = some _ := jm
          have j2 : gl[2]? = some _ := j2
          have l0 := (List.getElem?_eq_some_iff.1 j0).1
          have lm := (List.getElem?_eq_some_iff.1 jm).1
          have key : ∀ (x : Nat) (A : Blk), x ≠ 3 → (gl.set 3 A)[x]? = gl[x]? := fun x A hx => List.getElem?_set_ne (Ne.symm hx)
          have hmn : ([0, m] : List Nat).Nodup := by simp; omega
          have hm4 : 2 ∉ ([0, m] : List Nat) := by simp; omega
          refine Told.mk [(8, .ptr (.loc 0) 0)] [.cells true [.gl (.loc 1) 1 l.length], .flat true (l.flatMap encI)] (marks' := []) ?_ ?_
          · conv => whnf
            refine Retell.turn ⟨[0, m], gl.length, [], []⟩ (TurnOk.mk' _ _ [] [] OutOk.oF (Nat.ble_eq_true_of_le (by simp)) hmn (BTos.cells (blt_of l0) ((key 0 _ (by decide)).trans j0) rfl zw (BTos.flat (blt_of lm) ((key m _ (by omega)).trans jm) rfl BTos.nil)) trivial trivial rfl) zw (MkTo.drop hm4 ((key 2 _ (by decide)).trans j2) MkTo.nil)
          · conv => whnf
            repeat' (first | ((first | refine zs1 ?_ | refine zs2 ?_ | refine zs3 ?_ | refine zs4 ?_ | refine zs5 ?_); conv => whnf) | ((first | apply zi1 | apply zi2 | apply zi3 | apply zi4 | apply zi5) <;> intro _ <;> conv => whnf))
            refine VOut.upd [(mI, .flat true ((metB c.length R).flatMap encB)), (oI, .dead)] [.flat true (l.flatMap encI)] [1] 2 ?_ ?_ ?_ ?_ ?_ ?_ ?_
            · rfl
            · intro e he
              simp only [List.mem_cons, List.not_mem_nil, or_false] at he
              rcases he with rfl | rfl <;> simp only
              · rw [h7.mi]; simp
              · rw [h8]; simp
            · decide
            · rfl
            · intro k' b' hk'
              cases k' with
              | zero => rw [List.getElem?_cons_zero, Option.some.injEq] at hk'; subst hk'; exact ⟨1, rfl, rfl⟩
              | succ k' => simp at hk'
            · intro σ x hx
              have : (V.gl h.fresh 1 l.length).ren (backR h.loc.length [1] 2) = .gl (.loc 1) 1 l.length := by simp [V.ren, backR, Hp.fresh]
              rw [this]; exact hx
            · rfl
end Go.Proofs.YtajnkenbhmkjaaaGreat


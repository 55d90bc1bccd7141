/- Part 3 of the proof that passageFerried: ferries take a herd as far as the cells are. No condition. -/
import Derived.Test.YtoeendggmalcpaaFe2
set_option linter.unusedVariables false
set_option linter.unusedSimpArgs false
namespace Riv
def t0 (c : List Int) (s : Int) : List Int := c.map fun x => if x = s then 0 else -1
def putB (c : List Int) (st : Int) (T : List Int) (k : Nat) : List Int := if at0 T k = -1 ∧ Opn c k then T.set k (st + 1) else T
def cellB (c : List Int) (W : Nat) (s st : Int) (T : List Int) (n : Nat) : List Int := if at0 T n = st ∧ Thr c s n then (nbs W c.length n).foldl (putB c st) T else T
def stepB (c : List Int) (W : Nat) (s : Int) (T : List Int) (st : Nat) : List Int := (List.range c.length).foldl (cellB c W s st) T
def bfs (c : List Int) (W : Nat) (s : Int) : List Int := (List.range c.length).foldl (stepB c W s) (t0 c s)
def cnt (T : List Int) : Nat := T.countP fun x => decide (x ≠ -1)
theorem at0_set {T : List Int} {k : Nat} {v : Int} (hk : k < T.length) (j : Nat) : at0 (T.set k v) j = if j = k then v else at0 T j := by
  unfold at0
  rw [List.getD_eq_getElem?_getD, List.getD_eq_getElem?_getD]
  split
  · rename_i h; subst h
    rw [List.getElem?_set_self hk]; rfl
  · rename_i h
    rw [List.getElem?_set_ne (fun e => h e.symm)]
theorem cnt_set : ∀ {T : List Int} {k : Nat} {v : Int}, k < T.length → at0 T k = -1 → v ≠ -1 → cnt (T.set k v) = cnt T + 1
  | x :: T, 0, v, _, h, hv => by
    have h : x = -1 := h
    subst h
    simp [cnt, hv]
  | x :: T, k + 1, v, hk, h, hv => by
    have := cnt_set (T := T) (k := k) (v := v) (by simpa using hk) (by simpa [at0] using h) hv
    unfold cnt at *
    rw [List.set_cons_succ, List.countP_cons, List.countP_cons, this]
    omega
theorem cnt_le (T : List Int) : cnt T ≤ T.length := List.countP_le_length
theorem cnt_pos : ∀ {T : List Int} {n : Nat}, at0 T n ≠ -1 → 1 ≤ cnt T := by
  intro T n h
  rcases Nat.lt_or_ge n T.length with hn | hn
  · unfold cnt
    refine List.countP_pos_iff.2 ⟨T[n], List.getElem_mem hn, ?_⟩
    unfold at0 at h
    rw [List.getD_eq_getElem?_getD, List.getElem?_eq_getElem hn] at h
    simpa using h
  · exact absurd (at0_out hn) h
theorem at0_t0 {c : List Int} {s : Int} {n : Nat} (hn : n < c.length) : at0 (t0 c s) n = if at0 c n = s then 0 else -1 := by
  unfold at0 t0
  rw [List.getD_eq_getElem?_getD, List.getD_eq_getElem?_getD, List.getElem?_map, List.getElem?_eq_getElem hn]
  rfl
structure BI (c : List Int) (W : Nat) (s : Int) (st : Nat) (T : List Int) (P : Nat → Prop) : Prop where
  len : T.length = c.length
  own : ∀ n, n < c.length → at0 c n = s → at0 T n = 0
  oth : ∀ n, n < c.length → at0 c n ≠ s → ¬ Opn c n → at0 T n = -1
  rng : ∀ n, -1 ≤ at0 T n ∧ at0 T n ≤ st + 1
  got : ∀ n, n < c.length → at0 c n ≠ s → at0 T n ≠ -1 → Opn c n ∧ ∃ k, k < c.length ∧ Nb W n k ∧ Thr c s k ∧ at0 T k = at0 T n - 1 ∧ 0 ≤ at0 T k ∧ ∀ j, j < c.length → Nb W n j → Thr c s j → at0 T j ≠ -1 → at0 T k ≤ at0 T j
  non : ∀ n, n < c.length → at0 c n ≠ s → Opn c n → at0 T n = -1 → ∀ k, k < c.length → Nb W n k → Thr c s k → at0 T k = -1 ∨ (st : Int) < at0 T k ∨ (at0 T k = st ∧ ¬ P k)
  cn : ∀ n, at0 T n ≠ -1 → at0 T n + 1 ≤ cnt T
theorem putB_ok {c : List Int} {W : Nat} {s : Int} {st : Nat} {T : List Int} {P : Nat → Prop} {n k : Nat} (h : BI c W s st T P) (hn : n < c.length) (hk : k < c.length) (hT : at0 T n = st) (ht : Thr c s n) (hnb : Nb W n k) :
    BI c W s st (putB c st T k) P ∧ (Opn c k → at0 (putB c st T k) k ≠ -1) ∧ ∀ j, at0 T j ≠ -1 → at0 (putB c st T k) j = at0 T j := by
  unfold putB
  split
  · rename_i hc
    have hkl : k < T.length := by rw [h.len]; exact hk
    have hat := fun j => at0_set (v := (st : Int) + 1) hkl j
    have hks : at0 c k ≠ s := fun e => by have := h.own k hk e; omega
    have hkeep : ∀ j, at0 T j ≠ -1 → at0 (T.set k ((st : Int) + 1)) j = at0 T j := fun j hj => by
      rw [hat, if_neg]
      intro e; subst e; exact hj hc.1
    have hself := hat k
    rw [if_pos rfl] at hself
    refine ⟨⟨by rw [List.length_set]; exact h.len, fun m hm e => ?_, fun m hm e e2 => ?_, fun m => ?_, fun m hm e e2 => ?_, fun m hm e e2 e3 j hj hnj htj => ?_, fun m hm => ?_⟩, fun _ => by rw [hself]; omega, hkeep⟩
    · have := h.own m hm e
      rw [hkeep m (by omega)]; exact this
    · rw [hat, if_neg]
      · exact h.oth m hm e e2
      · intro e3; subst e3; exact e2 hc.2
    · rw [hat]
      split
      · omega
      · exact h.rng m
    · by_cases hmk : m = k
      · subst hmk
        refine ⟨hc.2, n, hn, hnb.symm, ht, ?_, ?_, fun j hj hnj htj hj1 => ?_⟩
        · rw [hself, hkeep n (by omega)]; omega
        · rw [hkeep n (by omega)]; omega
        · rw [hkeep n (by omega), hT]
          rw [hat] at hj1 ⊢
          split
          · omega
          · rename_i hjm
            rw [if_neg hjm] at hj1
            rcases h.non m hm e hc.2 hc.1 j hj hnj htj with h1 | h1 | h1 <;> omega
      · rw [hat, if_neg hmk] at e2
        obtain ⟨g1, i, g2, g3, g4, g5, g6, g7⟩ := h.got m hm e e2
        refine ⟨g1, i, g2, g3, g4, ?_, ?_, fun j hj hnj htj hj1 => ?_⟩
        · rw [hkeep i (by omega), hkeep m e2]; exact g5
        · rw [hkeep i (by omega)]; exact g6
        · rw [hkeep i (by omega)]
          by_cases hjk : j = k
          · subst hjk
            rw [hself]
            have := (h.rng m).2
            omega
          · rw [hat, if_neg hjk] at hj1 ⊢
            exact g7 j hj hnj htj hj1
    · have hmk : m ≠ k := fun e4 => by subst e4; rw [hself] at e3; omega
      rw [hat, if_neg hmk] at e3
      by_cases hjk : j = k
      · subst hjk; rw [hself]; exact .inr (.inl (by omega))
      · rw [hat, if_neg hjk]
        exact h.non m hm e e2 e3 j hj hnj htj
    · rw [cnt_set hkl hc.1 (by omega)]
      have h1 := h.cn n (by omega)
      rw [hat] at hm ⊢
      split
      · rw [hT] at h1; omega
      · rename_i hmk
        rw [if_neg hmk] at hm
        have := h.cn m hm
        omega
  · rename_i hc
    exact ⟨h, fun h1 h2 => hc ⟨h2, h1⟩, fun _ _ => rfl⟩
theorem putL_ok {c : List Int} {W : Nat} {s : Int} {st : Nat} {P : Nat → Prop} {n : Nat} (hn : n < c.length) (ht : Thr c s n) : ∀ (l : List Nat) (T : List Int), (∀ k ∈ l, k < c.length ∧ Nb W n k) → BI c W s st T P → at0 T n = st →
    BI c W s st (l.foldl (putB c st) T) P ∧ (∀ k ∈ l, Opn c k → at0 (l.foldl (putB c st) T) k ≠ -1) ∧ ∀ j, at0 T j ≠ -1 → at0 (l.foldl (putB c st) T) j = at0 T j
  | [], T, _, h, _ => ⟨h, fun k hk => (by cases hk), fun _ _ => rfl⟩
  | k :: l, T, hl, h, hT => by
    have hk := hl k List.mem_cons_self
    obtain ⟨h1, h2, h3⟩ := putB_ok h hn hk.1 hT ht hk.2
    obtain ⟨g1, g2, g3⟩ := putL_ok hn ht l (putB c st T k) (fun j hj => hl j (List.mem_cons_of_mem _ hj)) h1 (by rw [h3 n (by omega)]; exact hT)
    rw [List.foldl_cons]
    refine ⟨g1, fun j hj ho => ?_, fun j hj => ?_⟩
    · rcases List.mem_cons.1 hj with rfl | hj
      · have := h2 ho
        rw [g3 _ this]; exact this
      · exact g2 j hj ho
    · rw [g3 j (by rw [h3 j hj]; exact hj), h3 j hj]
theorem cellB_ok {c : List Int} {W H : Nat} {s : Int} {st : Nat} {T : List Int} {P : Nat → Prop} {n : Nat} (hW : 2 ≤ W) (hL : c.length = W * H) (h : BI c W s st T P) (hn : n < c.length) :
    BI c W s st (cellB c W s st T n) (fun j => P j ∨ j = n) := by
  unfold cellB
  split
  · rename_i hc
    obtain ⟨h1, h2, h3⟩ := putL_ok hn hc.2 (nbs W c.length n) T (fun k hk => (nbs_iff hW hL hn).1 hk) h hc.1
    refine ⟨h1.len, h1.own, h1.oth, h1.rng, h1.got, fun m hm e e2 e3 k hk hnk htk => ?_, h1.cn⟩
    rcases h1.non m hm e e2 e3 k hk hnk htk with h4 | h4 | h4
    · exact .inl h4
    · exact .inr (.inl h4)
    · by_cases hkn : k = n
      · subst hkn
        exact absurd e3 (h2 m ((nbs_iff hW hL hk).2 ⟨hm, hnk.symm⟩) e2)
      · exact .inr (.inr ⟨h4.1, fun h5 => by rcases h5 with h5 | h5; exact h4.2 h5; exact hkn h5⟩)
  · rename_i hc
    refine ⟨h.len, h.own, h.oth, h.rng, h.got, fun m hm e e2 e3 k hk hnk htk => ?_, h.cn⟩
    rcases h.non m hm e e2 e3 k hk hnk htk with h4 | h4 | h4
    · exact .inl h4
    · exact .inr (.inl h4)
    · refine .inr (.inr ⟨h4.1, fun h5 => ?_⟩)
      rcases h5 with h5 | h5
      · exact h4.2 h5
      · subst h5; exact hc ⟨h4.1, htk⟩
theorem cellL_ok {c : List Int} {W H : Nat} {s : Int} {st : Nat} (hW : 2 ≤ W) (hL : c.length = W * H) : ∀ (N : Nat) (T : List Int), N ≤ c.length → BI c W s st T (fun _ => False) → BI c W s st ((List.range N).foldl (cellB c W s st) T) (fun j => j < N)
  | 0, T, _, h => ⟨h.len, h.own, h.oth, h.rng, h.got, fun m hm e e2 e3 k hk hnk htk => by
      rcases h.non m hm e e2 e3 k hk hnk htk with h4 | h4 | h4
      · exact .inl h4
      · exact .inr (.inl h4)
      · exact .inr (.inr ⟨h4.1, fun h5 => by omega⟩), h.cn⟩
  | N + 1, T, hN, h => by
    have h1 := cellL_ok hW hL N T (by omega) h
    rw [List.range_succ, List.foldl_append]
    have h2 := cellB_ok hW hL h1 (n := N) (by omega)
    refine ⟨h2.len, h2.own, h2.oth, h2.rng, h2.got, fun m hm e e2 e3 k hk hnk htk => ?_, h2.cn⟩
    rcases h2.non m hm e e2 e3 k hk hnk htk with h4 | h4 | h4
    · exact .inl h4
    · exact .inr (.inl h4)
    · exact .inr (.inr ⟨h4.1, fun h5 => h4.2 (by omega)⟩)
theorem stepB_ok {c : List Int} {W H : Nat} {s : Int} {st : Nat} {T : List Int} (hW : 2 ≤ W) (hL : c.length = W * H) (h : BI c W s st T (fun _ => False)) : BI c W s (st + 1) (stepB c W s T st) (fun _ => False) := by
  have h1 := cellL_ok hW hL c.length T (Nat.le_refl _) h
  unfold stepB
  refine ⟨h1.len, h1.own, h1.oth, fun n => by have := h1.rng n; omega, h1.got, fun m hm e e2 e3 k hk hnk htk => ?_, h1.cn⟩
  rcases h1.non m hm e e2 e3 k hk hnk htk with h4 | h4 | h4
  · exact .inl h4
  · rcases Int.lt_or_le ((st + 1 : Nat) : Int) (at0 ((List.range c.length).foldl (cellB c W s st) T) k) with h5 | h5
    · exact .inr (.inl h5)
    · exact .inr (.inr ⟨by omega, fun h => h⟩)
  · exact absurd hk h4.2
theorem bi0 {c : List Int} {W : Nat} {s : Int} : BI c W s 0 (t0 c s) (fun _ => False) := by
  have hl : (t0 c s).length = c.length := by unfold t0; rw [List.length_map]
  have hat : ∀ n, at0 (t0 c s) n = 0 ∨ at0 (t0 c s) n = -1 := fun n => by
    rcases Nat.lt_or_ge n c.length with hn | hn
    · rw [at0_t0 hn]; split <;> simp
    · exact .inr (at0_out (by rw [hl]; exact hn))
  refine ⟨hl, fun n hn e => by rw [at0_t0 hn, if_pos e], fun n hn e _ => by rw [at0_t0 hn, if_neg e], fun n => by have := hat n; omega, fun n hn e e2 => ?_, fun n hn e e2 e3 k hk hnk htk => ?_, fun n hn => ?_⟩
  · rw [at0_t0 hn, if_neg e] at e2; exact absurd rfl e2
  · rcases hat k with h1 | h1
    · exact .inr (.inr ⟨h1, fun h => h⟩)
    · exact .inl h1
  · have h1 := cnt_pos hn
    rcases hat n with h2 | h2
    · rw [h2]; omega
    · exact absurd h2 hn
theorem stepL_ok {c : List Int} {W H : Nat} {s : Int} (hW : 2 ≤ W) (hL : c.length = W * H) : ∀ N : Nat, BI c W s N ((List.range N).foldl (stepB c W s) (t0 c s)) (fun _ => False)
  | 0 => bi0
  | N + 1 => by
    rw [List.range_succ, List.foldl_append]
    exact stepB_ok hW hL (stepL_ok hW hL N)
theorem bfs_hld {c : List Int} {W H : Nat} {s : Int} (hW : 2 ≤ W) (hL : c.length = W * H) : Hld c W s (bfs c W s) := by
  have h := stepL_ok (s := s) hW hL c.length
  have hb : ∀ n, at0 ((List.range c.length).foldl (stepB c W s) (t0 c s)) n ≠ -1 → at0 ((List.range c.length).foldl (stepB c W s) (t0 c s)) n < c.length := fun n hn => by
    have h1 := h.cn n hn
    have h2 := cnt_le ((List.range c.length).foldl (stepB c W s) (t0 c s))
    rw [h.len] at h2
    omega
  refine ⟨h.len, fun n hn => ⟨fun e => h.own n hn e, fun e e2 => ?_, fun e e2 => h.oth n hn e e2⟩⟩
  unfold bfs
  by_cases h0 : at0 ((List.range c.length).foldl (stepB c W s) (t0 c s)) n = -1
  · refine .inl ⟨h0, fun k hk hnk htk => ?_⟩
    rcases h.non n hn e e2 h0 k hk hnk htk with h4 | h4 | h4
    · exact h4
    · refine Decidable.byContradiction fun h5 => ?_
      have := hb k h5
      omega
    · refine Decidable.byContradiction fun h5 => ?_
      have := hb k h5
      omega
  · obtain ⟨_, k, g1, g2, g3, g4, g5, g6⟩ := h.got n hn e h0
    exact .inr ⟨k, g1, g2, g3, by omega, by omega, g6⟩
theorem bfs_lt {c : List Int} {W H : Nat} {s : Int} (hW : 2 ≤ W) (hL : c.length = W * H) (n : Nat) : at0 (bfs c W s) n < c.length ∨ at0 (bfs c W s) n = -1 := by
  have h := stepL_ok (s := s) hW hL c.length
  by_cases h0 : at0 (bfs c W s) n = -1
  · exact .inr h0
  · have h1 := h.cn n h0
    have h2 := cnt_le ((List.range c.length).foldl (stepB c W s) (t0 c s))
    rw [h.len] at h2
    left
    unfold bfs at *
    omega
end Riv

namespace Riv
def ls1 (o n : Int) : Int := if n ≠ -1 ∧ (o = -1 ∨ n < o) then n else o
end Riv

namespace Riv
def bat (m : List Bool) (n : Nat) : Bool := m.getD n false
inductive Con (mk : List Bool) (W : Nat) : Nat → Nat → Prop
  | refl {n : Nat} : bat mk n = true → Con mk W n n
  | step {a b c : Nat} : Con mk W a b → Nb W b c → bat mk c = true → Con mk W a c
theorem Con.mk {m : List Bool} {W a b : Nat} (h : Con m W a b) : bat m a = true ∧ bat m b = true := by
  induction h with
  | refl h => exact ⟨h, h⟩
  | step _ _ h ih => exact ⟨ih.1, h⟩
theorem Con.trans {m : List Bool} {W a b c : Nat} (h : Con m W a b) (g : Con m W b c) : Con m W a c := by
  induction g with
  | refl _ => exact h
  | step _ h1 h2 ih => exact Con.step ih h1 h2
theorem Con.symm {m : List Bool} {W a b : Nat} (h : Con m W a b) : Con m W b a := by
  induction h with
  | refl h => exact Con.refl h
  | step h1 h2 h3 ih => exact ((Con.refl h3).step h2.symm (h1.mk).2).trans ih
theorem nodup_len : ∀ (n : Nat) (l : List Nat), l.Nodup → (∀ x ∈ l, x < n) → l.length ≤ n
  | 0, l, _, h => by
    cases l with
    | nil => simp
    | cons x l => have := h x List.mem_cons_self; omega
  | n + 1, l, hd, h => by
    have h1 : (l.filter fun x => decide (x ≠ n)).length ≤ n := nodup_len n _ (hd.filter _) fun x hx => by
      rw [List.mem_filter] at hx
      have := h x hx.1
      have h3 : x ≠ n := by simpa using hx.2
      omega
    have h2 : l.length ≤ (l.filter fun x => decide (x ≠ n)).length + 1 := by
      clear h1 h
      induction l with
      | nil => simp
      | cons x l ih =>
        rw [List.nodup_cons] at hd
        by_cases hx : x = n
        · subst hx
          have : l.filter (fun y => decide (y ≠ x)) = l := List.filter_eq_self.2 fun y hy => by
            have : y ≠ x := fun e => hd.1 (e ▸ hy)
            simpa using this
          rw [List.filter_cons_of_neg (by simp), this]
          simp
        · rw [List.filter_cons_of_pos (by simpa using hx)]
          have := ih hd.2
          simp only [List.length_cons]; omega
    omega
end Riv

namespace Riv
def n0 (mk : List Bool) : List Int := mk.zipIdx.map fun x => bif x.1 then (x.2 : Int) else -1
end Riv

namespace Riv
def ownr (a b : Int) : Int := if a = -1 ∧ b = -1 then 0 else if a = b then 3 else if b = -1 ∨ (a ≠ -1 ∧ a < b) then 1 else 2
def lowT (T : List Int) (l : List Nat) : Int := l.foldl (fun o n => ls1 o (at0 T n)) (-1)
def marks (c : List Int) : List Bool := c.map fun x => decide (x = 3)
def own1 (c : List Int) (W : Nat) (l : List Nat) : Int := ownr (lowT (bfs c W 1) l) (lowT (bfs c W 2) l)
def many (k : Int) (l : List Int) : Int := (l.countP fun o => decide (o = k) : Nat)
end Riv

namespace Riv
def setHi (out : List Go.Vm.Spn) (h : Int) : List Go.Vm.Spn := match out.getLast? with
  | none => out
  | some x => out.dropLast ++ [⟨x.lo, h⟩]
def r1 (p : Int → Bool) (x : List Go.Vm.Spn × Bool) (s : Int) : List Go.Vm.Spn × Bool := (bif p s then (bif x.2 then setHi x.1 s else x.1 ++ [⟨s, s⟩]) else x.1, p s)
end Riv

namespace Riv
abbrev Dk := Nat × Int
structure Dealt (nx : Dk → Int → Int × Dk) : Prop where
  lo : ∀ d k, 0 ≤ (nx d k).1
  hi : ∀ d k, 0 < k → (nx d k).1 < k
  n : ∀ d k, (nx d k).2.1 ≤ d.1 + 1
structure MOk (W H : Nat) (c : List Int) : Prop where
  w : 3 ≤ W ∧ W ≤ 12
  h : 1 ≤ H ∧ H ≤ 12
  len : c.length = W * H
  kind : ∀ n, n < c.length → 0 ≤ at0 c n ∧ at0 c n ≤ 3
  side : ∀ y, y < H → at0 c (y * W) = 1 ∧ at0 c (y * W + W - 1) = 2
section
variable (nx : Dk → Int → Int × Dk)
def cellM (a b : Int) (d : Dk) (x : Nat) : Int × Dk :=
  if (x : Int) < a then (1, d) else if b ≤ (x : Int) then (2, d) else if (nx d 7).1 = 0 then (3, (nx d 7).2) else if (nx (nx d 7).2 20).1 = 0 then (1 + (nx (nx (nx d 7).2 20).2 2).1, (nx (nx (nx d 7).2 20).2 2).2) else (0, (nx (nx d 7).2 20).2)
def cellsM (a b : Int) (x : Dk × List Int) : Nat → Dk × List Int
  | 0 => x
  | k + 1 => ((cellM nx a b (cellsM a b x k).1 k).2, (cellsM a b x k).2 ++ [(cellM nx a b (cellsM a b x k).1 k).1])
def rowA (W : Nat) (d : Dk) : Int × Dk := nx d (max 1 ((W / 3 : Nat) : Int) - 1 + 1)
def rowB (W : Nat) (d : Dk) : Int × Dk := nx (rowA nx W d).2 ((W : Int) - 1 - max (1 + (rowA nx W d).1) ((W : Int) - 3) + 1)
def rowM (W : Nat) (x : Dk × List Int) : Dk × List Int := cellsM nx (1 + (rowA nx W x.1).1) (max (1 + (rowA nx W x.1).1) ((W : Int) - 3) + (rowB nx W x.1).1) ((rowB nx W x.1).2, x.2) W
def rowsM (W : Nat) (x : Dk × List Int) : Nat → Dk × List Int
  | 0 => x
  | y + 1 => rowM nx W (rowsM W x y)
def mdW (d : Dk) (w : Int) : Int × Dk := nx d (w - 4 + 1)
def mdH (d : Dk) (w h : Int) : Int × Dk := nx (mdW nx d w).2 (h - 1 + 1)
def madeX (d : Dk) (w h : Int) : Dk × List Int := rowsM nx (4 + (mdW nx d w).1).toNat ((mdH nx d w h).2, []) (1 + (mdH nx d w h).1).toNat
variable {nx}
theorem cellM_ok (hD : Dealt nx) (a b : Int) (d : Dk) (x : Nat) : (0 ≤ (cellM nx a b d x).1 ∧ (cellM nx a b d x).1 ≤ 3) ∧ (cellM nx a b d x).2.1 ≤ d.1 + 3 := by
  have h1 := hD.n d 7
  have h2 := hD.n (nx d 7).2 20
  have h3 := hD.n (nx (nx d 7).2 20).2 2
  have h4 := hD.lo (nx (nx d 7).2 20).2 2
  have h5 := hD.hi (nx (nx d 7).2 20).2 2 (by decide)
  unfold cellM
  split
  · exact ⟨⟨by dsimp only; omega, by dsimp only; omega⟩, by dsimp only; omega⟩
  · split
    · exact ⟨⟨by dsimp only; omega, by dsimp only; omega⟩, by dsimp only; omega⟩
    · split
      · exact ⟨⟨by dsimp only; omega, by dsimp only; omega⟩, by dsimp only; omega⟩
      · split
        · exact ⟨⟨by dsimp only; omega, by dsimp only; omega⟩, by dsimp only; omega⟩
        · exact ⟨⟨by dsimp only; omega, by dsimp only; omega⟩, by dsimp only; omega⟩
structure CMI (a b : Int) (x y : Dk × List Int) (k : Nat) : Prop where
  n : y.1.1 ≤ x.1.1 + 3 * k
  more : ∃ l, y.2 = x.2 ++ l ∧ l.length = k ∧ (∀ v ∈ l, 0 ≤ v ∧ v ≤ 3) ∧ ∀ j : Nat, j < k → ((j : Int) < a → l[j]? = some 1) ∧ (a ≤ (j : Int) → b ≤ (j : Int) → l[j]? = some 2)
theorem cellsM_ok (hD : Dealt nx) (a b : Int) (x : Dk × List Int) : ∀ k, CMI a b x (cellsM nx a b x k) k
  | 0 => ⟨Nat.le_refl _, [], by simp [cellsM], rfl, by simp, fun j h => by omega⟩
  | k + 1 => by
    obtain ⟨h1, l, h2, h3, h4, h5⟩ := cellsM_ok hD a b x k
    have hc := cellM_ok hD a b (cellsM nx a b x k).1 k
    rw [cellsM]
    refine ⟨by dsimp only; omega, l ++ [(cellM nx a b (cellsM nx a b x k).1 k).1], by rw [h2, List.append_assoc], by simp [h3], fun v hv => ?_, fun j hj => ?_⟩
    · rcases List.mem_append.1 hv with hv | hv
      · exact h4 v hv
      · rw [List.mem_singleton.1 hv]; exact hc.1
    · by_cases hjk : j < k
      · rw [List.getElem?_append_left (by omega)]
        exact h5 j hjk
      · have e : j = k := by omega
        subst e
        rw [List.getElem?_append_right (by omega), h3, Nat.sub_self]
        unfold cellM
        refine ⟨fun h => by rw [if_pos h]; rfl, fun h6 h7 => by rw [if_neg (by omega), if_pos h7]; rfl⟩
theorem at0_app {a b : List Int} {n : Nat} : at0 (a ++ b) n = if n < a.length then at0 a n else at0 b (n - a.length) := by
  unfold at0
  rw [List.getD_eq_getElem?_getD]
  split
  · rename_i h; rw [List.getElem?_append_left h, List.getD_eq_getElem?_getD]
  · rename_i h; rw [List.getElem?_append_right (by omega), List.getD_eq_getElem?_getD]
structure RMI (W : Nat) (d : Dk) (x : Dk × List Int) (k : Nat) : Prop where
  n : x.1.1 ≤ d.1 + (2 + 3 * W) * k
  len : x.2.length = k * W
  kind : ∀ n, n < x.2.length → 0 ≤ at0 x.2 n ∧ at0 x.2 n ≤ 3
  side : ∀ y, y < k → at0 x.2 (y * W) = 1 ∧ at0 x.2 (y * W + W - 1) = 2
theorem rowM_ok (hD : Dealt nx) {W k : Nat} (hW : 4 ≤ W) {d : Dk} {x : Dk × List Int} (h : RMI W d x k) : RMI W d (rowM nx W x) (k + 1) := by
  have a1 := hD.lo x.1 (max 1 ((W / 3 : Nat) : Int) - 1 + 1)
  have a2 := hD.hi x.1 (max 1 ((W / 3 : Nat) : Int) - 1 + 1) (by omega)
  have a3 := hD.n x.1 (max 1 ((W / 3 : Nat) : Int) - 1 + 1)
  rw [show nx x.1 (max 1 ((W / 3 : Nat) : Int) - 1 + 1) = rowA nx W x.1 from rfl] at a1 a2 a3
  have b1 := hD.lo (rowA nx W x.1).2 ((W : Int) - 1 - max (1 + (rowA nx W x.1).1) ((W : Int) - 3) + 1)
  have b2 := hD.hi (rowA nx W x.1).2 ((W : Int) - 1 - max (1 + (rowA nx W x.1).1) ((W : Int) - 3) + 1) (by omega)
  have b3 := hD.n (rowA nx W x.1).2 ((W : Int) - 1 - max (1 + (rowA nx W x.1).1) ((W : Int) - 3) + 1)
  rw [show nx (rowA nx W x.1).2 ((W : Int) - 1 - max (1 + (rowA nx W x.1).1) ((W : Int) - 3) + 1) = rowB nx W x.1 from rfl] at b1 b2 b3
  have hc := cellsM_ok hD (1 + (rowA nx W x.1).1) (max (1 + (rowA nx W x.1).1) ((W : Int) - 3) + (rowB nx W x.1).1) ((rowB nx W x.1).2, x.2) W
  rw [show cellsM nx (1 + (rowA nx W x.1).1) (max (1 + (rowA nx W x.1).1) ((W : Int) - 3) + (rowB nx W x.1).1) ((rowB nx W x.1).2, x.2) W = rowM nx W x from rfl] at hc
  obtain ⟨h1, l, h2, h3, h4, h5⟩ := hc
  dsimp only at h1 h2
  have hl := h.len
  refine ⟨?_, ?_, fun n hn => ?_, fun y hy => ?_⟩
  · have := h.n
    rw [Nat.mul_add, Nat.mul_one]
    omega
  · rw [h2, List.length_append, h3, hl, Nat.add_mul, Nat.one_mul]
  · rw [h2, at0_app]
    split
    · rename_i h6; exact h.kind n h6
    · rename_i h6
      rw [h2, List.length_append] at hn
      have h7 : n - x.2.length < l.length := by omega
      have e : at0 l (n - x.2.length) = l[n - x.2.length] := by unfold at0; rw [List.getD_eq_getElem?_getD, List.getElem?_eq_getElem h7]; rfl
      rw [e]
      exact h4 _ (List.getElem_mem h7)
  · by_cases hyk : y < k
    · have h6 : (y + 1) * W ≤ k * W := Nat.mul_le_mul_right W hyk
      rw [Nat.add_mul, Nat.one_mul] at h6
      rw [h2, at0_app, at0_app, if_pos (by omega), if_pos (by omega)]
      exact h.side y hyk
    · have e : y = k := by omega
      subst e
      rw [h2, at0_app, at0_app, if_neg (by omega), if_neg (by omega), hl, Nat.sub_self, show y * W + W - 1 - y * W = W - 1 by omega]
      have g1 := (h5 0 (by omega)).1 (by omega)
      have g2 := (h5 (W - 1) (by omega)).2 (by omega) (by omega)
      unfold at0
      rw [List.getD_eq_getElem?_getD, List.getD_eq_getElem?_getD, g1, g2]
      exact ⟨rfl, rfl⟩
theorem rowsM_ok (hD : Dealt nx) {W : Nat} (hW : 4 ≤ W) {d : Dk} : ∀ k, RMI W d (rowsM nx W (d, []) k) k
  | 0 => ⟨Nat.le_refl _, by simp [rowsM], fun n hn => by simp [rowsM] at hn, fun y hy => by omega⟩
  | k + 1 => rowM_ok hD hW (rowsM_ok hD hW k)
theorem madeX_ok (hD : Dealt nx) {d : Dk} {w h : Int} (hw : 4 ≤ w ∧ w ≤ 12) (hh : 1 ≤ h ∧ h ≤ 12) : ∃ W H : Nat, 4 + (mdW nx d w).1 = W ∧ 1 + (mdH nx d w h).1 = H ∧ (W : Int) ≤ w ∧ (H : Int) ≤ h ∧ 4 ≤ W ∧ MOk W H (madeX nx d w h).2 ∧ (madeX nx d w h).1.1 ≤ d.1 + 500 ∧ madeX nx d w h = rowsM nx W ((mdH nx d w h).2, []) H := by
  have a1 := hD.lo d (w - 4 + 1)
  have a2 := hD.hi d (w - 4 + 1) (by omega)
  have a3 := hD.n d (w - 4 + 1)
  rw [show nx d (w - 4 + 1) = mdW nx d w from rfl] at a1 a2 a3
  have b1 := hD.lo (mdW nx d w).2 (h - 1 + 1)
  have b2 := hD.hi (mdW nx d w).2 (h - 1 + 1) (by omega)
  have b3 := hD.n (mdW nx d w).2 (h - 1 + 1)
  rw [show nx (mdW nx d w).2 (h - 1 + 1) = mdH nx d w h from rfl] at b1 b2 b3
  obtain ⟨W, eW⟩ : ∃ W : Nat, 4 + (mdW nx d w).1 = W := ⟨(4 + (mdW nx d w).1).toNat, by omega⟩
  obtain ⟨H, eH⟩ : ∃ H : Nat, 1 + (mdH nx d w h).1 = H := ⟨(1 + (mdH nx d w h).1).toNat, by omega⟩
  have hr := rowsM_ok hD (W := W) (d := (mdH nx d w h).2) (by omega) H
  have e : madeX nx d w h = rowsM nx W ((mdH nx d w h).2, []) H := by
    unfold madeX
    rw [eW, eH, Int.toNat_natCast, Int.toNat_natCast]
  refine ⟨W, H, eW, eH, by omega, by omega, by omega, ?_, ?_, e⟩
  · rw [e]
    exact ⟨⟨by omega, by omega⟩, ⟨by omega, by omega⟩, by rw [hr.len, Nat.mul_comm], hr.kind, hr.side⟩
  · rw [e]
    have h1 := hr.n
    have h2 : (2 + 3 * W) * H ≤ 38 * 12 := Nat.mul_le_mul (by omega) (by omega)
    omega
end
end Riv

namespace Riv
def sideB (c : List Int) (W : Nat) (y : Nat) : Bool := decide (at0 c (y * W) = 1 ∧ at0 c (y * W + W - 1) = 2)
def kindB (c : List Int) : Bool := c.all fun x => decide (0 ≤ x ∧ x ≤ 3)
def chkM (m : Mp) : Int :=
  if ((3 ≤ m.w ∧ m.w ≤ 12) ∧ 1 ≤ m.h ∧ m.h ≤ 12) ∧ (m.c.length : Int) = m.w * m.h then
    (bif kindB m.c then (bif (List.range m.h.toNat).all (sideB m.c m.w.toNat) then 0 else 9) else 4)
  else 3
theorem chkM_ok {m : Mp} (h : chkM m = 0) : ∃ W H : Nat, m.w = W ∧ m.h = H ∧ MOk W H m.c := by
  unfold chkM at h
  split at h
  · rename_i h1
    obtain ⟨W, eW⟩ : ∃ W : Nat, m.w = W := ⟨m.w.toNat, by omega⟩
    obtain ⟨H, eH⟩ : ∃ H : Nat, m.h = H := ⟨m.h.toNat, by omega⟩
    cases hk : kindB m.c with
    | false => rw [hk] at h; simp at h
    | true =>
      rw [hk, cond_true] at h
      cases hs : (List.range m.h.toNat).all (sideB m.c m.w.toNat) with
      | false => rw [hs] at h; simp at h
      | true =>
        rw [eW, eH, Int.toNat_natCast, Int.toNat_natCast] at hs
        rw [eW, eH] at h1
        refine ⟨W, H, eW, eH, ⟨by omega, by omega⟩, ⟨by omega, by omega⟩, ?_, fun n hn => ?_, fun y hy => ?_⟩
        · have := h1.2
          have e : ((W * H : Nat) : Int) = (W : Int) * H := by rw [Int.natCast_mul]
          omega
        · unfold kindB at hk
          rw [List.all_eq_true] at hk
          have e : at0 m.c n = m.c[n] := by unfold at0; rw [List.getD_eq_getElem?_getD, List.getElem?_eq_getElem hn]; rfl
          rw [e]
          exact of_decide_eq_true (hk _ (List.getElem_mem hn))
        · rw [List.all_eq_true] at hs
          exact of_decide_eq_true (hs y (List.mem_range.2 hy))
  · simp at h
theorem chkM_of {W H : Nat} {c : List Int} (h : MOk W H c) : chkM ⟨W, H, c⟩ = 0 := by
  unfold chkM
  have h1 := h.w; have h2 := h.h; have h3 := h.len
  have e : ((W * H : Nat) : Int) = (W : Int) * H := by rw [Int.natCast_mul]
  rw [if_pos (by dsimp only; refine ⟨by omega, ?_⟩; omega)]
  have hk : kindB c = true := by
    unfold kindB
    rw [List.all_eq_true]
    intro x hx
    obtain ⟨n, hn, rfl⟩ := List.getElem_of_mem hx
    have e : at0 c n = c[n] := by unfold at0; rw [List.getD_eq_getElem?_getD, List.getElem?_eq_getElem hn]; rfl
    rw [← e]
    exact decide_eq_true (h.kind n hn)
  have hs : (List.range H).all (sideB c W) = true := by
    rw [List.all_eq_true]
    intro y hy
    exact decide_eq_true (h.side y (List.mem_range.1 hy))
  dsimp only
  rw [hk, Int.toNat_natCast, Int.toNat_natCast, hs]
  rfl
end Riv

open Go.Vm
open Riv
namespace Go.Proofs.Ytoeendggmalcpaa.Rv
set_option maxRecDepth 20000
set_option maxHeartbeats 2000000

def vM (m : Mp) : V := .agg [I m.w, I m.h, ints m.c]
def encM (m : Mp) : List D := [DI m.w, DI m.h, .sl 1 m.c.length (m.c.flatMap Vm.encI)]
def vSd (m : Mp) (s : Int) : V := .agg [I m.w, I m.h, ints m.c, I s]
end Go.Proofs.Ytoeendggmalcpaa.Rv

open Go.Vm
open Riv
namespace Go.Proofs.Ytoeendggmalcpaa.Rv
set_option maxRecDepth 20000
set_option maxHeartbeats 4000000

theorem vc_from (n a b : Int) (h : Hp) : VC Try.prog 152 [I n, I a, I b] h (B (decide (a ≤ n ∧ n ≤ b))) h := by
  refine VC.body Try.func152 rfl Try.ntmps152 Try.call152 (h.grows_refl) rfl ?_; conv => whnf
  repeat' (first | ((first | refine zs1 ?_ | refine zs2 ?_ | refine zs3 ?_ | refine zs4 ?_ | refine zs5 ?_ | refine zs6 [] ?_); conv => whnf) | ((first | apply zi1 | apply zi2 | apply zi3 | apply zi4 | apply zi5) <;> intro _ <;> conv => whnf))
  all_goals (refine VOut.same ?_; simp [V.ren]; try omega)
end Go.Proofs.Ytoeendggmalcpaa.Rv

open Go.Vm
open Riv
namespace Go.Proofs.Ytoeendggmalcpaa.Rv
set_option maxRecDepth 20000
set_option maxHeartbeats 4000000

theorem vc_through (m : Mp) (s x : Int) (k : Nat) (h : Hp) (hk : m.c[k]? = some x) : VC Try.prog 135 [vSd m s, I k] h (B (decide (x = 0 ∨ x = s))) h := by
  refine VC.body Try.func135 rfl Try.ntmps135 Try.call135 (h.grows_refl) rfl ?_; conv => whnf
  repeat' (first | ((first | refine zs1 ?_ | refine zs2 ?_ | refine zs3 ?_ | refine zs4 ?_ | refine zs5 ?_ | refine zs6 [] ?_); conv => whnf) | ((first | apply zi1 | apply zi2 | apply zi3 | apply zi4 | apply zi5) <;> intro _ <;> conv => whnf) | (refine VAny.ix Vm.encI_len k rfl rfl hk ?_; conv => whnf))
  all_goals (refine VOut.same ?_; simp [V.ren]; try omega)
  all_goals (rename_i hx; rw [Bool.eq_iff_iff]; simp [hx])
end Go.Proofs.Ytoeendggmalcpaa.Rv

open Go.Vm
open Riv
namespace Go.Proofs.Ytoeendggmalcpaa.Rv
set_option maxRecDepth 20000
set_option maxHeartbeats 4000000

def fidx {α : Type} (q : α → Bool) : List α → Int → Int
  | [], _ => -1
  | a :: l, i => bif q a then i else fidx q l (i + 1)
theorem fidx_at {α : Type} {q : α → Bool} {l : List α} {k : Nat} {a : α} {i : Int} (h : l[k]? = some a) : fidx q (l.drop k) i = bif q a then i else fidx q (l.drop (k + 1)) (i + 1) := by
  obtain ⟨hlt, rfl⟩ := List.getElem?_eq_some_iff.1 h
  rw [List.drop_eq_getElem_cons hlt, fidx]
theorem fidx_nn {α : Type} {q : α → Bool} : ∀ (l : List α) (i : Int), 0 ≤ i → (0 ≤ fidx q l i ↔ l.any q = true)
  | [], i, _ => by simp [fidx]
  | a :: l, i, hi => by
    rw [fidx, List.any_cons]
    cases q a
    · rw [cond_false, Bool.false_or]; exact fidx_nn l (i + 1) (by omega)
    · rw [cond_true, Bool.true_or]; simp [hi]
theorem vc_IndexFI (l : List Int) (q : Int → Bool) (g : FuncId) (hl : l.length ≤ 4000000) (hso : ∀ (e : Int) (h : Hp), VC Try.prog g [I e] h (B (q e)) h) (h : Hp) :
    VC Try.prog 123 [ints l, .func (.func g) [] []] h (I (fidx q l 0)) h := by
  obtain ⟨E, hE⟩ : ∃ E, E = fidx q l 0 := ⟨_, rfl⟩
  rw [← hE]
  refine VC.body Try.func123 rfl Try.ntmps123 Try.call123 (h.grows_refl) rfl ?_; conv => whnf
  repeat (first | ((first | refine zs1 ?_ | refine zs2 ?_ | refine zs3 ?_ | refine zs4 ?_ | refine zs5 ?_ | refine zs6 [] ?_); conv => whnf))
  refine VCode.lp (fun k : Nat => [(0, ints l), (1, .func (.func g) [] []), (7, I l.length), (8, I k)]) (fun _ => []) (fun k => k ≤ l.length ∧ E = fidx q (l.drop k) k) (fun k => l.length - k) 0 ⟨Nat.zero_le _, hE⟩ ?_ ?_
  · conv => whnf
    refine Retell.turn ⟨[], 0, [], []⟩ (TurnOk.mk' _ _ [] [] (OutOk.lift _) rfl (by decide) zb trivial trivial rfl) zw zm
  · rintro k ⟨h1, h2⟩
    conv => whnf
    refine VIte.dec (fun h3 => ?_) (fun h3 => ?_)
    · have ha : l[k]? = some l[k] := List.getElem?_eq_getElem (by omega)
      have hm := hso l[k]
      generalize l[k] = a at ha hm
      rw [fidx_at ha] at h2
      conv => whnf
      repeat' (first | ((first | refine zs1 ?_ | refine zs2 ?_ | refine zs3 ?_ | refine zs4 ?_ | refine zs5 ?_ | refine zs6 [] ?_); conv => whnf) | ((first | apply zi1 | apply zi2 | apply zi3 | apply zi4 | apply zi5) <;> intro _ <;> conv => whnf) | (refine VAny.ix Vm.encI_len k (by omega) rfl ha ?_; conv => whnf))
      refine VCall.intro (hm _) ?_
      conv => whnf
      cases hq : q a
      · rw [hq] at h2
        conv => whnf
        repeat (first | ((first | refine zs1 ?_ | refine zs2 ?_ | refine zs3 ?_ | refine zs4 ?_ | refine zs5 ?_ | refine zs6 [] ?_); conv => whnf))
        refine LEnd.intro (k + 1) ⟨by omega, h2⟩ (by omega) ?_
        conv => whnf
        refine Retell.turn ⟨[], 0, [], []⟩ (TurnOk.mk' _ _ [] [] (OutOk.lift _) rfl (by decide) zb trivial trivial rfl) zw zm
      · rw [hq] at h2
        rw [h2]
        conv => whnf
        repeat (first | ((first | refine zs1 ?_ | refine zs2 ?_ | refine zs3 ?_ | refine zs4 ?_ | refine zs5 ?_ | refine zs6 [] ?_); conv => whnf))
        exact VOut.same rfl
    · rw [List.drop_of_length_le (by omega), fidx] at h2
      rw [h2]
      conv => whnf
      repeat (first | ((first | refine zs1 ?_ | refine zs2 ?_ | refine zs3 ?_ | refine zs4 ?_ | refine zs5 ?_ | refine zs6 [] ?_); conv => whnf))
      exact VOut.same rfl
theorem vc_ContFI (l : List Int) (q : Int → Bool) (g : FuncId) (hl : l.length ≤ 4000000) (hso : ∀ (e : Int) (h : Hp), VC Try.prog g [I e] h (B (q e)) h) (h : Hp) :
    VC Try.prog 153 [ints l, .func (.func g) [] []] h (B (l.any q)) h := by
  have e := fidx_nn (q := q) l 0 (Int.le_refl _)
  have c := fun h => vc_IndexFI l q g hl hso h
  generalize fidx q l 0 = E at e c
  refine VC.body Try.func153 rfl Try.ntmps153 Try.call153 (h.grows_refl) rfl ?_; conv => whnf
  repeat' (first | ((first | refine zs1 ?_ | refine zs2 ?_ | refine zs3 ?_ | refine zs4 ?_ | refine zs5 ?_ | refine zs6 [] ?_); conv => whnf) | ((first | apply zi1 | apply zi2 | apply zi3 | apply zi4 | apply zi5) <;> intro _ <;> conv => whnf) | (refine VCall.intro (c _) ?_; conv => whnf))
  refine VOut.same ?_
  show B (decide (0 ≤ E)) = _
  congr 1
  rw [Bool.eq_iff_iff, decide_eq_true_eq]
  exact e
theorem vc_Check1 (x : Int) (h : Hp) : VC Try.prog 154 [I x] h (B (!decide (0 ≤ x ∧ x ≤ 3))) h := by
  refine VC.body Try.func154 rfl Try.ntmps154 Try.call154 (h.grows_refl) rfl ?_; conv => whnf
  repeat' (first | ((first | refine zs1 ?_ | refine zs2 ?_ | refine zs3 ?_ | refine zs4 ?_ | refine zs5 ?_ | refine zs6 [] ?_); conv => whnf) | ((first | apply zi1 | apply zi2 | apply zi3 | apply zi4 | apply zi5) <;> intro _ <;> conv => whnf) | (refine VCall.intro (vc_from _ _ _ _) ?_; conv => whnf))
  exact VOut.same rfl
theorem any_kind (c : List Int) : (c.any fun x => !decide (0 ≤ x ∧ x ≤ 3)) = !kindB c := by
  unfold kindB
  rw [List.all_eq_not_any_not, Bool.not_not]
/-! ### The rows of a map -/
def vChunk (c : List Int) (W : Nat) : V := .func (.func 166) [] [.fp [dints c], .fp [DI W]]
theorem vc_Chunk (c : List Int) (W : Nat) (h : Hp) (hW : 1 ≤ W) : VC Try.prog 155 [ints c, I W] h (vChunk c W) h := by
  refine VC.body Try.func155 rfl Try.ntmps155 Try.call155 (h.grows_refl) rfl ?_; conv => whnf
  repeat' (first | ((first | refine zs1 ?_ | refine zs2 ?_ | refine zs3 ?_ | refine zs4 ?_ | refine zs5 ?_ | refine zs6 [] ?_); conv => whnf) | ((first | apply zi1 | apply zi2 | apply zi3 | apply zi4 | apply zi5) <;> intro _ <;> conv => whnf))
  · exfalso; omega
  · refine VOut.data 2 [(0, [dints c]), (1, [DI W])] [] rfl zf (by exact FmAll.nil) zw
def rowL (c : List Int) (W y : Nat) : List Int := (c.drop (y * W)).take W
theorem rowL_at {c : List Int} {W y k : Nat} (hk : k < W) (hc : y * W + k < c.length) : (rowL c W y)[k]? = some (at0 c (y * W + k)) := by
  unfold rowL at0
  rw [List.getElem?_take, if_pos hk, List.getElem?_drop, List.getD_eq_getElem?_getD, List.getElem?_eq_getElem hc]; rfl
theorem rowL_len {c : List Int} {W H y : Nat} (hL : c.length = W * H) (hy : y < H) : (rowL c W y).length = W := by
  have h1 : (y + 1) * W ≤ H * W := Nat.mul_le_mul_right _ hy
  rw [Nat.add_mul, Nat.one_mul, Nat.mul_comm H] at h1
  unfold rowL
  rw [List.length_take, List.length_drop]; omega
theorem iter_Chunk (c : List Int) (W H : Nat) (hW : 1 ≤ W ∧ W ≤ 100000) (hL : c.length = W * H) (hc : c.length ≤ 4000000) : IterN Try.prog 166 [] [.fp [dints c], .fp [DI W]] H (fun y => some [ints (rowL c W y)]) := by
  intro h i J E hs h0
  obtain ⟨S, g, g0, hS, g1, g2⟩ := iterN_seq (ys := fun y => some [ints (rowL c W y)]) H hs h0
  have hgr : ∀ j, j ≤ S → h.grows (g j) := by
    intro j
    induction j with
    | zero => intro _; rw [g0]; exact h.grows_refl
    | succ j ih =>
      intro hj
      rcases g1 j (by omega) with ⟨e, _⟩ | ⟨vs, _, hv⟩
      · cases e
      · exact fun k hk => hv.1 k (ih (by omega) k hk)
  have hrow : ∀ y, y < H → (rowL c W y).length = W := fun y hy => rowL_len hL hy
  have hle : ∀ y, y ≤ H → y * W ≤ c.length := fun y hy => by
    have h1 : y * W ≤ H * W := Nat.mul_le_mul_right _ hy
    rw [Nat.mul_comm H] at h1; omega
  have hlt : ∀ y, y < H → y * W + W ≤ c.length := fun y hy => by
    have h1 : (y + 1) * W ≤ H * W := Nat.mul_le_mul_right _ hy
    rw [Nat.add_mul, Nat.one_mul, Nat.mul_comm H] at h1; omega
  have hsub : ∀ y, rowL c W y = (c.drop (y * W)).take W := fun _ => rfl
  have hX : ∀ A : Nat, A ≤ c.length → (((c.drop (A : Int).toNat).take ((c.length : Int) - (A : Int)).toNat).length) = c.length - A := fun A hA => by rw [List.length_take, List.length_drop]; omega
  have hR : ∀ (A : Nat) (X : Nat), A + W ≤ c.length → X = c.length - A → (c.drop (A : Int).toNat).take ((A : Int) + min (W : Int) (X : Int) - (A : Int)).toNat = (c.drop A).take W := fun A X hA hx => by
    rw [Int.toNat_natCast, show ((A : Int) + min (W : Int) (X : Int) - (A : Int)).toNat = W by omega]
  rcases g2 with ⟨hSm, hI⟩ | ⟨hSm, vs, gE, e1, e2, e3⟩
  · refine ⟨g H, ?_, .inl hI⟩
    refine VC.body Try.func166 rfl Try.ntmps166 Try.call166 (hgr _ (by omega)) rfl ?_
    conv => whnf
    repeat' (first | ((first | refine zs1 ?_ | refine zs2 ?_ | refine zs3 ?_ | refine zs4 ?_ | refine zs5 ?_ | refine zs6 [] ?_); conv => whnf) | ((first | apply zi1 | apply zi2 | apply zi3 | apply zi4 | apply zi5) <;> intro _ <;> conv => whnf))
    refine VCode.lpo (fun y : Nat => [(0, .yld (.out i)), (1, .fp [dints c]), (2, .fp [DI W]), (4, I (y * W : Nat))]) (fun y => (g y).lift) (fun _ => []) (fun y => y ≤ H) (fun y => H - y) 0 (Nat.zero_le _) (by rw [g0]) ?_ ?_
    · rw [Nat.zero_mul]
      conv => whnf
      refine Retell.turn ⟨[], 0, [], []⟩ (TurnOk.mk' _ _ [] [] (OutOk.lift _) rfl (by decide) zb trivial trivial rfl) zw zm
    · rintro y hy
      have hs1 : y < H → ((y + 1) * W : Nat) = y * W + W := fun _ => by rw [Nat.add_mul, Nat.one_mul]
      have hy1 := hle y hy
      have hy2 := hlt y
      have hy3 := hsub y
      have hst := g1 y
      obtain ⟨A, hA⟩ : ∃ A, A = y * W := ⟨_, rfl⟩
      rw [← hA] at hs1 hy1 hy2 hy3 ⊢
      have hend : ¬ y < H → A = c.length := fun hh => by
        obtain rfl : y = H := by omega
        rw [hA, hL, Nat.mul_comm]
      conv => whnf
      repeat (first | ((first | refine zs1 ?_ | refine zs2 ?_ | refine zs3 ?_ | refine zs4 ?_ | refine zs5 ?_ | refine zs6 [] ?_); conv => whnf))
      refine VIte.dec (fun h3 => ?_) (fun h3 => ?_)
      · have hyH : y < H := Decidable.byContradiction fun hh => by have := hend hh; omega
        rcases hst (by omega) with ⟨e, _⟩ | ⟨vs, e, hv⟩
        · cases e
        · cases e
          have hs2 := hs1 hyH
          have hy5 := hy2 hyH
          have e7 := hX A hy1
          have e8 := hR A _ hy5 e7
          rw [← hy3] at e8
          generalize rowL c W y = R at hv hy3 e8
          conv => whnf
          repeat' (first | ((first | refine zs1 ?_ | refine zs2 ?_ | refine zs3 ?_ | refine zs4 ?_ | refine zs5 ?_ | refine zs6 [] ?_); conv => whnf) | ((first | apply zi1 | apply zi2 | apply zi3 | apply zi4 | apply zi5) <;> intro _ <;> conv => whnf) | (refine VAny.sub Vm.encI_len rfl (by omega) ?_; conv => whnf) | (refine VAny.subM Vm.encI_len rfl rfl (by omega) ?_; conv => whnf))
          rw [e8]
          refine VYield.intro (VY.lift _ hv) ?_
          conv => whnf
          repeat' (first | ((first | refine zs1 ?_ | refine zs2 ?_ | refine zs3 ?_ | refine zs4 ?_ | refine zs5 ?_ | refine zs6 [] ?_); conv => whnf) | ((first | apply zi1 | apply zi2 | apply zi3 | apply zi4 | apply zi5) <;> intro _ <;> conv => whnf) | (refine VAny.sub Vm.encI_len rfl (by omega) ?_; conv => whnf) | (refine VAny.subM Vm.encI_len rfl rfl (by omega) ?_; conv => whnf))
          refine LEndO.intro (y + 1) (by omega) (by omega) rfl ?_
          rw [hs2]
          conv => whnf
          refine Retell.turn ⟨[], 0, [], []⟩ (TurnOk.mk' _ _ [] [] (OutOk.lift _) rfl (by decide) zb trivial trivial rfl) zw zm
      · have hyH : y = H := by
          refine Decidable.byContradiction fun hh => ?_
          have := hy2 (by omega)
          omega
        subst hyH
        conv => whnf
        exact VOut.lifted (r := .tuple []) (hgr _ (by omega))
  · refine ⟨gE, ?_, .inr e3⟩
    have hgE : h.grows gE := fun k hk => e2.1 k (hgr S (Nat.le_refl _) k hk)
    refine VC.body Try.func166 rfl Try.ntmps166 Try.call166 hgE rfl ?_
    conv => whnf
    repeat' (first | ((first | refine zs1 ?_ | refine zs2 ?_ | refine zs3 ?_ | refine zs4 ?_ | refine zs5 ?_ | refine zs6 [] ?_); conv => whnf) | ((first | apply zi1 | apply zi2 | apply zi3 | apply zi4 | apply zi5) <;> intro _ <;> conv => whnf))
    refine VCode.lpo (fun y : Nat => [(0, .yld (.out i)), (1, .fp [dints c]), (2, .fp [DI W]), (4, I (y * W : Nat))]) (fun y => (g y).lift) (fun _ => []) (fun y => y ≤ S) (fun y => S - y) 0 (Nat.zero_le _) (by rw [g0]) ?_ ?_
    · rw [Nat.zero_mul]
      conv => whnf
      refine Retell.turn ⟨[], 0, [], []⟩ (TurnOk.mk' _ _ [] [] (OutOk.lift _) rfl (by decide) zb trivial trivial rfl) zw zm
    · rintro y hy
      have hs2 : ((y + 1) * W : Nat) = y * W + W := by rw [Nat.add_mul, Nat.one_mul]
      have hy1 := hle y (by omega)
      have hy5 := hlt y (by omega)
      have hy3 := hsub y
      have hst := g1 y
      obtain ⟨A, hA⟩ : ∃ A, A = y * W := ⟨_, rfl⟩
      rw [← hA] at hs2 hy1 hy5 hy3 ⊢
      have e7 := hX A hy1
      have e8 := hR A _ hy5 e7
      rw [← hy3] at e8
      rcases Nat.eq_or_lt_of_le hy with hkS | hkS
      · subst hkS
        cases e1
        generalize rowL c W y = R at e2 hy3 e8
        conv => whnf
        repeat' (first | ((first | refine zs1 ?_ | refine zs2 ?_ | refine zs3 ?_ | refine zs4 ?_ | refine zs5 ?_ | refine zs6 [] ?_); conv => whnf) | ((first | apply zi1 | apply zi2 | apply zi3 | apply zi4 | apply zi5) <;> intro _ <;> conv => whnf) | (refine VAny.sub Vm.encI_len rfl (by omega) ?_; conv => whnf) | (refine VAny.subM Vm.encI_len rfl rfl (by omega) ?_; conv => whnf))
        · rw [e8]
          refine VYield.intro (VY.lift _ e2) ?_
          conv => whnf
          repeat' (first | ((first | refine zs1 ?_ | refine zs2 ?_ | refine zs3 ?_ | refine zs4 ?_ | refine zs5 ?_ | refine zs6 [] ?_); conv => whnf) | ((first | apply zi1 | apply zi2 | apply zi3 | apply zi4 | apply zi5) <;> intro _ <;> conv => whnf) | (refine VAny.sub Vm.encI_len rfl (by omega) ?_; conv => whnf) | (refine VAny.subM Vm.encI_len rfl rfl (by omega) ?_; conv => whnf))
          exact VOut.lifted (r := .tuple []) hgE
        · exfalso; omega
      · rcases hst hkS with ⟨e, _⟩ | ⟨vs, e, hv⟩
        · cases e
        · cases e
          generalize rowL c W y = R at hv hy3 e8
          conv => whnf
          repeat' (first | ((first | refine zs1 ?_ | refine zs2 ?_ | refine zs3 ?_ | refine zs4 ?_ | refine zs5 ?_ | refine zs6 [] ?_); conv => whnf) | ((first | apply zi1 | apply zi2 | apply zi3 | apply zi4 | apply zi5) <;> intro _ <;> conv => whnf) | (refine VAny.sub Vm.encI_len rfl (by omega) ?_; conv => whnf) | (refine VAny.subM Vm.encI_len rfl rfl (by omega) ?_; conv => whnf))
          · rw [e8]
            refine VYield.intro (VY.lift _ hv) ?_
            conv => whnf
            repeat' (first | ((first | refine zs1 ?_ | refine zs2 ?_ | refine zs3 ?_ | refine zs4 ?_ | refine zs5 ?_ | refine zs6 [] ?_); conv => whnf) | ((first | apply zi1 | apply zi2 | apply zi3 | apply zi4 | apply zi5) <;> intro _ <;> conv => whnf) | (refine VAny.sub Vm.encI_len rfl (by omega) ?_; conv => whnf) | (refine VAny.subM Vm.encI_len rfl rfl (by omega) ?_; conv => whnf))
            refine LEndO.intro (y + 1) (by omega) (by omega) rfl ?_
            rw [hs2]
            conv => whnf
            refine Retell.turn ⟨[], 0, [], []⟩ (TurnOk.mk' _ _ [] [] (OutOk.lift _) rfl (by decide) zb trivial trivial rfl) zw zm
          · exfalso; omega
end Go.Proofs.Ytoeendggmalcpaa.Rv


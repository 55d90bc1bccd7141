/- Part 7 of the proof that the middle of a straight river is as at sea. No condition. -/
import Derived.Test.YtccpfempgmkmbaaGreatBm6
set_option linter.unusedVariables false
set_option linter.unusedSimpArgs false
namespace Riv
def stc (f : Nat → Int) (W k : Nat) : List Int := (List.range k).map fun n => f (n % W)
theorem stc_len (f : Nat → Int) (W k : Nat) : (stc f W k).length = k := by simp [stc]
theorem stc_at {f : Nat → Int} {W k n : Nat} (h : n < k) : at0 (stc f W k) n = f (n % W) := by
  unfold at0 stc
  rw [List.getD_eq_getElem?_getD, List.getElem?_map, List.getElem?_range h]; rfl
theorem stc_succ (f : Nat → Int) (W k : Nat) : stc f W (k + 1) = stc f W k ++ [f (k % W)] := by unfold stc; rw [List.range_succ, List.map_append]; rfl
theorem nb_mod {W n k : Nat} (hW : 2 ≤ W) (h : Nb W n k) : k % W = n % W ∨ k % W + 1 = n % W ∨ k % W = n % W + 1 := by
  rcases h with h | h | ⟨h, h2⟩ | ⟨h, h2⟩
  · subst h; left; rw [Nat.add_mod_right]
  · subst h; left; rw [Nat.add_mod_right]
  · subst h
    have := mod_succ (n := k) hW
    split at this
    · omega
    · right; left; omega
  · subst h
    have := mod_succ (n := n) hW
    split at this
    · omega
    · right; right; omega
theorem nb_left {W n : Nat} (hW : 2 ≤ W) (h : n % W ≠ 0) : Nb W n (n - 1) ∧ (n - 1) % W + 1 = n % W := by
  have h0 : n ≠ 0 := by rintro rfl; exact h (Nat.zero_mod _)
  obtain ⟨m, rfl⟩ : ∃ m, n = m + 1 := ⟨n - 1, by omega⟩
  rw [Nat.add_sub_cancel]
  refine ⟨.inr (.inr (.inl ⟨rfl, h⟩)), ?_⟩
  have := mod_succ (n := m) hW
  split at this
  · omega
  · omega
theorem nb_right {W H n : Nat} (hW : 2 ≤ W) (hn : n < W * H) (h : n % W ≠ W - 1) : Nb W n (n + 1) ∧ (n + 1) % W = n % W + 1 ∧ n + 1 < W * H := by
  have hm := mod_succ (n := n) hW
  rw [if_neg h] at hm
  refine ⟨.inr (.inr (.inr ⟨rfl, by omega⟩)), hm, ?_⟩
  have : n + 1 ≠ W * H := fun e => by
    rw [e, Nat.mul_mod_right] at hm
    omega
  omega
def sk (a b : Nat) (x : Nat) : Int := if x < a then 1 else if b ≤ x then 2 else 0
def s1 (a b : Nat) (x : Nat) : Int := if x < a then 0 else if b ≤ x then -1 else (x : Int) - a + 1
def s2 (a b : Nat) (x : Nat) : Int := if b ≤ x then 0 else if x < a then -1 else (b : Int) - x
structure Stt (W a b : Nat) : Prop where
  fst : 1 ≤ a
  ab : a < b
  lst : b < W
theorem st_one {W H a b : Nat} (S : Stt W a b) : Hld (stc (sk a b) W (W * H)) W 1 (stc (s1 a b) W (W * H)) := by
  have hab := S.ab
  have ha := S.fst
  have hb := S.lst
  have hW : 2 ≤ W := by omega
  refine ⟨by rw [stc_len, stc_len], fun n hn => ?_⟩
  rw [stc_len] at hn
  have kn : at0 (stc (sk a b) W (W * H)) n = sk a b (n % W) := stc_at hn
  have tn : at0 (stc (s1 a b) W (W * H)) n = s1 a b (n % W) := stc_at hn
  refine ⟨fun h => ?_, fun h1 h2 => ?_, fun h1 h2 => ?_⟩
  · rw [kn] at h
    rw [tn]
    unfold sk at h
    unfold s1
    split at h
    · rename_i g; rw [if_pos g]
    · split at h <;> omega
  · unfold Opn at h2
    rw [kn] at h1 h2
    have hx : a ≤ n % W ∧ n % W < b := by
      unfold sk at h1 h2
      split at h1
      · omega
      · split at h2
        · omega
        · omega
    right
    obtain ⟨g1, g2⟩ := nb_left hW (n := n) (by omega)
    have hk : n - 1 < W * H := by omega
    refine ⟨n - 1, by rw [stc_len]; exact hk, g1, ?_, ?_, ?_, fun j hj hnb ht hm => ?_⟩
    · unfold Thr
      rw [stc_at hk]
      unfold sk
      split
      · exact .inr rfl
      · rw [if_neg (by omega)]; exact .inl rfl
    · rw [stc_at hk]
      unfold s1
      split
      · decide
      · rw [if_neg (by omega)]; omega
    · rw [tn, stc_at hk]
      unfold s1
      rw [if_neg (by omega), if_neg (by omega)]
      split
      · omega
      · rw [if_neg (by omega)]; omega
    · rw [stc_len] at hj
      have := nb_mod hW hnb
      rw [stc_at hj] at hm
      rw [stc_at hk, stc_at hj]
      unfold s1 at hm ⊢
      split
      · split
        · omega
        · split <;> omega
      · rw [if_neg (by omega)]
        split
        · omega
        · split <;> omega
  · unfold Opn at h2
    rw [kn] at h1 h2
    rw [tn]
    unfold sk at h1 h2
    unfold s1
    split at h1
    · omega
    · rename_i g
      rw [if_neg g] at h2 ⊢
      split at h2
      · rename_i g2; rw [if_pos g2]
      · omega
theorem st_two {W H a b : Nat} (S : Stt W a b) : Hld (stc (sk a b) W (W * H)) W 2 (stc (s2 a b) W (W * H)) := by
  have hab := S.ab
  have ha := S.fst
  have hb := S.lst
  have hW : 2 ≤ W := by omega
  refine ⟨by rw [stc_len, stc_len], fun n hn => ?_⟩
  rw [stc_len] at hn
  have kn : at0 (stc (sk a b) W (W * H)) n = sk a b (n % W) := stc_at hn
  have tn : at0 (stc (s2 a b) W (W * H)) n = s2 a b (n % W) := stc_at hn
  have hr := Nat.mod_lt n (show 0 < W by omega)
  refine ⟨fun h => ?_, fun h1 h2 => ?_, fun h1 h2 => ?_⟩
  · rw [kn] at h
    rw [tn]
    unfold sk at h
    unfold s2
    split at h
    · omega
    · split at h
      · rename_i g; rw [if_pos g]
      · omega
  · unfold Opn at h2
    rw [kn] at h1 h2
    have hx : a ≤ n % W ∧ n % W < b := by
      unfold sk at h1 h2
      split at h1
      · rename_i g; rw [if_pos g] at h2; omega
      · rename_i g
        rw [if_neg g] at h2
        split at h2
        · omega
        · omega
    right
    obtain ⟨g1, g2, hk⟩ := nb_right hW hn (by omega)
    refine ⟨n + 1, by rw [stc_len]; exact hk, g1, ?_, ?_, ?_, fun j hj hnb ht hm => ?_⟩
    · unfold Thr
      rw [stc_at hk]
      unfold sk
      rw [if_neg (by omega)]
      split
      · exact .inr rfl
      · exact .inl rfl
    · rw [stc_at hk]
      unfold s2
      split
      · decide
      · rw [if_neg (by omega)]; omega
    · rw [tn, stc_at hk]
      unfold s2
      rw [if_neg (by omega), if_neg (by omega)]
      split
      · omega
      · rw [if_neg (by omega)]; omega
    · rw [stc_len] at hj
      have := nb_mod hW hnb
      rw [stc_at hj] at hm
      rw [stc_at hk, stc_at hj]
      unfold s2 at hm ⊢
      split
      · split
        · omega
        · split <;> omega
      · rw [if_neg (by omega)]
        split
        · omega
        · split <;> omega
  · unfold Opn at h2
    rw [kn] at h1 h2
    rw [tn]
    unfold sk at h1 h2
    unfold s2
    by_cases g : n % W < a
    · rw [if_neg (by omega), if_pos g]
    · rw [if_neg g] at h1 h2
      split at h1
      · omega
      · rename_i g2
        rw [if_neg g2] at h2
        omega
end Riv

namespace Riv
theorem canon_shape {a b : List Int} {W H : Nat} (hW : 2 ≤ W) (hL : a.length = W * H) (h1 : a.length ≤ 160) : ∃ is : List Nat, chg a b W = is.map (fun i : Nat => (List.range a.length).filter fun k => decide (at0 (names W (diffs a b)) k = (i : Int))) ∧ is.Pairwise (· < ·) ∧ ∀ i ∈ is, i < a.length ∧ at0 (names W (diffs a b)) i = (i : Int) := by
  refine ⟨_, chg_eq hW hL h1, List.Pairwise.filter _ List.pairwise_lt_range, fun i hi => ?_⟩
  obtain ⟨g1, g2⟩ := List.mem_filter.1 hi
  exact ⟨List.mem_range.1 g1, of_decide_eq_true g2⟩
end Riv

namespace Riv
theorem st_isl {W H a b : Nat} (S : Stt W a b) (h1 : W * H ≤ 160) : isl (stc (sk a b) W (W * H)) W = [] := by
  have hW : 2 ≤ W := by have := S.fst; have := S.ab; have := S.lst; omega
  have hl := stc_len (sk a b) W (W * H)
  have hN := (rnm_ok (c := stc (sk a b) W (W * H)) hW (by rw [hl]; exact h1)).1
  rw [isl_eq hW hl (by rw [hl]; exact h1)]
  have hf : firsts (stc (sk a b) W (W * H)) W = [] := by
    unfold firsts
    rw [List.filter_eq_nil_iff]
    intro i hi
    rw [List.mem_range, hl] at hi
    have h3 : bat (marks (stc (sk a b) W (W * H))) i = false := by
      rw [bat_marks, stc_at hi]
      refine decide_eq_false ?_
      unfold sk
      split
      · decide
      · split <;> decide
    rw [hN.non i h3]
    simp only [decide_eq_true_eq]
    omega
  rw [hf]; rfl
theorem st_owns {W H a b n : Nat} (S : Stt W a b) (h1 : W * H ≤ 160) (hn : n < W * H) : at0 (owns (stc (sk a b) W (W * H)) W) n = if n % W < a then 1 else if b ≤ n % W then 2 else if (n % W) + (n % W) + 1 = a + b then 3 else if (n % W) + (n % W) + 1 < a + b then 1 else 2 := by
  have hW : 2 ≤ W := by have := S.fst; have := S.ab; have := S.lst; omega
  have hl := stc_len (sk a b) W (W * H)
  unfold owns
  rw [st_isl S h1, List.zip_nil_left, List.foldl_nil, at0_ownW (by rw [hl]; exact hn)]
  rw [← (st_one (H := H) S).eq (bfs_hld hW hl), ← (st_two (H := H) S).eq (bfs_hld hW hl)]
  rw [stc_at hn, stc_at hn, stc_at hn]
  unfold sk s1 s2 ownr
  have hab := S.ab
  by_cases g1 : n % W < a
  · simp [g1]
  · by_cases g2 : b ≤ n % W
    · simp [g1, g2]
    · simp only [g1, g2, if_false, if_true]
      rw [if_neg (by omega)]
      by_cases g3 : n % W + n % W + 1 = a + b
      · rw [if_pos g3, if_pos (by omega)]
      · rw [if_neg g3, if_neg (by omega)]
        by_cases g4 : n % W + n % W + 1 < a + b
        · rw [if_pos g4, if_pos (by omega)]
        · rw [if_neg g4, if_neg (by omega)]
/-! A bank that grew by a column. -/
theorem col_cnt {W a : Nat} (ha : a < W) : ∀ H, ((List.range (W * H)).filter fun n => decide (n % W = a)).length = H
  | 0 => by simp
  | H + 1 => by
    rw [Nat.mul_add, Nat.mul_one, List.range_add, List.filter_append, List.length_append, col_cnt ha H]
    congr 1
    have e : ((List.range W).map (W * H + ·)).filter (fun n => decide (n % W = a)) = [W * H + a] := by
      rw [List.filter_map]
      have e2 : (List.range W).filter ((fun n => decide (n % W = a)) ∘ (W * H + ·)) = [a] := by
        have : ∀ x ∈ List.range W, ((fun n => decide (n % W = a)) ∘ (W * H + ·)) x = decide (x = a) := fun x hx => by
          rw [List.mem_range] at hx
          simp only [Function.comp]
          rw [Nat.mul_add_mod, Nat.mod_eq_of_lt hx]
        rw [List.filter_congr this]
        clear this
        obtain ⟨r, rfl⟩ : ∃ r, W = a + (r + 1) := ⟨W - a - 1, by omega⟩
        rw [List.range_add, List.filter_append]
        have g1 : (List.range a).filter (fun x => decide (x = a)) = [] := by
          rw [List.filter_eq_nil_iff]
          intro x hx
          rw [List.mem_range] at hx
          simp; omega
        rw [g1, List.nil_append, List.range_succ_eq_map, List.map_cons, List.filter_cons, if_pos (by simp)]
        have g2 : ((List.range r).map Nat.succ |>.map (a + ·)).filter (fun x => decide (x = a)) = [] := by
          rw [List.filter_eq_nil_iff]
          intro x hx
          rw [List.mem_map] at hx
          obtain ⟨y, hy, rfl⟩ := hx
          rw [List.mem_map] at hy
          obtain ⟨z, _, rfl⟩ := hy
          simp
        rw [g2, Nat.add_zero]
      rw [e2]; rfl
    rw [e]; rfl
theorem gr_diff {W H a b n : Nat} (S : Stt W (a + 1) b) (hn : n < W * H) : at0 (stc (sk a b) W (W * H)) n ≠ at0 (stc (sk (a + 1) b) W (W * H)) n ↔ n % W = a := by
  have hab := S.ab
  rw [stc_at hn, stc_at hn]
  unfold sk
  by_cases g1 : n % W < a
  · rw [if_pos g1, if_pos (by omega)]; simp; omega
  · rw [if_neg g1]
    by_cases g2 : n % W < a + 1
    · rw [if_pos g2]
      rw [if_neg (by omega)]
      constructor
      · intro _; omega
      · intro _; decide
    · rw [if_neg g2]
      constructor
      · intro h; exact absurd rfl h
      · intro h; omega
theorem gr_len {W H a b : Nat} (S : Stt W (a + 1) b) (h1 : W * H ≤ 160) {cs : List Nat} (hcs : cs ∈ chg (stc (sk a b) W (W * H)) (stc (sk (a + 1) b) W (W * H)) W) : cs.length = H := by
  have hab := S.ab
  have hlb := S.lst
  have hW : 2 ≤ W := by omega
  have hl := stc_len (sk a b) W (W * H)
  obtain ⟨g1, _, _, g4⟩ := chg_mem hW hl (by rw [hl]; exact h1) hcs
  have hmk : ∀ n, bat (diffs (stc (sk a b) W (W * H)) (stc (sk (a + 1) b) W (W * H))) n = true ↔ n < W * H ∧ n % W = a := fun n => by
    rw [bat_diffs, hl]
    constructor
    · rintro ⟨q1, q2⟩; exact ⟨q1, (gr_diff S q1).1 q2⟩
    · rintro ⟨q1, q2⟩; exact ⟨q1, (gr_diff S q1).2 q2⟩
  have hN := (names_ok (mk := diffs (stc (sk a b) W (W * H)) (stc (sk (a + 1) b) W (W * H))) (W := W) hW (by rw [diffs_len, hl]; exact h1)).1
  obtain ⟨is, e1, _, e3⟩ := canon_shape (a := stc (sk a b) W (W * H)) (b := stc (sk (a + 1) b) W (W * H)) hW hl (by rw [hl]; exact h1)
  rw [e1] at hcs
  obtain ⟨i, hi, rfl⟩ := List.mem_map.1 hcs
  generalize diffs (stc (sk a b) W (W * H)) (stc (sk (a + 1) b) W (W * H)) = mk at *
  have hcon : ∀ y, a + y * W < W * H → Con mk W a (a + y * W) := by
    intro y
    induction y with
    | zero => intro h; rw [Nat.zero_mul, Nat.add_zero] at h ⊢; exact Con.refl ((hmk a).2 ⟨h, Nat.mod_eq_of_lt (by omega)⟩)
    | succ y ih =>
      intro h
      rw [Nat.add_mul, Nat.one_mul] at h ⊢
      refine Con.step (ih (by omega)) (.inr (.inl (by omega))) ((hmk _).2 ⟨h, ?_⟩)
      rw [← Nat.add_assoc, Nat.add_mod_right, Nat.add_mul_mod_self_right]
      exact Nat.mod_eq_of_lt (by omega)
  have hcon2 : ∀ n, n < W * H → n % W = a → Con mk W a n := fun n hn hm => by
    have hd := Nat.div_add_mod n W
    rw [hm, Nat.mul_comm] at hd
    have := hcon (n / W) (by omega)
    rwa [show a + n / W * W = n by omega] at this
  have hbat : ∀ {x y : Nat}, Con mk W x y → bat mk x = true := fun h => by
    induction h with
    | refl h => exact h
    | step _ _ _ ih => exact ih
  have hnm : ∀ n, n < W * H → n % W = a → at0 (names W mk) n = (a : Int) := fun n hn hm => by
    obtain ⟨y, y1, y2, y3⟩ := hN.con n ((hmk n).2 ⟨hn, hm⟩)
    have k1 := y3 a (hcon2 n hn hm)
    have k2 := ((hmk y).1 (hbat y2)).2
    have k3 : y = a := by
      have := Nat.mod_le y W
      omega
    rw [y1, k3]
  have hnm2 : ∀ n, n < W * H → n % W ≠ a → at0 (names W mk) n = -1 := fun n hn hm => hN.non n (by
    cases hb : bat mk n with
    | false => rfl
    | true => exact absurd ((hmk n).1 hb).2 hm)
  have hi2 := (e3 i hi)
  rw [hl] at hi2
  have hia : i = a := by
    by_cases hm : i % W = a
    · have := hnm i hi2.1 hm
      rw [hi2.2] at this; omega
    · have := hnm2 i hi2.1 hm
      rw [hi2.2] at this; omega
  subst hia
  rw [hl]
  refine Eq.trans ?_ (col_cnt (W := W) (a := i) (by omega) H)
  congr 1
  refine List.filter_congr fun n hn => ?_
  rw [List.mem_range] at hn
  rw [decide_eq_decide]
  by_cases hm : n % W = i
  · rw [hnm n hn hm]; exact ⟨fun _ => hm, fun _ => rfl⟩
  · rw [hnm2 n hn hm]
    exact ⟨fun h => by omega, fun h => absurd h hm⟩
theorem gr_law {W H a b : Nat} (hW12 : W ≤ 12) (hH : H ≤ 12) (S : Stt W (a + 1) b) {slow : Int} : lawAt W [stc (sk a b) W (W * H), stc (sk (a + 1) b) W (W * H)] slow 1 = if (H : Int) ≤ slow then stc (sk (a + 1) b) W (W * H) else stc (sk a b) W (W * H) := by
  have hab := S.ab
  have hlb := S.lst
  have hW : 2 ≤ W := by omega
  have h1 : W * H ≤ 160 := Nat.le_trans (Nat.mul_le_mul hW12 hH) (by decide)
  have hl := stc_len (sk a b) W (W * H)
  have hl2 := stc_len (sk (a + 1) b) W (W * H)
  have hL : (lyear W slow (stc (sk a b) W (W * H)) (stc (sk (a + 1) b) W (W * H)) (stc (sk a b) W (W * H))).length = W * H := by rw [lyear_len, hl]
  show lyear W slow (stc (sk a b) W (W * H)) (stc (sk (a + 1) b) W (W * H)) (stc (sk a b) W (W * H)) = _
  refine ext0 (by rw [hL]; split <;> simp [stc_len]) fun n hn => ?_
  rw [hL] at hn
  rw [lyear_at hW hl (by rw [hl]; exact h1) rfl]
  by_cases hs : (H : Int) ≤ slow
  · rw [if_pos hs]
    split
    · rfl
    · rename_i hc
      refine Decidable.byContradiction fun hd => hc ?_
      obtain ⟨cs, g1, g2⟩ := chg_has (a := stc (sk a b) W (W * H)) (b := stc (sk (a + 1) b) W (W * H)) hW hl (by rw [hl]; exact h1) (by rw [hl]; exact hn) hd
      exact ⟨cs, g1, g2, by rw [gr_len S h1 g1]; exact hs⟩
  · rw [if_neg hs]
    split
    · rename_i hc
      obtain ⟨cs, g1, g2, g3⟩ := hc
      rw [gr_len S h1 g1] at g3
      exact absurd g3 hs
    · rfl
theorem stc_mok {W H a b : Nat} (hW12 : W ≤ 12) (hH : 1 ≤ H ∧ H ≤ 12) (hW3 : 3 ≤ W) (S : Stt W a b) : MOk W H (stc (sk a b) W (W * H)) where
  w := ⟨hW3, hW12⟩
  h := hH
  len := stc_len _ _ _
  kind := fun n hn => by
    rw [stc_len] at hn
    rw [stc_at hn]
    unfold sk
    split
    · decide
    · split <;> decide
  side := fun y hy => by
    have ha := S.fst
    have hab := S.ab
    have hlb := S.lst
    have hr : y * W + W ≤ W * H := by
      have := Nat.mul_le_mul_left W (show y + 1 ≤ H from hy)
      rw [Nat.mul_add, Nat.mul_one, Nat.mul_comm W y] at this
      exact this
    rw [stc_at (by omega), stc_at (by omega), Nat.mul_mod_left, Nat.add_sub_assoc (by omega), Nat.add_comm, Nat.add_mul_mod_self_right, Nat.mod_eq_of_lt (by omega)]
    unfold sk
    rw [if_pos (by omega), if_neg (by omega), if_pos (by omega)]
    exact ⟨rfl, rfl⟩
end Riv

namespace Riv
def setHi (out : List Go.Vm.Spn) (h : Int) : List Go.Vm.Spn := match out.getLast? with
  | none => out
  | some x => out.dropLast ++ [⟨x.lo, h⟩]
def r1 (p : Int → Bool) (x : List Go.Vm.Spn × Bool) (s : Int) : List Go.Vm.Spn × Bool := (bif p s then (bif x.2 then setHi x.1 s else x.1 ++ [⟨s, s⟩]) else x.1, p s)
end Riv


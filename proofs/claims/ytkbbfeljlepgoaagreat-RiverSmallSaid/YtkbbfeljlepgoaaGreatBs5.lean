/- Part 5 of the proof that answers about rivers are as the given statement says. No condition. -/
import Derived.Test.YtkbbfeljlepgoaaGreatBs4
import Derived.Test.YtkbbfeljlepgoaaGreatRows
set_option linter.unusedVariables false
set_option linter.unusedSimpArgs false
namespace Riv
structure Mp where
  w : Int
  h : Int
  c : List Int
  deriving DecidableEq
def Nb (W a b : Nat) : Prop:=a = b + W ∨ b = a + W ∨ (a = b + 1 ∧ a % W ≠ 0) ∨ (b = a + 1 ∧ b % W ≠ 0)
instance (W a b : Nat) : Decidable (Nb W a b):=by unfold Nb;infer_instance
theorem Nb.symm {W a b : Nat} (h : Nb W a b) : Nb W b a:=by
  rcases h with h|h|h|h
  · exact .inr (.inl h)
  · exact .inl h
  · exact .inr (.inr (.inr h))
  · exact .inr (.inr (.inl h))
def nbs (W L n : Nat) : List Nat:=(if n < W then [] else [n - W]) ++ (if n % W = 0 then [] else [n - 1]) ++ (if n % W = W - 1 then [] else [n + 1]) ++ (if L ≤ n + W then [] else [n + W])
theorem mod_succ {W n : Nat} (hW : 2 ≤ W) : (n + 1) % W = if n % W = W - 1 then 0 else n % W + 1:=by
  have h1:=Nat.div_add_mod n W
  have h2:=Nat.mod_lt n (show 0 < W by omega)
  generalize n % W = r at *
  generalize n / W = q at *
  subst h1
  split
  · rename_i h
    subst h
    rw [show W * q + (W - 1) + 1 = W * (q + 1) by rw [Nat.mul_succ];omega,Nat.mul_mod_right]
  · rw [Nat.add_assoc,Nat.mul_add_mod,Nat.mod_eq_of_lt (by omega)]
theorem nbs_iff {W L H n k : Nat} (hW : 2 ≤ W) (hL : L = W * H) (hn : n < L) : k ∈ nbs W L n ↔ k < L ∧ Nb W n k:=by
  have hm:=mod_succ (n:=n) hW
  have hr:=Nat.mod_lt n (show 0 < W by omega)
  have hend : n % W ≠ W - 1 → n + 1 < L:=by
    intro h
    rw [if_neg h] at hm
    have : n + 1 ≠ L:=fun e=>by
      rw [e,hL,Nat.mul_mod_right] at hm
      omega
    omega
  unfold nbs Nb
  simp only [List.mem_append]
  constructor
  · rintro (((h|h)|h)|h)
    · split at h
      · simp at h
      · simp at h;subst h;exact ⟨by omega,.inl (by omega)⟩
    · split at h
      · simp at h
      · rename_i h2
        simp at h;subst h
        have : n ≠ 0:=fun e=>h2 (by rw [e];exact Nat.zero_mod W)
        exact ⟨by omega,.inr (.inr (.inl ⟨by omega,h2⟩))⟩
    · split at h
      · simp at h
      · rename_i h2
        simp at h;subst h
        exact ⟨hend h2,.inr (.inr (.inr ⟨rfl,by rw [hm,if_neg h2];omega⟩))⟩
    · split at h
      · simp at h
      · simp at h;subst h;exact ⟨by omega,.inr (.inl rfl)⟩
  · rintro ⟨h0,h|h|h|h⟩
    · refine .inl (.inl (.inl ?_))
      rw [if_neg (by omega)];simp;omega
    · refine .inr ?_
      rw [if_neg (by omega)];simp;omega
    · refine .inl (.inl (.inr ?_))
      rw [if_neg h.2];simp;omega
    · refine .inl (.inr ?_)
      have h2:=h.2
      rw [h.1,hm] at h2
      rw [if_neg (fun e=>h2 (by rw [if_pos e]))]
      simp;omega
theorem nb_ref {W a b : Nat} (hW : 2 ≤ W) : Nb W a b ↔ (a % W = b % W ∧ (a / W = b / W + 1 ∨ b / W = a / W + 1)) ∨ (a / W = b / W ∧ (a % W = b % W + 1 ∨ b % W = a % W + 1)):=by
  have key : ∀ x y : Nat,(y = x + W ↔ y % W = x % W ∧ y / W = x / W + 1) ∧ ((y = x + 1 ∧ y % W ≠ 0) ↔ y / W = x / W ∧ y % W = x % W + 1):=by
    intro x y
    have hx:=Nat.div_add_mod x W
    have hx2:=Nat.mod_lt x (show 0 < W by omega)
    have hy:=Nat.div_add_mod y W
    have hy2:=Nat.mod_lt y (show 0 < W by omega)
    constructor
    · constructor
      · intro h
        subst h
        exact ⟨Nat.add_mod_right x W,Nat.add_div_right x (by omega)⟩
      · rintro ⟨h1,h2⟩
        rw [h1,h2,Nat.mul_succ] at hy
        omega
    · constructor
      · rintro ⟨h1,h2⟩
        have hm:=mod_succ (n:=x) hW
        rw [← h1] at hm
        have h3 : x % W ≠ W - 1:=fun e=>h2 (by rw [hm,if_pos e])
        rw [if_neg h3] at hm
        refine ⟨?_,hm⟩
        rw [h1,← hx,Nat.add_assoc,Nat.mul_add_div (by omega),Nat.mul_add_div (by omega),Nat.div_eq_of_lt (show x % W + 1 < W by omega),Nat.div_eq_of_lt hx2]
      · rintro ⟨h1,h2⟩
        rw [h1,h2] at hy
        exact ⟨by omega,by omega⟩
  have k1:=key b a
  have k2:=key a b
  unfold Nb
  rw [k1.1,k2.1,k1.2,k2.2]
  constructor
  · rintro (h|h|h|h)
    · exact .inl ⟨h.1,.inl h.2⟩
    · exact .inl ⟨h.1.symm,.inr h.2⟩
    · exact .inr ⟨h.1,.inl h.2⟩
    · exact .inr ⟨h.1.symm,.inr h.2⟩
  · rintro (⟨h,h1|h1⟩|⟨h,h1|h1⟩)
    · exact .inl ⟨h,h1⟩
    · exact .inr (.inl ⟨h.symm,h1⟩)
    · exact .inr (.inr (.inl ⟨h,h1⟩))
    · exact .inr (.inr (.inr ⟨h.symm,h1⟩))
theorem Nb.ne {W a b : Nat} (hW : 2 ≤ W) (h : Nb W a b) : a ≠ b:=by
  rcases h with h|h|h|h <;> omega
end Riv

namespace Riv
def at0 (l : List Int) (n : Nat) : Int:=l.getD n (-1)
def Thr (c : List Int) (s : Int) (k : Nat) : Prop:=at0 c k = 0 ∨ at0 c k = s
def Opn (c : List Int) (k : Nat) : Prop:=at0 c k = 0 ∨ at0 c k = 3
instance (c : List Int) (s : Int) (k : Nat) : Decidable (Thr c s k):=by unfold Thr;infer_instance
instance (c : List Int) (k : Nat) : Decidable (Opn c k):=by unfold Opn;infer_instance
structure Fit (c : List Int) (W : Nat) (s : Int) (T : List Int) (n : Nat) : Prop where
  own : at0 c n = s → at0 T n = 0
  opn : at0 c n ≠ s → Opn c n → (at0 T n = -1 ∧ ∀ k,k < c.length → Nb W n k → Thr c s k → at0 T k = -1) ∨ ∃ k,k < c.length ∧ Nb W n k ∧ Thr c s k ∧ at0 T k ≠ -1 ∧ at0 T n = at0 T k + 1 ∧ ∀ j,j < c.length → Nb W n j → Thr c s j → at0 T j ≠ -1 → at0 T k ≤ at0 T j
  oth : at0 c n ≠ s → ¬ Opn c n → at0 T n = -1
structure Hld (c : List Int) (W : Nat) (s : Int) (T : List Int) : Prop where
  len : T.length = c.length
  fit : ∀ n,n < c.length → Fit c W s T n
theorem low_ex : ∀ T : List Int,∃ B : Nat,∀ n,-1 - (B : Int) ≤ at0 T n
  | []=>⟨0,fun n=>by simp [at0]⟩
  | x :: T=>by
    obtain ⟨B,hB⟩:=low_ex T
    refine ⟨B + x.natAbs,fun n=>?_⟩
    cases n with
    | zero=>simp [at0];omega
    | succ n =>
      have:=hB n
      simp only [at0,List.getD_cons_succ] at this ⊢
      omega
theorem at0_out {T : List Int} {n : Nat} (h : T.length ≤ n) : at0 T n = -1:=by
  unfold at0
  rw [List.getD_eq_getElem?_getD,List.getElem?_eq_none h];rfl
theorem Hld.low {c : List Int} {W : Nat} {s : Int} {T : List Int} (h : Hld c W s T) (n : Nat) : -1 ≤ at0 T n:=by
  obtain ⟨B,hB⟩:=low_ex T
  revert hB
  induction B with
  | zero=>intro hB;have:=hB n;omega
  | succ B ih =>
    intro hB
    refine ih fun m=>?_
    rcases Nat.lt_or_ge m c.length with hm|hm
    · have hf:=h.fit m hm
      by_cases h1 : at0 c m = s
      · rw [hf.own h1];omega
      · by_cases h2 : Opn c m
        · rcases hf.opn h1 h2 with h3|⟨k,_,_,_,_,h3,_⟩
          · rw [h3.1];omega
          · have:=hB k;omega
        · rw [hf.oth h1 h2];omega
    · rw [at0_out (by rw [h.len];exact hm)];omega
theorem Hld.step {c : List Int} {W : Nat} {s : Int} {T : List Int} (h : Hld c W s T) {n : Nat} (hn : n < c.length) (k : Nat) : at0 T n = (k : Int) + 1 ↔ at0 c n ≠ s ∧ Opn c n ∧ (∃ j,j < c.length ∧ Nb W n j ∧ Thr c s j ∧ at0 T j = k) ∧ ∀ j,j < c.length → Nb W n j → Thr c s j → at0 T j ≠ -1 → (k : Int) ≤ at0 T j:=by
  have hf:=h.fit n hn
  constructor
  · intro h0
    have h1 : at0 c n ≠ s:=fun e=>by have:=hf.own e;omega
    have h2 : Opn c n:=Decidable.byContradiction fun e=>by have:=hf.oth h1 e;omega
    rcases hf.opn h1 h2 with h3|⟨j,a1,a2,a3,a4,a5,a6⟩
    · have:=h3.1;omega
    · have e : at0 T j = k:=by omega
      exact ⟨h1,h2,⟨j,a1,a2,a3,e⟩,fun i b1 b2 b3 b4=>by have:=a6 i b1 b2 b3 b4;omega⟩
  · rintro ⟨h1,h2,⟨j,a1,a2,a3,a4⟩,h4⟩
    rcases hf.opn h1 h2 with h3|⟨i,b1,b2,b3,b4,b5,b6⟩
    · have:=h3.2 j a1 a2 a3;omega
    · have e1:=b6 j a1 a2 a3 (by omega)
      have e2:=h4 i b1 b2 b3 b4
      omega
theorem Hld.zero {c : List Int} {W : Nat} {s : Int} {T : List Int} (h : Hld c W s T) {n : Nat} (hn : n < c.length) : at0 T n = 0 ↔ at0 c n = s:=by
  have hf:=h.fit n hn
  constructor
  · intro h0
    refine Decidable.byContradiction fun h1=>?_
    by_cases h2 : Opn c n
    · rcases hf.opn h1 h2 with h3|⟨j,a1,a2,a3,a4,a5,a6⟩
      · have:=h3.1;omega
      · have:=h.low j;omega
    · have:=hf.oth h1 h2;omega
  · exact hf.own
theorem Hld.same {c : List Int} {W : Nat} {s : Int} {T U : List Int} (h : Hld c W s T) (g : Hld c W s U) : ∀ (k : Nat) (n : Nat),n < c.length → (at0 T n = k ↔ at0 U n = k):=by
  intro k
  induction k using Nat.strongRecOn with
  | _ k ih =>
    intro n hn
    cases k with
    | zero=>exact (h.zero hn).trans (g.zero hn).symm
    | succ k =>
      have half : ∀ {T U : List Int},Hld c W s T → Hld c W s U → (∀ m,m < k + 1 → ∀ n,n < c.length → (at0 T n = (m : Int) ↔ at0 U n = (m : Int))) → at0 T n = (k : Int) + 1 → at0 U n = (k : Int) + 1:=by
        intro T U h g ih h0
        obtain ⟨h1,h2,⟨j,a1,a2,a3,a4⟩,h4⟩:=(h.step hn k).1 h0
        refine (g.step hn k).2 ⟨h1,h2,⟨j,a1,a2,a3,(ih k (by omega) j a1).1 a4⟩,fun i b1 b2 b3 b4=>?_⟩
        rcases Int.lt_or_le (at0 U i) k with h5|h5
        · exfalso
          have h6:=g.low i
          have h7:=(ih (at0 U i).toNat (by omega) i b1).2 (by omega)
          have:=h4 i b1 b2 b3 (by omega)
          omega
        · exact h5
      rw [show ((k + 1 : Nat) : Int) = (k : Int) + 1 by omega]
      exact ⟨half h g ih,half g h fun m hm n hn=>(ih m hm n hn).symm⟩
theorem ext0 {T U : List Int} (hl : T.length = U.length) (h : ∀ n,n < T.length → at0 T n = at0 U n) : T = U:=by
  apply List.ext_getElem hl
  intro n h1 h2
  have:=h n h1
  unfold at0 at this
  rw [List.getD_eq_getElem?_getD,List.getD_eq_getElem?_getD,List.getElem?_eq_getElem h1,List.getElem?_eq_getElem h2] at this
  exact this
theorem Hld.eq {c : List Int} {W : Nat} {s : Int} {T U : List Int} (h : Hld c W s T) (g : Hld c W s U) : T = U:=by
  refine ext0 (by rw [h.len,g.len]) fun n hn=>?_
  rw [h.len] at hn
  have h1:=h.low n
  have h2:=g.low n
  rcases Int.lt_or_le (at0 T n) 0 with h3|h3
  · rcases Int.lt_or_le (at0 U n) 0 with h4|h4
    · omega
    · have:=(h.same g (at0 U n).toNat n hn).2 (by omega)
      omega
  · have:=(h.same g (at0 T n).toNat n hn).1 (by omega)
    omega
end Riv

namespace Riv
def t0 (c : List Int) (s : Int) : List Int:=c.map fun x=>if x = s then 0 else -1
def putB (c : List Int) (st : Int) (T : List Int) (k : Nat) : List Int:=if at0 T k = -1 ∧ Opn c k then T.set k (st + 1) else T
def cellB (c : List Int) (W : Nat) (s st : Int) (T : List Int) (n : Nat) : List Int:=if at0 T n = st ∧ Thr c s n then (nbs W c.length n).foldl (putB c st) T else T
def stepB (c : List Int) (W : Nat) (s : Int) (T : List Int) (st : Nat) : List Int:=(List.range c.length).foldl (cellB c W s st) T
def bfs (c : List Int) (W : Nat) (s : Int) : List Int:=(List.range c.length).foldl (stepB c W s) (t0 c s)
def cnt (T : List Int) : Nat:=T.countP fun x=>decide (x ≠ -1)
theorem at0_set {T : List Int} {k : Nat} {v : Int} (hk : k < T.length) (j : Nat) : at0 (T.set k v) j = if j = k then v else at0 T j:=by
  unfold at0
  rw [List.getD_eq_getElem?_getD,List.getD_eq_getElem?_getD]
  split
  · rename_i h;subst h
    rw [List.getElem?_set_self hk];rfl
  · rename_i h
    rw [List.getElem?_set_ne (fun e=>h e.symm)]
theorem cnt_set : ∀ {T : List Int} {k : Nat} {v : Int},k < T.length → at0 T k = -1 → v ≠ -1 → cnt (T.set k v) = cnt T + 1
  | x :: T,0,v,_,h,hv=>by
    have h : x = -1:=h
    subst h
    simp [cnt,hv]
  | x :: T,k + 1,v,hk,h,hv=>by
    have:=cnt_set (T:=T) (k:=k) (v:=v) (by simpa using hk) (by simpa [at0] using h) hv
    unfold cnt at *
    rw [List.set_cons_succ,List.countP_cons,List.countP_cons,this]
    omega
theorem cnt_le (T : List Int) : cnt T ≤ T.length:=List.countP_le_length
theorem cnt_pos : ∀ {T : List Int} {n : Nat},at0 T n ≠ -1 → 1 ≤ cnt T:=by
  intro T n h
  rcases Nat.lt_or_ge n T.length with hn|hn
  · unfold cnt
    refine List.countP_pos_iff.2 ⟨T[n],List.getElem_mem hn,?_⟩
    unfold at0 at h
    rw [List.getD_eq_getElem?_getD,List.getElem?_eq_getElem hn] at h
    simpa using h
  · exact absurd (at0_out hn) h
theorem at0_t0 {c : List Int} {s : Int} {n : Nat} (hn : n < c.length) : at0 (t0 c s) n = if at0 c n = s then 0 else -1:=by
  unfold at0 t0
  rw [List.getD_eq_getElem?_getD,List.getD_eq_getElem?_getD,List.getElem?_map,List.getElem?_eq_getElem hn]
  rfl
structure BI (c : List Int) (W : Nat) (s : Int) (st : Nat) (T : List Int) (P : Nat → Prop) : Prop where
  len : T.length = c.length
  own : ∀ n,n < c.length → at0 c n = s → at0 T n = 0
  oth : ∀ n,n < c.length → at0 c n ≠ s → ¬ Opn c n → at0 T n = -1
  rng : ∀ n,-1 ≤ at0 T n ∧ at0 T n ≤ st + 1
  got : ∀ n,n < c.length → at0 c n ≠ s → at0 T n ≠ -1 → Opn c n ∧ ∃ k,k < c.length ∧ Nb W n k ∧ Thr c s k ∧ at0 T k = at0 T n - 1 ∧ 0 ≤ at0 T k ∧ ∀ j,j < c.length → Nb W n j → Thr c s j → at0 T j ≠ -1 → at0 T k ≤ at0 T j
  non : ∀ n,n < c.length → at0 c n ≠ s → Opn c n → at0 T n = -1 → ∀ k,k < c.length → Nb W n k → Thr c s k → at0 T k = -1 ∨ (st : Int) < at0 T k ∨ (at0 T k = st ∧ ¬ P k)
  cn : ∀ n,at0 T n ≠ -1 → at0 T n + 1 ≤ cnt T
theorem putB_ok {c : List Int} {W : Nat} {s : Int} {st : Nat} {T : List Int} {P : Nat → Prop} {n k : Nat} (h : BI c W s st T P) (hn : n < c.length) (hk : k < c.length) (hT : at0 T n = st) (ht : Thr c s n) (hnb : Nb W n k) :
    BI c W s st (putB c st T k) P ∧ (Opn c k → at0 (putB c st T k) k ≠ -1) ∧ ∀ j,at0 T j ≠ -1 → at0 (putB c st T k) j = at0 T j:=by
  unfold putB
  split
  · rename_i hc
    have hkl : k < T.length:=by rw [h.len];exact hk
    have hat:=fun j=>at0_set (v:=(st : Int) + 1) hkl j
    have hks : at0 c k ≠ s:=fun e=>by have:=h.own k hk e;omega
    have hkeep : ∀ j,at0 T j ≠ -1 → at0 (T.set k ((st : Int) + 1)) j = at0 T j:=fun j hj=>by
      rw [hat,if_neg]
      intro e;subst e;exact hj hc.1
    have hself:=hat k
    rw [if_pos rfl] at hself
    refine ⟨⟨by rw [List.length_set];exact h.len,fun m hm e=>?_,fun m hm e e2=>?_,fun m=>?_,fun m hm e e2=>?_,fun m hm e e2 e3 j hj hnj htj=>?_,fun m hm=>?_⟩,fun _=>by rw [hself];omega,hkeep⟩
    · have:=h.own m hm e
      rw [hkeep m (by omega)];exact this
    · rw [hat,if_neg]
      · exact h.oth m hm e e2
      · intro e3;subst e3;exact e2 hc.2
    · rw [hat]
      split
      · omega
      · exact h.rng m
    · by_cases hmk : m = k
      · subst hmk
        refine ⟨hc.2,n,hn,hnb.symm,ht,?_,?_,fun j hj hnj htj hj1=>?_⟩
        · rw [hself,hkeep n (by omega)];omega
        · rw [hkeep n (by omega)];omega
        · rw [hkeep n (by omega),hT]
          rw [hat] at hj1 ⊢
          split
          · omega
          · rename_i hjm
            rw [if_neg hjm] at hj1
            rcases h.non m hm e hc.2 hc.1 j hj hnj htj with h1|h1|h1 <;> omega
      · rw [hat,if_neg hmk] at e2
        obtain ⟨g1,i,g2,g3,g4,g5,g6,g7⟩:=h.got m hm e e2
        refine ⟨g1,i,g2,g3,g4,?_,?_,fun j hj hnj htj hj1=>?_⟩
        · rw [hkeep i (by omega),hkeep m e2];exact g5
        · rw [hkeep i (by omega)];exact g6
        · rw [hkeep i (by omega)]
          by_cases hjk : j = k
          · subst hjk
            rw [hself]
            have:=(h.rng m).2
            omega
          · rw [hat,if_neg hjk] at hj1 ⊢
            exact g7 j hj hnj htj hj1
    · have hmk : m ≠ k:=fun e4=>by subst e4;rw [hself] at e3;omega
      rw [hat,if_neg hmk] at e3
      by_cases hjk : j = k
      · subst hjk;rw [hself];exact .inr (.inl (by omega))
      · rw [hat,if_neg hjk]
        exact h.non m hm e e2 e3 j hj hnj htj
    · rw [cnt_set hkl hc.1 (by omega)]
      have h1:=h.cn n (by omega)
      rw [hat] at hm ⊢
      split
      · rw [hT] at h1;omega
      · rename_i hmk
        rw [if_neg hmk] at hm
        have:=h.cn m hm
        omega
  · rename_i hc
    exact ⟨h,fun h1 h2=>hc ⟨h2,h1⟩,fun _ _=>rfl⟩
theorem putL_ok {c : List Int} {W : Nat} {s : Int} {st : Nat} {P : Nat → Prop} {n : Nat} (hn : n < c.length) (ht : Thr c s n) : ∀ (l : List Nat) (T : List Int),(∀ k ∈ l,k < c.length ∧ Nb W n k) → BI c W s st T P → at0 T n = st →
    BI c W s st (l.foldl (putB c st) T) P ∧ (∀ k ∈ l,Opn c k → at0 (l.foldl (putB c st) T) k ≠ -1) ∧ ∀ j,at0 T j ≠ -1 → at0 (l.foldl (putB c st) T) j = at0 T j
  | [],T,_,h,_=>⟨h,fun k hk=>(by cases hk),fun _ _=>rfl⟩
  | k :: l,T,hl,h,hT=>by
    have hk:=hl k List.mem_cons_self
    obtain ⟨h1,h2,h3⟩:=putB_ok h hn hk.1 hT ht hk.2
    obtain ⟨g1,g2,g3⟩:=putL_ok hn ht l (putB c st T k) (fun j hj=>hl j (List.mem_cons_of_mem _ hj)) h1 (by rw [h3 n (by omega)];exact hT)
    rw [List.foldl_cons]
    refine ⟨g1,fun j hj ho=>?_,fun j hj=>?_⟩
    · rcases List.mem_cons.1 hj with rfl|hj
      · have:=h2 ho
        rw [g3 _ this];exact this
      · exact g2 j hj ho
    · rw [g3 j (by rw [h3 j hj];exact hj),h3 j hj]
theorem cellB_ok {c : List Int} {W H : Nat} {s : Int} {st : Nat} {T : List Int} {P : Nat → Prop} {n : Nat} (hW : 2 ≤ W) (hL : c.length = W * H) (h : BI c W s st T P) (hn : n < c.length) :
    BI c W s st (cellB c W s st T n) (fun j=>P j ∨ j = n):=by
  unfold cellB
  split
  · rename_i hc
    obtain ⟨h1,h2,h3⟩:=putL_ok hn hc.2 (nbs W c.length n) T (fun k hk=>(nbs_iff hW hL hn).1 hk) h hc.1
    refine ⟨h1.len,h1.own,h1.oth,h1.rng,h1.got,fun m hm e e2 e3 k hk hnk htk=>?_,h1.cn⟩
    rcases h1.non m hm e e2 e3 k hk hnk htk with h4|h4|h4
    · exact .inl h4
    · exact .inr (.inl h4)
    · by_cases hkn : k = n
      · subst hkn
        exact absurd e3 (h2 m ((nbs_iff hW hL hk).2 ⟨hm,hnk.symm⟩) e2)
      · exact .inr (.inr ⟨h4.1,fun h5=>by rcases h5 with h5|h5;exact h4.2 h5;exact hkn h5⟩)
  · rename_i hc
    refine ⟨h.len,h.own,h.oth,h.rng,h.got,fun m hm e e2 e3 k hk hnk htk=>?_,h.cn⟩
    rcases h.non m hm e e2 e3 k hk hnk htk with h4|h4|h4
    · exact .inl h4
    · exact .inr (.inl h4)
    · refine .inr (.inr ⟨h4.1,fun h5=>?_⟩)
      rcases h5 with h5|h5
      · exact h4.2 h5
      · subst h5;exact hc ⟨h4.1,htk⟩
theorem cellL_ok {c : List Int} {W H : Nat} {s : Int} {st : Nat} (hW : 2 ≤ W) (hL : c.length = W * H) : ∀ (N : Nat) (T : List Int),N ≤ c.length → BI c W s st T (fun _=>False) → BI c W s st ((List.range N).foldl (cellB c W s st) T) (fun j=>j < N)
  | 0,T,_,h=>⟨h.len,h.own,h.oth,h.rng,h.got,fun m hm e e2 e3 k hk hnk htk=>by
      rcases h.non m hm e e2 e3 k hk hnk htk with h4|h4|h4
      · exact .inl h4
      · exact .inr (.inl h4)
      · exact .inr (.inr ⟨h4.1,fun h5=>by omega⟩),h.cn⟩
  | N + 1,T,hN,h=>by
    have h1:=cellL_ok hW hL N T (by omega) h
    rw [List.range_succ,List.foldl_append]
    have h2:=cellB_ok hW hL h1 (n:=N) (by omega)
    refine ⟨h2.len,h2.own,h2.oth,h2.rng,h2.got,fun m hm e e2 e3 k hk hnk htk=>?_,h2.cn⟩
    rcases h2.non m hm e e2 e3 k hk hnk htk with h4|h4|h4
    · exact .inl h4
    · exact .inr (.inl h4)
    · exact .inr (.inr ⟨h4.1,fun h5=>h4.2 (by omega)⟩)
theorem stepB_ok {c : List Int} {W H : Nat} {s : Int} {st : Nat} {T : List Int} (hW : 2 ≤ W) (hL : c.length = W * H) (h : BI c W s st T (fun _=>False)) : BI c W s (st + 1) (stepB c W s T st) (fun _=>False):=by
  have h1:=cellL_ok hW hL c.length T (Nat.le_refl _) h
  unfold stepB
  refine ⟨h1.len,h1.own,h1.oth,fun n=>by have:=h1.rng n;omega,h1.got,fun m hm e e2 e3 k hk hnk htk=>?_,h1.cn⟩
  rcases h1.non m hm e e2 e3 k hk hnk htk with h4|h4|h4
  · exact .inl h4
  · rcases Int.lt_or_le ((st + 1 : Nat) : Int) (at0 ((List.range c.length).foldl (cellB c W s st) T) k) with h5|h5
    · exact .inr (.inl h5)
    · exact .inr (.inr ⟨by omega,fun h=>h⟩)
  · exact absurd hk h4.2
theorem bi0 {c : List Int} {W : Nat} {s : Int} : BI c W s 0 (t0 c s) (fun _=>False):=by
  have hl : (t0 c s).length = c.length:=by unfold t0;rw [List.length_map]
  have hat : ∀ n,at0 (t0 c s) n = 0 ∨ at0 (t0 c s) n = -1:=fun n=>by
    rcases Nat.lt_or_ge n c.length with hn|hn
    · rw [at0_t0 hn];split <;> simp
    · exact .inr (at0_out (by rw [hl];exact hn))
  refine ⟨hl,fun n hn e=>by rw [at0_t0 hn,if_pos e],fun n hn e _=>by rw [at0_t0 hn,if_neg e],fun n=>by have:=hat n;omega,fun n hn e e2=>?_,fun n hn e e2 e3 k hk hnk htk=>?_,fun n hn=>?_⟩
  · rw [at0_t0 hn,if_neg e] at e2;exact absurd rfl e2
  · rcases hat k with h1|h1
    · exact .inr (.inr ⟨h1,fun h=>h⟩)
    · exact .inl h1
  · have h1:=cnt_pos hn
    rcases hat n with h2|h2
    · rw [h2];omega
    · exact absurd h2 hn
theorem stepL_ok {c : List Int} {W H : Nat} {s : Int} (hW : 2 ≤ W) (hL : c.length = W * H) : ∀ N : Nat,BI c W s N ((List.range N).foldl (stepB c W s) (t0 c s)) (fun _=>False)
  | 0=>bi0
  | N + 1=>by
    rw [List.range_succ,List.foldl_append]
    exact stepB_ok hW hL (stepL_ok hW hL N)
theorem bfs_hld {c : List Int} {W H : Nat} {s : Int} (hW : 2 ≤ W) (hL : c.length = W * H) : Hld c W s (bfs c W s):=by
  have h:=stepL_ok (s:=s) hW hL c.length
  have hb : ∀ n,at0 ((List.range c.length).foldl (stepB c W s) (t0 c s)) n ≠ -1 → at0 ((List.range c.length).foldl (stepB c W s) (t0 c s)) n < c.length:=fun n hn=>by
    have h1:=h.cn n hn
    have h2:=cnt_le ((List.range c.length).foldl (stepB c W s) (t0 c s))
    rw [h.len] at h2
    omega
  refine ⟨h.len,fun n hn=>⟨fun e=>h.own n hn e,fun e e2=>?_,fun e e2=>h.oth n hn e e2⟩⟩
  unfold bfs
  by_cases h0 : at0 ((List.range c.length).foldl (stepB c W s) (t0 c s)) n = -1
  · refine .inl ⟨h0,fun k hk hnk htk=>?_⟩
    rcases h.non n hn e e2 h0 k hk hnk htk with h4|h4|h4
    · exact h4
    · refine Decidable.byContradiction fun h5=>?_
      have:=hb k h5
      omega
    · refine Decidable.byContradiction fun h5=>?_
      have:=hb k h5
      omega
  · obtain ⟨_,k,g1,g2,g3,g4,g5,g6⟩:=h.got n hn e h0
    exact .inr ⟨k,g1,g2,g3,by omega,by omega,g6⟩
theorem bfs_lt {c : List Int} {W H : Nat} {s : Int} (hW : 2 ≤ W) (hL : c.length = W * H) (n : Nat) : at0 (bfs c W s) n < c.length ∨ at0 (bfs c W s) n = -1:=by
  have h:=stepL_ok (s:=s) hW hL c.length
  by_cases h0 : at0 (bfs c W s) n = -1
  · exact .inr h0
  · have h1:=h.cn n h0
    have h2:=cnt_le ((List.range c.length).foldl (stepB c W s) (t0 c s))
    rw [h.len] at h2
    left
    unfold bfs at *
    omega
end Riv

namespace Riv
abbrev TB:=List Int × Bool
def rput (c : List Int) (W a : Nat) (x : TB) (b : Nat) : TB:=if Nb W a b ∧ Opn c b ∧ (at0 x.1 b = -1 ∨ at0 x.1 a + 1 < at0 x.1 b) then (x.1.set b (at0 x.1 a + 1),true) else x
def rcell (c : List Int) (W : Nat) (x : TB) (a : Nat) : TB:=if at0 x.1 a = -1 ∨ at0 c a = 3 then x else (List.range c.length).foldl (rput c W a) x
def rround (c : List Int) (W : Nat) (T : List Int) : TB:=(List.range c.length).foldl (rcell c W) (T,false)
def rgo (c : List Int) (W : Nat) : Nat → List Int → List Int
  | 0,T=>T
  | N + 1,T=>bif (rround c W T).2 then rgo c W N (rround c W T).1 else (rround c W T).1
structure RI (c : List Int) (W : Nat) (s : Int) (T : List Int) : Prop where
  len : T.length = c.length
  own : ∀ n,n < c.length → at0 c n = s → at0 T n = 0
  low : ∀ n,-1 ≤ at0 T n
  got : ∀ n,n < c.length → at0 c n ≠ s → at0 T n ≠ -1 → Opn c n ∧ ∃ k,k < c.length ∧ Nb W n k ∧ Thr c s k ∧ at0 T k ≠ -1 ∧ at0 T k + 1 ≤ at0 T n
  cn : ∀ n,at0 T n ≠ -1 → at0 T n + 1 ≤ cnt T
def wgt : List Int → Nat
  | []=>0
  | x :: T=>(if x = -1 then 200 else x.toNat) + wgt T
theorem wgt_set : ∀ {T : List Int} {k : Nat} {v : Int},k < T.length → 0 ≤ v → v < 200 → (at0 T k = -1 ∨ v < at0 T k) → wgt (T.set k v) < wgt T
  | x :: T,0,v,_,h0,h1,h=>by
    have h : x = -1 ∨ v < x:=h
    rw [List.set_cons_zero,wgt,wgt,if_neg (by omega)]
    rcases h with h|h
    · rw [if_pos h];omega
    · rw [if_neg (by omega)];omega
  | x :: T,k + 1,v,hk,h0,h1,h=>by
    have:=wgt_set (T:=T) (k:=k) (by simpa using hk) h0 h1 (by simpa [at0] using h)
    rw [List.set_cons_succ,wgt,wgt];omega
theorem wgt_le : ∀ {T : List Int},(∀ n,at0 T n ≤ 200) → wgt T ≤ 200 * T.length
  | [],_=>by simp [wgt]
  | x :: T,h=>by
    have h1:=wgt_le (T:=T) fun n=>by have:=h (n + 1);simpa [at0] using this
    have h2 : x ≤ 200:=h 0
    rw [wgt,List.length_cons]
    split <;> omega
structure RJ (c : List Int) (W : Nat) (s : Int) (R T : List Int) (ch : Bool) (P : Nat → Nat → Prop) : Prop where
  ri : RI c W s T
  no : ch = false → T = R ∧ ∀ a b,a < c.length → b < c.length → P a b → at0 R a ≠ -1 → at0 c a ≠ 3 → Nb W a b → Opn c b → at0 R b ≠ -1 ∧ at0 R b ≤ at0 R a + 1
  yes : ch = true → wgt T < wgt R
theorem rput_ok {c : List Int} {W : Nat} {s : Int} {R : List Int} {x : TB} {P : Nat → Nat → Prop} {a b : Nat} (hW : 2 ≤ W) (hL : c.length ≤ 160) (h : RJ c W s R x.1 x.2 P) (ha : a < c.length) (hb : b < c.length) (h0 : at0 x.1 a ≠ -1) (h3 : at0 c a ≠ 3) :
    RJ c W s R (rput c W a x b).1 (rput c W a x b).2 (fun i j=>P i j ∨ (i = a ∧ j = b)) ∧ at0 (rput c W a x b).1 a = at0 x.1 a:=by
  obtain ⟨T,ch⟩:=x
  dsimp only at h h0
  unfold rput
  dsimp only
  have hI:=h.ri
  have hat : Thr c s a:=by
    by_cases e : at0 c a = s
    · exact .inr e
    · rcases (hI.got a ha e h0).1 with h4|h4
      · exact .inl h4
      · exact absurd h4 h3
  split
  · rename_i hc
    dsimp only
    have hbl : b < T.length:=by rw [hI.len];exact hb
    have hset:=fun j=>at0_set (v:=at0 T a + 1) hbl j
    have hab : a ≠ b:=Nb.ne hW hc.1
    have hla:=hI.low a
    have hbs : at0 c b ≠ s:=fun e=>by
      have:=hI.own b hb e
      have:=hc.2.2;omega
    have hcn:=hI.cn a h0
    have hcl:=cnt_le T
    rw [hI.len] at hcl
    have hcnt : cnt T ≤ cnt (T.set b (at0 T a + 1)) ∧ (at0 T b = -1 → cnt (T.set b (at0 T a + 1)) = cnt T + 1):=by
      have key : ∀ {T : List Int} {b : Nat} {v : Int},v ≠ -1 → cnt T ≤ cnt (T.set b v):=by
        intro T
        induction T with
        | nil=>intro b v _;simp [cnt]
        | cons x T ih =>
          intro b v hv
          cases b with
          | zero =>
            unfold cnt
            rw [List.set_cons_zero,List.countP_cons,List.countP_cons,decide_eq_true hv]
            split <;> simp
          | succ b =>
            have:=ih (b:=b) hv
            unfold cnt at *
            rw [List.set_cons_succ,List.countP_cons,List.countP_cons];omega
      exact ⟨key (by omega),fun e=>cnt_set hbl e (by omega)⟩
    have hself:=hset b
    rw [if_pos rfl] at hself
    refine ⟨⟨⟨by rw [List.length_set];exact hI.len,fun n hn e=>?_,fun n=>?_,fun n hn e e2=>?_,fun n hn=>?_⟩,fun e=>by simp at e,fun _=>?_⟩,by rw [hset,if_neg hab]⟩
    · rw [hset,if_neg (fun e2=>by subst e2;exact hbs e)];exact hI.own n hn e
    · rw [hset];split
      · omega
      · exact hI.low n
    · by_cases hnb : n = b
      · subst hnb
        refine ⟨hc.2.1,a,ha,hc.1.symm,hat,?_,?_⟩
        · rw [hset,if_neg hab];exact h0
        · rw [hset,if_neg hab,hself];exact Int.le_refl _
      · rw [hset,if_neg hnb] at e2
        obtain ⟨g1,k,g2,g3,g4,g5,g6⟩:=hI.got n hn e e2
        refine ⟨g1,k,g2,g3,g4,?_,?_⟩
        · rw [hset];split
          · omega
          · exact g5
        · rw [hset n,if_neg hnb,hset]
          split
          · rename_i hkb;subst hkb
            have:=hc.2.2
            omega
          · exact g6
    · rw [hset] at hn ⊢
      split
      · rcases Decidable.em (at0 T b = -1) with e|e
        · rw [hcnt.2 e];omega
        · have h5:=hI.cn b e
          have h6:=hcnt.1
          have:=hc.2.2
          omega
      · rename_i hnb
        rw [if_neg hnb] at hn
        have:=hI.cn n hn
        have:=hcnt.1
        omega
    · have h5:=wgt_set (v:=at0 T a + 1) hbl (by omega) (by omega) hc.2.2
      cases ch with
      | false=>rw [← (h.no rfl).1];exact h5
      | true=>exact Nat.lt_trans h5 (h.yes rfl)
  · rename_i hc
    dsimp only
    refine ⟨⟨hI,fun e=>?_,h.yes⟩,rfl⟩
    obtain ⟨e1,e2⟩:=h.no e
    refine ⟨e1,fun i j hi hj hp g1 g2 g3 g4=>?_⟩
    rcases hp with hp|⟨rfl,rfl⟩
    · exact e2 i j hi hj hp g1 g2 g3 g4
    · rw [e1] at hc
      refine ⟨fun e5=>hc ⟨g3,g4,.inl e5⟩,?_⟩
      rcases Int.lt_or_le (at0 R i + 1) (at0 R j) with h5|h5
      · exact absurd ⟨g3,g4,.inr h5⟩ hc
      · exact h5
theorem RJ.mono {c : List Int} {W : Nat} {s : Int} {R T : List Int} {ch : Bool} {P Q : Nat → Nat → Prop} (h : RJ c W s R T ch P) (hq : ∀ a b,a < c.length → b < c.length → Q a b → (at0 R a ≠ -1 → at0 c a ≠ 3 → P a b)) : RJ c W s R T ch Q :=
  ⟨h.ri,fun e=>⟨(h.no e).1,fun a b h1 h2 h3 h4 h5=>(h.no e).2 a b h1 h2 (hq a b h1 h2 h3 h4 h5) h4 h5⟩,h.yes⟩
theorem rputL_ok {c : List Int} {W : Nat} {s : Int} {R : List Int} {P : Nat → Nat → Prop} {a : Nat} (hW : 2 ≤ W) (hL : c.length ≤ 160) (ha : a < c.length) (h3 : at0 c a ≠ 3) {x : TB} (h : RJ c W s R x.1 x.2 P) (h0 : at0 x.1 a ≠ -1) : ∀ N,N ≤ c.length →
    RJ c W s R ((List.range N).foldl (rput c W a) x).1 ((List.range N).foldl (rput c W a) x).2 (fun i j=>P i j ∨ (i = a ∧ j < N)) ∧ at0 ((List.range N).foldl (rput c W a) x).1 a = at0 x.1 a
  | 0,_=>⟨h.mono fun a b _ _ h4 _ _=>by rcases h4 with h4|h4;exact h4;omega,rfl⟩
  | N + 1,hN=>by
    obtain ⟨h1,h2⟩:=rputL_ok hW hL ha h3 h h0 N (by omega)
    rw [List.range_succ,List.foldl_append]
    obtain ⟨g1,g2⟩:=rput_ok hW hL h1 ha (show N < c.length by omega) (by rw [h2];exact h0) h3
    refine ⟨g1.mono fun i j _ _ h4 _ _=>?_,?_⟩
    · rcases h4 with h4|h4
      · exact .inl (.inl h4)
      · rcases Nat.lt_or_ge j N with h5|h5
        · exact .inl (.inr ⟨h4.1,h5⟩)
        · exact .inr ⟨h4.1,by omega⟩
    · rw [← h2];exact g2
theorem rcell_ok {c : List Int} {W : Nat} {s : Int} {R : List Int} {P : Nat → Nat → Prop} {a : Nat} (hW : 2 ≤ W) (hL : c.length ≤ 160) (ha : a < c.length) {x : TB} (h : RJ c W s R x.1 x.2 P) :
    RJ c W s R (rcell c W x a).1 (rcell c W x a).2 (fun i j=>P i j ∨ i = a):=by
  unfold rcell
  split
  · rename_i hc
    refine ⟨h.ri,fun e=>?_,h.yes⟩
    obtain ⟨e1,e2⟩:=h.no e
    refine ⟨e1,fun i j hi hj hp g1 g2=>?_⟩
    rcases hp with hp|rfl
    · exact e2 i j hi hj hp g1 g2
    · rw [e1] at hc
      rcases hc with hc|hc
      · exact absurd hc g1
      · exact absurd hc g2
  · rename_i hc
    exact (rputL_ok hW hL ha (fun e=>hc (.inr e)) h (fun e=>hc (.inl e)) c.length (Nat.le_refl _)).1.mono fun i j _ hj h4 _ _=>by
      rcases h4 with h4|h4
      · exact .inl h4
      · exact .inr ⟨h4,hj⟩
theorem rround_ok {c : List Int} {W : Nat} {s : Int} {R : List Int} (hW : 2 ≤ W) (hL : c.length ≤ 160) (h : RI c W s R) : ∀ N,N ≤ c.length →
    RJ c W s R ((List.range N).foldl (rcell c W) (R,false)).1 ((List.range N).foldl (rcell c W) (R,false)).2 (fun i _=>i < N)
  | 0,_=>⟨h,fun _=>⟨rfl,fun a b _ _ h4=>by omega⟩,fun e=>by simp at e⟩
  | N + 1,hN=>by
    have h1:=rround_ok hW hL h N (by omega)
    rw [List.range_succ,List.foldl_append]
    exact (rcell_ok hW hL (show N < c.length by omega) h1).mono fun i j _ _ h4 _ _=>by
      rcases Nat.lt_or_ge i N with h5|h5
      · exact .inl h5
      · exact .inr (by omega)
theorem rgo_ok {c : List Int} {W : Nat} {s : Int} (hW : 2 ≤ W) (hs : s ≠ 3) (hL : c.length ≤ 160) : ∀ (N : Nat) (R : List Int),RI c W s R → wgt R < N → Hld c W s (rgo c W N R)
  | 0,_,_,hN=>absurd hN (Nat.not_lt_zero _)
  | N + 1,R,h,hN=>by
    have h1:=rround_ok hW hL h c.length (Nat.le_refl _)
    rw [rgo]
    unfold rround
    generalize hx : (List.range c.length).foldl (rcell c W) (R,false) = x at h1
    obtain ⟨T,ch⟩:=x
    dsimp only at h1 ⊢
    cases ch with
    | true =>
      have:=h1.yes rfl
      exact rgo_ok hW hs hL N T h1.ri (by omega)
    | false =>
      obtain ⟨e,h2⟩:=h1.no rfl
      subst e
      show Hld c W s T
      have ht3 : ∀ k,Thr c s k → at0 c k ≠ 3:=fun k hk e=>by
        rcases hk with h6|h6
        · rw [h6] at e;simp at e
        · exact hs (h6.symm.trans e)
      refine ⟨h.len,fun n hn=>⟨fun e=>h.own n hn e,fun e e2=>?_,fun e e2=>?_⟩⟩
      · by_cases h0 : at0 T n = -1
        · exact .inl ⟨h0,fun k hk hnk htk=>Decidable.byContradiction fun h5=>absurd h0 (h2 k n hk hn hk h5 (ht3 k htk) hnk.symm e2).1⟩
        · obtain ⟨_,k,g2,g3,g4,g5,g6⟩:=h.got n hn e h0
          have h7:=(h2 k n g2 hn g2 g5 (ht3 k g4) g3.symm e2).2
          refine .inr ⟨k,g2,g3,g4,g5,by omega,fun j hj hnj htj h8=>?_⟩
          have h9:=(h2 j n hj hn hj h8 (ht3 j htj) hnj.symm e2).2
          omega
      · exact Decidable.byContradiction fun h0=>e2 (h.got n hn e h0).1
theorem ri0 {c : List Int} {W : Nat} {s : Int} : RI c W s (t0 c s):=by
  have h:=bi0 (c:=c) (W:=W) (s:=s)
  exact ⟨h.len,h.own,fun n=>(h.rng n).1,fun n hn e e2=>absurd (by rw [at0_t0 hn,if_neg e]) e2,h.cn⟩
def rfar (c : List Int) (W : Nat) (s : Int) : List Int:=rgo c W 40000 (t0 c s)
theorem rfar_hld {c : List Int} {W : Nat} {s : Int} (hW : 2 ≤ W) (hs : s ≠ 3) (hL : c.length ≤ 160) : Hld c W s (rfar c W s):=by
  refine rgo_ok hW hs hL _ _ ri0 ?_
  have h:=bi0 (c:=c) (W:=W) (s:=s)
  have:=wgt_le (T:=t0 c s) fun n=>by have:=(h.rng n).2;omega
  rw [h.len] at this
  omega
theorem rfar_eq {c : List Int} {W H : Nat} {s : Int} (hW : 2 ≤ W) (hs : s ≠ 3) (hL : c.length = W * H) (hl : c.length ≤ 160) : rfar c W s = bfs c W s:=(rfar_hld hW hs hl).eq (bfs_hld hW hL)
end Riv

namespace Riv
def ls1 (o n : Int) : Int:=if n ≠ -1 ∧ (o = -1 ∨ n < o) then n else o
def leastL (l : List Int) : Int:=l.foldl ls1 (-1)
theorem leastL_go : ∀ (l : List Int) (o : Int),(l.foldl ls1 o = -1 ∧ o = -1 ∧ ∀ x ∈ l,x = -1) ∨ (l.foldl ls1 o ≠ -1 ∧ (l.foldl ls1 o = o ∨ l.foldl ls1 o ∈ l) ∧ (o ≠ -1 → l.foldl ls1 o ≤ o) ∧ ∀ x ∈ l,x ≠ -1 → l.foldl ls1 o ≤ x)
  | [],o=>by
    by_cases h : o = -1
    · exact .inl ⟨h,h,fun x hx=>(by cases hx)⟩
    · exact .inr ⟨h,.inl rfl,fun _=>Int.le_refl _,fun x hx=>(by cases hx)⟩
  | n :: l,o=>by
    rw [List.foldl_cons]
    have h:=leastL_go l (ls1 o n)
    generalize hq : ls1 o n = q at h ⊢
    unfold ls1 at hq
    generalize l.foldl ls1 q = f at h ⊢
    subst hq
    split at h
    · rename_i hc
      rcases h with ⟨h1,h2,h3⟩|⟨h1,h2,h3,h4⟩
      · exact absurd h2 hc.1
      · refine .inr ⟨h1,.inr ?_,fun h5=>?_,fun x hx h5=>?_⟩
        · rcases h2 with h2|h2
          · rw [h2];exact List.mem_cons_self
          · exact List.mem_cons_of_mem _ h2
        · have:=h3 hc.1;omega
        · rcases List.mem_cons.1 hx with rfl|hx
          · exact h3 h5
          · exact h4 x hx h5
    · rename_i hc
      rcases h with ⟨h1,h2,h3⟩|⟨h1,h2,h3,h4⟩
      · refine .inl ⟨h1,h2,fun x hx=>?_⟩
        rcases List.mem_cons.1 hx with rfl|hx
        · exact Decidable.byContradiction fun h5=>hc ⟨h5,.inl h2⟩
        · exact h3 x hx
      · refine .inr ⟨h1,?_,h3,fun x hx h5=>?_⟩
        · rcases h2 with h2|h2
          · exact .inl h2
          · exact .inr (List.mem_cons_of_mem _ h2)
        · rcases List.mem_cons.1 hx with rfl|hx
          · by_cases ho : o = -1
            · exact absurd ⟨h5,.inl ho⟩ hc
            · have:=h3 ho
              have : ¬ x < o:=fun e=>hc ⟨h5,.inr e⟩
              omega
          · exact h4 x hx h5
theorem leastL_none {l : List Int} : leastL l = -1 ↔ ∀ x ∈ l,x = -1:=by
  rcases leastL_go l (-1) with ⟨h1,_,h3⟩|⟨h1,h2,_,h4⟩
  · exact ⟨fun _=>h3,fun _=>h1⟩
  · refine ⟨fun h=>absurd h h1,fun h=>?_⟩
    rcases h2 with h2|h2
    · exact h2
    · exact h _ h2
theorem leastL_some {l : List Int} (h : leastL l ≠ -1) : leastL l ∈ l ∧ ∀ x ∈ l,x ≠ -1 → leastL l ≤ x:=by
  rcases leastL_go l (-1) with ⟨h1,_,h3⟩|⟨h1,h2,_,h4⟩
  · exact absurd h1 h
  · refine ⟨?_,h4⟩
    rcases h2 with h2|h2
    · exact absurd h2 h1
    · exact h2
def want (c : List Int) (W : Nat) (s : Int) (T : List Int) (n : Nat) : Int :=
  if at0 c n = s then 0 else if Opn c n then (if leastL (((nbs W c.length n).filter fun k=>decide (Thr c s k)).map (at0 T)) = -1 then -1 else leastL (((nbs W c.length n).filter fun k=>decide (Thr c s k)).map (at0 T)) + 1) else -1
theorem fit_iff {c : List Int} {W H : Nat} {s : Int} {T : List Int} {n : Nat} (hW : 2 ≤ W) (hL : c.length = W * H) (hn : n < c.length) : Fit c W s T n ↔ at0 T n = want c W s T n:=by
  have hmem : ∀ x,x ∈ (((nbs W c.length n).filter fun k=>decide (Thr c s k)).map (at0 T)) ↔ ∃ k,k < c.length ∧ Nb W n k ∧ Thr c s k ∧ at0 T k = x:=fun x=>by
    simp only [List.mem_map,List.mem_filter,decide_eq_true_eq,nbs_iff hW hL hn]
    constructor
    · rintro ⟨k,⟨⟨h1,h2⟩,h3⟩,h4⟩;exact ⟨k,h1,h2,h3,h4⟩
    · rintro ⟨k,h1,h2,h3,h4⟩;exact ⟨k,⟨⟨h1,h2⟩,h3⟩,h4⟩
  unfold want
  generalize (((nbs W c.length n).filter fun k=>decide (Thr c s k)).map (at0 T)) = l at hmem
  by_cases e : at0 c n = s
  · rw [if_pos e]
    exact ⟨fun h=>h.own e,fun h=>⟨fun _=>h,fun e2=>absurd e e2,fun e2=>absurd e e2⟩⟩
  · rw [if_neg e]
    by_cases e2 : Opn c n
    · rw [if_pos e2]
      by_cases e3 : leastL l = -1
      · rw [if_pos e3]
        have h3:=leastL_none.1 e3
        constructor
        · intro h
          rcases h.opn e e2 with h1|⟨k,a1,a2,a3,a4,_⟩
          · exact h1.1
          · exact absurd (h3 _ ((hmem _).2 ⟨k,a1,a2,a3,rfl⟩)) a4
        · intro h
          exact ⟨fun e4=>absurd e4 e,fun _ _=>.inl ⟨h,fun k a1 a2 a3=>h3 _ ((hmem _).2 ⟨k,a1,a2,a3,rfl⟩)⟩,fun _ e4=>absurd e2 e4⟩
      · rw [if_neg e3]
        obtain ⟨g1,g2⟩:=leastL_some e3
        obtain ⟨k,a1,a2,a3,a4⟩:=(hmem _).1 g1
        constructor
        · intro h
          rcases h.opn e e2 with h1|⟨j,b1,b2,b3,b4,b5,b6⟩
          · have:=h1.2 k a1 a2 a3
            rw [a4] at this;exact absurd this e3
          · have h4:=g2 _ ((hmem _).2 ⟨j,b1,b2,b3,rfl⟩) b4
            have h5:=b6 k a1 a2 a3 (by rw [a4];exact e3)
            omega
        · intro h
          exact ⟨fun e4=>absurd e4 e,fun _ _=>.inr ⟨k,a1,a2,a3,by rw [a4];exact e3,by rw [a4];exact h,fun j b1 b2 b3 b4=>by rw [a4];exact g2 _ ((hmem _).2 ⟨j,b1,b2,b3,rfl⟩) b4⟩,fun _ e4=>absurd e2 e4⟩
    · rw [if_neg e2]
      exact ⟨fun h=>h.oth e e2,fun h=>⟨fun e4=>absurd e4 e,fun _ e4=>absurd e4 e2,fun _ _=>h⟩⟩
def hldB (c : List Int) (W : Nat) (s : Int) (T : List Int) : Bool:=(List.range c.length).all fun n=>decide (at0 T n = want c W s T n)
theorem hldB_iff {c : List Int} {W H : Nat} {s : Int} {T : List Int} (hW : 2 ≤ W) (hL : c.length = W * H) (hl : T.length = c.length) : hldB c W s T = true ↔ T = bfs c W s:=by
  unfold hldB
  simp only [List.all_eq_true,List.mem_range,decide_eq_true_eq]
  constructor
  · intro h
    exact Hld.eq ⟨hl,fun n hn=>(fit_iff hW hL hn).2 (h n hn)⟩ (bfs_hld hW hL)
  · intro h n hn
    subst h
    exact (fit_iff hW hL hn).1 ((bfs_hld hW hL).fit n hn)
end Riv

namespace Riv
def prevW (c : List Int) (W : Nat) (s : Int) (T : List Int) (n : Nat) : Nat:=(nbs W c.length n).foldl (fun o k=>if at0 T k = at0 T n - 1 ∧ Thr c s k then k else o) n
def wback (c : List Int) (W : Nat) (s : Int) (T : List Int) : Nat → Nat → List Nat
  | 0,_=>[]
  | N + 1,n=>if 0 < at0 T n then prevW c W s T n :: wback c W s T N (prevW c W s T n) else []
theorem prev_go {P : Nat → Prop} [DecidablePred P] : ∀ (l : List Nat) (o : Nat),(l.foldl (fun o k=>if P k then k else o) o = o ∧ ∀ k ∈ l,¬ P k) ∨ (l.foldl (fun o k=>if P k then k else o) o ∈ l ∧ P (l.foldl (fun o k=>if P k then k else o) o))
  | [],o=>.inl ⟨rfl,fun k hk=>(by cases hk)⟩
  | k :: l,o=>by
    rw [List.foldl_cons]
    split
    · rename_i hk
      rcases prev_go (P:=P) l k with h|h
      · rw [h.1];exact .inr ⟨List.mem_cons_self,hk⟩
      · exact .inr ⟨List.mem_cons_of_mem _ h.1,h.2⟩
    · rename_i hk
      rcases prev_go (P:=P) l o with h|h
      · refine .inl ⟨h.1,fun j hj=>?_⟩
        rcases List.mem_cons.1 hj with rfl|hj
        · exact hk
        · exact h.2 j hj
      · exact .inr ⟨List.mem_cons_of_mem _ h.1,h.2⟩
theorem prev_ok {c : List Int} {W H : Nat} {s : Int} {T : List Int} {n : Nat} (hW : 2 ≤ W) (hL : c.length = W * H) (h : Hld c W s T) (hn : n < c.length) (h0 : 0 < at0 T n) :
    prevW c W s T n < c.length ∧ Nb W n (prevW c W s T n) ∧ Thr c s (prevW c W s T n) ∧ at0 T (prevW c W s T n) = at0 T n - 1:=by
  have h1:=(h.step hn (at0 T n - 1).toNat).1 (by omega)
  obtain ⟨_,_,⟨k,a1,a2,a3,a4⟩,_⟩:=h1
  unfold prevW
  rcases prev_go (P:=fun k=>at0 T k = at0 T n - 1 ∧ Thr c s k) (nbs W c.length n) n with h2|h2
  · exact absurd ⟨by omega,a3⟩ (h2.2 k ((nbs_iff hW hL hn).2 ⟨a1,a2⟩))
  · have h3:=(nbs_iff hW hL hn).1 h2.1
    exact ⟨h3.1,h3.2,h2.2.2,h2.2.1⟩
inductive WB (c : List Int) (W : Nat) (s : Int) : Nat → List Nat → Prop
  | base {n : Nat} : at0 c n = s → WB c W s n []
  | step {n k : Nat} {l : List Nat} : k < c.length → Nb W n k → Thr c s k → at0 c n ≠ s → Opn c n → WB c W s k l → WB c W s n (k :: l)
theorem wback_ok {c : List Int} {W H : Nat} {s : Int} {T : List Int} (hW : 2 ≤ W) (hL : c.length = W * H) (h : Hld c W s T) : ∀ (N n : Nat),n < c.length → 0 ≤ at0 T n → at0 T n < N → WB c W s n (wback c W s T N n) ∧ ((wback c W s T N n).length : Int) = at0 T n
  | 0,_,_,h1,h2=>by omega
  | N + 1,n,hn,h1,h2=>by
    rw [wback]
    split
    · rename_i h0
      obtain ⟨a1,a2,a3,a4⟩:=prev_ok hW hL h hn h0
      obtain ⟨g1,g2⟩:=wback_ok hW hL h N _ a1 (by omega) (by omega)
      have h3:=(h.step hn (at0 T n - 1).toNat).1 (by omega)
      exact ⟨WB.step a1 a2 a3 h3.1 h3.2.1 g1,by rw [List.length_cons];omega⟩
    · have : at0 T n = 0:=by omega
      exact ⟨WB.base ((h.zero hn).1 this),by simp;omega⟩
end Riv

namespace Riv
def bat (m : List Bool) (n : Nat) : Bool:=m.getD n false
inductive Con (mk : List Bool) (W : Nat) : Nat → Nat → Prop
  | refl {n : Nat} : bat mk n = true → Con mk W n n
  | step {a b c : Nat} : Con mk W a b → Nb W b c → bat mk c = true → Con mk W a c
theorem bat_lt {m : List Bool} {n : Nat} (h : bat m n = true) : n < m.length:=by
  rcases Nat.lt_or_ge n m.length with h1|h1
  · exact h1
  · unfold bat at h
    rw [List.getD_eq_getElem?_getD,List.getElem?_eq_none h1] at h
    simp at h
theorem Con.mk {m : List Bool} {W a b : Nat} (h : Con m W a b) : bat m a = true ∧ bat m b = true:=by
  induction h with
  | refl h=>exact ⟨h,h⟩
  | step _ _ h ih=>exact ⟨ih.1,h⟩
theorem Con.trans {m : List Bool} {W a b c : Nat} (h : Con m W a b) (g : Con m W b c) : Con m W a c:=by
  induction g with
  | refl _=>exact h
  | step _ h1 h2 ih=>exact Con.step ih h1 h2
theorem Con.symm {m : List Bool} {W a b : Nat} (h : Con m W a b) : Con m W b a:=by
  induction h with
  | refl h=>exact Con.refl h
  | step h1 h2 h3 ih=>exact ((Con.refl h3).step h2.symm (h1.mk).2).trans ih
theorem rise_eq : ∀ {a b : List Nat},a.Pairwise (· < ·) → b.Pairwise (· < ·) → (∀ x,x ∈ a ↔ x ∈ b) → a = b
  | [],[],_,_,_=>rfl
  | [],y :: b,_,_,h=>by have:=(h y).2 List.mem_cons_self;cases this
  | x :: a,[],_,_,h=>by have:=(h x).1 List.mem_cons_self;cases this
  | x :: a,y :: b,ha,hb,h=>by
    rw [List.pairwise_cons] at ha hb
    have e : x = y:=by
      have h1:=(h x).1 List.mem_cons_self
      have h2:=(h y).2 List.mem_cons_self
      rcases List.mem_cons.1 h1 with h1|h1
      · exact h1
      · rcases List.mem_cons.1 h2 with h2|h2
        · exact h2.symm
        · have:=hb.1 x h1;have:=ha.1 y h2;omega
    subst e
    rw [rise_eq ha.2 hb.2 fun z=>?_]
    constructor
    · intro hz
      rcases List.mem_cons.1 ((h z).1 (List.mem_cons_of_mem _ hz)) with e|e
      · have:=ha.1 z hz;omega
      · exact e
    · intro hz
      rcases List.mem_cons.1 ((h z).2 (List.mem_cons_of_mem _ hz)) with e|e
      · have:=hb.1 z hz;omega
      · exact e
theorem nodup_len : ∀ (n : Nat) (l : List Nat),l.Nodup → (∀ x ∈ l,x < n) → l.length ≤ n
  | 0,l,_,h=>by
    cases l with
    | nil=>simp
    | cons x l=>have:=h x List.mem_cons_self;omega
  | n + 1,l,hd,h=>by
    have h1 : (l.filter fun x=>decide (x ≠ n)).length ≤ n:=nodup_len n _ (hd.filter _) fun x hx=>by
      rw [List.mem_filter] at hx
      have:=h x hx.1
      have h3 : x ≠ n:=by simpa using hx.2
      omega
    have h2 : l.length ≤ (l.filter fun x=>decide (x ≠ n)).length + 1:=by
      clear h1 h
      induction l with
      | nil=>simp
      | cons x l ih =>
        rw [List.nodup_cons] at hd
        by_cases hx : x = n
        · subst hx
          have : l.filter (fun y=>decide (y ≠ x)) = l:=List.filter_eq_self.2 fun y hy=>by
            have : y ≠ x:=fun e=>hd.1 (e ▸ hy)
            simpa using this
          rw [List.filter_cons_of_neg (by simp),this]
          simp
        · rw [List.filter_cons_of_pos (by simpa using hx)]
          have:=ih hd.2
          simp only [List.length_cons];omega
    omega
def folL (mk : List Bool) (rec : Nat → List Nat → List Nat) : List Nat → List Nat → List Nat
  | [],M=>M
  | k :: ks,M=>if k ∉ M ∧ bat mk k = true then folL mk rec ks (rec k M) else folL mk rec ks M
def folW (mk : List Bool) (W : Nat) : Nat → Nat → List Nat → List Nat
  | 0,_,M=>M
  | N + 1,n,M=>folL mk (folW mk W N) (nbs W mk.length n) (M ++ [n])
structure FO (mk : List Bool) (W n : Nat) (M R : List Nat) : Prop where
  pre : M <+: R
  nd : R.Nodup
  own : n ∈ R
  mrk : ∀ x ∈ R,x ∉ M → bat mk x = true ∧ Con mk W n x
  clo : ∀ x ∈ R,x ∉ M → ∀ k,Nb W x k → bat mk k = true → k ∈ R
structure FL (mk : List Bool) (W n : Nat) (M0 M ks R : List Nat) : Prop where
  pre : M <+: R
  nd : R.Nodup
  mrk : ∀ x ∈ R,x ∉ M → bat mk x = true ∧ Con mk W n x
  clo : ∀ x ∈ R,x ∉ M → ∀ k,Nb W x k → bat mk k = true → k ∈ R
  kin : ∀ k ∈ ks,bat mk k = true → k ∈ R
theorem folL_ok {mk : List Bool} {W H n N : Nat} (hW : 2 ≤ W) (hL : mk.length = W * H) (hm : bat mk n = true) {rec : Nat → List Nat → List Nat}
    (hr : ∀ k M,bat mk k = true → k ∉ M → M.Nodup → (∀ x ∈ M,x < mk.length) → mk.length ≤ N + M.length → FO mk W k M (rec k M)) {M0 : List Nat} :
    ∀ (ks M : List Nat),(∀ k ∈ ks,k < mk.length ∧ Nb W n k) → M.Nodup → (∀ x ∈ M,x < mk.length) → mk.length ≤ N + M.length → FL mk W n M0 M ks (folL mk rec ks M)
  | [],M,_,hd,_,_=>⟨List.prefix_refl _,hd,fun x h1 h2=>absurd h1 h2,fun x h1 h2=>absurd h1 h2,fun k hk=>(by cases hk)⟩
  | k :: ks,M,hk,hd,hx,hN=>by
    rw [folL]
    have hk1:=hk k List.mem_cons_self
    split
    · rename_i hc
      have h1:=hr k M hc.2 hc.1 hd hx hN
      have hcon : Con mk W n k:=(Con.refl hm).step hk1.2 hc.2
      have hx1 : ∀ x ∈ rec k M,x < mk.length:=fun x h2=>by
        by_cases h3 : x ∈ M
        · exact hx x h3
        · exact bat_lt (h1.mrk x h2 h3).1
      have hlen : M.length ≤ (rec k M).length:=h1.pre.length_le
      have h2:=folL_ok (N:=N) (M0:=M0) hW hL hm hr ks (rec k M) (fun j hj=>hk j (List.mem_cons_of_mem _ hj)) h1.nd hx1 (by omega)
      refine ⟨h1.pre.trans h2.pre,h2.nd,fun x a1 a2=>?_,fun x a1 a2 j a3 a4=>?_,fun j hj a1=>?_⟩
      · by_cases h3 : x ∈ rec k M
        · have h4:=h1.mrk x h3 a2
          exact ⟨h4.1,hcon.trans h4.2⟩
        · exact h2.mrk x a1 h3
      · by_cases h3 : x ∈ rec k M
        · exact h2.pre.subset (h1.clo x h3 a2 j a3 a4)
        · exact h2.clo x a1 h3 j a3 a4
      · rcases List.mem_cons.1 hj with rfl|hj
        · exact h2.pre.subset h1.own
        · exact h2.kin j hj a1
    · rename_i hc
      have h2:=folL_ok (N:=N) (M0:=M0) hW hL hm hr ks M (fun j hj=>hk j (List.mem_cons_of_mem _ hj)) hd hx hN
      refine ⟨h2.pre,h2.nd,h2.mrk,h2.clo,fun j hj a1=>?_⟩
      rcases List.mem_cons.1 hj with rfl|hj
      · exact h2.pre.subset (Decidable.byContradiction fun h3=>hc ⟨h3,a1⟩)
      · exact h2.kin j hj a1
theorem folW_ok {mk : List Bool} {W H : Nat} (hW : 2 ≤ W) (hL : mk.length = W * H) : ∀ (N n : Nat) (M : List Nat),bat mk n = true → n ∉ M → M.Nodup → (∀ x ∈ M,x < mk.length) → mk.length ≤ N + M.length → FO mk W n M (folW mk W N n M)
  | 0,n,M,h1,h2,h3,h4,h5=>by
    exfalso
    have h6 : (M ++ [n]).Nodup:=by
      rw [List.nodup_append]
      exact ⟨h3,by simp,fun a ha b hb=>by simp at hb;subst hb;intro e;subst e;exact h2 ha⟩
    have h7:=nodup_len mk.length (M ++ [n]) h6 fun x hx=>by
      rcases List.mem_append.1 hx with hx|hx
      · exact h4 x hx
      · simp at hx;subst hx;exact bat_lt h1
    rw [List.length_append] at h7
    simp at h7;omega
  | N + 1,n,M,h1,h2,h3,h4,h5=>by
    have h6 : (M ++ [n]).Nodup:=by
      rw [List.nodup_append]
      exact ⟨h3,by simp,fun a ha b hb=>by simp at hb;subst hb;intro e;subst e;exact h2 ha⟩
    have h7 : ∀ x ∈ M ++ [n],x < mk.length:=fun x hx=>by
      rcases List.mem_append.1 hx with hx|hx
      · exact h4 x hx
      · simp at hx;subst hx;exact bat_lt h1
    have hn:=bat_lt h1
    rw [folW]
    have h:=folL_ok (N:=N) (M0:=M ++ [n]) hW hL h1 (folW_ok hW hL N) (nbs W mk.length n) (M ++ [n]) (fun k hk=>(nbs_iff hW hL hn).1 hk) h6 h7 (by rw [List.length_append];simp;omega)
    have hnin : n ∈ folL mk (folW mk W N) (nbs W mk.length n) (M ++ [n]):=h.pre.subset (by simp)
    refine ⟨(List.prefix_append _ _).trans h.pre,h.nd,hnin,fun x a1 a2=>?_,fun x a1 a2 k a3 a4=>?_⟩
    · by_cases hx : x = n
      · subst hx;exact ⟨h1,Con.refl h1⟩
      · exact h.mrk x a1 (by simp [a2,hx])
    · by_cases hx : x = n
      · subst hx
        exact h.kin k ((nbs_iff hW hL hn).2 ⟨bat_lt a4,a3⟩) a4
      · exact h.clo x a1 (by simp [a2,hx]) k a3 a4
def srtN (l : List Nat) : List Nat:=l.mergeSort fun x y=>decide (x ≤ y)
theorem srtN_mem {l : List Nat} {x : Nat} : x ∈ srtN l ↔ x ∈ l:=List.mem_mergeSort
theorem srtN_rise {l : List Nat} (h : l.Nodup) : (srtN l).Pairwise (· < ·):=by
  have h1:=List.pairwise_mergeSort (le:=fun x y : Nat=>decide (x ≤ y)) (by intro a b c h1 h2;simp only [decide_eq_true_eq] at *;omega) (by intro a b;simp only [Bool.or_eq_true,decide_eq_true_eq];omega) l
  have h2 : (srtN l).Nodup:=(List.mergeSort_perm l _).nodup_iff.2 h
  unfold srtN at *
  exact (h1.and h2).imp fun h=>by
    have:=h.1;have:=h.2
    simp only [decide_eq_true_eq] at *;omega
def pstep (mk : List Bool) (W : Nat) (x : List Nat × List (List Nat)) (n : Nat) : List Nat × List (List Nat) :=
  if n ∉ x.1 ∧ bat mk n = true then (folW mk W mk.length n x.1,x.2 ++ [srtN ((folW mk W mk.length n x.1).drop x.1.length)]) else x
def parts (mk : List Bool) (W : Nat) : List (List Nat):=((List.range mk.length).foldl (pstep mk W) ([],[])).2
structure Nam (mk : List Bool) (W : Nat) (nm : Nat → Int) : Prop where
  non : ∀ k,bat mk k = false → nm k = -1
  con : ∀ k,bat mk k = true → ∃ y : Nat,nm k = y ∧ Con mk W y k ∧ ∀ z,Con mk W z k → y ≤ z
def canon (L : Nat) (nm : Nat → Int) (N : Nat) : List (List Nat):=((List.range N).filter fun i : Nat=>decide (nm i = (i : Int))).map fun i : Nat=>(List.range L).filter fun k=>decide (nm k = (i : Int))
structure PI (mk : List Bool) (W : Nat) (nm : Nat → Int) (N : Nat) (x : List Nat × List (List Nat)) : Prop where
  nd : x.1.Nodup
  met : ∀ k,k ∈ x.1 ↔ ∃ y,y < N ∧ Con mk W y k
  out : x.2 = canon mk.length nm N
theorem pstep_ok {mk : List Bool} {W H N : Nat} {nm : Nat → Int} {x : List Nat × List (List Nat)} (hW : 2 ≤ W) (hL : mk.length = W * H) (hm : Nam mk W nm) (h : PI mk W nm N x) (hN : N < mk.length) : PI mk W nm (N + 1) (pstep mk W x N):=by
  obtain ⟨M,out⟩:=x
  have hnd:=h.nd
  have hmet:=h.met
  have hout:=h.out
  dsimp only at hnd hmet hout
  unfold pstep
  dsimp only
  have hMlt : ∀ k ∈ M,k < mk.length:=fun k hk=>by
    obtain ⟨y,_,h2⟩:=(hmet k).1 hk
    exact bat_lt h2.mk.2
  have hcan : canon mk.length nm (N + 1) = canon mk.length nm N ++ (if nm N = N then [(List.range mk.length).filter fun k=>decide (nm k = N)] else []):=by
    unfold canon
    rw [List.range_succ,List.filter_append,List.map_append]
    congr 1
    by_cases e : nm N = (N : Int)
    · rw [if_pos e];simp [e]
    · rw [if_neg e];simp [e]
  split
  · rename_i hc
    have hf:=folW_ok hW hL mk.length N M hc.2 hc.1 hnd hMlt (by omega)
    generalize folW mk W mk.length N M = R at hf
    obtain ⟨new,rfl⟩:=hf.pre
    have hfirst : ∀ z,Con mk W z N → N ≤ z:=fun z hz=>by
      rcases Nat.lt_or_ge z N with h1|h1
      · exact absurd ((hmet N).2 ⟨z,h1,hz⟩) hc.1
      · exact h1
    have hnmN : nm N = N:=by
      obtain ⟨y,h1,h2,h3⟩:=hm.con N hc.2
      have:=h3 N (Con.refl hc.2)
      have:=hfirst y h2
      omega
    have hnd2:=hf.nd
    rw [List.nodup_append] at hnd2
    have hnew : ∀ k,k ∈ new ↔ Con mk W N k:=fun k=>by
      constructor
      · intro hk
        have h1 : k ∉ M:=fun h2=>hnd2.2.2 k h2 k hk rfl
        exact (hf.mrk k (List.mem_append_right _ hk) h1).2
      · intro hk
        have h1 : ∀ j,Con mk W N j → j ∉ M:=fun j hj h2=>by
          obtain ⟨y,h3,h4⟩:=(hmet j).1 h2
          exact hc.1 ((hmet N).2 ⟨y,h3,h4.trans hj.symm⟩)
        have h2 : k ∈ M ++ new:=by
          induction hk with
          | refl _=>exact hf.own
          | step g1 g2 g3 ih=>exact hf.clo _ (ih) (h1 _ g1) _ g2 g3
        rcases List.mem_append.1 h2 with h3|h3
        · exact absurd h3 (h1 k hk)
        · exact h3
    refine ⟨hf.nd,fun k=>?_,?_⟩
    · rw [List.mem_append,hmet,hnew]
      constructor
      · rintro (⟨y,h1,h2⟩|h1)
        · exact ⟨y,by omega,h2⟩
        · exact ⟨N,by omega,h1⟩
      · rintro ⟨y,h1,h2⟩
        rcases Nat.lt_or_ge y N with h3|h3
        · exact .inl ⟨y,h3,h2⟩
        · have : y = N:=by omega
          subst this;exact .inr h2
    · rw [hcan,if_pos hnmN,hout]
      dsimp only
      rw [List.drop_left]
      congr 1
      congr 1
      refine rise_eq (srtN_rise hnd2.2.1) (List.Pairwise.filter _ List.pairwise_lt_range) fun k=>?_
      rw [srtN_mem,hnew,List.mem_filter,List.mem_range,decide_eq_true_eq]
      constructor
      · intro hk
        refine ⟨bat_lt hk.mk.2,?_⟩
        obtain ⟨y,h1,h2,h3⟩:=hm.con k hk.mk.2
        have:=h3 N hk
        have:=hfirst y (h2.trans hk.symm)
        omega
      · rintro ⟨h1,h2⟩
        have hb : bat mk k = true:=by
          cases hb : bat mk k with
          | true=>rfl
          | false=>have:=hm.non k hb;omega
        obtain ⟨y,h3,h4,_⟩:=hm.con k hb
        have : y = N:=by omega
        subst this;exact h4
  · rename_i hc
    have hno : ∀ k,Con mk W N k → k ∈ M:=fun k hk=>by
      have h1 : N ∈ M:=Decidable.byContradiction fun h2=>hc ⟨h2,hk.mk.1⟩
      obtain ⟨y,h3,h4⟩:=(hmet N).1 h1
      exact (hmet k).2 ⟨y,h3,h4.trans hk⟩
    have hnmN : nm N ≠ N:=fun e=>by
      have hb : bat mk N = true:=by
        cases hb : bat mk N with
        | true=>rfl
        | false=>have:=hm.non N hb;omega
      obtain ⟨y,h1,h2,h3⟩:=hm.con N hb
      obtain ⟨z,h4,h5⟩:=(hmet N).1 (hno N (Con.refl hb))
      have:=h3 z h5
      omega
    refine ⟨hnd,fun k=>?_,?_⟩
    · dsimp only
      rw [hmet]
      constructor
      · rintro ⟨y,h1,h2⟩;exact ⟨y,by omega,h2⟩
      · rintro ⟨y,h1,h2⟩
        rcases Nat.lt_or_ge y N with h3|h3
        · exact ⟨y,h3,h2⟩
        · have : y = N:=by omega
          subst this;exact (hmet k).1 (hno k h2)
    · dsimp only
      rw [hcan,if_neg hnmN,List.append_nil,hout]
theorem parts_eq {mk : List Bool} {W H : Nat} {nm : Nat → Int} (hW : 2 ≤ W) (hL : mk.length = W * H) (hm : Nam mk W nm) : parts mk W = canon mk.length nm mk.length:=by
  have key : ∀ N,N ≤ mk.length → PI mk W nm N ((List.range N).foldl (pstep mk W) ([],[])):=by
    intro N
    induction N with
    | zero=>intro _;exact ⟨List.nodup_nil,fun k=>by simp,rfl⟩
    | succ N ih =>
      intro hN
      rw [List.range_succ,List.foldl_append]
      exact pstep_ok hW hL hm (ih (by omega)) (by omega)
  exact (key _ (Nat.le_refl _)).out
end Riv

namespace Riv
def nput (W a : Nat) (x : TB) (b : Nat) : TB:=if at0 x.1 a ≠ -1 ∧ at0 x.1 b ≠ -1 ∧ Nb W a b ∧ at0 x.1 a < at0 x.1 b then (x.1.set b (at0 x.1 a),true) else x
def ncell (W L : Nat) (x : TB) (a : Nat) : TB:=(List.range L).foldl (nput W a) x
def nround (W L : Nat) (T : List Int) : TB:=(List.range L).foldl (ncell W L) (T,false)
def ngo (W L : Nat) : Nat → List Int → List Int
  | 0,T=>T
  | N + 1,T=>bif (nround W L T).2 then ngo W L N (nround W L T).1 else (nround W L T).1
def n0 (mk : List Bool) : List Int:=mk.zipIdx.map fun x=>bif x.1 then (x.2 : Int) else -1
def names (W : Nat) (mk : List Bool) : List Int:=ngo W mk.length 40000 (n0 mk)
structure NI (mk : List Bool) (W : Nat) (T : List Int) : Prop where
  len : T.length = mk.length
  non : ∀ k,bat mk k = false → at0 T k = -1
  con : ∀ k,bat mk k = true → ∃ y : Nat,at0 T k = y ∧ Con mk W y k ∧ y ≤ k
structure NJ (mk : List Bool) (W : Nat) (R T : List Int) (ch : Bool) (P : Nat → Nat → Prop) : Prop where
  ri : NI mk W T
  no : ch = false → T = R ∧ ∀ a b,a < mk.length → b < mk.length → P a b → at0 R a ≠ -1 → at0 R b ≠ -1 → Nb W a b → at0 R b ≤ at0 R a
  yes : ch = true → wgt T < wgt R
theorem nput_ok {mk : List Bool} {W : Nat} {R : List Int} {x : TB} {P : Nat → Nat → Prop} {a b : Nat} (hW : 2 ≤ W) (hL : mk.length ≤ 160) (h : NJ mk W R x.1 x.2 P) (ha : a < mk.length) (hb : b < mk.length) :
    NJ mk W R (nput W a x b).1 (nput W a x b).2 (fun i j=>P i j ∨ (i = a ∧ j = b)):=by
  obtain ⟨T,ch⟩:=x
  dsimp only at h
  unfold nput
  dsimp only
  have hI:=h.ri
  split
  · rename_i hc
    dsimp only
    have hbl : b < T.length:=by rw [hI.len];exact hb
    have hset:=fun j=>at0_set (v:=at0 T a) hbl j
    have mka : bat mk a = true:=by
      cases e : bat mk a with
      | true=>rfl
      | false=>exact absurd (hI.non a e) hc.1
    have mkb : bat mk b = true:=by
      cases e : bat mk b with
      | true=>rfl
      | false=>exact absurd (hI.non b e) hc.2.1
    obtain ⟨y,h1,h2,h3⟩:=hI.con a mka
    obtain ⟨z,g1,g2,g3⟩:=hI.con b mkb
    refine ⟨⟨by rw [List.length_set];exact hI.len,fun k hk=>?_,fun k hk=>?_⟩,fun e=>by simp at e,fun _=>?_⟩
    · rw [hset,if_neg (fun e=>by subst e;rw [mkb] at hk;cases hk)];exact hI.non k hk
    · rw [hset]
      split
      · rename_i e;subst e
        exact ⟨y,h1,h2.step hc.2.2.1 mkb,by omega⟩
      · exact hI.con k hk
    · have h5:=wgt_set (v:=at0 T a) hbl (by omega) (by omega) (.inr hc.2.2.2)
      cases ch with
      | false=>rw [← (h.no rfl).1];exact h5
      | true=>exact Nat.lt_trans h5 (h.yes rfl)
  · rename_i hc
    dsimp only
    refine ⟨hI,fun e=>?_,h.yes⟩
    obtain ⟨e1,e2⟩:=h.no e
    refine ⟨e1,fun i j hi hj hp g1 g2 g3=>?_⟩
    rcases hp with hp|⟨rfl,rfl⟩
    · exact e2 i j hi hj hp g1 g2 g3
    · rw [e1] at hc
      rcases Int.lt_or_le (at0 R i) (at0 R j) with h5|h5
      · exact absurd ⟨g1,g2,g3,h5⟩ hc
      · exact h5
theorem NJ.mono {mk : List Bool} {W : Nat} {R T : List Int} {ch : Bool} {P Q : Nat → Nat → Prop} (h : NJ mk W R T ch P) (hq : ∀ a b,a < mk.length → b < mk.length → Q a b → P a b) : NJ mk W R T ch Q :=
  ⟨h.ri,fun e=>⟨(h.no e).1,fun a b h1 h2 h3=>(h.no e).2 a b h1 h2 (hq a b h1 h2 h3)⟩,h.yes⟩
theorem ncell_ok {mk : List Bool} {W : Nat} {R : List Int} {P : Nat → Nat → Prop} {a : Nat} (hW : 2 ≤ W) (hL : mk.length ≤ 160) (ha : a < mk.length) {x : TB} (h : NJ mk W R x.1 x.2 P) : ∀ N,N ≤ mk.length →
    NJ mk W R ((List.range N).foldl (nput W a) x).1 ((List.range N).foldl (nput W a) x).2 (fun i j=>P i j ∨ (i = a ∧ j < N))
  | 0,_=>h.mono fun a b _ _ h4=>by rcases h4 with h4|h4;exact h4;omega
  | N + 1,hN=>by
    have h1:=ncell_ok hW hL ha h N (by omega)
    rw [List.range_succ,List.foldl_append]
    exact (nput_ok hW hL h1 ha (show N < mk.length by omega)).mono fun i j _ _ h4=>by
      rcases h4 with h4|h4
      · exact .inl (.inl h4)
      · rcases Nat.lt_or_ge j N with h5|h5
        · exact .inl (.inr ⟨h4.1,h5⟩)
        · exact .inr ⟨h4.1,by omega⟩
theorem nround_ok {mk : List Bool} {W : Nat} {R : List Int} (hW : 2 ≤ W) (hL : mk.length ≤ 160) (h : NI mk W R) : ∀ N,N ≤ mk.length →
    NJ mk W R ((List.range N).foldl (ncell W mk.length) (R,false)).1 ((List.range N).foldl (ncell W mk.length) (R,false)).2 (fun i _=>i < N)
  | 0,_=>⟨h,fun _=>⟨rfl,fun a b _ _ h4=>by omega⟩,fun e=>by simp at e⟩
  | N + 1,hN=>by
    have h1:=nround_ok hW hL h N (by omega)
    rw [List.range_succ,List.foldl_append]
    exact (ncell_ok hW hL (show N < mk.length by omega) h1 mk.length (Nat.le_refl _)).mono fun i j _ hj h4=>by
      rcases Nat.lt_or_ge i N with h5|h5
      · exact .inl h5
      · exact .inr ⟨by omega,hj⟩
theorem ngo_ok {mk : List Bool} {W : Nat} (hW : 2 ≤ W) (hL : mk.length ≤ 160) : ∀ (N : Nat) (R : List Int),NI mk W R → wgt R < N → Nam mk W (at0 (ngo W mk.length N R)) ∧ (ngo W mk.length N R).length = mk.length
  | 0,_,_,hN=>absurd hN (Nat.not_lt_zero _)
  | N + 1,R,h,hN=>by
    have h1:=nround_ok hW hL h mk.length (Nat.le_refl _)
    rw [ngo]
    unfold nround
    generalize hx : (List.range mk.length).foldl (ncell W mk.length) (R,false) = x at h1
    obtain ⟨T,ch⟩:=x
    dsimp only at h1 ⊢
    cases ch with
    | true =>
      have:=h1.yes rfl
      exact ngo_ok hW hL N T h1.ri (by omega)
    | false =>
      obtain ⟨e,h2⟩:=h1.no rfl
      subst e
      show Nam mk W (at0 T) ∧ T.length = mk.length
      have hne : ∀ k,bat mk k = true → at0 T k ≠ -1:=fun k hk=>by
        obtain ⟨y,h3,_⟩:=h.con k hk;omega
      have hsame : ∀ z k,Con mk W z k → at0 T z = at0 T k:=by
        intro z k hz
        induction hz with
        | refl _=>rfl
        | step g1 g2 g3 ih =>
          rename_i b c
          have hb:=g1.mk.2
          have a1:=h2 b c (bat_lt hb) (bat_lt g3) (bat_lt hb) (hne b hb) (hne c g3) g2
          have a2:=h2 c b (bat_lt g3) (bat_lt hb) (bat_lt g3) (hne c g3) (hne b hb) g2.symm
          omega
      refine ⟨⟨h.non,fun k hk=>?_⟩,h.len⟩
      obtain ⟨y,h3,h4,h5⟩:=h.con k hk
      refine ⟨y,h3,h4,fun z hz=>?_⟩
      have h6:=hsame z k hz
      obtain ⟨u,h7,_,h8⟩:=h.con z hz.mk.1
      omega
theorem at0_n0 {mk : List Bool} (k : Nat) : at0 (n0 mk) k = bif bat mk k then (k : Int) else -1:=by
  unfold at0 n0 bat
  rw [List.getD_eq_getElem?_getD,List.getD_eq_getElem?_getD,List.getElem?_map,List.getElem?_zipIdx]
  cases mk[k]? with
  | none=>rfl
  | some b=>simp
theorem ni0 {mk : List Bool} {W : Nat} : NI mk W (n0 mk):=by
  refine ⟨by unfold n0;simp,fun k hk=>by rw [at0_n0,hk];rfl,fun k hk=>⟨k,by rw [at0_n0,hk];rfl,Con.refl hk,Nat.le_refl _⟩⟩
theorem names_ok {mk : List Bool} {W : Nat} (hW : 2 ≤ W) (hL : mk.length ≤ 160) : Nam mk W (at0 (names W mk)) ∧ (names W mk).length = mk.length:=by
  refine ngo_ok hW hL _ _ ni0 ?_
  have:=wgt_le (T:=n0 mk) fun n=>by
    rw [at0_n0]
    cases hb : bat mk n with
    | true=>have:=bat_lt hb;simp only [cond_true];omega
    | false=>simp
  have h2:=(ni0 (mk:=mk) (W:=W)).len
  rw [h2] at this
  omega
end Riv

namespace Riv
def ownr (a b : Int) : Int:=if a = -1 ∧ b = -1 then 0 else if a = b then 3 else if b = -1 ∨ (a ≠ -1 ∧ a < b) then 1 else 2
theorem ownr_bd (a b : Int) : 0 ≤ ownr a b ∧ ownr a b ≤ 3:=by
  unfold ownr
  split
  · decide
  · split
    · decide
    · split <;> decide
theorem ownr_least (a b : Int) (h : a ≠ b) : ownr a b = if leastL [a,b] = a then 1 else 2:=by
  unfold ownr leastL
  simp only [List.foldl_cons,List.foldl_nil,ls1]
  by_cases ha : a = -1
  · subst ha
    have hb : ¬ b = -1:=fun e=>h e.symm
    simp [hb,h]
  · by_cases hb : b = -1
    · subst hb;simp [ha]
    · rcases Int.lt_or_le b a with h1|h1
      · have h2 : ¬ a < b:=by omega
        have h3 : ¬ b = a:=fun e=>h e.symm
        simp [ha,hb,h1,h,h2,h3]
      · have h2 : ¬ b < a:=by omega
        have h3 : a < b:=by omega
        simp [ha,hb,h,h2,h3]
def lowT (T : List Int) (l : List Nat) : Int:=l.foldl (fun o n=>ls1 o (at0 T n)) (-1)
theorem ls1_least (o n : Int) : leastL [o,n] = ls1 o n:=by
  unfold leastL
  simp only [List.foldl_cons,List.foldl_nil]
  have : ls1 (-1) o = o:=by unfold ls1;split <;> simp_all
  rw [this]
theorem ls1_ref (a b : Int) : ls1 a b = if a = -1 ∨ (b ≠ -1 ∧ b < a) then b else a:=by
  unfold ls1
  by_cases ha : a = -1
  · subst ha
    simp
    intro h;rw [h]
  · simp [ha]
structure Sh where
  f : Int
  o : Int
  nr : Bool
  deriving DecidableEq
def marks (c : List Int) : List Bool:=c.map fun x=>decide (x = 3)
def isl (c : List Int) (W : Nat) : List (List Nat):=parts (marks c) W
def own1 (c : List Int) (W : Nat) (l : List Nat) : Int:=ownr (lowT (bfs c W 1) l) (lowT (bfs c W 2) l)
def gv1 (x : Int × Int) (o : Int) : Int × (Int × Int):=if o = 3 then (if x.2 < x.1 then (2,x.1,x.2 + 1) else (1,x.1 + 1,x.2)) else (o,x)
def gvL : Int × Int → List Int → List Int
  | _,[]=>[]
  | x,o :: l=>(gv1 x o).1 :: gvL (gv1 x o).2 l
def many (k : Int) (l : List Int) : Int:=(l.countP fun o=>decide (o = k) : Nat)
def own0 (c : List Int) (W : Nat) : List Int:=(isl c W).map (own1 c W)
def ownI (c : List Int) (W : Nat) : List Int:=gvL (many 1 (own0 c W),many 2 (own0 c W)) (own0 c W)
def rg1 (l : List Int) (i : Nat) : List Int:=if at0 l i = 3 then l.set i (if many 2 l < many 1 l then 2 else 1) else l
def rgL (l : List Int) : List Int:=(List.range l.length).foldl rg1 l
theorem many_app (k : Int) (a b : List Int) : many k (a ++ b) = many k a + many k b:=by unfold many;rw [List.countP_append];omega
theorem many_cons (k x : Int) (b : List Int) : many k (x :: b) = (if x = k then 1 else 0) + many k b:=by
  unfold many;rw [List.countP_cons]
  by_cases h : x = k <;> simp [h] <;> omega
theorem gv1_snd (a b o : Int) : (gv1 (a,b) o).2 = (a - (if o = 1 then 1 else 0) + (if (gv1 (a,b) o).1 = 1 then 1 else 0),b - (if o = 2 then 1 else 0) + (if (gv1 (a,b) o).1 = 2 then 1 else 0)):=by
  unfold gv1
  by_cases h3 : o = 3
  · subst h3
    rw [if_pos rfl]
    split <;> simp
  · rw [if_neg h3]
    refine Prod.ext ?_ ?_
    · dsimp only;split <;> omega
    · dsimp only;split <;> omega
theorem rg_go : ∀ (rest done : List Int),(List.range' done.length rest.length).foldl rg1 (done ++ rest) = done ++ gvL (many 1 (done ++ rest),many 2 (done ++ rest)) rest
  | [],done=>by simp [gvL]
  | o :: rest,done=>by
    rw [List.length_cons,List.range'_succ,List.foldl_cons,gvL]
    have hat : at0 (done ++ o :: rest) done.length = o:=by
      unfold at0
      rw [List.getD_eq_getElem?_getD,List.getElem?_append_right (Nat.le_refl _),Nat.sub_self];rfl
    have hset : ∀ v : Int,(done ++ o :: rest).set done.length v = (done ++ [v]) ++ rest:=fun v=>by
      rw [List.set_append_right _ _ (Nat.le_refl _),Nat.sub_self,List.set_cons_zero,List.append_assoc];rfl
    have ih:=fun v=>rg_go rest (done ++ [v])
    simp only [List.length_append,List.length_singleton] at ih
    have hm : ∀ (k v : Int),many k ((done ++ [v]) ++ rest) = many k (done ++ o :: rest) - (if o = k then 1 else 0) + (if v = k then 1 else 0):=fun k v=>by
      rw [many_app,many_app,many_app,many_cons,many_cons]
      have : many k [] = 0:=rfl
      rw [this]
      omega
    have hr : rg1 (done ++ o :: rest) done.length = (done ++ [(gv1 (many 1 (done ++ o :: rest),many 2 (done ++ o :: rest)) o).1]) ++ rest:=by
      unfold rg1 gv1
      rw [hat]
      split
      · rename_i h3
        rw [hset]
        split <;> rfl
      · rw [List.append_assoc];rfl
    rw [hr,ih,hm,hm,List.append_assoc,List.singleton_append,← gv1_snd]
theorem rg_eq (l : List Int) : rgL l = gvL (many 1 l,many 2 l) l:=by
  have:=rg_go l []
  simp only [List.length_nil,List.nil_append] at this
  unfold rgL
  rw [List.range_eq_range']
  exact this
theorem gvL_len : ∀ (x : Int × Int) (l : List Int),(gvL x l).length = l.length
  | _,[]=>rfl
  | x,o :: l=>by rw [gvL,List.length_cons,List.length_cons,gvL_len]
def shr (c : List Int) (W : Nat) : List Sh:=((isl c W).zip ((own0 c W).zip (ownI c W))).map fun x=>⟨((x.1.headD 0 : Nat) : Int),x.2.2,decide (x.2.1 = 1 ∨ x.2.1 = 2)⟩
def setAll (out : List Int) (l : List Nat) (o : Int) : List Int:=l.foldl (fun out n=>out.set n o) out
def ownW (c : List Int) (W : Nat) : List Int:=c.zipIdx.map fun x=>if x.1 = 0 then ownr (at0 (bfs c W 1) x.2) (at0 (bfs c W 2) x.2) else x.1
def owns (c : List Int) (W : Nat) : List Int:=((isl c W).zip (ownI c W)).foldl (fun out x=>setAll out x.1 x.2) (ownW c W)
theorem setAll_len : ∀ (l : List Nat) (out : List Int) (o : Int),(setAll out l o).length = out.length
  | [],_,_=>rfl
  | n :: l,out,o=>by have:=setAll_len l (out.set n o) o;unfold setAll at *;rw [List.foldl_cons,this,List.length_set]
theorem setAll_at : ∀ (l : List Nat) (out : List Int) (o : Int) (k : Nat),(∀ n ∈ l,n < out.length) → at0 (setAll out l o) k = if k ∈ l then o else at0 out k
  | [],_,_,_,_=>by simp [setAll]
  | n :: l,out,o,k,h=>by
    have h1:=setAll_at l (out.set n o) o k (fun j hj=>by rw [List.length_set];exact h j (List.mem_cons_of_mem _ hj))
    unfold setAll at h1 ⊢
    rw [List.foldl_cons,h1,at0_set (h n List.mem_cons_self)]
    by_cases hk : k ∈ l
    · simp [hk]
    · by_cases hkn : k = n <;> simp [hk,hkn]
end Riv

namespace Riv
def rnm (c : List Int) (W : Nat) : List Int:=names W (marks c)
def firsts (c : List Int) (W : Nat) : List Nat:=(List.range c.length).filter fun i : Nat=>decide (at0 (rnm c W) i = (i : Int))
def rlow (T nm : List Int) (L i : Nat) : Int:=(List.range L).foldl (fun o k=>if at0 nm k = (i : Int) then (if o = -1 ∨ (at0 T k ≠ -1 ∧ at0 T k < o) then at0 T k else o) else o) (-1)
def rown0 (c : List Int) (W : Nat) : List Int:=(firsts c W).map fun i=>ownr (rlow (bfs c W 1) (rnm c W) c.length i) (rlow (bfs c W 2) (rnm c W) c.length i)
def rshr (c : List Int) (W : Nat) : List Sh:=((firsts c W).zip ((rown0 c W).zip (rgL (rown0 c W)))).map fun x=>⟨(x.1 : Int),x.2.2,decide (x.2.1 = 1 ∨ x.2.1 = 2)⟩
def rfnd (l : List Sh) (v : Int) : Int:=l.foldl (fun o x=>if x.f = v then x.o else o) 0
def rown (c : List Int) (W : Nat) (i : Nat) : Int:=if at0 c i = 0 then ownr (at0 (bfs c W 1) i) (at0 (bfs c W 2) i) else if at0 c i = 3 then rfnd (rshr c W) (at0 (rnm c W) i) else at0 c i
def rowns (c : List Int) (W : Nat) : List Int:=(List.range c.length).map (rown c W)
theorem marks_len (c : List Int) : (marks c).length = c.length:=by simp [marks]
theorem bat_marks (c : List Int) (k : Nat) : bat (marks c) k = decide (at0 c k = 3):=by
  unfold bat marks at0
  simp only [List.getD_eq_getElem?_getD,List.getElem?_map]
  cases c[k]? with
  | none=>rfl
  | some x=>rfl
theorem rnm_ok {c : List Int} {W : Nat} (hW : 2 ≤ W) (hL : c.length ≤ 160) : Nam (marks c) W (at0 (rnm c W)) ∧ (rnm c W).length = c.length:=by
  have:=names_ok (mk:=marks c) hW (by rw [marks_len];exact hL)
  rw [marks_len] at this
  exact this
theorem isl_eq {c : List Int} {W H : Nat} (hW : 2 ≤ W) (hL : c.length = W * H) (h1 : c.length ≤ 160) : isl c W = (firsts c W).map fun i : Nat=>(List.range c.length).filter fun k=>decide (at0 (rnm c W) k = (i : Int)):=by
  unfold isl
  rw [parts_eq hW (by rw [marks_len];exact hL) (rnm_ok hW h1).1,marks_len]
  rfl
theorem fold_filter {α β : Type} {f : β → α → β} {p : α → Prop} [DecidablePred p] : ∀ (l : List α) (b : β),(l.filter fun k=>decide (p k)).foldl f b = l.foldl (fun o k=>if p k then f o k else o) b
  | [],_=>rfl
  | x :: l,b=>by
    rw [List.filter_cons,List.foldl_cons]
    by_cases h : p x
    · rw [if_pos h,if_pos (by simp [h]),List.foldl_cons,fold_filter l]
    · rw [if_neg h,if_neg (by simp [h]),fold_filter l]
theorem rlow_eq (T nm : List Int) (L i : Nat) : rlow T nm L i = lowT T ((List.range L).filter fun k=>decide (at0 nm k = (i : Int))):=by
  unfold rlow lowT
  rw [fold_filter]
  congr 1
  funext o k
  rw [ls1_ref]
theorem rown0_eq {c : List Int} {W H : Nat} (hW : 2 ≤ W) (hL : c.length = W * H) (h1 : c.length ≤ 160) : rown0 c W = own0 c W:=by
  unfold rown0 own0
  rw [isl_eq hW hL h1,List.map_map]
  refine List.map_congr_left fun i _=>?_
  rw [rlow_eq,rlow_eq]
  rfl
theorem head_least {l : List Nat} {i : Nat} (hp : l.Pairwise (· < ·)) (hi : i ∈ l) (h : ∀ x ∈ l,i ≤ x) : l.headD 0 = i:=by
  cases l with
  | nil=>cases hi
  | cons y l =>
    have h1:=h y List.mem_cons_self
    rcases List.mem_cons.1 hi with h2|h2
    · exact h2.symm
    · have:=(List.pairwise_cons.1 hp).1 i h2
      omega
theorem nm_mark {c : List Int} {W : Nat} (hW : 2 ≤ W) (h1 : c.length ≤ 160) {k : Nat} (h : at0 (rnm c W) k ≠ -1) : at0 c k = 3:=by
  have:=(rnm_ok hW h1).1.non k
  rw [bat_marks] at this
  exact Decidable.byContradiction fun e=>h (this (by simp [e]))
theorem first_le {c : List Int} {W : Nat} (hW : 2 ≤ W) (h1 : c.length ≤ 160) {k i : Nat} (h : at0 (rnm c W) k = (i : Int)) : i ≤ k:=by
  have hb : bat (marks c) k = true:=by rw [bat_marks,nm_mark hW h1 (by omega)];rfl
  obtain ⟨y,g1,g2,g3⟩:=(rnm_ok hW h1).1.con k hb
  have:=g3 k (Con.refl hb)
  omega
theorem first_mem {c : List Int} {W : Nat} (hW : 2 ≤ W) (h1 : c.length ≤ 160) {k : Nat} (h : at0 c k = 3) : ∃ y : Nat,at0 (rnm c W) k = (y : Int) ∧ y ∈ firsts c W:=by
  have hb : bat (marks c) k = true:=by rw [bat_marks,h];rfl
  obtain ⟨y,g1,g2,g3⟩:=(rnm_ok hW h1).1.con k hb
  refine ⟨y,g1,?_⟩
  have hy:=g2.mk.1
  obtain ⟨z,e1,e2,e3⟩:=(rnm_ok hW h1).1.con y hy
  have a:=g3 z (e2.trans g2)
  have b:=e3 y (Con.refl hy)
  have hl:=bat_lt hy
  rw [marks_len] at hl
  unfold firsts
  rw [List.mem_filter]
  refine ⟨List.mem_range.2 hl,?_⟩
  simp only [decide_eq_true_eq]
  omega
theorem rshr_eq {c : List Int} {W H : Nat} (hW : 2 ≤ W) (hL : c.length = W * H) (h1 : c.length ≤ 160) : rshr c W = shr c W:=by
  unfold rshr shr
  rw [rown0_eq hW hL h1,rg_eq,isl_eq hW hL h1,List.zip_map_left,List.map_map]
  refine List.map_congr_left fun x hx=>?_
  have hm:=(List.of_mem_zip hx).1
  unfold firsts at hm
  rw [List.mem_filter] at hm
  have hh : ((List.range c.length).filter fun k=>decide (at0 (rnm c W) k = (x.1 : Int))).headD 0 = x.1:=by
    refine head_least (List.Pairwise.filter _ List.pairwise_lt_range) (List.mem_filter.2 hm) fun k hk=>?_
    have:=(List.mem_filter.1 hk).2
    exact first_le hW h1 (of_decide_eq_true this)
  simp only [Function.comp,Prod.map]
  rw [hh]
  rfl
theorem fold_set : ∀ (l : List (List Nat × Int)) (out : List Int) (k : Nat),(∀ x ∈ l,∀ n ∈ x.1,n < out.length) → at0 (l.foldl (fun out x=>setAll out x.1 x.2) out) k = l.foldl (fun o x=>if k ∈ x.1 then x.2 else o) (at0 out k)
  | [],_,_,_=>rfl
  | x :: l,out,k,h=>by
    rw [List.foldl_cons,List.foldl_cons,fold_set l _ k (fun y hy n hn=>by rw [setAll_len];exact h y (List.mem_cons_of_mem _ hy) n hn),setAll_at _ _ _ _ (h x List.mem_cons_self)]
theorem fold_set_len : ∀ (l : List (List Nat × Int)) (out : List Int),(l.foldl (fun out x=>setAll out x.1 x.2) out).length = out.length
  | [],_=>rfl
  | x :: l,out=>by rw [List.foldl_cons,fold_set_len,setAll_len]
theorem fold_any {α : Type} {p : α → Prop} [DecidablePred p] {f : α → Int} : ∀ (l : List α) (s t : Int),(∃ x ∈ l,p x) → l.foldl (fun o x=>if p x then f x else o) s = l.foldl (fun o x=>if p x then f x else o) t
  | [],_,_,⟨x,h,_⟩=>by cases h
  | y :: l,s,t,⟨x,h,hx⟩=>by
    rw [List.foldl_cons,List.foldl_cons]
    by_cases hy : p y
    · rw [if_pos hy,if_pos hy]
    · rw [if_neg hy,if_neg hy]
      rcases List.mem_cons.1 h with e|e
      · exact absurd (e ▸ hx) hy
      · exact fold_any l s t ⟨x,e,hx⟩
theorem fold_none {α : Type} {p : α → Prop} [DecidablePred p] {f : α → Int} : ∀ (l : List α) (s : Int),(∀ x ∈ l,¬ p x) → l.foldl (fun o x=>if p x then f x else o) s = s
  | [],_,_=>rfl
  | y :: l,s,h=>by
    rw [List.foldl_cons,if_neg (h y List.mem_cons_self)]
    exact fold_none l s fun x hx=>h x (List.mem_cons_of_mem _ hx)
theorem zip_ex {α β : Type} : ∀ {a : List α} {b : List β} {x : α},a.length = b.length → x ∈ a → ∃ y,(x,y) ∈ a.zip b
  | _ :: _,[],_,h,_=>by cases h
  | u :: a,v :: b,x,h,hx=>by
    rcases List.mem_cons.1 hx with e|e
    · subst e;exact ⟨v,List.mem_cons_self⟩
    · obtain ⟨y,hy⟩:=zip_ex (b:=b) (by simpa using h) e
      exact ⟨y,List.mem_cons_of_mem _ hy⟩
theorem ownW_len (c : List Int) (W : Nat) : (ownW c W).length = c.length:=by simp [ownW]
theorem ownI_len {c : List Int} {W H : Nat} (hW : 2 ≤ W) (hL : c.length = W * H) (h1 : c.length ≤ 160) : (ownI c W).length = (firsts c W).length ∧ (own0 c W).length = (firsts c W).length:=by
  have : (own0 c W).length = (firsts c W).length:=by unfold own0;rw [List.length_map,isl_eq hW hL h1,List.length_map]
  exact ⟨by unfold ownI;rw [gvL_len,this],this⟩
theorem owns_len (c : List Int) (W : Nat) : (owns c W).length = c.length:=by unfold owns;rw [fold_set_len,ownW_len]
theorem at0_ownW {c : List Int} {W k : Nat} (h : k < c.length) : at0 (ownW c W) k = if at0 c k = 0 then ownr (at0 (bfs c W 1) k) (at0 (bfs c W 2) k) else at0 c k:=by
  have e : at0 c k = c[k]:=by unfold at0;rw [List.getD_eq_getElem?_getD,List.getElem?_eq_getElem h];rfl
  rw [e]
  unfold ownW
  show (List.map _ c.zipIdx).getD k (-1) = _
  rw [List.getD_eq_getElem?_getD,List.getElem?_map,List.getElem?_zipIdx,List.getElem?_eq_getElem h]
  simp
theorem rfnd_eq (l : List (Nat × (Int × Int))) (v : Int) (f : Int × Int → Bool) : rfnd (l.map fun x=>⟨(x.1 : Int),x.2.2,f x.2⟩) v = l.foldl (fun o x=>if (x.1 : Int) = v then x.2.2 else o) 0:=by
  unfold rfnd
  rw [List.foldl_map]
theorem zip_snd {α β γ : Type} : ∀ {a : List α} {b : List β} {c : List γ} (g : Int → α × γ → Int) (s : Int),a.length = b.length → (a.zip (b.zip c)).foldl (fun o x=>g o (x.1,x.2.2)) s = (a.zip c).foldl g s
  | [],_,_,_,_,_=>rfl
  | _ :: _,[],_,_,_,h=>by cases h
  | _ :: _,_ :: _,[],_,_,_=>rfl
  | x :: a,y :: b,z :: c,g,s,h=>by
    simp only [List.zip_cons_cons,List.foldl_cons]
    exact zip_snd (a:=a) (b:=b) (c:=c) g _ (by simpa using h)
theorem owns_eq {c : List Int} {W H : Nat} (hW : 2 ≤ W) (hL : c.length = W * H) (h1 : c.length ≤ 160) : rowns c W = owns c W:=by
  have hlen : (rowns c W).length = c.length:=by simp [rowns]
  refine ext0 (by rw [hlen,owns_len]) fun k hk=>?_
  rw [hlen] at hk
  have hr : at0 (rowns c W) k = rown c W k:=by
    unfold at0 rowns
    rw [List.getD_eq_getElem?_getD,List.getElem?_map,List.getElem?_range hk]
    rfl
  have hin : ∀ i : Nat,k ∈ ((List.range c.length).filter fun k=>decide (at0 (rnm c W) k = (i : Int))) ↔ (i : Int) = at0 (rnm c W) k:=fun i=>by
    rw [List.mem_filter,List.mem_range]
    simp only [decide_eq_true_eq]
    exact ⟨fun h=>h.2.symm,fun h=>⟨hk,h.symm⟩⟩
  have ho : at0 (owns c W) k = ((firsts c W).zip (ownI c W)).foldl (fun o x=>if (x.1 : Int) = at0 (rnm c W) k then x.2 else o) (at0 (ownW c W) k):=by
    unfold owns
    rw [fold_set]
    · rw [isl_eq hW hL h1,List.zip_map_left,List.foldl_map]
      congr 1
      funext o x
      simp only [Prod.map]
      by_cases h : (x.1 : Int) = at0 (rnm c W) k
      · rw [if_pos h,if_pos ((hin x.1).2 h)];rfl
      · rw [if_neg h,if_neg (fun e=>h ((hin x.1).1 e))]
    · intro x hx n hn
      have h2:=(List.of_mem_zip hx).1
      rw [isl_eq hW hL h1,List.mem_map] at h2
      obtain ⟨i,_,e⟩:=h2
      rw [← e,List.mem_filter,List.mem_range] at hn
      rw [ownW_len]
      exact hn.1
  rw [hr,ho,at0_ownW hk]
  unfold rown
  by_cases h0 : at0 c k = 0
  · rw [if_pos h0,if_pos h0]
    rw [fold_none]
    intro x _ e
    have:=nm_mark hW h1 (k:=k) (by omega)
    omega
  · rw [if_neg h0,if_neg h0]
    by_cases h3 : at0 c k = 3
    · rw [if_pos h3]
      unfold rshr
      have hz:=zip_snd (a:=firsts c W) (b:=own0 c W) (c:=ownI c W) (fun o x=>if (x.1 : Int) = at0 (rnm c W) k then x.2 else o) 0 (ownI_len hW hL h1).2.symm
      rw [rfnd_eq (f:=fun x=>decide (x.1 = 1 ∨ x.1 = 2)),rown0_eq hW hL h1,rg_eq]
      refine Eq.trans hz ?_
      obtain ⟨y,g1,g2⟩:=first_mem hW h1 h3
      obtain ⟨o,ho⟩:=zip_ex (b:=ownI c W) (ownI_len hW hL h1).1.symm g2
      exact fold_any _ _ _ ⟨_,ho,g1.symm⟩
    · rw [if_neg h3,fold_none]
      intro x _ e
      exact h3 (nm_mark hW h1 (k:=k) (by omega))
end Riv

namespace Riv
def diffs (a b : List Int) : List Bool:=(List.range a.length).map fun n=>decide (at0 a n ≠ at0 b n)
def chg (a b : List Int) (W : Nat) : List (List Nat):=parts (diffs a b) W
def rchg (a b : List Int) (W : Nat) : List (List Nat):=canon a.length (at0 (names W (diffs a b))) a.length
theorem diffs_len (a b : List Int) : (diffs a b).length = a.length:=by simp [diffs]
theorem bat_diffs {a b : List Int} {n : Nat} : bat (diffs a b) n = true ↔ n < a.length ∧ at0 a n ≠ at0 b n:=by
  unfold bat diffs
  rw [List.getD_eq_getElem?_getD,List.getElem?_map]
  by_cases h : n < a.length
  · rw [List.getElem?_range h];simp [h]
  · rw [List.getElem?_eq_none (by simp;omega)];simp [h]
theorem chg_eq {a b : List Int} {W H : Nat} (hW : 2 ≤ W) (hL : a.length = W * H) (h1 : a.length ≤ 160) : chg a b W = rchg a b W:=by
  unfold chg rchg
  rw [parts_eq hW (by rw [diffs_len];exact hL) (names_ok (mk:=diffs a b) hW (by rw [diffs_len];exact h1)).1,diffs_len]
theorem chg_mem {a b : List Int} {W H : Nat} (hW : 2 ≤ W) (hL : a.length = W * H) (h1 : a.length ≤ 160) {cs : List Nat} (h : cs ∈ chg a b W) : cs ≠ [] ∧ cs.Pairwise (· < ·) ∧ cs.length ≤ a.length ∧ ∀ n ∈ cs,n < a.length ∧ at0 a n ≠ at0 b n:=by
  rw [chg_eq hW hL h1] at h
  unfold rchg canon at h
  obtain ⟨i,hi,rfl⟩:=List.mem_map.1 h
  obtain ⟨g1,g2⟩:=List.mem_filter.1 hi
  have hn:=(names_ok (mk:=diffs a b) hW (by rw [diffs_len];exact h1)).1
  refine ⟨fun e=>?_,List.Pairwise.filter _ List.pairwise_lt_range,?_,fun n hn2=>?_⟩
  · have : i ∈ ([] : List Nat):=by rw [← e];exact List.mem_filter.2 ⟨g1,g2⟩
    cases this
  · have:=List.length_filter_le (fun k=>decide (at0 (names W (diffs a b)) k = (i : Int))) (List.range a.length)
    rw [List.length_range] at this
    exact this
  · obtain ⟨k1,k2⟩:=List.mem_filter.1 hn2
    have k3:=of_decide_eq_true k2
    have hb : bat (diffs a b) n = true:=by
      cases hb : bat (diffs a b) n with
      | true=>rfl
      | false=>have:=hn.non n hb;omega
    exact bat_diffs.1 hb
def lset (b out : List Int) (cs : List Nat) : List Int:=cs.foldl (fun out n=>out.set n (at0 b n)) out
def lstep (slow : Int) (b out : List Int) (cs : List Nat) : List Int:=if (cs.length : Int) ≤ slow then lset b out cs else out
def lyear (W : Nat) (slow : Int) (a b now : List Int) : List Int:=(chg a b W).foldl (lstep slow b) now
def lawAt (W : Nat) (l : List (List Int)) (slow : Int) : Nat → List Int
  | 0=>l.getD 0 []
  | y + 1=>lyear W slow (l.getD y []) (l.getD (y + 1) []) (lawAt W l slow y)
theorem lset_len : ∀ (b out : List Int) (cs : List Nat),(lset b out cs).length = out.length
  | _,_,[]=>rfl
  | b,out,n :: cs=>by have:=lset_len b (out.set n (at0 b n)) cs;unfold lset at *;rw [List.foldl_cons,this,List.length_set]
theorem lset_at : ∀ (b out : List Int) (cs : List Nat) (k : Nat),(∀ n ∈ cs,n < out.length) → at0 (lset b out cs) k = if k ∈ cs then at0 b k else at0 out k
  | _,_,[],_,_=>by simp [lset]
  | b,out,n :: cs,k,h=>by
    have h1:=lset_at b (out.set n (at0 b n)) cs k (fun j hj=>by rw [List.length_set];exact h j (List.mem_cons_of_mem _ hj))
    unfold lset at h1 ⊢
    rw [List.foldl_cons,h1,at0_set (h n List.mem_cons_self)]
    by_cases hk : k ∈ cs
    · simp [hk]
    · by_cases hkn : k = n
      · subst hkn;simp
      · simp [hk,hkn]
theorem lstep_len (slow : Int) (b out : List Int) (cs : List Nat) : (lstep slow b out cs).length = out.length:=by
  unfold lstep;split
  · exact lset_len _ _ _
  · rfl
theorem lyear_go_len (slow : Int) (b : List Int) : ∀ (L : List (List Nat)) (now : List Int),(L.foldl (lstep slow b) now).length = now.length
  | [],_=>rfl
  | c :: L,now=>by rw [List.foldl_cons,lyear_go_len slow b L,lstep_len]
theorem lyear_len (W : Nat) (slow : Int) (a b now : List Int) : (lyear W slow a b now).length = now.length:=lyear_go_len _ _ _ _
theorem lyear_go (slow : Int) (b : List Int) (k : Nat) : ∀ (L : List (List Nat)) (now : List Int),(∀ c ∈ L,∀ n ∈ c,n < now.length) → at0 (L.foldl (lstep slow b) now) k = if ∃ c ∈ L,k ∈ c ∧ (c.length : Int) ≤ slow then at0 b k else at0 now k
  | [],_,_=>by simp
  | c :: L,now,h=>by
    rw [List.foldl_cons,lyear_go slow b k L _ (fun d hd n hn=>by rw [lstep_len];exact h d (List.mem_cons_of_mem _ hd) n hn)]
    by_cases h1 : ∃ d ∈ L,k ∈ d ∧ (d.length : Int) ≤ slow
    · rw [if_pos h1,if_pos]
      obtain ⟨d,h2,h3⟩:=h1
      exact ⟨d,List.mem_cons_of_mem _ h2,h3⟩
    · rw [if_neg h1]
      unfold lstep
      by_cases h2 : (c.length : Int) ≤ slow
      · rw [if_pos h2,lset_at _ _ _ _ (h c List.mem_cons_self)]
        by_cases h3 : k ∈ c
        · rw [if_pos h3,if_pos ⟨c,List.mem_cons_self,h3,h2⟩]
        · rw [if_neg h3,if_neg]
          rintro ⟨d,h4,h5,h6⟩
          rcases List.mem_cons.1 h4 with rfl|h4
          · exact h3 h5
          · exact h1 ⟨d,h4,h5,h6⟩
      · rw [if_neg h2,if_neg]
        rintro ⟨d,h4,h5,h6⟩
        rcases List.mem_cons.1 h4 with rfl|h4
        · exact h2 h6
        · exact h1 ⟨d,h4,h5,h6⟩
theorem lyear_at {W H : Nat} {slow : Int} {a b now : List Int} {k : Nat} (hW : 2 ≤ W) (hL : a.length = W * H) (h1 : a.length ≤ 160) (hn : now.length = a.length) : at0 (lyear W slow a b now) k = if ∃ c ∈ chg a b W,k ∈ c ∧ (c.length : Int) ≤ slow then at0 b k else at0 now k :=
  lyear_go _ _ _ _ _ fun c hc n h=>by rw [hn];exact ((chg_mem hW hL h1 hc).2.2.2 n h).1
structure Yrs (W H : Nat) (l : List (List Int)) : Prop where
  two : 2 ≤ W
  few : W * H ≤ 160
  len : ∀ y,y < l.length → (l.getD y []).length = W * H
theorem lawAt_len {W H : Nat} {l : List (List Int)} (h : Yrs W H l) (slow : Int) : ∀ y,y < l.length → (lawAt W l slow y).length = W * H
  | 0,hy=>h.len 0 hy
  | y + 1,hy=>by rw [lawAt,lyear_len];exact lawAt_len h slow y (by omega)
theorem lawAt_at {W H : Nat} {l : List (List Int)} (h : Yrs W H l) (slow : Int) {y k : Nat} (hy : y + 1 < l.length) : at0 (lawAt W l slow (y + 1)) k = if ∃ c ∈ chg (l.getD y []) (l.getD (y + 1) []) W,k ∈ c ∧ (c.length : Int) ≤ slow then at0 (l.getD (y + 1) []) k else at0 (lawAt W l slow y) k:=by
  have h2:=h.len y (by omega)
  rw [lawAt,lyear_at h.two h2 (by rw [h2];exact h.few) (by rw [h2];exact lawAt_len h slow y (by omega))]
theorem lawAt_src {W H : Nat} {l : List (List Int)} (h : Yrs W H l) (slow : Int) (k : Nat) : ∀ y,y < l.length → ∃ z,z < l.length ∧ at0 (lawAt W l slow y) k = at0 (l.getD z []) k
  | 0,hy=>⟨0,hy,rfl⟩
  | y + 1,hy=>by
    rw [lawAt_at h slow hy]
    split
    · exact ⟨y + 1,hy,rfl⟩
    · exact lawAt_src h slow k y (by omega)
theorem lawAt_same {W H : Nat} {l : List (List Int)} (h : Yrs W H l) {s t : Int} (hs : ∀ y,y + 1 < l.length → ∀ c ∈ chg (l.getD y []) (l.getD (y + 1) []) W,((c.length : Int) ≤ s ↔ (c.length : Int) ≤ t)) : ∀ y,y < l.length → lawAt W l s y = lawAt W l t y
  | 0,_=>rfl
  | y + 1,hy=>by
    refine ext0 (by rw [lawAt_len h s _ hy,lawAt_len h t _ hy]) fun k _=>?_
    rw [lawAt_at h s hy,lawAt_at h t hy,lawAt_same h hs y (by omega)]
    have e : (∃ c ∈ chg (l.getD y []) (l.getD (y + 1) []) W,k ∈ c ∧ (c.length : Int) ≤ s) ↔ ∃ c ∈ chg (l.getD y []) (l.getD (y + 1) []) W,k ∈ c ∧ (c.length : Int) ≤ t :=
      ⟨fun ⟨c,h1,h2,h3⟩=>⟨c,h1,h2,(hs y hy c h1).1 h3⟩,fun ⟨c,h1,h2,h3⟩=>⟨c,h1,h2,(hs y hy c h1).2 h3⟩⟩
    by_cases h1 : ∃ c ∈ chg (l.getD y []) (l.getD (y + 1) []) W,k ∈ c ∧ (c.length : Int) ≤ s
    · rw [if_pos h1,if_pos (e.1 h1)]
    · rw [if_neg h1,if_neg (fun h2=>h1 (e.2 h2))]
theorem gv1_bd (x : Int × Int) {o : Int} (h : 0 ≤ o ∧ o ≤ 3) : 0 ≤ (gv1 x o).1 ∧ (gv1 x o).1 ≤ 3:=by
  unfold gv1
  split
  · split <;> simp
  · exact h
theorem gvL_bd : ∀ (x : Int × Int) (l : List Int),(∀ o ∈ l,0 ≤ o ∧ o ≤ 3) → ∀ o ∈ gvL x l,0 ≤ o ∧ o ≤ 3
  | _,[],_,_,h=>by cases h
  | x,o :: l,h,p,hp=>by
    rw [gvL] at hp
    rcases List.mem_cons.1 hp with rfl|hp
    · exact gv1_bd x (h o List.mem_cons_self)
    · exact gvL_bd _ l (fun q hq=>h q (List.mem_cons_of_mem _ hq)) p hp
theorem owns_bd {c : List Int} {W : Nat} (h : ∀ n,n < c.length → 0 ≤ at0 c n ∧ at0 c n ≤ 3) (hin : ∀ cs ∈ isl c W,∀ n ∈ cs,n < c.length) {k : Nat} (hk : k < c.length) : 0 ≤ at0 (owns c W) k ∧ at0 (owns c W) k ≤ 3:=by
  unfold owns
  rw [fold_set _ _ _ (fun x hx n hn=>by rw [ownW_len];exact hin _ (List.of_mem_zip hx).1 n hn)]
  have hb : ∀ x ∈ (isl c W).zip (ownI c W),0 ≤ x.2 ∧ x.2 ≤ 3:=fun x hx=>by
    refine gvL_bd _ _ (fun o ho=>?_) x.2 (List.of_mem_zip hx).2
    obtain ⟨_,_,rfl⟩:=List.mem_map.1 ho
    exact ownr_bd _ _
  have h0 : 0 ≤ at0 (ownW c W) k ∧ at0 (ownW c W) k ≤ 3:=by
    rw [at0_ownW hk]
    split
    · exact ownr_bd _ _
    · exact h k hk
  generalize at0 (ownW c W) k = s at h0
  generalize (isl c W).zip (ownI c W) = l at hb
  induction l generalizing s with
  | nil=>exact h0
  | cons x l ih =>
    rw [List.foldl_cons]
    refine ih _ ?_ (fun y hy=>hb y (List.mem_cons_of_mem _ hy))
    split
    · exact hb x List.mem_cons_self
    · exact h0
theorem isl_in {c : List Int} {W H : Nat} (hW : 2 ≤ W) (hL : c.length = W * H) (h1 : c.length ≤ 160) : ∀ cs ∈ isl c W,∀ n ∈ cs,n < c.length:=by
  intro cs hcs n hn
  rw [isl_eq hW hL h1] at hcs
  obtain ⟨i,_,rfl⟩:=List.mem_map.1 hcs
  exact List.mem_range.1 (List.mem_filter.1 hn).1
end Riv

namespace Riv
def lastHi (out : List Go.Vm.Spn) : Option Int:=out.getLast?.map fun x=>x.hi
def setHi (out : List Go.Vm.Spn) (h : Int) : List Go.Vm.Spn:=match out.getLast? with
  | none=>out
  | some x=>out.dropLast ++ [⟨x.lo,h⟩]
def addB (out : List Go.Vm.Spn) (lo hi : Int) : List Go.Vm.Spn:=if lastHi out = some (lo - 1) then setHi out hi else out ++ [⟨lo,hi⟩]
def pgo (p : Int → Bool) : List Int → List Go.Vm.Spn → List Go.Vm.Spn
  | a :: b :: l,out=>pgo p (b :: l) (bif p a then addB out a (b - 1) else out)
  | _,out=>out
def r1 (p : Int → Bool) (x : List Go.Vm.Spn × Bool) (s : Int) : List Go.Vm.Spn × Bool:=(bif p s then (bif x.2 then setHi x.1 s else x.1 ++ [⟨s,s⟩]) else x.1,p s)
def rseg (p : Int → Bool) (a : Int) (n : Nat) (x : List Go.Vm.Spn × Bool) : List Go.Vm.Spn × Bool:=(List.range n).foldl (fun x (j : Nat)=>r1 p x (a + (j : Int))) x
theorem lastHi_app (out : List Go.Vm.Spn) (x : Go.Vm.Spn) : lastHi (out ++ [x]) = some x.hi:=by simp [lastHi]
theorem setHi_app (out : List Go.Vm.Spn) (x : Go.Vm.Spn) (h : Int) : setHi (out ++ [x]) h = out ++ [⟨x.lo,h⟩]:=by simp [setHi]
theorem lastHi_ex {out : List Go.Vm.Spn} {h : Int} (e : lastHi out = some h) : ∃ o x,out = o ++ [x] ∧ x.hi = h:=by
  rcases List.eq_nil_or_concat out with rfl|⟨o,x,rfl⟩
  · simp [lastHi] at e
  · rw [List.concat_eq_append] at e ⊢
    rw [lastHi_app] at e
    exact ⟨o,x,rfl,Option.some.inj e⟩
theorem addB_ex (out : List Go.Vm.Spn) (a : Int) : ∃ o lo,∀ h,addB out a h = o ++ [⟨lo,h⟩]:=by
  unfold addB
  by_cases h1 : lastHi out = some (a - 1)
  · obtain ⟨o,x,rfl,_⟩:=lastHi_ex h1
    refine ⟨o,x.lo,fun h=>?_⟩
    rw [if_pos h1,setHi_app]
  · exact ⟨out,a,fun h=>by rw [if_neg h1]⟩
theorem addB_last (out : List Go.Vm.Spn) (a h : Int) : lastHi (addB out a h) = some h:=by
  obtain ⟨o,lo,e⟩:=addB_ex out a
  rw [e,lastHi_app]
theorem addB_set (out : List Go.Vm.Spn) (a h g : Int) : setHi (addB out a h) g = addB out a g:=by
  obtain ⟨o,lo,e⟩:=addB_ex out a
  rw [e,e,setHi_app]
structure RI1 (out : List Go.Vm.Spn) (was : Bool) (a : Int) : Prop where
  yes : was = true → lastHi out = some (a - 1)
  no : was = false → ∀ h,lastHi out = some h → h < a - 1
theorem rseg_const {p : Int → Bool} {out : List Go.Vm.Spn} {was : Bool} {a : Int} (hI : RI1 out was a) : ∀ n : Nat,(∀ j : Nat,j < n + 1 → p (a + (j : Int)) = p a) →
    rseg p a (n + 1) (out,was) = (bif p a then addB out a (a + n) else out,p a)
  | 0,_=>by
    show r1 p (out,was) (a + ((0 : Nat) : Int)) = _
    rw [Int.natCast_zero,Int.add_zero]
    unfold r1
    cases hp : p a with
    | false=>rfl
    | true =>
      cases was with
      | true =>
        unfold addB
        rw [if_pos (hI.yes rfl)];rfl
      | false =>
        unfold addB
        rw [if_neg (fun e=>by have:=hI.no rfl _ e;omega)];rfl
  | n + 1,h=>by
    have ih:=rseg_const hI n fun j hj=>h j (by omega)
    unfold rseg at ih ⊢
    rw [List.range_succ,List.foldl_append,ih]
    show r1 p _ (a + ((n + 1 : Nat) : Int)) = _
    unfold r1
    rw [h (n + 1) (by omega)]
    cases p a with
    | false=>rfl
    | true =>
      simp only [cond_true]
      rw [addB_set]
theorem rseg_add (p : Int → Bool) (a : Int) (n m : Nat) (x : List Go.Vm.Spn × Bool) : rseg p a (n + m) x = rseg p (a + n) m (rseg p a n x):=by
  unfold rseg
  rw [List.range_add,List.foldl_append,List.foldl_map]
  congr 1
  funext x j
  rw [Int.natCast_add,Int.add_assoc]
theorem runs_go {p : Int → Bool} : ∀ (l : List Int) (a : Int) (out : List Go.Vm.Spn) (was : Bool),(a :: l).Pairwise (· < ·) → RI1 out was a →
    (∀ s t,a ≤ s → s ≤ t → t < l.getLastD a → (∀ x ∈ a :: l,¬ (s < x ∧ x ≤ t)) → p s = p t) → (rseg p a (l.getLastD a - a).toNat (out,was)).1 = pgo p (a :: l) out
  | [],a,out,was,_,_,_=>by simp [pgo,rseg]
  | b :: l,a,out,was,hr,hI,hp=>by
    have h1:=List.pairwise_cons.1 hr
    have hab : a < b:=h1.1 b List.mem_cons_self
    have hlast : b ≤ l.getLastD b:=by
      have h2:=List.pairwise_cons.1 h1.2
      cases l with
      | nil=>exact Int.le_refl _
      | cons c l =>
        have h3 : (c :: l).getLastD b ∈ c :: l:=by
          rw [List.getLastD_cons]
          cases l with
          | nil=>exact List.mem_cons_self
          | cons d l=>exact List.mem_cons_of_mem _ (by rw [List.getLastD_cons];exact List.getLastD_mem_cons (a:=d) (l:=l))
        have:=h2.1 _ h3
        omega
    have e : (List.getLastD (b :: l) a - a).toNat = ((b - a).toNat - 1 + 1) + (List.getLastD l b - b).toNat:=by
      rw [List.getLastD_cons];omega
    have hc:=rseg_const (p:=p) hI ((b - a).toNat - 1) fun j hj=>by
      refine (hp a (a + j) (Int.le_refl _) (by omega) (by rw [List.getLastD_cons];omega) fun x hx=>?_).symm
      rcases List.mem_cons.1 hx with rfl|hx
      · omega
      · rcases List.mem_cons.1 hx with rfl|hx
        · omega
        · have:=(List.pairwise_cons.1 h1.2).1 x hx
          omega
    rw [e,rseg_add,hc]
    have e2 : a + (((b - a).toNat - 1 + 1 : Nat) : Int) = b:=by omega
    have e3 : a + (((b - a).toNat - 1 : Nat) : Int) = b - 1:=by omega
    rw [e2,e3,pgo]
    refine runs_go l b _ _ h1.2 ⟨fun e4=>?_,fun e4 h e5=>?_⟩ fun s t g1 g2 g3 g4=>?_
    · rw [e4];exact addB_last _ _ _
    · rw [e4] at e5
      cases was with
      | true=>have:=hI.yes rfl;rw [cond_false,this] at e5;have:=Option.some.inj e5;omega
      | false=>have:=hI.no rfl h e5;omega
    · refine hp s t (by omega) g2 (by rw [List.getLastD_cons];exact g3) fun x hx=>?_
      rcases List.mem_cons.1 hx with rfl|hx
      · omega
      · exact g4 x hx
def cmpI : List Int → List Int
  | a :: b :: l=>if a = b then cmpI (b :: l) else a :: cmpI (b :: l)
  | l=>l
theorem cmpI_mem : ∀ (l : List Int) (x : Int),x ∈ cmpI l ↔ x ∈ l
  | [],_=>Iff.rfl
  | [_],_=>Iff.rfl
  | a :: b :: l,x=>by
    rw [cmpI]
    split
    · rename_i h
      rw [cmpI_mem (b :: l),h]
      simp
    · rw [List.mem_cons,cmpI_mem (b :: l),List.mem_cons (a:=x) (b:=a)]
theorem cmpI_rise : ∀ (l : List Int),l.Pairwise (· ≤ ·) → (cmpI l).Pairwise (· < ·)
  | [],_=>List.Pairwise.nil
  | [_],_=>List.pairwise_singleton _ _
  | a :: b :: l,h=>by
    have h1:=List.pairwise_cons.1 h
    have ih:=cmpI_rise (b :: l) h1.2
    rw [cmpI]
    split
    · exact ih
    · rename_i hab
      refine List.pairwise_cons.2 ⟨fun x hx=>?_,ih⟩
      rw [cmpI_mem] at hx
      have g1:=h1.1 b List.mem_cons_self
      rcases List.mem_cons.1 hx with rfl|hx
      · omega
      · have:=(List.pairwise_cons.1 h1.2).1 x hx
        omega
theorem rise_ends {l : List Int} {a z : Int} (h : l.Pairwise (· < ·)) (ha : a ∈ l) (hz : z ∈ l) (hl : ∀ x ∈ l,a ≤ x ∧ x ≤ z) : ∃ r,l = a :: r ∧ r.getLastD a = z:=by
  cases l with
  | nil=>cases ha
  | cons y r =>
    have e : y = a:=by
      have:=(hl y List.mem_cons_self).1
      rcases List.mem_cons.1 ha with e|e
      · exact e.symm
      · have:=(List.pairwise_cons.1 h).1 a e
        omega
    subst e
    refine ⟨r,rfl,?_⟩
    have hm : r.getLastD y ∈ y :: r:=List.getLastD_mem_cons
    have h1:=(hl _ hm).2
    have key : ∀ (r : List Int) (y : Int),(y :: r).Pairwise (· < ·) → ∀ x ∈ y :: r,x ≤ r.getLastD y:=by
      intro r
      induction r with
      | nil=>intro y _ x hx;simp at hx;simp [hx]
      | cons b r ih =>
        intro y h x hx
        have h2:=List.pairwise_cons.1 h
        rw [List.getLastD_cons]
        rcases List.mem_cons.1 hx with rfl|hx
        · have g1:=h2.1 b List.mem_cons_self
          have g2:=ih b h2.2 b List.mem_cons_self
          omega
        · exact ih b h2.2 x hx
    have h2:=key r y h z hz
    omega
theorem runs_eq {p : Int → Bool} {st sizes : List Int} {N : Nat} (hs : st.Pairwise (· < ·)) (hm : ∀ x,x ∈ st ↔ x = 0 ∨ x = (N : Int) ∨ x ∈ sizes) (hz : ∀ x ∈ sizes,0 ≤ x ∧ x ≤ (N : Int))
    (hp : ∀ s t,0 ≤ s → s ≤ t → t < (N : Int) → (∀ x ∈ sizes,x ≤ s ↔ x ≤ t) → p s = p t) : (rseg p 0 N ([],false)).1 = pgo p st []:=by
  obtain ⟨r,rfl,hr⟩:=rise_ends (a:=0) (z:=(N : Int)) hs ((hm 0).2 (.inl rfl)) ((hm _).2 (.inr (.inl rfl))) fun x hx=>by
    rcases (hm x).1 hx with rfl|rfl|h
    · omega
    · omega
    · exact hz x h
  have:=runs_go (p:=p) r 0 [] false hs ⟨fun e=>(by cases e),fun _ h e=>(by simp [lastHi] at e)⟩ fun s t h1 h2 h3 h4=>by
    refine hp s t h1 h2 (by rw [hr] at h3;exact h3) fun x hx=>?_
    have:=h4 x ((hm x).2 (.inr (.inr hx)))
    omega
  rw [hr] at this
  rw [← this]
  congr 1
def dnL (p : Nat → Bool) : Nat → Int
  | 0=>-1
  | n + 1=>bif p n then (n : Int) else dnL p n
end Riv

namespace Riv
def sizes (W : Nat) (l : List (List Int)) : List Int:=(List.range (l.length - 1)).flatMap fun y=>(chg (l.getD y []) (l.getD (y + 1) []) W).map fun c=>(c.length : Int)
def slP (W : Nat) (l : List (List Int)) (cell : Nat) (owner : Int) (s : Int) : Bool:=decide (at0 (owns (lawAt W l s (l.length - 1)) W) cell = owner)
theorem sizes_mem {W : Nat} {l : List (List Int)} {x : Int} : x ∈ sizes W l ↔ ∃ y,y + 1 < l.length ∧ ∃ c ∈ chg (l.getD y []) (l.getD (y + 1) []) W,(c.length : Int) = x:=by
  unfold sizes
  simp only [List.mem_flatMap,List.mem_range,List.mem_map]
  constructor
  · rintro ⟨y,h1,h2⟩;exact ⟨y,by omega,h2⟩
  · rintro ⟨y,h1,h2⟩;exact ⟨y,by omega,h2⟩
theorem sizes_bd {W H : Nat} {l : List (List Int)} (h : Yrs W H l) {x : Int} (hx : x ∈ sizes W l) : 1 ≤ x ∧ x ≤ ((W * H : Nat) : Int):=by
  obtain ⟨y,h1,c,h2,rfl⟩:=sizes_mem.1 hx
  have h3:=h.len y (by omega)
  obtain ⟨g1,_,g3,_⟩:=chg_mem h.two h3 (by rw [h3];exact h.few) h2
  have : c.length ≠ 0:=fun e=>g1 (List.eq_nil_of_length_eq_zero e)
  omega
theorem slP_min {W H : Nat} {l : List (List Int)} (h : Yrs W H l) (h0 : 0 < l.length) (cell : Nat) (owner s : Int) : slP W l cell owner (min s ((W * H : Nat) : Int)) = slP W l cell owner s:=by
  unfold slP
  rw [lawAt_same h (s:=min s ((W * H : Nat) : Int)) (t:=s) (fun y hy c hc=>by
    have h3:=h.len y (by omega)
    have:=(chg_mem h.two h3 (by rw [h3];exact h.few) hc).2.2.1
    omega) _ (by omega)]
theorem slows_eq {W H N : Nat} {l : List (List Int)} {st : List Int} (h : Yrs W H l) (h0 : 0 < l.length) (hN : W * H ≤ N) (hs : st.Perm (0 :: (N : Int) :: sizes W l)) (hr : st.Pairwise (· ≤ ·)) (cell : Nat) (owner : Int) :
    (rseg (fun s=>slP W l cell owner (min s ((W * H : Nat) : Int))) 0 N ([],false)).1 = pgo (slP W l cell owner) (cmpI st) []:=by
  have e : (fun s=>slP W l cell owner (min s ((W * H : Nat) : Int))) = slP W l cell owner:=funext fun s=>slP_min h h0 cell owner s
  rw [e]
  refine runs_eq (sizes:=sizes W l) (cmpI_rise st hr) (fun x=>?_) (fun x hx=>?_) fun s t _ _ _ h4=>?_
  · rw [cmpI_mem,hs.mem_iff];simp only [List.mem_cons]
  · have:=sizes_bd h hx;omega
  · unfold slP
    rw [lawAt_same h (s:=s) (t:=t) (fun y hy c hc=>h4 _ (sizes_mem.2 ⟨y,hy,c,hc,rfl⟩)) _ (by omega)]
end Riv

namespace Riv
structure Ren (ren : Int → Int) (s s' : Int) : Prop where
  wat : ∀ x,ren x = 0 ↔ x = 0
  isl : ∀ x,ren x = 3 ↔ x = 3
  sho : ∀ x,ren x = s' ↔ x = s
end Riv

namespace Riv
theorem wb_path {c : List Int} {W : Nat} {s : Int} {n : Nat} {l : List Nat} (hn : n < c.length) (h : WB c W s n l) : ∀ i,i < (l.reverse ++ [n]).length →
    (l.reverse ++ [n]).getD i 0 < c.length ∧ (i = 0 → at0 c ((l.reverse ++ [n]).getD i 0) = s) ∧ (0 < i → Nb W ((l.reverse ++ [n]).getD (i - 1) 0) ((l.reverse ++ [n]).getD i 0) ∧ Opn c ((l.reverse ++ [n]).getD i 0) ∧ (i + 1 < (l.reverse ++ [n]).length → at0 c ((l.reverse ++ [n]).getD i 0) = 0)):=by
  induction h with
  | base e =>
    intro i hi
    have : i = 0:=by simp at hi;exact hi
    subst this
    exact ⟨hn,fun _=>e,fun h=>absurd h (by decide)⟩
  | step a1 a2 a3 a4 a5 h6 ih =>
    rename_i n k l
    have ih:=ih a1
    have hq : (k :: l).reverse = l.reverse ++ [k]:=List.reverse_cons
    rw [hq]
    generalize hqe : l.reverse ++ [k] = q at ih
    have hql : q.length = l.length + 1:=by rw [← hqe];simp
    have hlast : q.getD (q.length - 1) 0 = k:=by
      rw [← hqe];simp
    have hat : ∀ i,i < q.length → (q ++ [n]).getD i 0 = q.getD i 0:=fun i hi=>by
      rw [List.getD_eq_getElem?_getD,List.getD_eq_getElem?_getD,List.getElem?_append_left hi]
    have hend : (q ++ [n]).getD q.length 0 = n:=by
      rw [List.getD_eq_getElem?_getD,List.getElem?_append_right (Nat.le_refl _),Nat.sub_self];rfl
    intro i hi
    rw [List.length_append,List.length_singleton] at hi ⊢
    by_cases hiq : i < q.length
    · obtain ⟨g1,g2,g3⟩:=ih i hiq
      rw [hat i hiq]
      refine ⟨g1,g2,fun h0=>?_⟩
      obtain ⟨k1,k2,k3⟩:=g3 h0
      rw [hat (i - 1) (by omega)]
      refine ⟨k1,k2,fun _=>?_⟩
      by_cases h7 : i + 1 < q.length
      · exact k3 h7
      · have e : i = q.length - 1:=by omega
        rw [e,hlast] at k2 ⊢
        rcases a3 with e3|e3
        · exact e3
        · -- the first one alone is of the shore
          cases h6 with
          | base _=>simp at hql;omega
          | step _ _ _ b4 _ _=>exact absurd e3 b4
    · have e : i = q.length:=by omega
      rw [e,hend]
      refine ⟨hn,fun h0=>by omega,fun h0=>⟨?_,a5,fun h8=>by omega⟩⟩
      rw [hat (q.length - 1) (by omega),hlast]
      exact a2.symm
end Riv

namespace Riv
abbrev Dk:=Nat × Int
structure MOk (W H : Nat) (c : List Int) : Prop where
  w : 3 ≤ W ∧ W ≤ 12
  h : 1 ≤ H ∧ H ≤ 12
  len : c.length = W * H
  kind : ∀ n,n < c.length → 0 ≤ at0 c n ∧ at0 c n ≤ 3
  side : ∀ y,y < H → at0 c (y * W) = 1 ∧ at0 c (y * W + W - 1) = 2
theorem MOk.few {W H : Nat} {c : List Int} (h : MOk W H c) : c.length ≤ 144 ∧ 2 ≤ W ∧ W * H ≤ 144:=by
  have:=Nat.mul_le_mul h.w.2 h.h.2
  have:=h.len
  have:=h.w.1
  omega
section
variable (nx : Dk → Int → Int × Dk)
def rowA (W : Nat) (d : Dk) : Int × Dk:=nx d (max 1 ((W / 3 : Nat) : Int) - 1 + 1)
def rowB (W : Nat) (d : Dk) : Int × Dk:=nx (rowA nx W d).2 ((W : Int) - 1 - max (1 + (rowA nx W d).1) ((W : Int) - 3) + 1)
variable {nx}
end
end Riv

namespace Riv
section
variable (nx : Dk → Int → Int × Dk)
def la (x : Dk × List Int) : Int × Dk:=nx x.1 (x.2.length : Int)
def lk (x : Dk × List Int) : Int × Dk:=nx (la nx x).2 4
def lb (x : Dk × List Int) : Int × Dk:=nx (lk nx x).2 (4 - 1 + 1)
variable {nx}
end
theorem yrs_of {W H : Nat} {l : List (List Int)} (h0 : 0 < l.length) (h : ∀ c ∈ l,MOk W H c) : Yrs W H l:=by
  have hm : ∀ y,y < l.length → MOk W H (l.getD y []):=fun y hy=>by
    have e : l.getD y [] = l[y]:=by rw [List.getD_eq_getElem?_getD,List.getElem?_eq_getElem hy];rfl
    rw [e];exact h _ (List.getElem_mem hy)
  have hf:=(hm 0 h0).few
  exact ⟨hf.2.1,by omega,fun y hy=>(hm y hy).len⟩
theorem lawAt_mok {W H : Nat} {l : List (List Int)} (h : ∀ c ∈ l,MOk W H c) (slow : Int) {y : Nat} (hy : y < l.length) : MOk W H (lawAt W l slow y):=by
  have hY:=yrs_of (by omega) h
  have hm : ∀ y,y < l.length → MOk W H (l.getD y []):=fun y hy=>by
    have e : l.getD y [] = l[y]:=by rw [List.getD_eq_getElem?_getD,List.getElem?_eq_getElem hy];rfl
    rw [e];exact h _ (List.getElem_mem hy)
  have h1:=hm y hy
  have hl:=lawAt_len hY slow y hy
  refine ⟨h1.w,h1.h,hl,fun n hn=>?_,fun q hq=>?_⟩
  · obtain ⟨z,hz,e⟩:=lawAt_src hY slow n y hy
    rw [e]
    exact (hm z hz).kind n (by rw [(hm z hz).len];omega)
  · obtain ⟨z,hz,e⟩:=lawAt_src hY slow (q * W) y hy
    obtain ⟨u,hu,f⟩:=lawAt_src hY slow (q * W + W - 1) y hy
    rw [e,f]
    exact ⟨((hm z hz).side q hq).1,((hm u hu).side q hq).2⟩
end Riv

namespace Riv
def sideB (c : List Int) (W : Nat) (y : Nat) : Bool:=decide (at0 c (y * W) = 1 ∧ at0 c (y * W + W - 1) = 2)
def kindB (c : List Int) : Bool:=c.all fun x=>decide (0 ≤ x ∧ x ≤ 3)
def chkM (m : Mp) : Int :=
  if ((3 ≤ m.w ∧ m.w ≤ 12) ∧ 1 ≤ m.h ∧ m.h ≤ 12) ∧ (m.c.length : Int) = m.w * m.h then
    (bif kindB m.c then (bif (List.range m.h.toNat).all (sideB m.c m.w.toNat) then 0 else 9) else 4)
  else 3
def chkL : List Mp → Int
  | []=>0
  | m :: l=>if chkM m = 0 then chkL l else chkM m
def sameB (m : Mp) (l : List Mp) : Bool:=l.all fun x=>decide (x.w = m.w ∧ x.h = m.h)
def chkY (l : List Mp) : Int:=if 1 ≤ l.length ∧ l.length ≤ 10 then (if chkL l = 0 then (bif sameB (l.headD ⟨0,0,[]⟩) l then 0 else 2) else chkL l) else 3
theorem chkM_ok {m : Mp} (h : chkM m = 0) : ∃ W H : Nat,m.w = W ∧ m.h = H ∧ MOk W H m.c:=by
  unfold chkM at h
  split at h
  · rename_i h1
    obtain ⟨W,eW⟩ : ∃ W : Nat,m.w = W:=⟨m.w.toNat,by omega⟩
    obtain ⟨H,eH⟩ : ∃ H : Nat,m.h = H:=⟨m.h.toNat,by omega⟩
    cases hk : kindB m.c with
    | false=>rw [hk] at h;simp at h
    | true =>
      rw [hk,cond_true] at h
      cases hs : (List.range m.h.toNat).all (sideB m.c m.w.toNat) with
      | false=>rw [hs] at h;simp at h
      | true =>
        rw [eW,eH,Int.toNat_natCast,Int.toNat_natCast] at hs
        rw [eW,eH] at h1
        refine ⟨W,H,eW,eH,⟨by omega,by omega⟩,⟨by omega,by omega⟩,?_,fun n hn=>?_,fun y hy=>?_⟩
        · have:=h1.2
          have e : ((W * H : Nat) : Int) = (W : Int) * H:=by rw [Int.natCast_mul]
          omega
        · unfold kindB at hk
          rw [List.all_eq_true] at hk
          have e : at0 m.c n = m.c[n]:=by unfold at0;rw [List.getD_eq_getElem?_getD,List.getElem?_eq_getElem hn];rfl
          rw [e]
          exact of_decide_eq_true (hk _ (List.getElem_mem hn))
        · rw [List.all_eq_true] at hs
          exact of_decide_eq_true (hs y (List.mem_range.2 hy))
  · simp at h
theorem chkL_zero : ∀ {l : List Mp},chkL l = 0 → ∀ m ∈ l,chkM m = 0
  | [],_,m,h=>by cases h
  | x :: l,h,m,hm=>by
    rw [chkL] at h
    by_cases hx : chkM x = 0
    · rw [if_pos hx] at h
      rcases List.mem_cons.1 hm with rfl|hm
      · exact hx
      · exact chkL_zero h m hm
    · rw [if_neg hx] at h;exact absurd h hx
theorem chkY_ok {l : List Mp} (h : chkY l = 0) : ∃ W H : Nat,(1 ≤ l.length ∧ l.length ≤ 10) ∧ ∀ m ∈ l,m.w = W ∧ m.h = H ∧ MOk W H m.c:=by
  unfold chkY at h
  split at h
  · rename_i h1
    split at h
    · rename_i h2
      cases hs : sameB (l.headD ⟨0,0,[]⟩) l with
      | false=>rw [hs] at h;simp at h
      | true =>
        cases l with
        | nil=>simp at h1
        | cons m l =>
          obtain ⟨W,H,eW,eH,_⟩:=chkM_ok (chkL_zero h2 m List.mem_cons_self)
          refine ⟨W,H,h1,fun x hx=>?_⟩
          unfold sameB at hs
          rw [List.all_eq_true] at hs
          have g:=of_decide_eq_true (hs x hx)
          have g1 : x.w = m.w:=g.1
          have g2 : x.h = m.h:=g.2
          obtain ⟨W',H',e1,e2,hm⟩:=chkM_ok (chkL_zero h2 x hx)
          have a1 : W' = W:=by omega
          have a2 : H' = H:=by omega
          subst a1;subst a2
          exact ⟨e1,e2,hm⟩
    · rename_i h2;exact absurd h h2
  · simp at h
def cellsY (l : List Mp) : List (List Int):=l.map fun m=>m.c
theorem cellsY_ok {W H : Nat} {l : List Mp} (h : ∀ m ∈ l,m.w = W ∧ m.h = H ∧ MOk W H m.c) : ∀ c ∈ cellsY l,MOk W H c:=by
  intro c hc
  obtain ⟨m,hm,rfl⟩:=List.mem_map.1 hc
  exact (h m hm).2.2
end Riv

open Go.Vm
open Riv
namespace Go.Proofs.YtkbbfeljlepgoaaGreat
set_option maxRecDepth 20000
set_option maxHeartbeats 2000000

def vM (m : Mp) : V:=.agg [I m.w,I m.h,ints m.c]
def encM (m : Mp) : List D:=[DI m.w,DI m.h,.sl 1 m.c.length (m.c.flatMap encI)]
theorem encM_len (m : Mp) : (encM m).length = 3:=rfl
def vSd (m : Mp) (s : Int) : V:=.agg [I m.w,I m.h,ints m.c,I s]
def vSh (x : Riv.Sh) : V:=.agg [I x.f,I x.o,B x.nr]
end Go.Proofs.YtkbbfeljlepgoaaGreat

open Go.Vm
open Riv
namespace Go.Proofs.YtkbbfeljlepgoaaGreat
set_option maxRecDepth 20000
set_option maxHeartbeats 4000000

theorem vc_from (n a b : Int) (h : Hp) : VC Tryz.prog 50 [I n,I a,I b] h (B (decide (a ≤ n ∧ n ≤ b))) h:=by
  refine VC.body Tryz.func50 rfl Tryz.ntmps50 Tryz.call50 (h.grows_refl) rfl ?_;conv=>whnf
  repeat' (first|((first|refine zs1 ?_|refine zs2 ?_|refine zs3 ?_|refine zs4 ?_|refine zs5 ?_|refine zs6 [] ?_);conv=>whnf)|((first|apply zi1|apply zi2|apply zi3|apply zi4|apply zi5) <;> intro _ <;> conv=>whnf))
  all_goals (refine VOut.same ?_;simp [V.ren];try omega)
theorem vc_rbeside (n a b : Int) (h : Hp) : VC Tryz.prog 53 [I n,I a,I b] h (B (decide (n < a ∨ b < n))) h:=by
  refine VC.body Tryz.func53 rfl Tryz.ntmps53 Tryz.call53 (h.grows_refl) rfl ?_;conv=>whnf
  repeat' (first|((first|refine zs1 ?_|refine zs2 ?_|refine zs3 ?_|refine zs4 ?_|refine zs5 ?_|refine zs6 [] ?_);conv=>whnf)|((first|apply zi1|apply zi2|apply zi3|apply zi4|apply zi5) <;> intro _ <;> conv=>whnf))
  all_goals (refine VOut.same ?_;simp [V.ren];try omega)
theorem vc_cell (m : Mp) (n : Int) (h : Hp) (hl : m.c.length ≤ 4000000) : VC Tryz.prog 60 [vM m,I n] h (B (decide (0 ≤ n ∧ n ≤ (m.c.length : Int) - 1))) h:=by
  refine VC.body Tryz.func60 rfl Tryz.ntmps60 Tryz.call60 (h.grows_refl) rfl ?_;conv=>whnf
  repeat' (first|((first|refine zs1 ?_|refine zs2 ?_|refine zs3 ?_|refine zs4 ?_|refine zs5 ?_|refine zs6 [] ?_);conv=>whnf)|((first|apply zi1|apply zi2|apply zi3|apply zi4|apply zi5) <;> intro _ <;> conv=>whnf)|(refine VCall.intro (vc_from _ _ _ _) ?_;conv=>whnf))
  exact VOut.same rfl
theorem vc_whose (a b : Int) (h : Hp) : VC Tryz.prog 101 [I a,I b] h (I (ownr a b)) h:=by
  obtain ⟨E,hE⟩ : ∃ E,E = ownr a b:=⟨_,rfl⟩
  rw [← hE]
  unfold ownr at hE
  refine VC.body Tryz.func101 rfl Tryz.ntmps101 Tryz.call101 (h.grows_refl) rfl ?_;conv=>whnf
  repeat' (first|((first|refine zs1 ?_|refine zs2 ?_|refine zs3 ?_|refine zs4 ?_|refine zs5 ?_|refine zs6 [] ?_);conv=>whnf)|((first|apply zi1|apply zi2|apply zi3|apply zi4|apply zi5) <;> intro _ <;> conv=>whnf))
  all_goals first
    | (rw [if_pos (by omega)] at hE;rw [hE];exact VOut.same rfl)
    | (rw [if_neg (by omega),if_pos (by omega)] at hE;rw [hE];exact VOut.same rfl)
    | (rw [if_neg (by omega),if_neg (by omega),if_pos (by omega)] at hE;rw [hE];exact VOut.same rfl)
    | (rw [if_neg (by omega),if_neg (by omega),if_neg (by omega)] at hE;rw [hE];exact VOut.same rfl)
theorem vc_lesser (a b : Int) (h : Hp) : VC Tryz.prog 133 [I a,I b] h (I (if a = -1 ∨ (b ≠ -1 ∧ b < a) then b else a)) h:=by
  obtain ⟨E,hE⟩ : ∃ E,E = (if a = -1 ∨ (b ≠ -1 ∧ b < a) then b else a):=⟨_,rfl⟩
  rw [← hE]
  refine VC.body Tryz.func133 rfl Tryz.ntmps133 Tryz.call133 (h.grows_refl) rfl ?_;conv=>whnf
  repeat' (first|((first|refine zs1 ?_|refine zs2 ?_|refine zs3 ?_|refine zs4 ?_|refine zs5 ?_|refine zs6 [] ?_);conv=>whnf)|((first|apply zi1|apply zi2|apply zi3|apply zi4|apply zi5) <;> intro _ <;> conv=>whnf))
  all_goals first
    | (rw [if_pos (by omega)] at hE;rw [hE];exact VOut.same rfl)
    | (rw [if_neg (by omega)] at hE;rw [hE];exact VOut.same rfl)
theorem vc_least (l : List Int) (h : Hp) (hl : l.length ≤ 4000000) : VC Tryz.prog 79 [ints l] h (I (leastL l)) h:=by
  obtain ⟨E,hE⟩ : ∃ E,E = leastL l:=⟨_,rfl⟩
  rw [← hE]
  unfold leastL at hE
  refine VC.body Tryz.func79 rfl Tryz.ntmps79 Tryz.call79 (h.grows_refl) rfl ?_;conv=>whnf
  repeat' (first|((first|refine zs1 ?_|refine zs2 ?_|refine zs3 ?_|refine zs4 ?_|refine zs5 ?_|refine zs6 [] ?_);conv=>whnf)|((first|apply zi1|apply zi2|apply zi3|apply zi4|apply zi5) <;> intro _ <;> conv=>whnf))
  refine VCode.lp (fun y : Nat × Int=>[(3,I y.2),(6,ints l),(7,I l.length),(8,I y.1)]) (fun _=>[]) (fun y=>y.1 ≤ l.length ∧ E = (l.drop y.1).foldl ls1 y.2) (fun y=>l.length - y.1) (0,-1) ⟨Nat.zero_le _,hE⟩ ?_ ?_
  · conv=>whnf
    refine Retell.turn ⟨[],0,[],[]⟩ (TurnOk.mk' _ _ [] [] (OutOk.lift _) rfl (by decide) zb trivial trivial rfl) zw zm
  · rintro ⟨k,o⟩ ⟨h4,h5⟩
    dsimp only at h4 h5
    conv=>whnf
    refine VIte.dec (fun h6=>?_) (fun h6=>?_)
    · have hk : l[k]? = some l[k]:=List.getElem?_eq_getElem (by omega)
      rw [List.drop_eq_getElem_cons (by omega),List.foldl_cons] at h5
      generalize l[k] = x at hk h5
      have hs : ls1 o x = if x ≠ -1 ∧ (o = -1 ∨ x < o) then x else o:=rfl
      conv=>whnf
      refine VAny.ix encI_len k rfl rfl hk ?_
      conv=>whnf
      repeat' (first|((first|refine zs1 ?_|refine zs2 ?_|refine zs3 ?_|refine zs4 ?_|refine zs5 ?_|refine zs6 [] ?_);conv=>whnf)|((first|apply zi1|apply zi2|apply zi3|apply zi4|apply zi5) <;> intro _ <;> conv=>whnf))
      all_goals first
        | (rw [if_pos (by omega)] at hs;rw [hs] at h5
           refine LEnd.intro (k + 1,x) ⟨by dsimp only;omega,h5⟩ (by dsimp only;omega) ?_
           conv=>whnf
           refine Retell.turn ⟨[],0,[],[]⟩ (TurnOk.mk' _ _ [] [] (OutOk.lift _) rfl (by decide) zb trivial trivial rfl) zw zm)
        | (rw [if_neg (by omega)] at hs;rw [hs] at h5
           refine LEnd.intro (k + 1,o) ⟨by dsimp only;omega,h5⟩ (by dsimp only;omega) ?_
           conv=>whnf
           refine Retell.turn ⟨[],0,[],[]⟩ (TurnOk.mk' _ _ [] [] (OutOk.lift _) rfl (by decide) zb trivial trivial rfl) zw zm)
    · rw [List.drop_of_length_le (by omega)] at h5
      rw [h5]
      conv=>whnf
      repeat' (first|((first|refine zs1 ?_|refine zs2 ?_|refine zs3 ?_|refine zs4 ?_|refine zs5 ?_|refine zs6 [] ?_);conv=>whnf)|((first|apply zi1|apply zi2|apply zi3|apply zi4|apply zi5) <;> intro _ <;> conv=>whnf))
      exact VOut.same rfl
end Go.Proofs.YtkbbfeljlepgoaaGreat

open Go.Vm
open Riv
namespace Go.Proofs.YtkbbfeljlepgoaaGreat
set_option maxRecDepth 20000
set_option maxHeartbeats 4000000

theorem vc_nearer (a b : Int) (h : Hp) : VC Tryz.prog 98 [I a,I b] h (I (ownr a b)) h:=by
  obtain ⟨E,hE⟩ : ∃ E,E = ownr a b:=⟨_,rfl⟩
  rw [← hE]
  have hl:=ownr_least a b
  obtain ⟨m,hm⟩ : ∃ m,m = leastL [a,b]:=⟨_,rfl⟩
  rw [← hm] at hl
  rw [← hE] at hl
  have cL:=fun h=>vc_least [a,b] h (by simp)
  rw [← hm] at cL
  unfold ownr at hE
  refine VC.body Tryz.func98 rfl Tryz.ntmps98 Tryz.call98 (h.grows_refl) rfl ?_;conv=>whnf
  repeat' (first|((first|refine zs1 ?_|refine zs2 ?_|refine zs3 ?_|refine zs4 ?_|refine zs5 ?_|refine zs6 [] ?_);conv=>whnf)|((first|apply zi1|apply zi2|apply zi3|apply zi4|apply zi5) <;> intro _ <;> conv=>whnf))
  all_goals try (
    refine VCall.intro (VC.give (args':=[ints [a,b]]) (loc':=[.dead]) [(0,[a,b].flatMap Vm.encI)] [] (OutOk.lift _) zb zf (by exact FmAll.nil) rfl zw (cL _)) ?_
    conv=>whnf
    repeat' (first|((first|refine zs1 ?_|refine zs2 ?_|refine zs3 ?_|refine zs4 ?_|refine zs5 ?_|refine zs6 [] ?_);conv=>whnf)|((first|apply zi1|apply zi2|apply zi3|apply zi4|apply zi5) <;> intro _ <;> conv=>whnf)))
  all_goals first
    | (rw [if_pos (by omega)] at hE;rw [hE];exact VOut.same rfl)
    | (rw [if_neg (by omega),if_pos (by omega)] at hE;rw [hE];exact VOut.same rfl)
    | (rw [hl (by omega),if_pos (by omega)];exact VOut.same rfl)
    | (rw [hl (by omega),if_neg (by omega)];exact VOut.same rfl)
end Go.Proofs.YtkbbfeljlepgoaaGreat

open Go.Vm
open Riv
namespace Go.Proofs.YtkbbfeljlepgoaaGreat
set_option maxRecDepth 20000
set_option maxHeartbeats 4000000

theorem vc_through (m : Mp) (s x : Int) (k : Nat) (h : Hp) (hk : m.c[k]? = some x) : VC Tryz.prog 78 [vSd m s,I k] h (B (decide (x = 0 ∨ x = s))) h:=by
  refine VC.body Tryz.func78 rfl Tryz.ntmps78 Tryz.call78 (h.grows_refl) rfl ?_;conv=>whnf
  repeat' (first|((first|refine zs1 ?_|refine zs2 ?_|refine zs3 ?_|refine zs4 ?_|refine zs5 ?_|refine zs6 [] ?_);conv=>whnf)|((first|apply zi1|apply zi2|apply zi3|apply zi4|apply zi5) <;> intro _ <;> conv=>whnf)|(refine VAny.ix encI_len k rfl rfl hk ?_;conv=>whnf))
  all_goals (refine VOut.same ?_;simp [V.ren];try omega)
  all_goals (rename_i hx;rw [Bool.eq_iff_iff];simp [hx])
end Go.Proofs.YtkbbfeljlepgoaaGreat

open Go.Vm
open Riv
namespace Go.Proofs.YtkbbfeljlepgoaaGreat
set_option maxRecDepth 20000
set_option maxHeartbeats 4000000

theorem vc_rnext (m : Mp) (W a b : Nat) (h : Hp) (hW : 2 ≤ W) (hm : m.w = W) (ha : a ≤ 4000000) (hb : b ≤ 4000000) (hW2 : W ≤ 4000000) : VC Tryz.prog 105 [vM m,I a,I b] h (B (decide (Nb W a b))) h:=by
  obtain ⟨E,hE⟩ : ∃ E,E = decide (Nb W a b):=⟨_,rfl⟩
  rw [← hE]
  have k1 : E = true ↔ (a % W = b % W ∧ (a / W = b / W + 1 ∨ b / W = a / W + 1)) ∨ (a / W = b / W ∧ (a % W = b % W + 1 ∨ b % W = a % W + 1)):=by
    rw [hE,decide_eq_true_eq,nb_ref hW]
  have e1 : (a : Int).tmod (W : Int) = ((a % W : Nat) : Int):=Int.ofNat_tmod a W
  have e2 : (b : Int).tmod (W : Int) = ((b % W : Nat) : Int):=Int.ofNat_tmod b W
  have e3 : (a : Int).tdiv (W : Int) = ((a / W : Nat) : Int):=Int.ofNat_tdiv a W
  have e4 : (b : Int).tdiv (W : Int) = ((b / W : Nat) : Int):=Int.ofNat_tdiv b W
  have d1:=Nat.div_le_self a W
  have d2:=Nat.div_le_self b W
  have d3:=Nat.mod_le a W
  have d4:=Nat.mod_le b W
  generalize a % W = p at *
  generalize b % W = q at *
  generalize a / W = r at *
  generalize b / W = t at *
  have w3 : IntKind.i64.wrap ((a : Int).tdiv (W : Int)) = (r : Int):=by rw [e3];unfold IntKind.wrap;simp [IntKind.bits,IntKind.signed];omega
  have w4 : IntKind.i64.wrap ((b : Int).tdiv (W : Int)) = (t : Int):=by rw [e4];unfold IntKind.wrap;simp [IntKind.bits,IntKind.signed];omega
  obtain ⟨mw,mh,mc⟩:=m
  dsimp only at hm
  subst hm
  refine VC.body Tryz.func105 rfl Tryz.ntmps105 Tryz.call105 (h.grows_refl) rfl ?_;conv=>whnf
  repeat' (first|((first|refine zs1 ?_|refine zs2 ?_|refine zs3 ?_|refine zs4 ?_|refine zs5 ?_|refine zs6 [] ?_);conv=>whnf)|((first|apply zi1|apply zi2|apply zi3|apply zi4|apply zi5) <;> intro _ <;> conv=>whnf)|(rw [w4];refine VArith.ok (by omega) ?_;conv=>whnf)|(rw [w3];refine VArith.ok (by omega) ?_;conv=>whnf))
  all_goals (
    refine VOut.same ?_
    dsimp only at *
    show V.s (S.bool _) = V.s (S.bool E)
    congr 2
    rw [Bool.eq_iff_iff,k1]
    generalize IntKind.i64.wrap ((a : Int).tdiv (W : Int)) = A at *
    generalize IntKind.i64.wrap ((b : Int).tdiv (W : Int)) = B at *
    generalize (a : Int).tmod (W : Int) = C at *
    generalize (b : Int).tmod (W : Int) = D at *
    simp
    omega)
end Go.Proofs.YtkbbfeljlepgoaaGreat

open Go.Vm
open Riv
namespace Go.Proofs.YtkbbfeljlepgoaaGreat
set_option maxRecDepth 20000
set_option maxHeartbeats 4000000

def fidx {α : Type} (q : α → Bool) : List α → Int → Int
  | [],_=>-1
  | a :: l,i=>bif q a then i else fidx q l (i + 1)
theorem fidx_at {α : Type} {q : α → Bool} {l : List α} {k : Nat} {a : α} {i : Int} (h : l[k]? = some a) : fidx q (l.drop k) i = bif q a then i else fidx q (l.drop (k + 1)) (i + 1):=by
  obtain ⟨hlt,rfl⟩:=List.getElem?_eq_some_iff.1 h
  rw [List.drop_eq_getElem_cons hlt,fidx]
theorem fidx_nn {α : Type} {q : α → Bool} : ∀ (l : List α) (i : Int),0 ≤ i → (0 ≤ fidx q l i ↔ l.any q = true)
  | [],i,_=>by simp [fidx]
  | a :: l,i,hi=>by
    rw [fidx,List.any_cons]
    cases q a
    · rw [cond_false,Bool.false_or];exact fidx_nn l (i + 1) (by omega)
    · rw [cond_true,Bool.true_or];simp [hi]
theorem vc_IndexFI (l : List Int) (q : Int → Bool) (g : FuncId) (hl : l.length ≤ 4000000) (hso : ∀ (e : Int) (h : Hp),VC Tryz.prog g [I e] h (B (q e)) h) (h : Hp) :
    VC Tryz.prog 107 [ints l,.func (.func g) [] []] h (I (fidx q l 0)) h:=by
  obtain ⟨E,hE⟩ : ∃ E,E = fidx q l 0:=⟨_,rfl⟩
  rw [← hE]
  refine VC.body Tryz.func107 rfl Tryz.ntmps107 Tryz.call107 (h.grows_refl) rfl ?_;conv=>whnf
  repeat (first|((first|refine zs1 ?_|refine zs2 ?_|refine zs3 ?_|refine zs4 ?_|refine zs5 ?_|refine zs6 [] ?_);conv=>whnf))
  refine VCode.lp (fun k : Nat=>[(0,ints l),(1,.func (.func g) [] []),(7,I l.length),(8,I k)]) (fun _=>[]) (fun k=>k ≤ l.length ∧ E = fidx q (l.drop k) k) (fun k=>l.length - k) 0 ⟨Nat.zero_le _,hE⟩ ?_ ?_
  · conv=>whnf
    refine Retell.turn ⟨[],0,[],[]⟩ (TurnOk.mk' _ _ [] [] (OutOk.lift _) rfl (by decide) zb trivial trivial rfl) zw zm
  · rintro k ⟨h1,h2⟩
    conv=>whnf
    refine VIte.dec (fun h3=>?_) (fun h3=>?_)
    · have ha : l[k]? = some l[k]:=List.getElem?_eq_getElem (by omega)
      have hm:=hso l[k]
      generalize l[k] = a at ha hm
      rw [fidx_at ha] at h2
      conv=>whnf
      repeat' (first|((first|refine zs1 ?_|refine zs2 ?_|refine zs3 ?_|refine zs4 ?_|refine zs5 ?_|refine zs6 [] ?_);conv=>whnf)|((first|apply zi1|apply zi2|apply zi3|apply zi4|apply zi5) <;> intro _ <;> conv=>whnf)|(refine VAny.ix encI_len k (by omega) rfl ha ?_;conv=>whnf))
      refine VCall.intro (hm _) ?_
      conv=>whnf
      cases hq : q a
      · rw [hq] at h2
        conv=>whnf
        repeat (first|((first|refine zs1 ?_|refine zs2 ?_|refine zs3 ?_|refine zs4 ?_|refine zs5 ?_|refine zs6 [] ?_);conv=>whnf))
        refine LEnd.intro (k + 1) ⟨by omega,h2⟩ (by omega) ?_
        conv=>whnf
        refine Retell.turn ⟨[],0,[],[]⟩ (TurnOk.mk' _ _ [] [] (OutOk.lift _) rfl (by decide) zb trivial trivial rfl) zw zm
      · rw [hq] at h2
        rw [h2]
        conv=>whnf
        repeat (first|((first|refine zs1 ?_|refine zs2 ?_|refine zs3 ?_|refine zs4 ?_|refine zs5 ?_|refine zs6 [] ?_);conv=>whnf))
        exact VOut.same rfl
    · rw [List.drop_of_length_le (by omega),fidx] at h2
      rw [h2]
      conv=>whnf
      repeat (first|((first|refine zs1 ?_|refine zs2 ?_|refine zs3 ?_|refine zs4 ?_|refine zs5 ?_|refine zs6 [] ?_);conv=>whnf))
      exact VOut.same rfl
theorem vc_ContFI (l : List Int) (q : Int → Bool) (g : FuncId) (hl : l.length ≤ 4000000) (hso : ∀ (e : Int) (h : Hp),VC Tryz.prog g [I e] h (B (q e)) h) (h : Hp) :
    VC Tryz.prog 72 [ints l,.func (.func g) [] []] h (B (l.any q)) h:=by
  have e:=fidx_nn (q:=q) l 0 (Int.le_refl _)
  have c:=fun h=>vc_IndexFI l q g hl hso h
  generalize fidx q l 0 = E at e c
  refine VC.body Tryz.func72 rfl Tryz.ntmps72 Tryz.call72 (h.grows_refl) rfl ?_;conv=>whnf
  repeat' (first|((first|refine zs1 ?_|refine zs2 ?_|refine zs3 ?_|refine zs4 ?_|refine zs5 ?_|refine zs6 [] ?_);conv=>whnf)|((first|apply zi1|apply zi2|apply zi3|apply zi4|apply zi5) <;> intro _ <;> conv=>whnf)|(refine VCall.intro (c _) ?_;conv=>whnf))
  refine VOut.same ?_
  show B (decide (0 ≤ E)) = _
  congr 1
  rw [Bool.eq_iff_iff,decide_eq_true_eq]
  exact e
theorem vc_Check1 (x : Int) (h : Hp) : VC Tryz.prog 73 [I x] h (B (!decide (0 ≤ x ∧ x ≤ 3))) h:=by
  refine VC.body Tryz.func73 rfl Tryz.ntmps73 Tryz.call73 (h.grows_refl) rfl ?_;conv=>whnf
  repeat' (first|((first|refine zs1 ?_|refine zs2 ?_|refine zs3 ?_|refine zs4 ?_|refine zs5 ?_|refine zs6 [] ?_);conv=>whnf)|((first|apply zi1|apply zi2|apply zi3|apply zi4|apply zi5) <;> intro _ <;> conv=>whnf)|(refine VCall.intro (vc_from _ _ _ _) ?_;conv=>whnf))
  exact VOut.same rfl
theorem any_kind (c : List Int) : (c.any fun x=>!decide (0 ≤ x ∧ x ≤ 3)) = !kindB c:=by
  unfold kindB
  rw [List.all_eq_not_any_not,Bool.not_not]
/-! ### The rows of a map -/
def vChunk (c : List Int) (W : Nat) : V:=.func (.func 108) [] [.fp [dints c],.fp [DI W]]
theorem vc_Chunk (c : List Int) (W : Nat) (h : Hp) (hW : 1 ≤ W) : VC Tryz.prog 74 [ints c,I W] h (vChunk c W) h:=by
  refine VC.body Tryz.func74 rfl Tryz.ntmps74 Tryz.call74 (h.grows_refl) rfl ?_;conv=>whnf
  repeat' (first|((first|refine zs1 ?_|refine zs2 ?_|refine zs3 ?_|refine zs4 ?_|refine zs5 ?_|refine zs6 [] ?_);conv=>whnf)|((first|apply zi1|apply zi2|apply zi3|apply zi4|apply zi5) <;> intro _ <;> conv=>whnf))
  · exfalso;omega
  · refine VOut.data 2 [(0,[dints c]),(1,[DI W])] [] rfl zf (by exact FmAll.nil) zw
def rowL (c : List Int) (W y : Nat) : List Int:=(c.drop (y * W)).take W
theorem rowL_at {c : List Int} {W y k : Nat} (hk : k < W) (hc : y * W + k < c.length) : (rowL c W y)[k]? = some (at0 c (y * W + k)):=by
  unfold rowL at0
  rw [List.getElem?_take,if_pos hk,List.getElem?_drop,List.getD_eq_getElem?_getD,List.getElem?_eq_getElem hc];rfl
theorem rowL_len {c : List Int} {W H y : Nat} (hL : c.length = W * H) (hy : y < H) : (rowL c W y).length = W:=by
  have h1 : (y + 1) * W ≤ H * W:=Nat.mul_le_mul_right _ hy
  rw [Nat.add_mul,Nat.one_mul,Nat.mul_comm H] at h1
  unfold rowL
  rw [List.length_take,List.length_drop];omega
theorem iter_Chunk (c : List Int) (W H : Nat) (hW : 1 ≤ W ∧ W ≤ 100000) (hL : c.length = W * H) (hc : c.length ≤ 4000000) : IterN Tryz.prog 108 [] [.fp [dints c],.fp [DI W]] H (fun y=>some [ints (rowL c W y)]):=by
  intro h i J E hs h0
  obtain ⟨S,g,g0,hS,g1,g2⟩:=iterN_seq (ys:=fun y=>some [ints (rowL c W y)]) H hs h0
  have hgr : ∀ j,j ≤ S → h.grows (g j):=by
    intro j
    induction j with
    | zero=>intro _;rw [g0];exact h.grows_refl
    | succ j ih =>
      intro hj
      rcases g1 j (by omega) with ⟨e,_⟩|⟨vs,_,hv⟩
      · cases e
      · exact fun k hk=>hv.1 k (ih (by omega) k hk)
  have hrow : ∀ y,y < H → (rowL c W y).length = W:=fun y hy=>rowL_len hL hy
  have hle : ∀ y,y ≤ H → y * W ≤ c.length:=fun y hy=>by
    have h1 : y * W ≤ H * W:=Nat.mul_le_mul_right _ hy
    rw [Nat.mul_comm H] at h1;omega
  have hlt : ∀ y,y < H → y * W + W ≤ c.length:=fun y hy=>by
    have h1 : (y + 1) * W ≤ H * W:=Nat.mul_le_mul_right _ hy
    rw [Nat.add_mul,Nat.one_mul,Nat.mul_comm H] at h1;omega
  have hsub : ∀ y,rowL c W y = (c.drop (y * W)).take W:=fun _=>rfl
  have hX : ∀ A : Nat,A ≤ c.length → (((c.drop (A : Int).toNat).take ((c.length : Int) - (A : Int)).toNat).length) = c.length - A:=fun A hA=>by rw [List.length_take,List.length_drop];omega
  have hR : ∀ (A : Nat) (X : Nat),A + W ≤ c.length → X = c.length - A → (c.drop (A : Int).toNat).take ((A : Int) + min (W : Int) (X : Int) - (A : Int)).toNat = (c.drop A).take W:=fun A X hA hx=>by
    rw [Int.toNat_natCast,show ((A : Int) + min (W : Int) (X : Int) - (A : Int)).toNat = W by omega]
  rcases g2 with ⟨hSm,hI⟩|⟨hSm,vs,gE,e1,e2,e3⟩
  · refine ⟨g H,?_,.inl hI⟩
    refine VC.body Tryz.func108 rfl Tryz.ntmps108 Tryz.call108 (hgr _ (by omega)) rfl ?_
    conv=>whnf
    repeat' (first|((first|refine zs1 ?_|refine zs2 ?_|refine zs3 ?_|refine zs4 ?_|refine zs5 ?_|refine zs6 [] ?_);conv=>whnf)|((first|apply zi1|apply zi2|apply zi3|apply zi4|apply zi5) <;> intro _ <;> conv=>whnf))
    refine VCode.lpo (fun y : Nat=>[(0,.yld (.out i)),(1,.fp [dints c]),(2,.fp [DI W]),(4,I (y * W : Nat))]) (fun y=>(g y).lift) (fun _=>[]) (fun y=>y ≤ H) (fun y=>H - y) 0 (Nat.zero_le _) (by rw [g0]) ?_ ?_
    · rw [Nat.zero_mul]
      conv=>whnf
      refine Retell.turn ⟨[],0,[],[]⟩ (TurnOk.mk' _ _ [] [] (OutOk.lift _) rfl (by decide) zb trivial trivial rfl) zw zm
    · rintro y hy
      have hs1 : y < H → ((y + 1) * W : Nat) = y * W + W:=fun _=>by rw [Nat.add_mul,Nat.one_mul]
      have hy1:=hle y hy
      have hy2:=hlt y
      have hy3:=hsub y
      have hst:=g1 y
      obtain ⟨A,hA⟩ : ∃ A,A = y * W:=⟨_,rfl⟩
      rw [← hA] at hs1 hy1 hy2 hy3 ⊢
      have hend : ¬ y < H → A = c.length:=fun hh=>by
        obtain rfl : y = H:=by omega
        rw [hA,hL,Nat.mul_comm]
      conv=>whnf
      repeat (first|((first|refine zs1 ?_|refine zs2 ?_|refine zs3 ?_|refine zs4 ?_|refine zs5 ?_|refine zs6 [] ?_);conv=>whnf))
      refine VIte.dec (fun h3=>?_) (fun h3=>?_)
      · have hyH : y < H:=Decidable.byContradiction fun hh=>by have:=hend hh;omega
        rcases hst (by omega) with ⟨e,_⟩|⟨vs,e,hv⟩
        · cases e
        · cases e
          have hs2:=hs1 hyH
          have hy5:=hy2 hyH
          have e7:=hX A hy1
          have e8:=hR A _ hy5 e7
          rw [← hy3] at e8
          generalize rowL c W y = R at hv hy3 e8
          conv=>whnf
          repeat' (first|((first|refine zs1 ?_|refine zs2 ?_|refine zs3 ?_|refine zs4 ?_|refine zs5 ?_|refine zs6 [] ?_);conv=>whnf)|((first|apply zi1|apply zi2|apply zi3|apply zi4|apply zi5) <;> intro _ <;> conv=>whnf)|(refine VAny.sub encI_len rfl (by omega) ?_;conv=>whnf)|(refine VAny.subM encI_len rfl rfl (by omega) ?_;conv=>whnf))
          rw [e8]
          refine VYield.intro (VY.lift _ hv) ?_
          conv=>whnf
          repeat' (first|((first|refine zs1 ?_|refine zs2 ?_|refine zs3 ?_|refine zs4 ?_|refine zs5 ?_|refine zs6 [] ?_);conv=>whnf)|((first|apply zi1|apply zi2|apply zi3|apply zi4|apply zi5) <;> intro _ <;> conv=>whnf)|(refine VAny.sub encI_len rfl (by omega) ?_;conv=>whnf)|(refine VAny.subM encI_len rfl rfl (by omega) ?_;conv=>whnf))
          refine LEndO.intro (y + 1) (by omega) (by omega) rfl ?_
          rw [hs2]
          conv=>whnf
          refine Retell.turn ⟨[],0,[],[]⟩ (TurnOk.mk' _ _ [] [] (OutOk.lift _) rfl (by decide) zb trivial trivial rfl) zw zm
      · have hyH : y = H:=by
          refine Decidable.byContradiction fun hh=>?_
          have:=hy2 (by omega)
          omega
        subst hyH
        conv=>whnf
        exact VOut.lifted (r:=.tuple []) (hgr _ (by omega))
  · refine ⟨gE,?_,.inr e3⟩
    have hgE : h.grows gE:=fun k hk=>e2.1 k (hgr S (Nat.le_refl _) k hk)
    refine VC.body Tryz.func108 rfl Tryz.ntmps108 Tryz.call108 hgE rfl ?_
    conv=>whnf
    repeat' (first|((first|refine zs1 ?_|refine zs2 ?_|refine zs3 ?_|refine zs4 ?_|refine zs5 ?_|refine zs6 [] ?_);conv=>whnf)|((first|apply zi1|apply zi2|apply zi3|apply zi4|apply zi5) <;> intro _ <;> conv=>whnf))
    refine VCode.lpo (fun y : Nat=>[(0,.yld (.out i)),(1,.fp [dints c]),(2,.fp [DI W]),(4,I (y * W : Nat))]) (fun y=>(g y).lift) (fun _=>[]) (fun y=>y ≤ S) (fun y=>S - y) 0 (Nat.zero_le _) (by rw [g0]) ?_ ?_
    · rw [Nat.zero_mul]
      conv=>whnf
      refine Retell.turn ⟨[],0,[],[]⟩ (TurnOk.mk' _ _ [] [] (OutOk.lift _) rfl (by decide) zb trivial trivial rfl) zw zm
    · rintro y hy
      have hs2 : ((y + 1) * W : Nat) = y * W + W:=by rw [Nat.add_mul,Nat.one_mul]
      have hy1:=hle y (by omega)
      have hy5:=hlt y (by omega)
      have hy3:=hsub y
      have hst:=g1 y
      obtain ⟨A,hA⟩ : ∃ A,A = y * W:=⟨_,rfl⟩
      rw [← hA] at hs2 hy1 hy5 hy3 ⊢
      have e7:=hX A hy1
      have e8:=hR A _ hy5 e7
      rw [← hy3] at e8
      rcases Nat.eq_or_lt_of_le hy with hkS|hkS
      · subst hkS
        cases e1
        generalize rowL c W y = R at e2 hy3 e8
        conv=>whnf
        repeat' (first|((first|refine zs1 ?_|refine zs2 ?_|refine zs3 ?_|refine zs4 ?_|refine zs5 ?_|refine zs6 [] ?_);conv=>whnf)|((first|apply zi1|apply zi2|apply zi3|apply zi4|apply zi5) <;> intro _ <;> conv=>whnf)|(refine VAny.sub encI_len rfl (by omega) ?_;conv=>whnf)|(refine VAny.subM encI_len rfl rfl (by omega) ?_;conv=>whnf))
        · rw [e8]
          refine VYield.intro (VY.lift _ e2) ?_
          conv=>whnf
          repeat' (first|((first|refine zs1 ?_|refine zs2 ?_|refine zs3 ?_|refine zs4 ?_|refine zs5 ?_|refine zs6 [] ?_);conv=>whnf)|((first|apply zi1|apply zi2|apply zi3|apply zi4|apply zi5) <;> intro _ <;> conv=>whnf)|(refine VAny.sub encI_len rfl (by omega) ?_;conv=>whnf)|(refine VAny.subM encI_len rfl rfl (by omega) ?_;conv=>whnf))
          exact VOut.lifted (r:=.tuple []) hgE
        · exfalso;omega
      · rcases hst hkS with ⟨e,_⟩|⟨vs,e,hv⟩
        · cases e
        · cases e
          generalize rowL c W y = R at hv hy3 e8
          conv=>whnf
          repeat' (first|((first|refine zs1 ?_|refine zs2 ?_|refine zs3 ?_|refine zs4 ?_|refine zs5 ?_|refine zs6 [] ?_);conv=>whnf)|((first|apply zi1|apply zi2|apply zi3|apply zi4|apply zi5) <;> intro _ <;> conv=>whnf)|(refine VAny.sub encI_len rfl (by omega) ?_;conv=>whnf)|(refine VAny.subM encI_len rfl rfl (by omega) ?_;conv=>whnf))
          · rw [e8]
            refine VYield.intro (VY.lift _ hv) ?_
            conv=>whnf
            repeat' (first|((first|refine zs1 ?_|refine zs2 ?_|refine zs3 ?_|refine zs4 ?_|refine zs5 ?_|refine zs6 [] ?_);conv=>whnf)|((first|apply zi1|apply zi2|apply zi3|apply zi4|apply zi5) <;> intro _ <;> conv=>whnf)|(refine VAny.sub encI_len rfl (by omega) ?_;conv=>whnf)|(refine VAny.subM encI_len rfl rfl (by omega) ?_;conv=>whnf))
            refine LEndO.intro (y + 1) (by omega) (by omega) rfl ?_
            rw [hs2]
            conv=>whnf
            refine Retell.turn ⟨[],0,[],[]⟩ (TurnOk.mk' _ _ [] [] (OutOk.lift _) rfl (by decide) zb trivial trivial rfl) zw zm
          · exfalso;omega
end Go.Proofs.YtkbbfeljlepgoaaGreat

open Go.Vm
open Riv
namespace Go.Proofs.YtkbbfeljlepgoaaGreat
set_option maxRecDepth 20000
set_option maxHeartbeats 4000000

/-! ### The neighbours of a cell, handed on one by one -/
def vBes (m : Mp) (n : Nat) : V:=.func (.func 110) [] [.fp [DI n],.fp (encM m)]
theorem vc_beside (m : Mp) (n : Nat) (h : Hp) : VC Tryz.prog 77 [vM m,I n] h (vBes m n) h:=by
  refine VC.body Tryz.func77 rfl Tryz.ntmps77 Tryz.call77 (h.grows_refl) rfl ?_;conv=>whnf
  repeat' (first|((first|refine zs1 ?_|refine zs2 ?_|refine zs3 ?_|refine zs4 ?_|refine zs5 ?_|refine zs6 [] ?_);conv=>whnf)|((first|apply zi1|apply zi2|apply zi3|apply zi4|apply zi5) <;> intro _ <;> conv=>whnf))
  refine VOut.data 2 [(0,encM m),(1,[DI n])] [] rfl zf (by exact FmAll.nil) zw
def nbO (W L n : Nat) : Nat → Option Nat
  | 0=>if n < W then none else some (n - W)
  | 1=>if n % W = 0 then none else some (n - 1)
  | 2=>if n % W = W - 1 then none else some (n + 1)
  | 3=>if L ≤ n + W then none else some (n + W)
  | _=>none
def nbY (W L n k : Nat) : Option (List V):=(nbO W L n k).map fun q : Nat=>[I q]
theorem fm4 (a b c d : Prop) [Decidable a] [Decidable b] [Decidable c] [Decidable d] (x y z t : Nat) : [(if a then none else some x),(if b then none else some y),(if c then none else some z),(if d then none else some t)].filterMap id = (if a then [] else [x]) ++ (if b then [] else [y]) ++ (if c then [] else [z]) ++ (if d then [] else [t]):=by
  by_cases h1 : a <;> by_cases h2 : b <;> by_cases h3 : c <;> by_cases h4 : d <;> simp [h1,h2,h3,h4]
theorem nbO_list (W L n : Nat) : (List.range 4).filterMap (nbO W L n) = nbs W L n:=by
  have h:=fm4 (n < W) (n % W = 0) (n % W = W - 1) (L ≤ n + W) (n - W) (n - 1) (n + 1) (n + W)
  unfold nbs
  rw [← h,show List.range 4 = [0,1,2,3] from rfl]
  rfl
theorem nbO_mem {W L n k q : Nat} (hk : k < 4) (h : nbO W L n k = some q) : q ∈ nbs W L n:=by
  rw [← nbO_list]
  exact List.mem_filterMap.2 ⟨k,List.mem_range.2 hk,h⟩
theorem nbY_some {W L n k : Nat} {vs : List V} (h : nbY W L n k = some vs) : ∃ q,nbO W L n k = some q ∧ vs = [I q]:=by
  unfold nbY at h
  cases hq : nbO W L n k with
  | none=>rw [hq] at h;cases h
  | some q=>rw [hq] at h;cases h;exact ⟨q,rfl,rfl⟩
theorem nbY_none {W L n k : Nat} (h : nbY W L n k = none) : nbO W L n k = none:=by
  unfold nbY at h
  cases hq : nbO W L n k with
  | none=>rfl
  | some q=>rw [hq] at h;cases h
def nbF {α : Type} (f : α → Nat → α) (W L n : Nat) (x : α) (k : Nat) : α:=(((List.range k).filterMap (nbO W L n))).foldl f x
theorem nbF_zero {α : Type} (f : α → Nat → α) (W L n : Nat) (x : α) : nbF f W L n x 0 = x:=rfl
theorem nbF_all {α : Type} (f : α → Nat → α) (W L n : Nat) (x : α) : nbF f W L n x 4 = (nbs W L n).foldl f x:=by unfold nbF;rw [nbO_list]
theorem nbF_none {α : Type} {f : α → Nat → α} {W L n : Nat} {x : α} {k : Nat} (h : nbO W L n k = none) : nbF f W L n x (k + 1) = nbF f W L n x k:=by
  unfold nbF
  rw [List.range_succ,List.filterMap_append]
  simp [h]
theorem nbF_some {α : Type} {f : α → Nat → α} {W L n q : Nat} {x : α} {k : Nat} (h : nbO W L n k = some q) : nbF f W L n x (k + 1) = f (nbF f W L n x k) q:=by
  unfold nbF
  rw [List.range_succ,List.filterMap_append,List.foldl_append]
  simp [h]
theorem iter_beside (m : Mp) (W n : Nat) (hW : 2 ≤ W ∧ W ≤ 100000) (hm : m.w = W) (hn : n < m.c.length) (hc : m.c.length ≤ 4000000) : IterS Tryz.prog 110 [] [.fp [DI n],.fp (encM m)] 4 (nbY W m.c.length n):=by
  intro h i J hs h0
  obtain ⟨g,g0,g1,hI⟩:=iterS_seq (ys:=nbY W m.c.length n) hs h0
  have hgr : ∀ j,j ≤ 4 → h.grows (g j):=by
    intro j
    induction j with
    | zero=>intro _;rw [g0];exact h.grows_refl
    | succ j ih =>
      intro hj
      rcases g1 j (by omega) with ⟨_,e⟩|⟨vs,_,hv⟩
      · rw [e];exact ih (by omega)
      · exact fun k hk=>hv.1 k (ih (by omega) k hk)
  have gA:=g1 0 (by omega)
  have gB:=g1 1 (by omega)
  have gC:=g1 2 (by omega)
  have gD:=g1 3 (by omega)
  have hend:=hgr 4 (by omega)
  refine ⟨g 4,?_,hI⟩
  clear hI hgr g1 hs h0
  generalize g 4 = h4 at *
  generalize g 3 = h3 at *
  generalize g 2 = h2 at *
  generalize g 1 = h1 at *
  obtain rfl : h = g 0:=g0.symm
  generalize g 0 = h0 at *
  clear g0
  have e1 : (n : Int).tmod (W : Int) = ((n % W : Nat) : Int):=Int.ofNat_tmod n W
  have hr:=Nat.mod_lt n (show 0 < W by omega)
  simp only [nbY,nbO] at gA gB gC gD
  obtain ⟨mw,mh,mc⟩:=m
  dsimp only at hm hn hc gA gB gC gD
  subst hm
  rw [show encM ⟨(W : Int),mh,mc⟩ = [DI W,DI mh,.sl 1 mc.length (mc.flatMap encI)] from rfl]
  have key : ∀ {c : Prop} [Decidable c] {q : Nat} {a b : Hp},(((if c then none else some q : Option Nat).map fun q : Nat=>[I q]) = none ∧ b = a ∨ ∃ vs,((if c then none else some q : Option Nat).map fun q : Nat=>[I q]) = some vs ∧ VY Tryz.prog i vs a (.s (.bool true)) b) → (c ∧ b = a) ∨ (¬ c ∧ VY Tryz.prog i [I q] a (.s (.bool true)) b):=by
    intro c _ q a b h
    by_cases hc : c
    · rw [if_pos hc] at h
      rcases h with ⟨_,h⟩|⟨vs,h,_⟩
      · exact .inl ⟨hc,h⟩
      · cases h
    · rw [if_neg hc] at h
      rcases h with ⟨h,_⟩|⟨vs,h,hv⟩
      · cases h
      · cases h;exact .inr ⟨hc,hv⟩
  have gA:=key gA
  have gB:=key gB
  have gC:=key gC
  have gD:=key gD
  clear key
  have qA : ¬ n < W → ((n - W : Nat) : Int) = (n : Int) - W:=fun h=>by omega
  have qB : ¬ n % W = 0 → ((n - 1 : Nat) : Int) = (n : Int) - 1:=fun h=>by
    have : n ≠ 0:=fun e=>h (by rw [e];exact Nat.zero_mod W)
    omega
  have qC : ((n + 1 : Nat) : Int) = (n : Int) + 1:=by omega
  have qD : ((n + W : Nat) : Int) = (n : Int) + W:=by omega
  rw [qC] at gC
  rw [qD] at gD
  generalize n % W = r at *
  rcases gA with ⟨a1,rfl⟩|⟨a1,yA⟩ <;> rcases gB with ⟨b1,rfl⟩|⟨b1,yB⟩ <;> rcases gC with ⟨c1,rfl⟩|⟨c1,yC⟩ <;> rcases gD with ⟨d1,rfl⟩|⟨d1,yD⟩
  all_goals (
    (try rw [qA a1] at yA)
    (try rw [qB b1] at yB)
    refine VC.body Tryz.func110 rfl Tryz.ntmps110 Tryz.call110 hend rfl ?_
    conv=>whnf)
  all_goals (
    refine zs6 [] ?_
    conv=>whnf
    repeat' (first|((first|refine zs1 ?_|refine zs2 ?_|refine zs3 ?_|refine zs4 ?_|refine zs5 ?_);conv=>whnf)|((first|apply zi1|apply zi2|apply zi3|apply zi4|apply zi5) <;> intro _ <;> first|(exfalso;omega)|contradiction|(conv=>whnf))|(refine VYield.intro (VY.lift _ yA) ?_;conv=>whnf)|(refine VYield.intro (VY.lift _ yB) ?_;conv=>whnf)|(refine VYield.intro (VY.lift _ yC) ?_;conv=>whnf)|(refine VYield.intro (VY.lift _ yD) ?_;conv=>whnf)))
  all_goals first
    | exact VOut.lifted (r:=.tuple []) hend
    | (exfalso;omega)
end Go.Proofs.YtkbbfeljlepgoaaGreat

open Go.Vm
open Riv
namespace Go.Proofs.YtkbbfeljlepgoaaGreat
set_option maxRecDepth 20000
set_option maxHeartbeats 4000000

theorem sz_mul {W H : Int} (hW : 0 ≤ W ∧ W ≤ 12) (hH : 0 ≤ H ∧ H ≤ 12) : 0 ≤ W * H ∧ W * H ≤ 144 :=
  ⟨Int.mul_nonneg hW.1 hH.1,by have:=Int.mul_le_mul hW.2 hH.2 hH.1 (show (0 : Int) ≤ 12 by decide);omega⟩
theorem outW_one {o : Vm.Id → Option Blk} {iy i0 : Vm.Id} {a c d : Blk} (n0 : i0 ≠ iy) : outW (outW (outW o iy c) i0 a) iy d = outW (outW o i0 a) iy d:=by
  funext k
  unfold outW
  by_cases e : k = iy
  · subst e;simp only [if_true]
  · simp only [if_neg e]
structure CJ (o : Vm.Id → Option Blk) (e : Int) (g : Hp) : Prop where
  o : g.outer = o
  b0 : g.get (.loc 0) = some (.flat true [DI e])
  b1 : g.get (.loc 1) = some .mark
theorem vc_check (m : Mp) (h : Hp) (hl : m.c.length ≤ 4000000) : VC Tryz.prog 31 [vM m] h (I (chkM m)) h:=by
  obtain ⟨E,hE⟩ : ∃ E,E = chkM m:=⟨_,rfl⟩
  rw [← hE]
  unfold chkM at hE
  have cC:=fun h=>vc_ContFI m.c (fun x=>!decide (0 ≤ x ∧ x ≤ 3)) 73 hl vc_Check1 h
  rw [any_kind] at cC
  obtain ⟨mw,mh,mc⟩:=m
  dsimp only at hE hl cC
  show VC Tryz.prog 31 [.agg [I mw,I mh,ints mc]] h (I E) h
  by_cases h0 : ((3 ≤ mw ∧ mw ≤ 12) ∧ 1 ≤ mh ∧ mh ≤ 12) ∧ (mc.length : Int) = mw * mh
  · have hm:=sz_mul (W:=mw) (H:=mh) (by omega) (by omega)
    rw [if_pos h0] at hE
    obtain ⟨⟨h1,h2⟩,h3⟩:=h0
    obtain ⟨W,rfl⟩ : ∃ W : Nat,mw = W:=⟨mw.toNat,by omega⟩
    obtain ⟨H,rfl⟩ : ∃ H : Nat,mh = H:=⟨mh.toNat,by omega⟩
    rw [Int.toNat_natCast,Int.toNat_natCast] at hE
    have hL : mc.length = W * H:=by
      have e : ((W * H : Nat) : Int) = (W : Int) * H:=by rw [Int.natCast_mul]
      omega
    have hit:=iter_Chunk mc W H (by omega) hL hl
    have hrl:=fun y hy=>rowL_len (W:=W) (y:=y) hL hy
    have hlt : ∀ y,y < H → y * W + W ≤ mc.length:=fun y hy=>by
      have h1 : (y + 1) * W ≤ H * W:=Nat.mul_le_mul_right _ hy
      rw [Nat.add_mul,Nat.one_mul,Nat.mul_comm H] at h1;omega
    have hr0 : ∀ y,y < H → (rowL mc W y)[0]? = some (at0 mc (y * W)):=fun y hy=>by
      have:=hlt y hy
      have:=rowL_at (c:=mc) (W:=W) (y:=y) (k:=0) (by omega) (by omega)
      rw [Nat.add_zero] at this;exact this
    have hr1 : ∀ y,y < H → (rowL mc W y)[W - 1]? = some (at0 mc (y * W + W - 1)):=fun y hy=>by
      have:=hlt y hy
      have:=rowL_at (c:=mc) (W:=W) (y:=y) (k:=W - 1) (by omega) (by omega)
      rw [show y * W + W - 1 = y * W + (W - 1) by omega];exact this
    have cK:=fun h=>vc_Chunk mc W h (by omega)
    clear hL
    cases hk : kindB mc
    · rw [hk] at hE cC
      rw [cond_false] at hE
      subst hE
      refine VC.body Tryz.func31 rfl Tryz.ntmps31 Tryz.call31 (h.grows_refl) rfl ?_;conv=>whnf
      repeat' (first|((first|refine zs1 ?_|refine zs2 ?_|refine zs3 ?_|refine zs4 ?_|refine zs5 ?_);conv=>whnf)|((first|apply zi1|apply zi2|apply zi3|apply zi4|apply zi5) <;> intro _ <;> first|(exfalso;omega)|contradiction|(conv=>whnf))|(refine VCall.intro (vc_from _ _ _ _) ?_;conv=>whnf)|(refine VCall.intro (cC _) ?_;conv=>whnf))
      all_goals first|exact VOut.same rfl|(exfalso;simp at *;omega)
    · rw [hk] at hE cC
      rw [cond_true] at hE
      refine VC.bodyC 3 Tryz.func31 rfl Tryz.ntmps31 Tryz.call31 (h.grows_refl) rfl ?_
      conv=>whnf
      repeat' (first|((first|refine zs1 ?_|refine zs2 ?_|refine zs3 ?_|refine zs4 ?_|refine zs5 ?_);conv=>whnf)|((first|apply zi1|apply zi2|apply zi3|apply zi4|apply zi5) <;> intro _ <;> first|(exfalso;omega)|contradiction|(conv=>whnf))|(refine VCall.intro (vc_from _ _ _ _) ?_;conv=>whnf)|(refine VCall.intro (cC _) ?_;conv=>whnf)|(refine VCall.intro (cK _) ?_;conv=>whnf))
      refine VCode.tell [(1,.fp [DI W,DI H,dints mc]),(3,.ptr (.loc 0) 0),(33,vChunk mc W)] [.flat true [DI 0]] (marks':=[]) ?_ ?_
      · conv=>whnf
        refine Retell.turn ⟨[1],2,[(0,[DI W,DI H,dints mc])],[]⟩ (TurnOk.mk' _ _ [(0,[DI W,DI H,dints mc])] [] (OutOk.lift _) rfl (by decide) zb zf trivial rfl) zw zm
      · conv=>whnf
        refine VCode.iterN H (fun y=>some [ints (rowL mc W y)]) (fun y g=>CJ h.lift 0 g ∧ ∀ z,z < y → sideB mc W z = true) (fun x g=>x = .exit 0 ∧ CJ h.lift 9 g ∧ ∃ z,z < H ∧ sideB mc W z = false) _ (.loc 2) rfl hit rfl rfl ⟨⟨rfl,rfl,rfl⟩,fun z hz=>by omega⟩ ?_ ?_ ?_ ?_
        · rintro y g hy hn _
          cases hn
        · rintro y g vs hy hvs ⟨⟨j0,j1,j2⟩,ha⟩ hlp
          cases hvs
          have hA:=hr0 y hy
          have hB:=hr1 y hy
          have hR:=hrl y hy
          have hS : sideB mc W y = decide (at0 mc (y * W) = 1 ∧ at0 mc (y * W + W - 1) = 2):=rfl
          generalize at0 mc (y * W) = a at hA hS
          generalize at0 mc (y * W + W - 1) = b at hB hS
          generalize rowL mc W y = R at hA hB hR
          by_cases hs : a = 1 ∧ b = 2
          · left
            refine ⟨g,VRound.vy' hlp rfl rfl rfl g.grows_refl fun l0=>?_,⟨⟨j0,j1,j2⟩,fun z hz=>?_⟩,hlp⟩
            · refine VRound.tell [(1,.fp [DI W,DI H,dints mc]),(3,.ptr (.out (.loc 0)) 0),(34,ints R)] ?_ ?_
              · conv=>whnf
                refine Retell.turn ⟨[],0,[],[]⟩ (TurnOk.mk' _ _ [] [] (OutOk.lift _) rfl (by decide) zb trivial trivial rfl) zw zm
              · conv=>whnf
                repeat (first|((first|refine zs1 ?_|refine zs2 ?_|refine zs3 ?_|refine zs4 ?_|refine zs5 ?_|refine zs6 [] ?_);conv=>whnf))
                refine VBegin.intro (get_out hlp _) rfl ?_
                conv=>whnf
                repeat' (first|((first|refine zs1 ?_|refine zs2 ?_|refine zs3 ?_|refine zs4 ?_|refine zs5 ?_);conv=>whnf)|((first|apply zi1|apply zi2|apply zi3|apply zi4|apply zi5) <;> intro _ <;> first|(exfalso;omega)|contradiction|(conv=>whnf))|(refine VAny.ix encI_len 0 (by omega) rfl hA ?_;conv=>whnf)|(refine VAny.ix encI_len (W - 1) (by omega) rfl hB ?_;conv=>whnf))
                exact RFin.on (outW_get _ _ _ _) (VOut.back (get_out hlp []) rfl)
            · rcases Nat.lt_or_ge z y with h5|h5
              · exact ha z h5
              · obtain rfl : z = y:=by omega
                rw [hS];exact decide_eq_true hs
          · have n0 : g.get (.loc 0) ≠ none:=by rw [j1];simp
            have n2 : (g.set (.loc 0) (.flat true [DI 9])).get (.loc 2) ≠ none:=by rw [Hp.get_set g _ _ _ n0,if_neg (by decide),hlp];simp
            refine Rnd.stop (.exit 0) rfl hlp (g.set (.loc 0) (.flat true [DI 9])) n2 ?_ ⟨rfl,⟨j0,?_,?_⟩,y,hy,by rw [hS];exact decide_eq_false hs⟩
            · refine VRound.vy' hlp rfl rfl rfl grows_set2 fun l0=>?_
              refine VRound.tell [(1,.fp [DI W,DI H,dints mc]),(3,.ptr (.out (.loc 0)) 0),(34,ints R)] ?_ ?_
              · conv=>whnf
                refine Retell.turn ⟨[],0,[],[]⟩ (TurnOk.mk' _ _ [] [] (OutOk.lift _) rfl (by decide) zb trivial trivial rfl) zw zm
              · conv=>whnf
                repeat (first|((first|refine zs1 ?_|refine zs2 ?_|refine zs3 ?_|refine zs4 ?_|refine zs5 ?_|refine zs6 [] ?_);conv=>whnf))
                refine VBegin.intro (get_out hlp _) rfl ?_
                conv=>whnf
                repeat' (first|((first|refine zs1 ?_|refine zs2 ?_|refine zs3 ?_|refine zs4 ?_|refine zs5 ?_);conv=>whnf)|((first|apply zi1|apply zi2|apply zi3|apply zi4|apply zi5) <;> intro _ <;> first|(exfalso;omega)|contradiction|(conv=>whnf))|(refine VAny.ix encI_len 0 (by omega) rfl hA ?_;conv=>whnf)|(refine VAny.ix encI_len (W - 1) (by omega) rfl hB ?_;conv=>whnf)|(refine VMem.st1 rfl rfl rfl (get_outNe (by decide) (get_out j1 _)) rfl ?_;conv=>whnf))
                all_goals (
                  refine RFin.off rfl (get_outNe (by decide) (outW_get _ _ _ _)) (VOut.liftS ?_ grows_set2)
                  rw [lift_set n2,lift_set n0]
                  exact outW_one (by decide))
            · rw [Hp.get_set _ _ _ _ n2,if_neg (by decide),Hp.get_set _ _ _ _ n0,if_pos rfl]
            · rw [Hp.get_set _ _ _ _ n2,if_neg (by decide),Hp.get_set _ _ _ _ n0,if_neg (by decide)];exact j2
        · rintro ⟨go,gl⟩ ⟨⟨j0,j1,j2⟩,ha⟩ hlp
          dsimp only at j0
          subst j0
          have j1 : gl[0]? = some _:=j1
          have j2 : gl[1]? = some _:=j2
          have l0:=(List.getElem?_eq_some_iff.1 j1).1
          have key : ∀ (x : Nat) (A : Blk),x ≠ 2 → (gl.set 2 A)[x]? = gl[x]?:=fun x A hx=>List.getElem?_set_ne (Ne.symm hx)
          have hE0 : E = 0:=by
            rw [hE]
            have : (List.range H).all (sideB mc W) = true:=by
              rw [List.all_eq_true]
              exact fun z hz=>ha z (List.mem_range.1 hz)
            rw [this];rfl
          subst hE0
          refine Told.mk [(3,.ptr (.loc 0) 0)] [.flat true [DI 0]] (marks':=[]) ?_ ?_
          · conv=>whnf
            refine Retell.turn ⟨[0],gl.length,[],[]⟩ (TurnOk.mk' _ _ [] [] (OutOk.lift _) (Nat.ble_eq_true_of_le (by simp)) (by simp) (BTos.flat (blt_of l0) ((key 0 _ (by decide)).trans j1) rfl BTos.nil) trivial trivial rfl) zw (MkTo.drop (show 1 ∉ ([0] : List Nat) by decide) ((key 1 _ (by decide)).trans j2) MkTo.nil)
          · conv=>whnf
            repeat' (first|((first|refine zs1 ?_|refine zs2 ?_|refine zs3 ?_|refine zs4 ?_|refine zs5 ?_|refine zs6 [] ?_);conv=>whnf)|((first|apply zi1|apply zi2|apply zi3|apply zi4|apply zi5) <;> intro _ <;> conv=>whnf))
            exact VOut.same rfl
        · rintro x ⟨go,gl⟩ _ ⟨rfl,⟨j0,j1,j2⟩,z,hz,hb⟩ hlp
          dsimp only at j0
          subst j0
          have j1 : gl[0]? = some _:=j1
          have j2 : gl[1]? = some _:=j2
          have l0:=(List.getElem?_eq_some_iff.1 j1).1
          have key : ∀ (x : Nat) (A : Blk),x ≠ 2 → (gl.set 2 A)[x]? = gl[x]?:=fun x A hx=>List.getElem?_set_ne (Ne.symm hx)
          have hE0 : E = 9:=by
            rw [hE]
            have : (List.range H).all (sideB mc W) = false:=by
              cases hx : (List.range H).all (sideB mc W) with
              | false=>rfl
              | true =>
                rw [List.all_eq_true] at hx
                rw [hx z (List.mem_range.2 hz)] at hb;cases hb
            rw [this];rfl
          subst hE0
          refine Told.mk [(3,.ptr (.loc 0) 0)] [.flat true [DI 9]] (marks':=[]) ?_ ?_
          · conv=>whnf
            refine Retell.turn ⟨[0],gl.length,[],[]⟩ (TurnOk.mk' _ _ [] [] (OutOk.lift _) (Nat.ble_eq_true_of_le (by simp)) (by simp) (BTos.flat (blt_of l0) ((key 0 _ (by decide)).trans j1) rfl BTos.nil) trivial trivial rfl) zw (MkTo.drop (show 1 ∉ ([0] : List Nat) by decide) ((key 1 _ (by decide)).trans j2) MkTo.nil)
          · conv=>whnf
            repeat' (first|((first|refine zs1 ?_|refine zs2 ?_|refine zs3 ?_|refine zs4 ?_|refine zs5 ?_|refine zs6 [] ?_);conv=>whnf)|((first|apply zi1|apply zi2|apply zi3|apply zi4|apply zi5) <;> intro _ <;> conv=>whnf))
            exact VOut.same rfl
  · rw [if_neg h0] at hE
    subst hE
    have hm : (0 ≤ mw ∧ mw ≤ 12) → (0 ≤ mh ∧ mh ≤ 12) → 0 ≤ mw * mh ∧ mw * mh ≤ 144:=sz_mul
    refine VC.body Tryz.func31 rfl Tryz.ntmps31 Tryz.call31 (h.grows_refl) rfl ?_;conv=>whnf
    repeat' (first|((first|refine zs1 ?_|refine zs2 ?_|refine zs3 ?_|refine zs4 ?_|refine zs5 ?_);conv=>whnf)|((first|apply zi1|apply zi2|apply zi3|apply zi4|apply zi5) <;> intro _ <;> first|(exfalso;omega)|contradiction|(conv=>whnf))|(refine VCall.intro (vc_from _ _ _ _) ?_;conv=>whnf)|(refine VCall.intro (cC _) ?_;conv=>whnf))
    all_goals first|exact VOut.same rfl|(exfalso;simp at *;omega)
end Go.Proofs.YtkbbfeljlepgoaaGreat

open Go.Vm
open Riv
namespace Go.Proofs.YtkbbfeljlepgoaaGreat
set_option maxRecDepth 20000
set_option maxHeartbeats 4000000

theorem vc_rcheck (m : Mp) (h : Hp) (hl : m.c.length ≤ 4000000) : VC Tryz.prog 51 [vM m] h (I (chkM m)) h:=by
  obtain ⟨E,hE⟩ : ∃ E,E = chkM m:=⟨_,rfl⟩
  rw [← hE]
  unfold chkM at hE
  obtain ⟨mw,mh,mc⟩:=m
  dsimp only at hE hl
  show VC Tryz.prog 51 [.agg [I mw,I mh,ints mc]] h (I E) h
  by_cases h0 : ((3 ≤ mw ∧ mw ≤ 12) ∧ 1 ≤ mh ∧ mh ≤ 12) ∧ (mc.length : Int) = mw * mh
  · have hm:=sz_mul (W:=mw) (H:=mh) (by omega) (by omega)
    rw [if_pos h0] at hE
    obtain ⟨⟨h1,h2⟩,h3⟩:=h0
    obtain ⟨W,rfl⟩ : ∃ W : Nat,mw = W:=⟨mw.toNat,by omega⟩
    obtain ⟨H,rfl⟩ : ∃ H : Nat,mh = H:=⟨mh.toNat,by omega⟩
    rw [Int.toNat_natCast,Int.toNat_natCast] at hE
    have hL : mc.length = W * H:=by
      have e : ((W * H : Nat) : Int) = (W : Int) * H:=by rw [Int.natCast_mul]
      omega
    have hlt : ∀ y,y < H → y * W + W ≤ mc.length:=fun y hy=>by
      have h1 : (y + 1) * W ≤ H * W:=Nat.mul_le_mul_right _ hy
      rw [Nat.add_mul,Nat.one_mul,Nat.mul_comm H] at h1;omega
    have hat : ∀ n,n < mc.length → mc[n]? = some (at0 mc n):=fun n hn=>by
      unfold at0;rw [List.getD_eq_getElem?_getD,List.getElem?_eq_getElem hn];rfl
    refine VC.bodyC 4 Tryz.func51 rfl Tryz.ntmps51 Tryz.call51 (h.grows_refl) rfl ?_
    conv=>whnf
    repeat' (first|((first|refine zs1 ?_|refine zs2 ?_|refine zs3 ?_|refine zs4 ?_|refine zs5 ?_);conv=>whnf)|((first|apply zi1|apply zi2|apply zi3|apply zi4|apply zi5) <;> intro _ <;> first|(exfalso;omega)|contradiction|(conv=>whnf)))
    all_goals try (exfalso;simp at *;omega)
    refine VCode.lpC (outer:=h.lift) (marks:=[]) 99 (fun k : Nat=>[(1,.fp [DI W,DI H,dints mc]),(3,I k)]) (fun _=>[]) (fun k=>k ≤ mc.length ∧ kindB mc = kindB (mc.drop k)) (fun k=>mc.length - k) 0 ⟨Nat.zero_le _,rfl⟩ ?_ ?_
    · conv=>whnf
      refine Retell.turn ⟨[],1,[(0,[DI W,DI H,dints mc])],[]⟩ (TurnOk.mk' _ _ [(0,[DI W,DI H,dints mc])] [] (OutOk.lift _) rfl (by decide) zb zf trivial rfl) zw zm
    · rintro k ⟨k1,k2⟩
      rcases Nat.lt_or_ge k mc.length with k3|k3
      · have hx:=hat k k3
        have hd : kindB (mc.drop k) = (decide (0 ≤ at0 mc k ∧ at0 mc k ≤ 3) && kindB (mc.drop (k + 1))):=by
          rw [List.getElem?_eq_getElem k3,Option.some.injEq] at hx
          rw [List.drop_eq_getElem_cons k3,hx];rfl
        generalize at0 mc k = x at hx hd
        by_cases hb : 0 ≤ x ∧ x ≤ 3
        · rw [decide_eq_true hb,Bool.true_and] at hd
          conv=>whnf
          repeat' (first|((first|refine zs1 ?_|refine zs2 ?_|refine zs3 ?_|refine zs4 ?_|refine zs5 ?_);conv=>whnf)|((first|apply zi1|apply zi2|apply zi3|apply zi4|apply zi5) <;> intro _ <;> first|(exfalso;omega)|contradiction|(conv=>whnf))|(refine VAny.ix encI_len k (by omega) rfl hx ?_;conv=>whnf)|(refine VCall.intro (vc_rbeside _ _ _ _) ?_;conv=>whnf))
          refine LEnd.intro (k + 1) ⟨by omega,by rw [k2,hd]⟩ (by omega) ?_
          conv=>whnf
          refine Retell.turn ⟨[],0,[],[]⟩ (TurnOk.mk' _ _ [] [] (OutOk.lift _) rfl (by decide) zb trivial trivial rfl) zw zm
        · rw [decide_eq_false hb,Bool.false_and] at hd
          rw [k2,hd,cond_false] at hE
          subst hE
          conv=>whnf
          repeat' (first|((first|refine zs1 ?_|refine zs2 ?_|refine zs3 ?_|refine zs4 ?_|refine zs5 ?_);conv=>whnf)|((first|apply zi1|apply zi2|apply zi3|apply zi4|apply zi5) <;> intro _ <;> first|(exfalso;omega)|contradiction|(conv=>whnf))|(refine VAny.ix encI_len k (by omega) rfl hx ?_;conv=>whnf)|(refine VCall.intro (vc_rbeside _ _ _ _) ?_;conv=>whnf))
          exact VOut.same rfl
      · rw [List.drop_of_length_le k3,show kindB [] = true from rfl] at k2
        rw [k2,cond_true] at hE
        conv=>whnf
        repeat' (first|((first|refine zs1 ?_|refine zs2 ?_|refine zs3 ?_|refine zs4 ?_|refine zs5 ?_);conv=>whnf)|((first|apply zi1|apply zi2|apply zi3|apply zi4|apply zi5) <;> intro _ <;> first|(exfalso;omega)|contradiction|(conv=>whnf)))
        refine VCode.lp (outer:=h.lift) (marks:=[]) (fun y : Nat=>[(1,.fp [DI W,DI H,dints mc]),(4,I y)]) (fun _=>[]) (fun y=>y ≤ H ∧ ∀ z,z < y → sideB mc W z = true) (fun y=>H - y) 0 ⟨Nat.zero_le _,fun z hz=>by omega⟩ ?_ ?_
        · conv=>whnf
          refine Retell.turn ⟨[],0,[],[]⟩ (TurnOk.mk' _ _ [] [] (OutOk.lift _) rfl (by decide) zb trivial trivial rfl) zw zm
        · rintro y ⟨y1,y2⟩
          rcases Nat.lt_or_ge y H with y3|y3
          · have hlty:=hlt y y3
            have hA:=hat (y * W) (by omega)
            have hB:=hat (y * W + W - 1) (by omega)
            have hS : sideB mc W y = decide (at0 mc (y * W) = 1 ∧ at0 mc (y * W + W - 1) = 2):=rfl
            have eP : (y : Int) * (W : Int) = ((y * W : Nat) : Int):=by rw [Int.natCast_mul]
            generalize at0 mc (y * W) = a at hA hS
            generalize at0 mc (y * W + W - 1) = b at hB hS
            by_cases hs : a = 1 ∧ b = 2
            · conv=>whnf
              repeat' (first|((first|refine zs1 ?_|refine zs2 ?_|refine zs3 ?_|refine zs4 ?_|refine zs5 ?_);conv=>whnf)|((first|apply zi1|apply zi2|apply zi3|apply zi4|apply zi5) <;> intro _ <;> first|(exfalso;omega)|contradiction|(conv=>whnf))|(refine VAny.ix encI_len (y * W) (by omega) rfl hA ?_;conv=>whnf)|(refine VAny.ix encI_len (y * W + W - 1) (by omega) rfl hB ?_;conv=>whnf))
              refine LEnd.intro (y + 1) ⟨by omega,fun z hz=>?_⟩ (by omega) ?_
              · rcases Nat.lt_or_ge z y with h5|h5
                · exact y2 z h5
                · obtain rfl : z = y:=by omega
                  rw [hS];exact decide_eq_true hs
              · conv=>whnf
                refine Retell.turn ⟨[],0,[],[]⟩ (TurnOk.mk' _ _ [] [] (OutOk.lift _) rfl (by decide) zb trivial trivial rfl) zw zm
            · have hE0 : E = 9:=by
                rw [hE]
                have : (List.range H).all (sideB mc W) = false:=by
                  cases hx : (List.range H).all (sideB mc W) with
                  | false=>rfl
                  | true =>
                    rw [List.all_eq_true] at hx
                    have:=hx y (List.mem_range.2 y3)
                    rw [hS,decide_eq_false hs] at this;cases this
                rw [this];rfl
              subst hE0
              conv=>whnf
              repeat' (first|((first|refine zs1 ?_|refine zs2 ?_|refine zs3 ?_|refine zs4 ?_|refine zs5 ?_);conv=>whnf)|((first|apply zi1|apply zi2|apply zi3|apply zi4|apply zi5) <;> intro _ <;> first|(exfalso;omega)|contradiction|(conv=>whnf))|(refine VAny.ix encI_len (y * W) (by omega) rfl hA ?_;conv=>whnf)|(refine VAny.ix encI_len (y * W + W - 1) (by omega) rfl hB ?_;conv=>whnf))
              all_goals exact VOut.same rfl
          · have hE0 : E = 0:=by
              rw [hE]
              have : (List.range H).all (sideB mc W) = true:=by
                rw [List.all_eq_true]
                exact fun z hz=>y2 z (by have:=List.mem_range.1 hz;omega)
              rw [this];rfl
            subst hE0
            conv=>whnf
            repeat' (first|((first|refine zs1 ?_|refine zs2 ?_|refine zs3 ?_|refine zs4 ?_|refine zs5 ?_);conv=>whnf)|((first|apply zi1|apply zi2|apply zi3|apply zi4|apply zi5) <;> intro _ <;> first|(exfalso;omega)|contradiction|(conv=>whnf)))
            refine VCut.at' (outer:=h.lift) (marks:=[]) 99 [] [] ?_ ?_
            · conv=>whnf
              refine Retell.turn ⟨[],0,[],[]⟩ (TurnOk.mk' _ _ [] [] (OutOk.lift _) rfl (by decide) zb trivial trivial rfl) zw zm
            · conv=>whnf
              repeat' (first|((first|refine zs1 ?_|refine zs2 ?_|refine zs3 ?_|refine zs4 ?_|refine zs5 ?_);conv=>whnf)|((first|apply zi1|apply zi2|apply zi3|apply zi4|apply zi5) <;> intro _ <;> first|(exfalso;omega)|contradiction|(conv=>whnf)))
              exact VOut.same rfl
  · rw [if_neg h0] at hE
    subst hE
    have hm : (0 ≤ mw ∧ mw ≤ 12) → (0 ≤ mh ∧ mh ≤ 12) → 0 ≤ mw * mh ∧ mw * mh ≤ 144:=sz_mul
    refine VC.bodyC 3 Tryz.func51 rfl Tryz.ntmps51 Tryz.call51 (h.grows_refl) rfl ?_
    conv=>whnf
    repeat' (first|((first|refine zs1 ?_|refine zs2 ?_|refine zs3 ?_|refine zs4 ?_|refine zs5 ?_);conv=>whnf)|((first|apply zi1|apply zi2|apply zi3|apply zi4|apply zi5) <;> intro _ <;> first|(exfalso;omega)|contradiction|(conv=>whnf)))
    all_goals first|exact VOut.same rfl|(exfalso;simp at *;omega)
end Go.Proofs.YtkbbfeljlepgoaaGreat


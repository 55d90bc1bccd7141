/- Part 4 of the proof that Of the papers that show a right there are no fewer than windows prove, as the law SilenceProved says. No condition.. No condition. -/
import Derived.Test.YtolnajnlcdacmaaPr3
set_option linter.unusedVariables false
set_option linter.unusedSimpArgs false
open Go.Vm
namespace Go.Proofs.Ytolnajnlcdacmaa
set_option maxRecDepth 20000
set_option maxHeartbeats 4000000

abbrev DU (n : Int) : D := .s (.int .u32 n)
def encU (n : Int) : List D := [.s (.int .u8 n)]
theorem encU_len (n : Int) : (encU n).length = 1 := rfl
def bytes (l : List Int) : V := .fs 1 l.length (l.flatMap encU)
def deckD (bs : List Int) (n s : Int) : List D := [.sl 1 bs.length (bs.flatMap encU), DI n, DU s]
theorem VOut.setS {h : Hp} {loc : List Blk} {i : Vm.Id} {b0 : Blk} {l : List D} {rw : Bool} {x : S} {L : Nat} (hL : Nat.ble loc.length L = true) (hb : h.get i = some b0) : VOut h ⟨outW h.lift i (.flat rw l), loc⟩ (.s x) (.s x) (h.set i (.flat rw l)) := by
  have hd : ∀ p ∈ [(i, Blk.flat rw l)], h.get p.1 ≠ none := by
    intro p hp
    simp only [List.mem_cons, List.not_mem_nil, or_false] at hp
    subst hp; simp only; rw [hb]; simp
  have := VOut.upd (loc := loc) (r1 := .s x) (r := .s x) [(i, .flat rw l)] [] [] L hL hd (by simp) rfl (by intro k b hk; simp at hk) (fun σ x hx => hx) (outer := outW h.lift i (.flat rw l)) rfl
  have he : (h.sets [(i, Blk.flat rw l)]).pushes [] = h.set i (.flat rw l) := by simp [Hp.sets, Hp.pushes]
  rw [he] at this
  exact this
theorem set_same {h : Hp} {i : Vm.Id} {b : Blk} (hb : h.get i = some b) : h.set i b = h := by
  cases i with
  | out i =>
    have hb : h.outer i = some b := hb
    obtain ⟨o, l⟩ := h
    simp only [Hp.set]
    congr 1
    funext j
    split
    · rename_i e; rw [e]; exact hb.symm
    · rfl
  | loc k =>
    have hb : h.loc[k]? = some b := hb
    obtain ⟨o, l⟩ := h
    simp only [Hp.set]
    congr 1
    obtain ⟨h1, h2⟩ := List.getElem?_eq_some_iff.1 hb
    rw [← h2]; exact List.set_getElem_self h1
theorem VOut.set2 {h : Hp} {loc : List Blk} {i : Vm.Id} {b0 b1 : Blk} {l : List D} {rw : Bool} {x : S} (hb : h.get i = some b0) : VOut h ⟨outW (outW h.lift i b1) i (.flat rw l), loc⟩ (.s x) (.s x) (h.set i (.flat rw l)) := by
  rw [outW_same]
  exact VOut.setS (L := loc.length) (by simp) hb
theorem vc_Draw0 (bs : List Int) (n s k : Int) (i : Vm.Id) (h : Hp) (hb : h.get i = some (.flat true (deckD bs n s))) (hk : k ≤ 1 ∨ bs = []) : VC Try.prog 44 [.ptr i 0, I k] h (I 0) (h.set i (.flat true (deckD bs n s))) := by
  rw [set_same hb]
  have hl : k ≤ 1 ∨ bs.length = 0 := by rcases hk with h1 | h1; exact .inl h1; exact .inr (by rw [h1]; rfl)
  refine VC.body Try.func44 rfl Try.ntmps44 Try.call44 (h.grows_refl) rfl ?_; conv => whnf
  repeat' (first | ((first | refine zs1 ?_ | refine zs2 ?_ | refine zs3 ?_ | refine zs4 ?_ | refine zs5 ?_); conv => whnf) | ((first | apply zi1 | apply zi2 | apply zi3 | apply zi4 | apply zi5) <;> intro _ <;> conv => whnf) | (refine VLd.flat rfl rfl (get_out hb _) rfl ?_; conv => whnf))
  · exact VOut.same rfl
  · exact VOut.same rfl
  · exfalso; omega
def dRd (bs : List Int) (N : Nat) : Int := IntKind.u32.wrap (IntKind.i64.wrap ((N : Int).tdiv (bs.length : Int)))
def dSt (bs : List Int) (N : Nat) (s c : Int) : Int := (IntKind.u32.wrap (IntKind.u32.wrap (IntKind.u32.wrap (s * 37) + IntKind.u32.wrap c) + IntKind.u32.wrap (101 * dRd bs N))).tmod 65521
def dR (bs : List Int) (N : Nat) (s k c : Int) : Int := if k ≤ 256 ∧ dRd bs N = 0 then (IntKind.i64.wrap (IntKind.u32.wrap c)).tmod k else (IntKind.i64.wrap (IntKind.u32.wrap (IntKind.u32.wrap (dSt bs N s c * 256) + IntKind.u32.wrap c))).tmod k
theorem u32_bd (n : Int) : 0 ≤ IntKind.u32.wrap n ∧ IntKind.u32.wrap n < 4294967296 := by
  unfold IntKind.wrap; simp [IntKind.bits, IntKind.signed]; omega
theorem tmod_bd {a k : Int} (ha : 0 ≤ a) (hk : 0 < k) : 0 ≤ a.tmod k ∧ a.tmod k < k := by
  rw [Int.tmod_eq_emod_of_nonneg ha]
  exact ⟨Int.emod_nonneg _ (by omega), Int.emod_lt_of_pos _ hk⟩
theorem dR_bd (bs : List Int) (N : Nat) (s c : Int) {k : Int} (hk : 0 < k) : 0 ≤ dR bs N s k c ∧ dR bs N s k c < k := by
  unfold dR
  split
  · have := u32_bd c
    rw [wrap_i64 (by omega)]
    exact tmod_bd this.1 hk
  · have := u32_bd (IntKind.u32.wrap (dSt bs N s c * 256) + IntKind.u32.wrap c)
    rw [wrap_i64 (by omega)]
    exact tmod_bd this.1 hk
theorem vc_Draw1 (bs : List Int) (N : Nat) (s k c : Int) (i : Vm.Id) (h : Hp) (hb : h.get i = some (.flat true (deckD bs N s))) (hk : 1 < k) (hc : bs[N % bs.length]? = some c) (hN : N ≤ 4000000000) :
    VC Try.prog 44 [.ptr i 0, I k] h (I (dR bs N s k c)) (h.set i (.flat true (deckD bs ((N : Int) + 1) (dSt bs N s c)))) := by
  have hlen : 0 < bs.length := by
    have := (List.getElem?_eq_some_iff.1 hc).1
    omega
  have hneB : ((bs.length : Int) != 0) = true := by rw [bne_iff_ne]; omega
  obtain ⟨R, hR⟩ : ∃ R, R = dR bs N s k c := ⟨_, rfl⟩
  rw [← hR]
  unfold dR at hR
  refine VC.body Try.func44 rfl Try.ntmps44 Try.call44 (h.grows_set _ _) rfl ?_
  conv => whnf
  repeat' (first | ((first | refine zs1 ?_ | refine zs2 ?_ | refine zs3 ?_ | refine zs4 ?_ | refine zs5 ?_ | refine zs6 [] ?_); conv => whnf) | ((first | apply zi1 | apply zi2 | apply zi3 | apply zi4 | apply zi5) <;> intro _ <;> conv => whnf) | (refine VLd.flat rfl rfl (get_out hb _) rfl ?_; conv => whnf) | (refine VAny.ix encU_len (N % bs.length) (by rfl) rfl hc ?_; conv => whnf) | (refine VLd.flat rfl rfl (outW_get _ _ _ _) rfl ?_; conv => whnf) | (refine VMem.st1 rfl rfl rfl (get_out hb _) rfl ?_; conv => whnf) | (refine VMem.st1 rfl rfl rfl (outW_get _ _ _ _) rfl ?_; conv => whnf) | (refine VArith.wr ?_; conv => whnf) | (refine VNeed.intro hneB ?_; conv => whnf))
  · exfalso; omega
  · exfalso; omega
  · rename_i h1 h2
    have h2 : dRd bs N = 0 := h2
    rw [if_pos ⟨h1, h2⟩] at hR
    subst hR
    refine VOut.set2 hb
  · rename_i h1 h2
    have h2 : ¬ dRd bs N = 0 := h2
    rw [if_neg (fun h => h2 h.2)] at hR
    subst hR
    refine VOut.set2 hb
  · rename_i h1
    rw [if_neg (fun h => h1 h.1)] at hR
    subst hR
    refine VOut.set2 hb
theorem vc_Draw (bs : List Int) (N : Nat) (s k : Int) (hN : N ≤ 4000000000) : ∃ (r s' : Int) (N' : Nat), 0 ≤ r ∧ (r = 0 ∨ r < k) ∧ N' ≤ N + 1 ∧ ∀ (i : Vm.Id) (h : Hp), h.get i = some (.flat true (deckD bs N s)) → VC Try.prog 44 [.ptr i 0, I k] h (I r) (h.set i (.flat true (deckD bs N' s'))) := by
  by_cases hk : k ≤ 1 ∨ bs = []
  · exact ⟨0, s, N, Int.le_refl _, .inl rfl, by omega, fun i h hb => vc_Draw0 bs N s k i h hb hk⟩
  · have hlen := List.length_pos_iff.2 (fun h => hk (.inr h))
    obtain ⟨c, hc⟩ : ∃ c, bs[N % bs.length]? = some c := ⟨_, List.getElem?_eq_getElem (Nat.mod_lt _ hlen)⟩
    obtain ⟨q1, q2⟩ := dR_bd bs N s c (k := k) (by omega)
    exact ⟨_, _, N + 1, q1, .inr q2, Nat.le_refl _, fun i h hb => vc_Draw1 bs N s k _ i h hb (by omega) hc hN⟩
theorem vc_Coin (bs : List Int) (N : Nat) (s k : Int) (hN : N ≤ 4000000000) : ∃ (r : Bool) (s' : Int) (N' : Nat), N' ≤ N + 1 ∧ ∀ (i : Vm.Id) (h : Hp), h.get i = some (.flat true (deckD bs N s)) → VC Try.prog 42 [.ptr i 0, I k] h (B r) (h.set i (.flat true (deckD bs N' s'))) := by
  obtain ⟨r, s', N', h1, h2, h3, h4⟩ := vc_Draw bs N s k hN
  refine ⟨r == 0, s', N', h3, fun i h hb2 => ?_⟩
  refine VC.body Try.func42 rfl Try.ntmps42 Try.call42 (h.grows_set _ _) rfl ?_
  conv => whnf
  repeat' (first | ((first | refine zs1 ?_ | refine zs2 ?_ | refine zs3 ?_ | refine zs4 ?_ | refine zs5 ?_ | refine zs6 [] ?_); conv => whnf) | ((first | apply zi1 | apply zi2 | apply zi3 | apply zi4 | apply zi5) <;> intro _ <;> conv => whnf) | (refine VCall.intro (h4 (.out i) _ (get_out hb2 _)) ?_; conv => whnf))
  exact VOut.setS (L := 0) rfl hb2
end Go.Proofs.Ytolnajnlcdacmaa

open Go.Vm
namespace Go.Proofs.Ytolnajnlcdacmaa
set_option maxRecDepth 20000
set_option maxHeartbeats 4000000

def dNx (bs : List Int) (d : Nat × Int) (k : Int) : Int × (Nat × Int) :=
  if k ≤ 1 ∨ bs = [] then (0, d) else (dR bs d.1 d.2 k (bs.getD (d.1 % bs.length) 0), (d.1 + 1, dSt bs d.1 d.2 (bs.getD (d.1 % bs.length) 0)))
def deckB (bs : List Int) (d : Nat × Int) : Blk := .flat true (deckD bs d.1 d.2)
theorem dNx_bd (bs : List Int) (d : Nat × Int) (k : Int) : 0 ≤ (dNx bs d k).1 ∧ ((dNx bs d k).1 = 0 ∨ (dNx bs d k).1 < k) ∧ (dNx bs d k).2.1 ≤ d.1 + 1 := by
  unfold dNx
  split
  · exact ⟨Int.le_refl _, .inl rfl, by simp only; omega⟩
  · rename_i h
    obtain ⟨q1, q2⟩ := dR_bd bs d.1 d.2 (bs.getD (d.1 % bs.length) 0) (k := k) (by omega)
    exact ⟨q1, .inr q2, Nat.le_refl _⟩
theorem vc_draw (bs : List Int) (d : Nat × Int) (k : Int) (i : Vm.Id) (h : Hp) (hN : d.1 ≤ 4000000000) (hb : h.get i = some (deckB bs d)) : VC Try.prog 44 [.ptr i 0, I k] h (I (dNx bs d k).1) (h.set i (deckB bs (dNx bs d k).2)) := by
  unfold dNx deckB at *
  split
  · rename_i hk; exact vc_Draw0 bs d.1 d.2 k i h hb hk
  · rename_i hk
    have hlen := List.length_pos_iff.2 (fun h => hk (.inr h))
    have hc : bs[d.1 % bs.length]? = some (bs.getD (d.1 % bs.length) 0) := by simp [List.getElem?_eq_getElem (Nat.mod_lt d.1 hlen)]
    exact vc_Draw1 bs d.1 d.2 k _ i h hb (by omega) hc hN
theorem vc_between (bs : List Int) (d : Nat × Int) (a b : Int) (i : Vm.Id) (h : Hp) (hN : d.1 ≤ 4000000000) (ha : -1000000 ≤ a ∧ a ≤ 1000000) (hb : -1000000 ≤ b ∧ b ≤ 1000000) (hd : h.get i = some (deckB bs d)) : VC Try.prog 43 [.ptr i 0, I a, I b] h (I (a + (dNx bs d (b - a + 1)).1)) (h.set i (deckB bs (dNx bs d (b - a + 1)).2)) := by
  have hbd := dNx_bd bs d (b - a + 1)
  have hD := fun i h hh => vc_draw bs d (b - a + 1) i h hN hh
  generalize dNx bs d (b - a + 1) = x at hbd hD
  refine VC.body Try.func43 rfl Try.ntmps43 Try.call43 (h.grows_set _ _) rfl ?_
  conv => whnf
  repeat' (first | ((first | refine zs1 ?_ | refine zs2 ?_ | refine zs3 ?_ | refine zs4 ?_ | refine zs5 ?_ | refine zs6 [] ?_); conv => whnf) | ((first | apply zi1 | apply zi2 | apply zi3 | apply zi4 | apply zi5) <;> intro _ <;> conv => whnf) | (refine VCall.intro (hD (.out i) _ (get_out hd _)) ?_; conv => whnf))
  exact VOut.setS (L := 0) rfl hd
theorem vc_coin (bs : List Int) (d : Nat × Int) (k : Int) (i : Vm.Id) (h : Hp) (hN : d.1 ≤ 4000000000) (hd : h.get i = some (deckB bs d)) : VC Try.prog 42 [.ptr i 0, I k] h (B ((dNx bs d k).1 == 0)) (h.set i (deckB bs (dNx bs d k).2)) := by
  have hD := fun i h hh => vc_draw bs d k i h hN hh
  generalize dNx bs d k = x at hD
  refine VC.body Try.func42 rfl Try.ntmps42 Try.call42 (h.grows_set _ _) rfl ?_
  conv => whnf
  repeat' (first | ((first | refine zs1 ?_ | refine zs2 ?_ | refine zs3 ?_ | refine zs4 ?_ | refine zs5 ?_ | refine zs6 [] ?_); conv => whnf) | ((first | apply zi1 | apply zi2 | apply zi3 | apply zi4 | apply zi5) <;> intro _ <;> conv => whnf) | (refine VCall.intro (hD (.out i) _ (get_out hd _)) ?_; conv => whnf))
  exact VOut.setS (L := 0) rfl hd
theorem VOut.ownP {h : Hp} {loc : List Blk} {ds : List D} (j L : Nat) (hL : Nat.ble loc.length L = true) (hj : loc[j]? = some (.flat true ds)) : VOut h ⟨h.lift, loc⟩ (.ptr (.loc j) 0) (.ptr h.fresh 0) (h.push (.flat true ds)) := by
  refine VOut.upd [] [.flat true ds] [j] L hL (by intro p hp; cases hp) (by simp) rfl ?_ ?_ rfl
  · intro k b hk
    cases k with
    | zero => rw [List.getElem?_cons_zero, Option.some.injEq] at hk; subst hk; exact ⟨j, rfl, hj⟩
    | succ k => simp at hk
  · intro σ x hx
    have : (V.ptr h.fresh 0).ren (backR h.loc.length [j] L) = .ptr (.loc j) 0 := by simp [V.ren, backR, Hp.fresh]
    rw [this]; exact hx
theorem vc_Of (bs : List Int) (h : Hp) : VC Try.prog 26 [bytes bs] h (.ptr h.fresh 0) (h.push (deckB bs (0, 9))) := by
  refine VC.body Try.func26 rfl Try.ntmps26 Try.call26 (h.grows_push _) rfl ?_
  conv => whnf
  repeat (first | ((first | refine zs1 ?_ | refine zs2 ?_ | refine zs3 ?_ | refine zs4 ?_ | refine zs5 ?_ | refine zs6 [] ?_); conv => whnf))
  exact VOut.ownP 0 1 rfl rfl
theorem VOut.setF {h : Hp} {loc : List Blk} {i : Vm.Id} {b0 : Blk} {l : List D} {rw : Bool} {r : V} {L : Nat} (hL : Nat.ble loc.length L = true) (hb : h.get i = some b0) (hr : ∀ ρ, r.ren ρ = r) : VOut h ⟨outW h.lift i (.flat rw l), loc⟩ r r (h.set i (.flat rw l)) := by
  have hd : ∀ p ∈ [(i, Blk.flat rw l)], h.get p.1 ≠ none := by
    intro p hp
    simp only [List.mem_cons, List.not_mem_nil, or_false] at hp
    subst hp; simp only; rw [hb]; simp
  have := VOut.upd (loc := loc) (r1 := r) (r := r) [(i, .flat rw l)] [] [] L hL hd (by simp) rfl (by intro k b hk; simp at hk) (fun σ x hx => by rw [hr]; exact hx) (outer := outW h.lift i (.flat rw l)) rfl
  have he : (h.sets [(i, Blk.flat rw l)]).pushes [] = h.set i (.flat rw l) := by simp [Hp.sets, Hp.pushes]
  rw [he] at this
  exact this
/-! ### A file that is made of numbers -/

structure MS where
  d : Nat × Int
  year : Int
  side : Int
  ps : List Pap
def mStep (bs : List Int) (yrs : Int) (m : MS) : MS :=
  ⟨(dNx bs (dNx bs (dNx bs m.d 6).2 yrs).2 (14 - 1 + 1)).2,
   m.year + (dNx bs (dNx bs m.d 6).2 yrs).1 + (1 + (dNx bs (dNx bs (dNx bs m.d 6).2 yrs).2 (14 - 1 + 1)).1),
   bif (dNx bs m.d 6).1 == 0 then 1 - m.side else m.side,
   m.ps ++ [⟨bif (dNx bs m.d 6).1 == 0 then 1 - m.side else m.side, m.year, m.year + (dNx bs (dNx bs m.d 6).2 yrs).1⟩]⟩
def mIt (bs : List Int) (yrs : Int) (m : MS) : Nat → MS
  | 0 => m
  | k + 1 => mStep bs yrs (mIt bs yrs m k)
structure MOk (yrs : Int) (k : Nat) (N : Nat) (m : MS) : Prop where
  n : m.d.1 ≤ N + 3 * k
  year : 0 ≤ m.year ∧ m.year ≤ 50 + 20 * k
  side : m.side = 0 ∨ m.side = 1
  len : m.ps.length = k
  paps : ∀ p ∈ m.ps, (p.side = 0 ∨ p.side = 1) ∧ 0 ≤ p.lo ∧ p.lo ≤ p.hi ∧ p.hi < p.lo + yrs ∧ p.hi < m.year
  asc : ∀ last : Int, (∀ p ∈ m.ps, last < p.lo) → m.ps.Pairwise (fun p q => p.hi < q.lo)
theorem MOk.step {bs : List Int} {yrs : Int} {k N : Nat} {m : MS} (h : MOk yrs k N m) (hy : 1 ≤ yrs ∧ yrs ≤ 5) : MOk yrs (k + 1) N (mStep bs yrs m) := by
  obtain ⟨a1, a2, a3⟩ := dNx_bd bs m.d 6
  obtain ⟨b1, b2, b3⟩ := dNx_bd bs (dNx bs m.d 6).2 yrs
  obtain ⟨c1, c2, c3⟩ := dNx_bd bs (dNx bs (dNx bs m.d 6).2 yrs).2 (14 - 1 + 1)
  obtain ⟨n1, n2, n3, n4, n5, n6⟩ := h
  unfold mStep
  generalize dNx bs (dNx bs (dNx bs m.d 6).2 yrs).2 (14 - 1 + 1) = z at c1 c2 c3
  generalize dNx bs (dNx bs m.d 6).2 yrs = y at b1 b2 b3 c3
  generalize dNx bs m.d 6 = x at a1 a2 a3 b3
  obtain ⟨S, hS, hS2⟩ : ∃ S, S = (bif x.1 == 0 then 1 - m.side else m.side) ∧ (S = 0 ∨ S = 1) := by
    refine ⟨_, rfl, ?_⟩
    cases x.1 == 0 <;> simp only [cond_true, cond_false] <;> omega
  rw [← hS]
  refine ⟨by simp only; omega, by simp only; omega, hS2, by simp [n4], ?_, ?_⟩
  · intro p hp
    simp only [List.mem_append, List.mem_singleton] at hp ⊢
    rcases hp with hp | rfl
    · have := n5 p hp
      exact ⟨this.1, this.2.1, this.2.2.1, this.2.2.2.1, by omega⟩
    · exact ⟨hS2, by simp only; omega, by simp only; omega, by simp only; omega, by simp only; omega⟩
  · intro last _
    simp only
    rw [List.pairwise_append]
    refine ⟨n6 (-1) (fun p hp => by have := (n5 p hp).2.1; omega), by simp, fun p hp q hq => ?_⟩
    rw [List.mem_singleton] at hq
    subst hq
    exact (n5 p hp).2.2.2.2
theorem mIt_ok {bs : List Int} {yrs : Int} {N : Nat} {m : MS} (h : MOk yrs 0 N m) (hy : 1 ≤ yrs ∧ yrs ≤ 5) : ∀ k, MOk yrs k N (mIt bs yrs m k)
  | 0 => h
  | k + 1 => (mIt_ok h hy k).step hy
def mY (bs : List Int) (d : Nat × Int) : Int := 5 + (dNx bs d (60 - 5 + 1)).1
def mG (bs : List Int) (d : Nat × Int) : Int := 4 + (dNx bs (dNx bs d (60 - 5 + 1)).2 (20 - 4 + 1)).1
def mD2 (bs : List Int) (d : Nat × Int) : Nat × Int := (dNx bs (dNx bs d (60 - 5 + 1)).2 (20 - 4 + 1)).2
def m0 (bs : List Int) (d : Nat × Int) (papers : Int) : MS :=
  ⟨(dNx bs (dNx bs (dNx bs (mD2 bs d) 50).2 2).2 (papers + 1)).2, (dNx bs (mD2 bs d) 50).1, (dNx bs (dNx bs (mD2 bs d) 50).2 2).1, []⟩
def mN (bs : List Int) (d : Nat × Int) (papers : Int) : Nat := (dNx bs (dNx bs (dNx bs (mD2 bs d) 50).2 2).2 (papers + 1)).1.toNat
def mEnd (bs : List Int) (d : Nat × Int) (papers yrs : Int) : MS := mIt bs yrs (m0 bs d papers) (mN bs d papers)
def mFile (bs : List Int) (d : Nat × Int) (papers yrs : Int) : Fil := ⟨mY bs d, mG bs d, (mEnd bs d papers yrs).ps⟩
theorem vc_Made (bs : List Int) (d : Nat × Int) (papers yrs : Int) (i : Vm.Id) (h : Hp) (hN : d.1 ≤ 1000000) (hp : 0 ≤ papers ∧ papers ≤ 16) (hy : 1 ≤ yrs ∧ yrs ≤ 4) (hd : h.get i = some (deckB bs d)) :
    VC Try.prog 25 [.ptr i 0, I papers, I yrs] h (vF (mFile bs d papers yrs)) (h.set i (deckB bs (mEnd bs d papers yrs).d)) := by
  have e1 := dNx_bd bs d (60 - 5 + 1)
  have c1 := fun (h2 : Hp) hh => vc_between bs d 5 60 (.out i) h2 (by omega) (by omega) (by omega) hh
  obtain ⟨x1, hx1⟩ : ∃ x, x = dNx bs d (60 - 5 + 1) := ⟨_, rfl⟩
  rw [← hx1] at e1 c1
  have e2 := dNx_bd bs x1.2 (20 - 4 + 1)
  have c2 := fun (h2 : Hp) hh => vc_between bs x1.2 4 20 (.out i) h2 (by omega) (by omega) (by omega) hh
  obtain ⟨x2, hx2⟩ : ∃ x, x = dNx bs x1.2 (20 - 4 + 1) := ⟨_, rfl⟩
  rw [← hx2] at e2 c2
  have e3 := dNx_bd bs x2.2 50
  have c3 := fun (h2 : Hp) hh => vc_draw bs x2.2 50 (.out i) h2 (by omega) hh
  obtain ⟨x3, hx3⟩ : ∃ x, x = dNx bs x2.2 50 := ⟨_, rfl⟩
  rw [← hx3] at e3 c3
  have e4 := dNx_bd bs x3.2 2
  have c4 := fun (h2 : Hp) hh => vc_draw bs x3.2 2 (.out i) h2 (by omega) hh
  obtain ⟨x4, hx4⟩ : ∃ x, x = dNx bs x3.2 2 := ⟨_, rfl⟩
  rw [← hx4] at e4 c4
  have e5 := dNx_bd bs x4.2 (papers + 1)
  have c5 := fun (h2 : Hp) hh => vc_draw bs x4.2 (papers + 1) (.out i) h2 (by omega) hh
  obtain ⟨x5, hx5⟩ : ∃ x, x = dNx bs x4.2 (papers + 1) := ⟨_, rfl⟩
  rw [← hx5] at e5 c5
  have hE : mEnd bs d papers yrs = mIt bs yrs ⟨x5.2, x3.1, x4.1, []⟩ x5.1.toNat := by unfold mEnd m0 mN mD2; rw [← hx1, ← hx2, ← hx3, ← hx4, ← hx5]
  have hF : mFile bs d papers yrs = ⟨5 + x1.1, 4 + x2.1, (mEnd bs d papers yrs).ps⟩ := by unfold mFile mY mG; rw [← hx1, ← hx2]
  rw [hF, hE]
  have hk0 : MOk yrs 0 x5.2.1 ⟨x5.2, x3.1, x4.1, []⟩ := ⟨by simp only; omega, by simp only; omega, by simp only; omega, rfl, by simp, by simp⟩
  have hok := fun k => mIt_ok (bs := bs) hk0 (by omega) k
  obtain ⟨n, hn⟩ : ∃ n : Nat, x5.1 = n := ⟨x5.1.toNat, by omega⟩
  have hn16 : n ≤ 16 := by omega
  rw [hn, Int.toNat_natCast]
  rw [hn] at c5
  obtain ⟨M0, hM0⟩ : ∃ m, m = MS.mk x5.2 x3.1 x4.1 [] := ⟨_, rfl⟩
  rw [← hM0] at hok ⊢
  have hM1 : M0.d = x5.2 := by rw [hM0]
  have hM2 : M0.year = x3.1 := by rw [hM0]
  have hM3 : M0.side = x4.1 := by rw [hM0]
  have hM4 : M0.ps = [] := by rw [hM0]
  clear hE hF hk0 hx1 hx2 hx3 hx4 hx5 hM0
  refine VC.body Try.func25 rfl Try.ntmps25 Try.call25 (h.grows_set _ _) rfl ?_
  conv => whnf
  repeat' (first | ((first | refine zs1 ?_ | refine zs2 ?_ | refine zs3 ?_ | refine zs4 ?_ | refine zs5 ?_ | refine zs6 [] ?_); conv => whnf) | ((first | apply zi1 | apply zi2 | apply zi3 | apply zi4 | apply zi5) <;> intro _ <;> conv => whnf) | (refine VCall.intro (c1 _ (get_out hd _)) ?_; conv => whnf) | (refine VCall.intro (c2 _ (outW_get _ _ _ _)) ?_; conv => whnf) | (refine VCall.intro (c3 _ (outW_get _ _ _ _)) ?_; conv => whnf) | (refine VCall.intro (c4 _ (outW_get _ _ _ _)) ?_; conv => whnf) | (refine VCall.intro (c5 _ (outW_get _ _ _ _)) ?_; conv => whnf))
  refine VCode.lpo (fun y : Nat × MS => [(0, .ptr (.out i) 0), (2, I yrs), (6, .ptr (.loc 0) 0), (7, .ptr (.loc 1) 0), (8, I y.2.year), (9, I y.2.side), (23, I n), (24, I y.1)]) (fun y => outW h.lift i (deckB bs y.2.d))
    (fun y => [.flat true [DI 0, DI 0, .nilslice], .cells true [I (5 + x1.1), I (4 + x2.1), .gl (.loc 2) 3 y.2.ps.length], .flat true (y.2.ps.flatMap encP)]) (fun y => y.1 ≤ n ∧ y.2 = mIt bs yrs M0 y.1) (fun y => n - y.1) (0, M0) ⟨Nat.zero_le _, rfl⟩ ?_ ?_ ?_
  · rw [← hM1]; funext j; by_cases e : j = i <;> simp [outW, e, Hp.set]
  · conv => whnf
    rw [← hM2, ← hM3, hM4]
    refine Retell.turn ⟨[0,1,2], 2, [], []⟩ (TurnOk.mk' _ _ [] [] (OutOk.outW (OutOk.lift _) rfl) rfl (by decide) zb trivial trivial rfl) zv zm
  · rintro ⟨k, m⟩ ⟨hk, hm⟩
    dsimp only at hk hm
    have hmk := hok k
    have hnx : mIt bs yrs M0 (k + 1) = mStep bs yrs m := by rw [mIt, hm]
    rw [← hm] at hmk
    obtain ⟨n1, n2, n3, n4, n5, n6⟩ := hmk
    have hkn : k ≤ 16 := by omega
    have q1 := dNx_bd bs m.d 6
    have g1 := fun (h2 : Hp) hh => vc_coin bs m.d 6 (.out i) h2 (by omega) hh
    unfold mStep at hnx
    obtain ⟨y1, hy1⟩ : ∃ y, y = dNx bs m.d 6 := ⟨_, rfl⟩
    rw [← hy1] at q1 g1 hnx
    have q2 := dNx_bd bs y1.2 yrs
    have g2 := fun (h2 : Hp) hh => vc_draw bs y1.2 yrs (.out i) h2 (by omega) hh
    obtain ⟨y2, hy2⟩ : ∃ y, y = dNx bs y1.2 yrs := ⟨_, rfl⟩
    rw [← hy2] at q2 g2 hnx
    have q3 := dNx_bd bs y2.2 (14 - 1 + 1)
    have g3 := fun (h2 : Hp) hh => vc_between bs y2.2 1 14 (.out i) h2 (by omega) (by omega) (by omega) hh
    obtain ⟨y3, hy3⟩ : ∃ y, y = dNx bs y2.2 (14 - 1 + 1) := ⟨_, rfl⟩
    rw [← hy3] at q3 g3 hnx
    clear hy1 hy2 hy3
    conv => whnf
    refine VIte.dec (fun h3 => ?_) (fun h3 => ?_)
    · conv => whnf
      repeat' (first | ((first | refine zs1 ?_ | refine zs2 ?_ | refine zs3 ?_ | refine zs4 ?_ | refine zs5 ?_); conv => whnf) | ((first | apply zi1 | apply zi2 | apply zi3 | apply zi4 | apply zi5) <;> intro _ <;> conv => whnf) | (refine VCall.intro (g1 _ (outW_get _ _ _ _)) ?_; conv => whnf) | (refine VCall.intro (g2 _ (outW_get _ _ _ _)) ?_; conv => whnf) | (refine VCall.intro (g3 _ (outW_get _ _ _ _)) ?_; conv => whnf))
      · rename_i hc
        have hnx : mIt bs yrs M0 (k + 1) = ⟨y3.2, m.year + y2.1 + (1 + y3.1), 1 - m.side, m.ps ++ [⟨1 - m.side, m.year, m.year + y2.1⟩]⟩ := by rw [hnx, hc]; rfl
        refine VMem.app1 (l := m.ps) (⟨1 - m.side, m.year, m.year + y2.1⟩ : Pap) encP_len rfl rfl rfl rfl rfl (by omega) ?_
        conv => whnf
        repeat' (first | ((first | refine zs1 ?_ | refine zs2 ?_ | refine zs3 ?_ | refine zs4 ?_ | refine zs5 ?_); conv => whnf) | ((first | apply zi1 | apply zi2 | apply zi3 | apply zi4 | apply zi5) <;> intro _ <;> conv => whnf))
        refine VDraw.go [(2, 4)] (by kernel_rfl) (by kernel_rfl) ?_
        conv => whnf
        repeat' (first | ((first | refine zs1 ?_ | refine zs2 ?_ | refine zs3 ?_ | refine zs4 ?_ | refine zs5 ?_); conv => whnf) | ((first | apply zi1 | apply zi2 | apply zi3 | apply zi4 | apply zi5) <;> intro _ <;> conv => whnf) | (refine VCall.intro (g3 _ (outW_get _ _ _ _)) ?_; conv => whnf))
        refine LEndO.intro (k + 1, _) ⟨by dsimp only; omega, hnx.symm⟩ (by dsimp only; omega) ?_ ?_
        · funext j; by_cases e : j = i <;> simp [outW, e, Hp.set]
        · conv => whnf
          rw [List.length_append]
          refine Retell.turn ⟨[0,1,5], 6, [], []⟩ (TurnOk.mk' _ _ [] [] (OutOk.outW (OutOk.lift _) rfl) rfl (by decide) zb trivial trivial rfl) zv zm
      · rename_i hc
        have hc2 : (y1.1 == 0) = false := by rw [beq_eq_false_iff_ne]; exact hc
        have hnx : mIt bs yrs M0 (k + 1) = ⟨y3.2, m.year + y2.1 + (1 + y3.1), m.side, m.ps ++ [⟨m.side, m.year, m.year + y2.1⟩]⟩ := by rw [hnx, hc2]; rfl
        repeat' (first | ((first | refine zs1 ?_ | refine zs2 ?_ | refine zs3 ?_ | refine zs4 ?_ | refine zs5 ?_); conv => whnf) | ((first | apply zi1 | apply zi2 | apply zi3 | apply zi4 | apply zi5) <;> intro _ <;> conv => whnf) | (refine VCall.intro (g2 _ (outW_get _ _ _ _)) ?_; conv => whnf))
        refine VMem.app1 (l := m.ps) (⟨m.side, m.year, m.year + y2.1⟩ : Pap) encP_len rfl rfl rfl rfl rfl (by omega) ?_
        conv => whnf
        repeat' (first | ((first | refine zs1 ?_ | refine zs2 ?_ | refine zs3 ?_ | refine zs4 ?_ | refine zs5 ?_); conv => whnf) | ((first | apply zi1 | apply zi2 | apply zi3 | apply zi4 | apply zi5) <;> intro _ <;> conv => whnf))
        refine VDraw.go [(2, 4)] (by kernel_rfl) (by kernel_rfl) ?_
        conv => whnf
        repeat' (first | ((first | refine zs1 ?_ | refine zs2 ?_ | refine zs3 ?_ | refine zs4 ?_ | refine zs5 ?_); conv => whnf) | ((first | apply zi1 | apply zi2 | apply zi3 | apply zi4 | apply zi5) <;> intro _ <;> conv => whnf) | (refine VCall.intro (g3 _ (outW_get _ _ _ _)) ?_; conv => whnf))
        refine LEndO.intro (k + 1, _) ⟨by dsimp only; omega, hnx.symm⟩ (by dsimp only; omega) ?_ ?_
        · funext j; by_cases e : j = i <;> simp [outW, e, Hp.set]
        · conv => whnf
          rw [List.length_append]
          refine Retell.turn ⟨[0,1,5], 6, [], []⟩ (TurnOk.mk' _ _ [] [] (OutOk.outW (OutOk.lift _) rfl) rfl (by decide) zb trivial trivial rfl) zv zm
    · have hkn2 : k = n := by dsimp only at h3; omega
      subst hkn2
      rw [← hm]
      conv => whnf
      repeat' (first | ((first | refine zs1 ?_ | refine zs2 ?_ | refine zs3 ?_ | refine zs4 ?_ | refine zs5 ?_); conv => whnf) | ((first | apply zi1 | apply zi2 | apply zi3 | apply zi4 | apply zi5) <;> intro _ <;> conv => whnf))
      refine VOut.turn ⟨[], 3, [(2, m.ps.flatMap encP)], []⟩ (loc' := []) (r1' := vF ⟨5 + x1.1, 4 + x2.1, m.ps⟩) (TurnOk.mk' [] 3 [(2, m.ps.flatMap encP)] [] (OutOk.outW (OutOk.lift _) rfl) rfl List.nodup_nil BTos.nil (FzAll.flat rfl FzAll.nil) trivial rfl) zv ?_
      exact VOut.setF (L := 0) rfl hd fun _ => rfl
end Go.Proofs.Ytolnajnlcdacmaa

open Go.Vm
namespace Go.Proofs.Ytolnajnlcdacmaa
set_option maxRecDepth 20000
set_option maxHeartbeats 4000000

theorem chkGo_of : ∀ {ps : List Pap} {last : Int}, ps.Pairwise (fun p q => p.hi < q.lo) → (∀ p ∈ ps, ¬ badPap p ∧ last < p.lo) → chkGo ps last = 0
  | [], _, _, _ => rfl
  | p :: ps, last, h, hb => by
    obtain ⟨h1, h2⟩ := List.pairwise_cons.1 h
    obtain ⟨b1, b2⟩ := hb p (by simp)
    rw [chkGo, if_neg b1, if_neg (by omega)]
    exact chkGo_of h2 fun q hq => ⟨(hb q (by simp [hq])).1, h1 q hq⟩
theorem mFile_ok (bs : List Int) (d : Nat × Int) {papers yrs : Int} (hp : 0 ≤ papers ∧ papers ≤ 16) (hy : 1 ≤ yrs ∧ yrs ≤ 4) :
    chk (mFile bs d papers yrs) = 0 ∧ ((mFile bs d papers yrs).ps.length : Int) ≤ papers ∧ (5 ≤ (mFile bs d papers yrs).Y ∧ (mFile bs d papers yrs).Y ≤ 60) ∧ (4 ≤ (mFile bs d papers yrs).G ∧ (mFile bs d papers yrs).G ≤ 20) ∧ (mEnd bs d papers yrs).d.1 ≤ d.1 + 60 := by
  have e1 := dNx_bd bs d (60 - 5 + 1)
  have e2 := dNx_bd bs (dNx bs d (60 - 5 + 1)).2 (20 - 4 + 1)
  have e3 := dNx_bd bs (mD2 bs d) 50
  have e4 := dNx_bd bs (dNx bs (mD2 bs d) 50).2 2
  have e5 := dNx_bd bs (dNx bs (dNx bs (mD2 bs d) 50).2 2).2 (papers + 1)
  have hk0 : MOk yrs 0 (dNx bs (dNx bs (dNx bs (mD2 bs d) 50).2 2).2 (papers + 1)).2.1 (m0 bs d papers) := by
    unfold m0
    exact ⟨by simp only; omega, by simp only; omega, by simp only; omega, rfl, by simp, by simp⟩
  have hok := mIt_ok (bs := bs) hk0 (by omega) (mN bs d papers)
  have hn : mN bs d papers ≤ 16 ∧ (mN bs d papers : Int) ≤ papers := by unfold mN; omega
  have hE : mIt bs yrs (m0 bs d papers) (mN bs d papers) = mEnd bs d papers yrs := rfl
  rw [hE] at hok
  obtain ⟨n1, n2, n3, n4, n5, n6⟩ := hok
  have hY : (mFile bs d papers yrs).Y = 5 + (dNx bs d (60 - 5 + 1)).1 := rfl
  have hG : (mFile bs d papers yrs).G = 4 + (dNx bs (dNx bs d (60 - 5 + 1)).2 (20 - 4 + 1)).1 := rfl
  have hps : (mFile bs d papers yrs).ps = (mEnd bs d papers yrs).ps := rfl
  refine ⟨?_, by rw [hps, n4]; exact hn.2, by rw [hY]; omega, by rw [hG]; omega, ?_⟩
  · unfold chk
    rw [if_neg (by rw [hY, hG]; omega), hps, if_neg (by rw [n4]; omega)]
    refine chkGo_of (n6 (-1) fun p hp => by have := (n5 p hp).2.1; omega) fun p hp => ?_
    have := n5 p hp
    refine ⟨?_, by omega⟩
    unfold badPap
    omega
  · have hd2 : (mD2 bs d).1 ≤ d.1 + 2 := by unfold mD2; omega
    omega
/-! ### A truth that is dealt -/

def tIt (bs : List Int) : List Pap → (Nat × Int) → List Int × (Nat × Int)
  | [], d => ([], d)
  | p :: r, d => ((p.lo + (dNx bs d (p.hi - p.lo + 1)).1) :: (tIt bs r (dNx bs d (p.hi - p.lo + 1)).2).1, (tIt bs r (dNx bs d (p.hi - p.lo + 1)).2).2)
theorem tIt_at {bs : List Int} {ps : List Pap} {k : Nat} {p : Pap} {d : Nat × Int} (h : ps[k]? = some p) : tIt bs (ps.drop k) d = ((p.lo + (dNx bs d (p.hi - p.lo + 1)).1) :: (tIt bs (ps.drop (k + 1)) (dNx bs d (p.hi - p.lo + 1)).2).1, (tIt bs (ps.drop (k + 1)) (dNx bs d (p.hi - p.lo + 1)).2).2) := by
  obtain ⟨hlt, rfl⟩ := List.getElem?_eq_some_iff.1 h
  rw [List.drop_eq_getElem_cons hlt, tIt]
theorem tIt_ok (bs : List Int) : ∀ (ps : List Pap) (d : Nat × Int), (∀ p ∈ ps, p.lo ≤ p.hi) → (tIt bs ps d).1.length = ps.length ∧ holdsS ps (tIt bs ps d).1 = true ∧ (tIt bs ps d).2.1 ≤ d.1 + ps.length
  | [], d, _ => ⟨rfl, by simp [holdsS], by simp [tIt]⟩
  | p :: r, d, h => by
    have e := dNx_bd bs d (p.hi - p.lo + 1)
    obtain ⟨i1, i2, i3⟩ := tIt_ok bs r (dNx bs d (p.hi - p.lo + 1)).2 (fun q hq => h q (by simp [hq]))
    have hp := h p (by simp)
    rw [tIt]
    refine ⟨by simp [i1], ?_, by simp only [List.length_cons]; omega⟩
    rw [holdsS, decide_eq_true (by omega), i2]; rfl
theorem vc_True (bs : List Int) (d : Nat × Int) (f : Fil) (i : Vm.Id) (h : Hp) (hN : d.1 ≤ 1000000) (h0 : chk f = 0) (hd : h.get i = some (deckB bs d)) :
    VC Try.prog 27 [.ptr i 0, vF f] h (ints (tIt bs f.ps d).1) (h.set i (deckB bs (tIt bs f.ps d).2)) := by
  have hn16 := (chk_zero h0).2.2.1
  have hpok := chk_pok h0
  obtain ⟨R, hR⟩ : ∃ R, R = tIt bs f.ps d := ⟨_, rfl⟩
  rw [← hR]
  refine VC.body Try.func27 rfl Try.ntmps27 Try.call27 (h.grows_set _ _) rfl ?_
  conv => whnf
  repeat' (first | ((first | refine zs1 ?_ | refine zs2 ?_ | refine zs3 ?_ | refine zs4 ?_ | refine zs5 ?_); conv => whnf) | ((first | apply zi1 | apply zi2 | apply zi3 | apply zi4 | apply zi5) <;> intro _ <;> conv => whnf))
  refine VCode.lpo (fun y : Nat × List Int × (Nat × Int) => [(0, .ptr (.out i) 0), (5, .gl (.loc 0) 1 y.2.1.length), (9, paps f.ps), (10, I f.ps.length), (11, I y.1)]) (fun y => outW h.lift i (deckB bs y.2.2))
    (fun y => [.flat true (y.2.1.flatMap encI)]) (fun y => y.1 ≤ f.ps.length ∧ y.2.1.length = y.1 ∧ y.2.2.1 ≤ 1000000 + y.1 ∧ R = (y.2.1 ++ (tIt bs (f.ps.drop y.1) y.2.2).1, (tIt bs (f.ps.drop y.1) y.2.2).2)) (fun y => f.ps.length - y.1) (0, [], d) ⟨Nat.zero_le _, rfl, by dsimp only; omega, hR⟩ (outW_id (get_out hd [])) ?_ ?_
  · conv => whnf
    refine Retell.turn ⟨[1], 1, [], []⟩ (TurnOk.mk' _ _ [] [] (OutOk.outW (OutOk.lift _) rfl) rfl (by decide) zb trivial trivial rfl) zv zm
  · rintro ⟨k, l, e⟩ ⟨hk, hl, he, hRk⟩
    dsimp only at hk hl he hRk
    conv => whnf
    refine VIte.dec (fun h3 => ?_) (fun h3 => ?_)
    · have hp : f.ps[k]? = some f.ps[k] := List.getElem?_eq_getElem (by omega)
      have hpk := hpok f.ps[k] (List.getElem_mem (by omega))
      rw [tIt_at hp] at hRk
      generalize f.ps[k] = p at hp hpk hRk
      obtain ⟨p1, p2, p3, p4, p5⟩ := hpk
      have q1 := dNx_bd bs e (p.hi - p.lo + 1)
      have g1 := fun (h2 : Hp) hh => vc_between bs e p.lo p.hi (.out i) h2 (by omega) (by omega) (by omega) hh
      generalize dNx bs e (p.hi - p.lo + 1) = y1 at q1 g1 hRk
      conv => whnf
      repeat' (first | ((first | refine zs1 ?_ | refine zs2 ?_ | refine zs3 ?_ | refine zs4 ?_ | refine zs5 ?_); conv => whnf) | ((first | apply zi1 | apply zi2 | apply zi3 | apply zi4 | apply zi5) <;> intro _ <;> conv => whnf) | (refine VAny.ix encP_len k rfl rfl hp ?_; conv => whnf) | (refine VCall.intro (g1 _ (outW_get _ _ _ _)) ?_; conv => whnf))
      refine VMem.app1 (p.lo + y1.1) encI_len rfl rfl rfl rfl rfl (by dsimp only; omega) ?_
      conv => whnf
      repeat' (first | ((first | refine zs1 ?_ | refine zs2 ?_ | refine zs3 ?_ | refine zs4 ?_ | refine zs5 ?_); conv => whnf) | ((first | apply zi1 | apply zi2 | apply zi3 | apply zi4 | apply zi5) <;> intro _ <;> conv => whnf))
      refine LEndO.intro (k + 1, l ++ [p.lo + y1.1], y1.2) ⟨by dsimp only; omega, by simp [hl], by dsimp only; omega, by dsimp only; rw [hRk]; simp⟩ (by dsimp only; omega) ?_ ?_
      · funext j; by_cases e : j = i <;> simp [outW, e, Hp.set]
      · conv => whnf
        rw [List.length_append]
        refine Retell.turn ⟨[3], 4, [], []⟩ (TurnOk.mk' _ _ [] [] (OutOk.outW (OutOk.lift _) rfl) rfl (by decide) zb trivial trivial rfl) zv zm
    · have hkn2 : k = f.ps.length := by dsimp only at h3; omega
      subst hkn2
      rw [List.drop_of_length_le (Nat.le_refl _), tIt, List.append_nil] at hRk
      subst hRk
      conv => whnf
      repeat' (first | ((first | refine zs1 ?_ | refine zs2 ?_ | refine zs3 ?_ | refine zs4 ?_ | refine zs5 ?_); conv => whnf) | ((first | apply zi1 | apply zi2 | apply zi3 | apply zi4 | apply zi5) <;> intro _ <;> conv => whnf))
      refine VOut.turn ⟨[], 1, [(0, l.flatMap encI)], []⟩ (loc' := []) (r1' := ints l) (TurnOk.mk' [] 1 [(0, l.flatMap encI)] [] (OutOk.outW (OutOk.lift _) rfl) rfl List.nodup_nil BTos.nil (FzAll.flat rfl FzAll.nil) trivial rfl) zv ?_
      exact VOut.setF (L := 0) rfl hd fun _ => rfl
theorem tIt_tru (bs : List Int) (d : Nat × Int) {f : Fil} (h0 : chk f = 0) : (tIt bs f.ps d).1 ∈ tru f.ps ∧ (tIt bs f.ps d).2.1 ≤ d.1 + 16 := by
  have hn16 := (chk_zero h0).2.2.1
  obtain ⟨h1, h2, h3⟩ := tIt_ok bs f.ps d fun p hp => (chk_pok h0 p hp).le
  exact ⟨mem_tru.2 ⟨h1, h2⟩, by omega⟩
end Go.Proofs.Ytolnajnlcdacmaa

open Go.Vm
namespace Go.Proofs.Ytolnajnlcdacmaa
set_option maxRecDepth 20000
set_option maxHeartbeats 4000000
theorem arL_mem {f : Fil} {t : List Int} {x : Int} : x ∈ arL f t ↔ ∃ p : Nat, p < t.length ∧ x = p ∧ arB f t p = true := mem_selS
structure Seg (f : Fil) (t : List Int) (lo hi : Nat) : Prop where
  le : lo ≤ hi
  lt : hi < t.length
  hb : bgB f t lo = true
  hn : ∀ j, lo < j → j ≤ hi → bgB f t j = false
theorem Seg.ar {f : Fil} {t : List Int} {lo hi p : Nat} (s : Seg f t lo hi) (h1 : lo ≤ p) (h2 : p ≤ hi) : arB f t p = true ↔ f.Y ≤ tAt t p - tAt t lo ∧ tAt t (p - 1) - tAt t lo < f.Y := by
  unfold arB
  rw [fst_seg s.hb s.hn p h1 h2, decide_eq_true_eq]
structure Hold (R : Prop) : Prop where
  out : R
theorem suffices_ {R G : Prop} (main : Hold R → G) (rest : R) : G := main ⟨rest⟩
end Go.Proofs.Ytolnajnlcdacmaa

open Go.Vm
namespace Go.Proofs.Ytolnajnlcdacmaa
open Go.ChangeShapes Go.WideShapes Go.ChangeAt Go.RowKit

def dU (l : List Int) : D := .sl 1 l.length (l.flatMap encU)
theorem openU : OpenV Try.prog 49 dU := OpenV.slice Try.underlying49 (Opens.slice Try.underlying49 encU_len (by kernel_rfl) (by decide) (Opens.int Try.underlying5))
end Go.Proofs.Ytolnajnlcdacmaa

open Go.Vm
namespace Go.Proofs.Ytolnajnlcdacmaa
set_option maxRecDepth 20000
set_option maxHeartbeats 1000000
structure Aff (f : Fil) (t : List Int) (g : Fil) (u : List Int) (a b : Int) : Prop where
  ha : a = 1 ∨ a = 3
  Y : g.Y = a * f.Y
  G : g.G = a * f.G
  len : u.length = t.length
  at_ : ∀ i, i < t.length → tAt u i = a * tAt t i + b
  sd : ∀ i, i < t.length → (sdAt g i = sdAt g (i - 1) ↔ sdAt f i = sdAt f (i - 1))
variable {f g : Fil} {t u : List Int} {a b : Int}
theorem Aff.bg (A : Aff f t g u a b) {i : Nat} (hi : i < t.length) : bgB g u i = bgB f t i := by
  unfold bgB
  rw [A.at_ i hi, A.at_ (i - 1) (by omega), A.G]
  have := A.sd i hi
  have e : (i = 0 ∨ sdAt g i ≠ sdAt g (i - 1) ∨ a * f.G < a * tAt t i + b - (a * tAt t (i - 1) + b)) ↔ (i = 0 ∨ sdAt f i ≠ sdAt f (i - 1) ∨ f.G < tAt t i - tAt t (i - 1)) := by
    rw [Ne, Ne, this]
    rcases A.ha with rfl | rfl <;> omega
  rw [decide_eq_decide]
  exact e
theorem Aff.fst (A : Aff f t g u a b) : ∀ {i : Nat}, i < t.length → fst g u i = fst f t i
  | 0, _ => rfl
  | i + 1, hi => by
    rw [Proofs.Ytolnajnlcdacmaa.fst, Proofs.Ytolnajnlcdacmaa.fst, A.bg hi, A.fst (by omega)]
theorem Aff.ar (A : Aff f t g u a b) {i : Nat} (hi : i < t.length) : arB g u i = arB f t i := by
  unfold arB
  have hf := fst_le f t i
  rw [A.fst hi, A.at_ i hi, A.at_ (i - 1) (by omega), A.at_ (Proofs.Ytolnajnlcdacmaa.fst f t i) (by omega), A.Y, decide_eq_decide]
  rcases A.ha with rfl | rfl <;> omega
theorem selS_congr {q r : Nat → Bool} : ∀ {k : Nat}, (∀ i, i < k → q i = r i) → selS q k = selS r k
  | 0, _ => rfl
  | k + 1, h => by rw [selS, selS, h k (by omega), selS_congr fun i hi => h i (by omega)]
theorem Aff.arL (A : Aff f t g u a b) : arL g u = arL f t := by
  unfold Proofs.Ytolnajnlcdacmaa.arL
  rw [A.len]
  exact selS_congr fun i hi => A.ar hi
theorem Aff.jmp (A : Aff f t g u a b) (lo : Nat) {x : Nat} (hx : x < t.length) : ∀ {n : Nat}, n ≤ t.length → jmp g u lo x n = jmp f t lo x n
  | 0, _ => rfl
  | n + 1, hn => by
    rw [Proofs.Ytolnajnlcdacmaa.jmp, Proofs.Ytolnajnlcdacmaa.jmp, A.at_ x hx, A.at_ n (by omega), A.G, A.jmp lo hx (by omega)]
    have e : (lo < n + 1 ∧ a * tAt t x + b - (a * tAt t n + b) ≤ a * f.G) ↔ (lo < n + 1 ∧ tAt t x - tAt t n ≤ f.G) := by
      rcases A.ha with rfl | rfl <;> omega
    by_cases h : lo < n + 1 ∧ tAt t x - tAt t n ≤ f.G
    · rw [if_pos h, if_pos (e.2 h)]
    · rw [if_neg h, if_neg (fun w => h (e.1 w))]
theorem Aff.fewS (A : Aff f t g u a b) (lo : Nat) {p : Nat} (hp : p < t.length) : ∀ {n x : Nat}, x ≤ p → fewS g u lo p n x = fewS f t lo p n x
  | 0, _, _ => rfl
  | n + 1, x, hx => by
    rw [Proofs.Ytolnajnlcdacmaa.fewS, Proofs.Ytolnajnlcdacmaa.fewS, A.at_ p hp, A.at_ x (by omega), A.Y, A.jmp lo (by omega) (by omega)]
    have hj := jmp_le f t lo x x
    rw [A.fewS lo hp (by omega)]
    have e : (a * tAt t p + b - (a * tAt t x + b) < a * f.Y) ↔ (tAt t p - tAt t x < f.Y) := by
      rcases A.ha with rfl | rfl <;> omega
    by_cases h : tAt t p - tAt t x < f.Y
    · rw [if_pos h, if_pos (e.2 h)]
    · rw [if_neg h, if_neg (fun w => h (e.1 w))]
theorem Aff.few (A : Aff f t g u a b) {p : Nat} (hp : p < t.length) : few g u p = few f t p := by
  unfold Proofs.Ytolnajnlcdacmaa.few
  rw [A.fst hp, A.fewS _ hp (Nat.le_refl _)]
end Go.Proofs.Ytolnajnlcdacmaa

open Go.Vm
namespace Go.Proofs.Ytolnajnlcdacmaa
set_option maxRecDepth 20000
set_option maxHeartbeats 1000000

structure Nar (f g : Fil) : Prop where
  Y : g.Y = f.Y
  G : g.G = f.G
  len : g.ps.length = f.ps.length
  at_ : ∀ (i : Nat) p q, f.ps[i]? = some p → g.ps[i]? = some q → q.side = p.side ∧ p.lo ≤ q.lo ∧ q.lo ≤ q.hi ∧ q.hi ≤ p.hi
variable {f g : Fil} {t : List Int}
theorem Nar.sd (N : Nar f g) {i : Nat} (hi : i < f.ps.length) : sdAt g i = sdAt f i := by
  have hl := N.len
  have hp : f.ps[i]? = some f.ps[i] := List.getElem?_eq_getElem hi
  have hq : g.ps[i]? = some g.ps[i] := List.getElem?_eq_getElem (by omega)
  rw [sdAt_eq hp, sdAt_eq hq]
  exact (N.at_ i _ _ hp hq).1
end Go.Proofs.Ytolnajnlcdacmaa

open Go.Vm
namespace Go.Proofs.Ytolnajnlcdacmaa
set_option maxRecDepth 20000
set_option maxHeartbeats 4000000
theorem Nar.set {f : Fil} {l : List Pap} (N : Nar f ⟨f.Y, f.G, l⟩) {k : Nat} {p a : Pap} {y z : Int} (hp : f.ps[k]? = some p) (ha : l[k]? = some a) (h : p.lo ≤ y ∧ y ≤ z ∧ z ≤ p.hi) : Nar f ⟨f.Y, f.G, l.set k ⟨a.side, y, z⟩⟩ :=
  ⟨rfl, rfl, by simpa using N.len, fun i p' q h1 h2 => by
    dsimp only at h2
    have hs := (N.at_ k p a hp ha).1
    by_cases e : k = i
    · subst e
      rw [hp] at h1; cases h1
      have hl := (List.getElem?_eq_some_iff.1 ha).1
      rw [List.getElem?_set_self hl] at h2
      cases h2
      exact ⟨hs, h⟩
    · rw [List.getElem?_set_ne e] at h2
      exact N.at_ i p' q h1 h2⟩
end Go.Proofs.Ytolnajnlcdacmaa

open Go.Vm
namespace Go.Proofs.Ytolnajnlcdacmaa
set_option maxRecDepth 20000
set_option maxHeartbeats 2000000

theorem cntS_pos {f : Fil} {y : Int} {l : List Int} {j : Nat} (hj : l.getD j 0 + 1 ≤ y ∧ y ≤ l.getD j 0 + f.G) : ∀ k, j < k → 1 ≤ cntS f y l k
  | 0, h => absurd h (Nat.not_lt_zero _)
  | k + 1, h => by
    rw [cntS]
    rcases Nat.lt_or_ge j k with h1 | h1
    · have := cntS_pos hj k h1; omega
    · have : j = k := by omega
      subst this
      rw [if_pos hj]; omega
theorem cntS_two {f : Fil} {y : Int} {l : List Int} {i j : Nat} (hij : i < j) (hi : l.getD i 0 + 1 ≤ y ∧ y ≤ l.getD i 0 + f.G) (hj : l.getD j 0 + 1 ≤ y ∧ y ≤ l.getD j 0 + f.G) : ∀ k, j < k → 2 ≤ cntS f y l k
  | 0, h => absurd h (Nat.not_lt_zero _)
  | k + 1, h => by
    rw [cntS]
    rcases Nat.lt_or_ge j k with h1 | h1
    · have := cntS_two hij hi hj k h1; omega
    · have : j = k := by omega
      subst this
      have := cntS_pos hi j hij
      rw [if_pos hj]; omega
theorem okW_out {f : Fil} {t l : List Int} {p : Nat} : ∀ {k i : Nat}, okW f t l p k i = true → ∀ j, i ≤ j → j < i + k → badW f t l p j = false
  | 0, i, _, j, h1, h2 => by omega
  | k + 1, i, h, j, h1, h2 => by
    rw [okW] at h
    cases hb : badW f t l p i with
    | true => rw [hb] at h; cases h
    | false =>
      rw [hb] at h
      rcases Nat.eq_or_lt_of_le h1 with e | e
      · rw [← e]; exact hb
      · exact okW_out (k := k) (i := i + 1) h j e (by omega)
theorem cross {a : Nat → Int} {x : Int} (h0 : a 0 ≤ x) : ∀ n, x < a n → ∃ i, 0 < i ∧ i ≤ n ∧ a (i - 1) ≤ x ∧ x < a i
  | 0, h => by omega
  | n + 1, h => by
    by_cases hn : x < a n
    · obtain ⟨i, h1, h2, h3⟩ := cross h0 n hn
      exact ⟨i, h1, by omega, h3⟩
    · exact ⟨n + 1, by omega, Nat.le_refl _, by rw [Nat.add_sub_cancel]; omega, h⟩
theorem win_list {f : Fil} {t : List Int} {p : Nat} {W L : List Int} (o : Shw f t p) (hW : pvE f t p W = 0) (hR : inR t.length L = true) (hS : shB f t p L = true) : W.length + 2 ≤ L.length := by
  obtain ⟨hi, c⟩ := InCh.of o
  have hph := c.ph
  have hhl := c.hl
  have hlt := o.lt
  have hhi : hiOf f t p = hi := by rw [hiOf, c.hc]; rfl
  have hfr := far_ok o
  unfold shB at hS
  rw [Bool.and_eq_true, decide_eq_true_eq] at hS
  obtain ⟨⟨s1, s2, s3, s4⟩, s5⟩ := hS
  have hget : ∀ k, k < L.length → L[k]? = some (L.getD k 0) := fun k hk => by simp [List.getElem?_eq_getElem hk]
  have hrng : ∀ k, k < L.length → 0 ≤ L.getD k 0 ∧ L.getD k 0 < t.length := fun k hk => inR_get hR (hget k hk)
  have hasc : ∀ i j, i < j → j < L.length → L.getD i 0 < L.getD j 0 := fun i j h1 h2 => nx_asc s5 h1 (hget i (by omega)) (hget j h2)
  have hgap : ∀ i, 0 < i → i < L.length → tAt t (L.getD i 0).toNat - tAt t (L.getD (i - 1) 0).toNat ≤ f.G := fun i h1 h2 => by
    have := eachS_iff.1 s5 i _ (hget i h2)
    rw [Nat.zero_add] at this
    unfold nx at this
    rw [decide_eq_true_eq] at this
    rcases this with h | h
    · omega
    · exact h.2
  have hle : ∀ k, k < L.length → L.getD k 0 ≤ p := fun k hk => by
    rcases Nat.eq_or_lt_of_le (show k ≤ L.length - 1 by omega) with e | e
    · rw [e, s2]; exact Int.le_refl _
    · have := hasc k (L.length - 1) e (by omega); omega
  have hlo : ∀ k, k < L.length → (fst f t p : Int) ≤ L.getD k 0 := fun k hk => by
    rcases Nat.eq_or_lt_of_le (Nat.zero_le k) with e | e
    · rw [← e]; exact s3
    · have := hasc 0 k e hk; omega
  obtain ⟨a, ha⟩ : ∃ a : Nat → Int, a = fun k => tAt t (L.getD k 0).toNat := ⟨_, rfl⟩
  have haA : ∀ k, a k = tAt t (L.getD k 0).toNat := fun k => by rw [ha]
  have mono := fun a b (h : a < b) (hb : b < t.length) => o.toOkt.mono h hb
  have hmono : ∀ i j, i < j → j < L.length → a i < a j := fun i j h1 h2 => by
    have := hasc i j h1 h2
    have r1 := hrng i (by omega)
    have r2 := hrng j h2
    rw [haA, haA]
    exact mono _ _ (by omega) (by omega)
  have hgapA : ∀ i, 0 < i → i < L.length → a i ≤ a (i - 1) + f.G := fun i h1 h2 => by
    have := hgap i h1 h2
    rw [haA, haA]; omega
  have hlast : a (L.length - 1) = tAt t p := by rw [haA, s2, Int.toNat_natCast]
  have h0far : a 0 ≤ tAt t (far f t p) := by
    have r0 := hrng 0 (by omega)
    have hl0 := hle 0 (by omega)
    have := (far_mono o.toOkt hlt hfr.2.1 hfr.2.2.1 hfr.2.2.2 (i := (L.getD 0 0).toNat) (by omega)).1 s4
    rw [haA]
    rcases Nat.eq_or_lt_of_le this with e | e
    · rw [e]; exact Int.le_refl _
    · exact Int.le_of_lt (mono _ _ e (by omega))
  have hpf : tAt t (far f t p) < tAt t p := mono _ _ hfr.2.1 hlt
  have h2len : 2 ≤ L.length := by
    rcases Nat.lt_or_ge L.length 2 with h | h
    · exfalso
      have : L.length - 1 = 0 := by omega
      rw [this] at hlast
      omega
    · exact h
  unfold pvE at hW
  cases e1 : eachS (asc W) 0 W with
  | false => rw [e1] at hW; cases hW
  | true =>
  cases e2 : W.all (fun x => decide (tAt t (far f t p) ≤ x ∧ x ≤ tAt t p - 1)) with
  | false => rw [e1, e2] at hW; cases hW
  | true =>
  cases e3 : okW f t W p (hiOf f t p + 1 - fst f t p) (fst f t p) with
  | false => rw [e1, e2, e3] at hW; cases hW
  | true =>
  have hwg : ∀ k, k < W.length → W[k]? = some (W.getD k 0) := fun k hk => by simp [List.getElem?_eq_getElem hk]
  have hwr : ∀ k, k < W.length → tAt t (far f t p) ≤ W.getD k 0 ∧ W.getD k 0 ≤ tAt t p - 1 := fun k hk => by
    have := List.all_eq_true.1 e2 _ (List.mem_of_getElem? (hwg k hk))
    rwa [decide_eq_true_eq] at this
  have hwa : ∀ k, k + 1 < W.length → W.getD k 0 < W.getD (k + 1) 0 := fun k hk => by
    have := eachS_iff.1 e1 (k + 1) _ (hwg (k + 1) hk)
    rw [Nat.zero_add] at this
    unfold asc at this
    rw [decide_eq_true_eq] at this
    rcases this with h | h
    · omega
    · rwa [Nat.add_sub_cancel] at h
  have hfl := fst_le f t p
  have hbad : ∀ i, i < L.length → badW f t W p (L.getD i 0).toNat = false := fun i hi' => by
    have r1 := hrng i hi'
    have r2 := hle i hi'
    have r3 := hlo i hi'
    exact okW_out e3 _ (by omega) (by omega)
  have hone : ∀ i k k', i < L.length → k < k' → k' < W.length → (W.getD k 0 + 1 ≤ a i ∧ a i ≤ W.getD k 0 + f.G) → ¬ (W.getD k' 0 + 1 ≤ a i ∧ a i ≤ W.getD k' 0 + f.G) := fun i k k' h1 h2 h3 h4 h5 => by
    have hb := hbad i h1
    unfold badW at hb
    rw [decide_eq_false_iff_not] at hb
    rw [haA] at h4 h5
    exact hb (.inl (cntS_two h2 h4 h5 _ h3))
  have hnp : ∀ i k, i < L.length → k < W.length → (W.getD k 0 + 1 ≤ a i ∧ a i ≤ W.getD k 0 + f.G) → i ≠ L.length - 1 := fun i k h1 h2 h3 h4 => by
    have hb := hbad i h1
    unfold badW at hb
    rw [decide_eq_false_iff_not] at hb
    rw [haA] at h3
    exact hb (.inr ⟨cntS_pos h3 _ h2, by rw [h4, s2, Int.toNat_natCast]⟩)
  have hcr : ∀ k, k < W.length → ∃ i, 0 < i ∧ i < L.length ∧ a (i - 1) ≤ W.getD k 0 ∧ W.getD k 0 < a i := fun k hk => by
    have hr := hwr k hk
    obtain ⟨i, q1, q2, q3, q4⟩ := cross (a := a) (x := W.getD k 0) (by omega) (L.length - 1) (by omega)
    exact ⟨i, q1, by omega, q3, q4⟩
  have main : ∀ k, k < W.length → ∃ i, k + 1 ≤ i ∧ i < L.length ∧ a (i - 1) ≤ W.getD k 0 ∧ W.getD k 0 < a i := by
    intro k
    induction k with
    | zero =>
      intro hk
      obtain ⟨i, q1, q2, q3, q4⟩ := hcr 0 hk
      exact ⟨i, q1, q2, q3, q4⟩
    | succ k ih =>
      intro hk
      obtain ⟨i, q1, q2, q3, q4⟩ := ih (by omega)
      obtain ⟨j, r1, r2, r3, r4⟩ := hcr (k + 1) hk
      have hww := hwa k hk
      refine ⟨j, ?_, r2, r3, r4⟩
      rcases Nat.lt_or_ge i j with h | h
      · omega
      · exfalso
        rcases Nat.eq_or_lt_of_le h with e | e
        · subst e
          have g := hgapA j r1 r2
          exact hone j k (k + 1) r2 (by omega) hk ⟨by omega, by omega⟩ ⟨by omega, by omega⟩
        · have : a j ≤ a (i - 1) := by
            rcases Nat.eq_or_lt_of_le (show j ≤ i - 1 by omega) with e' | e'
            · rw [e']; exact Int.le_refl _
            · exact Int.le_of_lt (hmono j (i - 1) e' (by omega))
          omega
  rcases Nat.eq_or_lt_of_le (Nat.zero_le W.length) with h | h
  · omega
  · obtain ⟨i, q1, q2, q3, q4⟩ := main (W.length - 1) (by omega)
    have g := hgapA i (by omega) q2
    have := hnp i (W.length - 1) q2 (by omega) ⟨by omega, by omega⟩
    omega
theorem few_min {f : Fil} {t : List Int} {p : Nat} {L : List Int} (o : Shw f t p) (hR : inR t.length L = true) (hS : shB f t p L = true) : (few f t p).length ≤ L.length := by
  have h1 := win_list o (win_proves o) hR hS
  rw [win_len o] at h1
  omega
theorem few_less {f : Fil} {t : List Int} {p : Nat} (o : Shw f t p) {k : Nat} (hk : k < (few f t p).length) : inR t.length ((few f t p).eraseIdx k) = true ∧ shB f t p ((few f t p).eraseIdx k) = false := by
  have hR : inR t.length ((few f t p).eraseIdx k) = true := by
    unfold inR
    rw [List.all_eq_true]
    intro x hx
    exact List.all_eq_true.1 (few_shows o).1 x (List.mem_of_mem_eraseIdx hx)
  refine ⟨hR, ?_⟩
  cases hs : shB f t p ((few f t p).eraseIdx k)
  · rfl
  · have := few_min o hR hs
    rw [List.length_eraseIdx_of_lt hk] at this
    omega
theorem pv_few {f : Fil} {t : List Int} {p : Nat} {W : List Int} (o : Shw f t p) (hW : pvE f t p W = 0) : W.length + 2 ≤ (few f t p).length :=
  win_list o hW (few_shows o).1 (few_shows o).2
end Go.Proofs.Ytolnajnlcdacmaa

open Go.Vm
namespace Go.Vm
theorem flat_del {α : Type} {enc : α → List D} {m : Nat} (hm : ∀ a, (enc a).length = m) (l : List α) (k : Nat) (hk : k < l.length) :
    ((l.flatMap enc).take (0 + k * m) ++ ((l.flatMap enc).drop ((k + 1) * m)).take ((l.length - (k + 1)) * m) ++ (l.flatMap enc).drop (0 + k * m + (l.length - (k + 1)) * m)).take (0 + (l.length - 1) * m) = (l.eraseIdx k).flatMap enc := by
  rw [Nat.zero_add, Nat.zero_add, flat_takeD hm, flat_dropD hm, flat_takeD hm, ← List.flatMap_append]
  have e : l.take k ++ (l.drop (k + 1)).take (l.length - (k + 1)) = l.eraseIdx k := by
    rw [List.take_of_length_le (l := l.drop (k + 1)) (by rw [List.length_drop]; exact Nat.le_refl _), List.eraseIdx_eq_take_drop_succ]
  rw [e]
  have hl : ((l.eraseIdx k).flatMap enc).length = (l.length - 1) * m := by rw [flat_len hm, List.length_eraseIdx_of_lt hk]
  rw [List.take_append_of_le_length (by omega), List.take_of_length_le (by omega)]
end Go.Vm
namespace Go.Proofs.Ytolnajnlcdacmaa
set_option maxRecDepth 20000
set_option maxHeartbeats 4000000

theorem vc_cloneIO (l : List Int) (h : Hp) (hl : l.length ≤ 4000000) : VC Try.prog 33 [ints l] h (.gl h.fresh 1 l.length) (h.push (.flat true (l.flatMap encI))) := by
  refine VC.body Try.func33 rfl Try.ntmps33 Try.call33 (h.grows_push _) rfl ?_
  conv => whnf
  repeat (first | ((first | refine zs1 ?_ | refine zs2 ?_ | refine zs3 ?_ | refine zs4 ?_ | refine zs5 ?_ | refine zs6 [] ?_); conv => whnf))
  refine VMem.appNil encI_len rfl rfl rfl (by omega) ?_
  conv => whnf
  repeat (first | ((first | refine zs1 ?_ | refine zs2 ?_ | refine zs3 ?_ | refine zs4 ?_ | refine zs5 ?_ | refine zs6 [] ?_); conv => whnf))
  exact VOut.own1 0 1 rfl rfl
theorem VOut.setSl {h : Hp} {loc : List Blk} {i : Vm.Id} {b0 : Blk} {l : List D} {rw : Bool} {o e n : Nat} {m : Option Nat} {L : Nat} (hL : Nat.ble loc.length L = true) (hb : h.get i = some b0) : VOut h ⟨outW h.lift i (.flat rw l), loc⟩ (.slice (.out i) o e n m) (.slice i o e n m) (h.set i (.flat rw l)) := by
  have hd : ∀ p ∈ [(i, Blk.flat rw l)], h.get p.1 ≠ none := by
    intro p hp
    simp only [List.mem_cons, List.not_mem_nil, or_false] at hp
    subst hp; simp only; rw [hb]; simp
  have := VOut.upd (loc := loc) (r1 := .slice (.out i) o e n m) (r := .slice i o e n m) [(i, .flat rw l)] [] [] L hL hd (by simp) rfl (by intro k b hk; simp at hk) (fun σ x hx => by
    have hρ : backR h.loc.length [] L i = .out i := by
      cases i with
      | out i => rfl
      | loc k =>
        have hk : k < h.loc.length := (List.getElem?_eq_some_iff.1 (show h.loc[k]? = some b0 from hb)).1
        simp [backR, hk]
    simp only [V.ren, hρ]; exact hx) (outer := outW h.lift i (.flat rw l)) rfl
  have he : (h.sets [(i, Blk.flat rw l)]).pushes [] = h.set i (.flat rw l) := by simp [Hp.sets, Hp.pushes]
  rw [he] at this
  exact this
theorem vc_DelS (l : List Int) (k c : Nat) (i : Vm.Id) (h : Hp) (hb : h.get i = some (.flat true (l.flatMap encI))) (hk : k < l.length) (hc : l.length ≤ c) (hl : l.length ≤ 4000000) :
    VC Try.prog 51 [.slice i 0 1 l.length (some c), I k, I ((k : Int) + 1)] h (.slice i 0 1 (l.eraseIdx k).length (some c)) (h.set i (.flat true ((l.eraseIdx k).flatMap encI))) := by
  rw [List.length_eraseIdx_of_lt hk]
  refine VC.body Try.func51 rfl Try.ntmps51 Try.call51 (h.grows_set _ _) rfl ?_
  conv => whnf
  repeat' (first | ((first | refine zs1 ?_ | refine zs2 ?_ | refine zs3 ?_ | refine zs4 ?_ | refine zs5 ?_); conv => whnf) | ((first | apply zi1 | apply zi2 | apply zi3 | apply zi4 | apply zi5) <;> intro _ <;> conv => whnf))
  · exfalso; omega
  · refine VDraw.go [] (by kernel_rfl) (by kernel_rfl) ?_
    conv => whnf
    repeat' (first | ((first | refine zs1 ?_ | refine zs2 ?_ | refine zs3 ?_ | refine zs4 ?_ | refine zs5 ?_); conv => whnf) | ((first | apply zi1 | apply zi2 | apply zi3 | apply zi4 | apply zi5) <;> intro _ <;> conv => whnf))
    have e1 : ((k : Int) - 0).toNat = k := by omega
    have e2 : ((k : Int) + 1).toNat = k + 1 := by omega
    have e3 : ((l.length : Int) - ((k : Int) + 1)).toNat = l.length - (k + 1) := by omega
    have e4 : k + (l.length - (k + 1)) = l.length - 1 := by omega
    have e5 : 0 + (k + 1) * (0 + 1) = (k + 1) * 1 := by omega
    rw [e1, e2, e3, e5]
    have hfl := flat_len1 encI_len l
    refine VMem.appRoom (esz := 1) (off := 0) (off2 := (k + 1) * 1) (len := k) (n := l.length - (k + 1)) (c0 := c) rfl (get_out hb _) (by rw [hfl]; omega) (by rw [hfl]; omega) (by omega) (by omega) ?_
    rw [e4]
    have hR := flat_del encI_len l k hk
    have hRl : ((l.flatMap encI).take (0 + k * 1) ++ ((l.flatMap encI).drop ((k + 1) * 1)).take ((l.length - (k + 1)) * 1) ++ (l.flatMap encI).drop (0 + k * 1 + (l.length - (k + 1)) * 1)).length = l.length := by
      simp only [List.length_append, List.length_take, List.length_drop, hfl]; omega
    generalize (l.flatMap encI).take (0 + k * 1) ++ ((l.flatMap encI).drop ((k + 1) * 1)).take ((l.length - (k + 1)) * 1) ++ (l.flatMap encI).drop (0 + k * 1 + (l.length - (k + 1)) * 1) = R at hR hRl ⊢
    conv => whnf
    repeat' (first | ((first | refine zs1 ?_ | refine zs2 ?_ | refine zs3 ?_ | refine zs4 ?_ | refine zs5 ?_); conv => whnf) | ((first | apply zi1 | apply zi2 | apply zi3 | apply zi4 | apply zi5) <;> intro _ <;> conv => whnf))
    have e8 : 0 + ((l.length - 1 : Nat) : Int).toNat * (0 + 1) = 0 + (l.length - 1) * 1 := by omega
    refine VMem.clearTail (esz := 1) rfl (outW_get _ _ _ _) ?_ ?_
    · have e9 : ((l.length : Int) - ((l.length - 1 : Nat) : Int)).toNat = 1 := by omega
      rw [hRl, e8, e9]; omega
    rw [e8, hR]
    conv => whnf
    repeat' (first | ((first | refine zs1 ?_ | refine zs2 ?_ | refine zs3 ?_ | refine zs4 ?_ | refine zs5 ?_); conv => whnf) | ((first | apply zi1 | apply zi2 | apply zi3 | apply zi4 | apply zi5) <;> intro _ <;> conv => whnf))
    refine (show VOut h ⟨outW (outW h.lift i (.flat true R)) i (.flat true ((l.eraseIdx k).flatMap encI)), []⟩ _ _ _ from ?_)
    rw [outW_same]
    exact VOut.setSl (L := 0) rfl hb
end Go.Proofs.Ytolnajnlcdacmaa

open Go.Vm
namespace Go.Proofs.Ytolnajnlcdacmaa
set_option maxRecDepth 20000
set_option maxHeartbeats 8000000

theorem eachS_asc {l : List Int} (h : l.Pairwise (· < ·)) : eachS (asc l) 0 l = true := by
  refine eachS_iff.2 fun i x hx => ?_
  rw [Nat.zero_add]
  unfold asc
  rw [decide_eq_true_eq]
  cases i with
  | zero => exact .inl rfl
  | succ i =>
    right
    rw [Nat.add_sub_cancel]
    obtain ⟨h1, rfl⟩ := List.getElem?_eq_some_iff.1 hx
    have : l.getD i 0 = l[i] := by simp [List.getElem?_eq_getElem (show i < l.length by omega)]
    rw [this]
    exact List.pairwise_iff_getElem.1 h i (i + 1) (by omega) h1 (by omega)
theorem pvE_asc {f : Fil} {t : List Int} {p : Nat} {l : List Int} (h : l.Pairwise (· < ·)) : pvE f t p l = 0 ∨ pvE f t p l = 4 ∨ pvE f t p l = 9 := by
  unfold pvE
  rw [eachS_asc h, cond_true]
  cases l.all (fun x => decide (tAt t (far f t p) ≤ x ∧ x ≤ tAt t p - 1)) <;> cases okW f t l p (hiOf f t p + 1 - fst f t p) (fst f t p) <;> simp
structure Yrs (t : List Int) (k : Nat) (l : List Int) : Prop where
  len : l.length ≤ k
  pw : l.Pairwise (· < ·)
  of : ∀ y ∈ l, ∃ j : Nat, j < k ∧ y = tAt t j
theorem Yrs.skip {t : List Int} {k : Nat} {l : List Int} (h : Yrs t k l) : Yrs t (k + 1) l :=
  ⟨by have := h.len; omega, h.pw, fun y hy => by obtain ⟨j, h1, h2⟩ := h.of y hy; exact ⟨j, by omega, h2⟩⟩
theorem Yrs.add {f : Fil} {t : List Int} {k : Nat} {l : List Int} (o : Okt f t) (hk : k < t.length) (h : Yrs t k l) {y : Int} (hy : t[k]? = some y) : Yrs t (k + 1) (l ++ [y]) := by
  refine ⟨by rw [List.length_append]; have := h.len; simp only [List.length_singleton]; omega, ?_, ?_⟩
  · refine List.pairwise_append.2 ⟨h.pw, List.pairwise_singleton _ _, fun a ha b hb => ?_⟩
    rw [List.mem_singleton] at hb
    obtain ⟨j, h1, h2⟩ := h.of a ha
    rw [h2, hb, ← tAt_eq hy]
    exact o.mono h1 hk
  · intro z hz
    rcases List.mem_append.1 hz with hz | hz
    · obtain ⟨j, h1, h2⟩ := h.of z hz; exact ⟨j, by omega, h2⟩
    · rw [List.mem_singleton] at hz
      exact ⟨k, by omega, by rw [hz, tAt_eq hy]⟩
structure Oth (k : Nat) (l : List Int) : Prop where
  len : l.length ≤ k
  rng : ∀ x ∈ l, 0 ≤ x ∧ x < k
theorem Oth.skip {k : Nat} {l : List Int} (h : Oth k l) : Oth (k + 1) l :=
  ⟨by have := h.len; omega, fun x hx => by have := h.rng x hx; omega⟩
theorem Oth.add {k : Nat} {l : List Int} (h : Oth k l) : Oth (k + 1) (l ++ [(k : Int)]) := by
  refine ⟨by rw [List.length_append]; have := h.len; simp only [List.length_singleton]; omega, fun x hx => ?_⟩
  rcases List.mem_append.1 hx with hx | hx
  · have := h.rng x hx; omega
  · rw [List.mem_singleton] at hx; omega
theorem Oth.inR {k n : Nat} {l : List Int} (h : Oth k l) (hk : k < n) : inR n (l ++ [(k : Int)]) = true := by
  unfold Proofs.Ytolnajnlcdacmaa.inR
  rw [List.all_eq_true]
  intro x hx
  rw [decide_eq_true_eq]
  rcases List.mem_append.1 hx with hx | hx
  · have := h.rng x hx; omega
  · rw [List.mem_singleton] at hx; omega
theorem vc_SilenceProved (ns ts : List Int) (h : Hp) : VC Try.prog 10 [bytes ns, bytes ts] h (B true) h := by
  obtain ⟨k1, k2, k3, k4, k5⟩ := mFile_ok ns (0, 9) (papers := 16) (yrs := 4) (by omega) (by omega)
  have cM := fun (i : Vm.Id) (h : Hp) hd => vc_Made ns (0, 9) 16 4 i h (by decide) (by omega) (by omega) hd
  generalize mFile ns (0, 9) 16 4 = f at k1 k2 k3 k4 cM
  generalize (mEnd ns (0, 9) 16 4).d = dE at cM
  have cT := fun (i : Vm.Id) (h : Hp) hd => vc_True ts (0, 9) f i h (by decide) k1 hd
  obtain ⟨t1, t2⟩ := tIt_tru ts (0, 9) k1
  generalize tIt ts f.ps (0, 9) = X at cT t1 t2
  obtain ⟨t, dT⟩ := X
  dsimp only at cT t1 t2
  have o := tru_okt k1 t1
  have ht := told_tru k1 t1
  have hn := o.n
  have hlen := o.len
  have cA := fun h => vc_Arises f t h (by omega) (by omega)
  rw [if_pos ht, ht] at cA
  have hAl := selS_len (arB f t) t.length
  have hAe : arL f t = selS (arB f t) t.length := rfl
  rw [← hAe] at hAl
  have hAm := fun x => (arL_mem (f := f) (t := t) (x := x)).1
  generalize arL f t = A at cA hAm hAl hAe
  refine VC.bodyC 3 Try.func10 rfl Try.ntmps10 Try.call10 (h.grows_refl) rfl ?_; conv => whnf
  repeat' (first | ((first | refine zs1 ?_ | refine zs2 ?_ | refine zs3 ?_ | refine zs4 ?_ | refine zs5 ?_); conv => whnf) | ((first | apply zi1 | apply zi2 | apply zi3 | apply zi4 | apply zi5) <;> intro _ <;> conv => whnf) | (refine VCall.intro (vc_Of _ _) ?_; conv => whnf) | (refine VCall.intro (cM _ _ rfl) ?_; conv => whnf))
  refine VCut.at [(5, .fp (encF f)), (6, .ptr (.loc 0) 0)] [deckB ts (0, 9)] ?_ ?_
  · conv => whnf
    refine Retell.turn ⟨[2], 3, [(1, encF f)], []⟩ (TurnOk.mk' _ _ [(1, encF f)] [] (OutOk.lift _) rfl (by decide) zb zf trivial rfl) zv zm
  · conv => whnf
    repeat' (first | ((first | refine zs1 ?_ | refine zs2 ?_ | refine zs3 ?_ | refine zs4 ?_ | refine zs5 ?_); conv => whnf) | ((first | apply zi1 | apply zi2 | apply zi3 | apply zi4 | apply zi5) <;> intro _ <;> conv => whnf) | (refine VCall.intro (cT _ _ rfl) ?_; conv => whnf) | (refine VCall.intro (cA _) ?_; conv => whnf))
    all_goals try (exfalso; omega)
    refine VCode.lp (fun y : Nat × (Nat × Int) => [(5, .fp (encF f)), (6, .ptr (.loc 0) 0), (7, ints t), (47, ints A), (48, I A.length), (49, I y.1)]) (fun y => [deckB ts y.2]) (fun y => y.1 ≤ A.length ∧ y.2.1 ≤ 16 + 128 * y.1) (fun y => A.length - y.1) (0, dT) ⟨Nat.zero_le _, by dsimp only; omega⟩ ?_ ?_
    · conv => whnf
      refine Retell.turn ⟨[0], 2, [], []⟩ (TurnOk.mk' _ _ [] [] (OutOk.lift _) rfl (by decide) zb trivial trivial rfl) zv zm
    · rintro ⟨i, e⟩ ⟨hi0, he0⟩
      dsimp only at hi0 he0
      conv => whnf
      refine VIte.dec (fun h3 => ?_) (fun h3 => ?_)
      · have hx : A[i]? = some A[i] := List.getElem?_eq_getElem (by omega)
        obtain ⟨p, g1, g2, g3⟩ := hAm A[i] (List.getElem_mem (by omega))
        rw [g2] at hx
        have s : Shw f t p := { o with lt := g1, ar := g3 }
        have cF := fun h => vc_Fewest_ok f t p h (by omega) ht s
        have cS := fun h => vc_Shows_ok f t p (few f t p) h (by omega) (by have := few_len s; omega) ht s
        have cW := fun h => vc_Windows_ok f t p h (by omega) ht s
        have cP := fun h => vc_Proves_ok f t p (win f t p) h (by omega) (by have := few_len s; have := win_len s; omega) ht s
        rw [(few_shows s).1, (few_shows s).2] at cS
        rw [win_proves s] at cP
        unfold pvR at cP
        rw [if_pos rfl] at cP
        have hWl := win_len s
        have hFl := few_len s
        have hFd := fun k hk => few_less s (k := k) hk
        have hFm := fun L => few_min (L := L) s
        have hFp := fun W => pv_few (W := W) s
        generalize few f t p = F at cF cS hWl hFl hFd hFm hFp
        generalize win f t p = Wn at cW cP hWl
        have ePn : ((Wn.length : Nat) : Int) + 2 = (F.length : Int) := by omega
        rw [ePn] at cP
        conv => whnf
        repeat' (first | ((first | refine zs1 ?_ | refine zs2 ?_ | refine zs3 ?_ | refine zs4 ?_ | refine zs5 ?_); conv => whnf) | ((first | apply zi1 | apply zi2 | apply zi3 | apply zi4 | apply zi5) <;> intro _ <;> conv => whnf) | (refine VAny.ix encI_len i rfl rfl hx ?_; conv => whnf) | (refine VCall.intro (cF _) ?_; conv => whnf) | (refine VCall.intro (cS _) ?_; conv => whnf) | (refine VCall.intro (cW _) ?_; conv => whnf) | (refine VCall.intro (cP _) ?_; conv => whnf))
        all_goals try (rename_i hz; exact absurd rfl hz)
        all_goals try (exfalso; omega)
        refine VCode.lp (fun k : Nat => [(5, .fp (encF f)), (6, .ptr (.loc 0) 0), (7, ints t), (11, I p), (12, ints F), (18, I F.length), (47, ints A), (48, I A.length), (49, I i), (116, I F.length), (117, I k)]) (fun _ => [deckB ts e]) (fun k => k ≤ F.length) (fun k => F.length - k) 0 (Nat.zero_le _) ?_ ?_
        · conv => whnf
          refine Retell.turn ⟨[0], 1, [], []⟩ (TurnOk.mk' _ _ [] [] (OutOk.lift _) rfl (by decide) zb trivial trivial rfl) zv zm
        · intro k hk
          conv => whnf
          refine VIte.dec (fun h4 => ?_) (fun h4 => ?_)
          · have hkF : k < F.length := by omega
            obtain ⟨hd1, hd2⟩ := hFd k hkF
            have cD := fun h => vc_Shows_ok f t p (F.eraseIdx k) h (by omega) (by rw [List.length_eraseIdx_of_lt hkF]; omega) ht s
            rw [hd1, hd2] at cD
            have cC := fun h => vc_cloneIO F h (by omega)
            have cE := fun (o : Vm.Id → Option Blk) => VC.glSl (P := Try.prog) (f := 51) (i := .loc 1) (rest := [I k, I ((k : Int) + 1)]) (h := ⟨o, [deckB ts e, .flat true (F.flatMap encI)]⟩) (by omega) (by simp [Hp.get]) (fun c hc => vc_DelS F k c (.loc 1) ⟨o, [deckB ts e, .flat true (F.flatMap encI)]⟩ rfl hkF hc (by omega))
            generalize F.eraseIdx k = E at cD cE
            conv => whnf
            refine VDraw.go [(0, 4), (0, 8)] (by kernel_rfl) (by kernel_rfl) ?_
            conv => whnf
            repeat' (first | ((first | refine zs1 ?_ | refine zs2 ?_ | refine zs3 ?_ | refine zs4 ?_ | refine zs5 ?_); conv => whnf) | ((first | apply zi1 | apply zi2 | apply zi3 | apply zi4 | apply zi5) <;> intro _ <;> conv => whnf) | (refine VCall.intro (cC _) ?_; conv => whnf) | (refine VCall.intro (cE _) ?_; conv => whnf) | (refine VCall.intro ((VC.lendS [dF f, dL t, DI p, dL E] [(1, E.flatMap encI)] [] zf trivial zv (cD Hp.bare))) ?_; conv => whnf))
            all_goals try (rename_i hz; exact absurd rfl hz)
            refine LEnd.intro (k + 1) (by omega) (by omega) ?_
            conv => whnf
            refine Retell.turn ⟨[0], 2, [], []⟩ (TurnOk.mk' _ _ [] [] (OutOk.lift _) rfl (by decide) zb trivial trivial rfl) zv zm
          · conv => whnf
            repeat' (first | ((first | refine zs1 ?_ | refine zs2 ?_ | refine zs3 ?_ | refine zs4 ?_ | refine zs5 ?_); conv => whnf) | ((first | apply zi1 | apply zi2 | apply zi3 | apply zi4 | apply zi5) <;> intro _ <;> conv => whnf))
            refine VCode.lp (fun y : Nat × (Nat × Int) => [(5, .fp (encF f)), (6, .ptr (.loc 0) 0), (7, ints t), (11, I p), (18, I F.length), (47, ints A), (48, I A.length), (49, I i), (139, I y.1)]) (fun y => [deckB ts y.2]) (fun y => y.1 ≤ 4 ∧ y.2.1 ≤ 16 + 128 * i + 32 * y.1) (fun y => 4 - y.1) (0, e) ⟨Nat.zero_le _, by dsimp only; omega⟩ ?_ ?_
            · conv => whnf
              refine Retell.turn ⟨[0], 1, [], []⟩ (TurnOk.mk' _ _ [] [] (OutOk.lift _) rfl (by decide) zb trivial trivial rfl) zv zm
            · rintro ⟨j, e⟩ ⟨hj0, he0⟩
              dsimp only at hj0 he0
              conv => whnf
              refine VIte.dec (fun h5 => ?_) (fun h5 => ?_)
              · conv => whnf
                repeat' (first | ((first | refine zs1 ?_ | refine zs2 ?_ | refine zs3 ?_ | refine zs4 ?_ | refine zs5 ?_); conv => whnf) | ((first | apply zi1 | apply zi2 | apply zi3 | apply zi4 | apply zi5) <;> intro _ <;> conv => whnf))
                refine VCode.lp (fun y : Nat × List Int × (Nat × Int) => [(5, .fp (encF f)), (6, .ptr (.loc 0) 0), (7, ints t), (11, I p), (18, I F.length), (23, .gl (.loc 1) 1 y.2.1.length), (47, ints A), (48, I A.length), (49, I i), (139, I j), (141, I p), (142, I y.1)]) (fun y => [deckB ts y.2.2, .flat true (y.2.1.flatMap encI)]) (fun y => y.1 ≤ p ∧ Oth y.1 y.2.1 ∧ y.2.2.1 ≤ 16 + 128 * i + 32 * j + y.1) (fun y => p - y.1) (0, [], e) ⟨Nat.zero_le _, ⟨Nat.le_refl _, by simp⟩, by dsimp only; omega⟩ ?_ ?_
                · conv => whnf
                  refine Retell.turn ⟨[0,1], 1, [], []⟩ (TurnOk.mk' _ _ [] [] (OutOk.lift _) rfl (by decide) zb trivial trivial rfl) zv zm
                · rintro ⟨k, ot, ⟨N, sd⟩⟩ ⟨hk0, ho, he1⟩
                  dsimp only at hk0 ho he1
                  have hol := ho.len
                  conv => whnf
                  refine VIte.dec (fun h6 => ?_) (fun h6 => ?_)
                  · obtain ⟨r, sd', N', q1, q2⟩ := vc_Coin ts N sd 2 (by omega)
                    cases r
                    · conv => whnf
                      repeat' (first | ((first | refine zs1 ?_ | refine zs2 ?_ | refine zs3 ?_ | refine zs4 ?_ | refine zs5 ?_); conv => whnf) | ((first | apply zi1 | apply zi2 | apply zi3 | apply zi4 | apply zi5) <;> intro _ <;> conv => whnf) | (refine VCall.intro (q2 _ _ rfl) ?_; conv => whnf))
                      all_goals try (rename_i hz; exact absurd rfl hz)
                      refine LEnd.intro (k + 1, ot, (N', sd')) ⟨by dsimp only; omega, ho.skip, by dsimp only; omega⟩ (by dsimp only; omega) ?_
                      conv => whnf
                      refine Retell.turn ⟨[0,1], 2, [], []⟩ (TurnOk.mk' _ _ [] [] (OutOk.lift _) rfl (by decide) zb trivial trivial rfl) zv zm
                    · conv => whnf
                      repeat' (first | ((first | refine zs1 ?_ | refine zs2 ?_ | refine zs3 ?_ | refine zs4 ?_ | refine zs5 ?_); conv => whnf) | ((first | apply zi1 | apply zi2 | apply zi3 | apply zi4 | apply zi5) <;> intro _ <;> conv => whnf) | (refine VCall.intro (q2 _ _ rfl) ?_; conv => whnf))
                      all_goals try (rename_i hz; exact absurd rfl hz)
                      refine VMem.app1 (l := ot) (k : Int) encI_len rfl rfl rfl rfl rfl (by omega) ?_
                      conv => whnf
                      repeat' (first | ((first | refine zs1 ?_ | refine zs2 ?_ | refine zs3 ?_ | refine zs4 ?_ | refine zs5 ?_); conv => whnf) | ((first | apply zi1 | apply zi2 | apply zi3 | apply zi4 | apply zi5) <;> intro _ <;> conv => whnf))
                      refine LEnd.intro (k + 1, ot ++ [(k : Int)], (N', sd')) ⟨by dsimp only; omega, ho.add, by dsimp only; omega⟩ (by dsimp only; omega) ?_
                      conv => whnf
                      rw [List.length_append]
                      refine Retell.turn ⟨[0,3], 4, [], []⟩ (TurnOk.mk' _ _ [] [] (OutOk.lift _) rfl (by decide) zb trivial trivial rfl) zv zm
                  · have hkp : k = p := by dsimp only at h6; omega
                    subst hkp
                    have hR := ho.inR g1
                    have cD := fun h => vc_Shows_ok f t k (ot ++ [(k : Int)]) h (by omega) (by rw [List.length_append]; simp only [List.length_singleton]; omega) ht s
                    have hm := hFm _ hR
                    rw [hR] at cD
                    rw [List.length_append, List.length_singleton] at hm
                    generalize hb : shB f t k (ot ++ [(k : Int)]) = b at cD hm
                    apply suffices_
                    · intro hrest
                      cases b
                      all_goals (
                        conv => whnf
                        refine VDraw.go [(0, 6)] (by kernel_rfl) (by kernel_rfl) ?_
                        conv => whnf
                        repeat' (first | ((first | refine zs1 ?_ | refine zs2 ?_ | refine zs3 ?_ | refine zs4 ?_ | refine zs5 ?_); conv => whnf) | ((first | apply zi1 | apply zi2 | apply zi3 | apply zi4 | apply zi5) <;> intro _ <;> conv => whnf))
                        refine VMem.app1 (l := ot) (k : Int) encI_len rfl rfl rfl rfl rfl (by omega) ?_
                        conv => whnf
                        rw [← show (ot ++ [(k : Int)]).length = ot.length + 1 from List.length_append]
                        repeat' (first | ((first | refine zs1 ?_ | refine zs2 ?_ | refine zs3 ?_ | refine zs4 ?_ | refine zs5 ?_); conv => whnf) | ((first | apply zi1 | apply zi2 | apply zi3 | apply zi4 | apply zi5) <;> intro _ <;> conv => whnf))
                        refine VCall.intro (VC.lendS [dF f, dL t, DI k, dL (ot ++ [(k : Int)])] [(3, (ot ++ [(k : Int)]).flatMap encI)] [] zf trivial zv (cD Hp.bare)) ?_
                        conv => whnf
                        repeat' (first | ((first | refine zs1 ?_ | refine zs2 ?_ | refine zs3 ?_ | refine zs4 ?_ | refine zs5 ?_); conv => whnf) | ((first | apply zi1 | apply zi2 | apply zi3 | apply zi4 | apply zi5) <;> intro _ <;> conv => whnf))
                        all_goals try (rename_i hz; exact absurd rfl hz)
                        all_goals try (exfalso; have hmm := hm rfl; clear hm; dsimp only at *; omega)
                        all_goals (
                          refine VCode.tell (marks' := []) [(5, .fp (encF f)), (6, .ptr (.loc 0) 0), (7, ints t), (11, I k), (18, I F.length), (27, .nilslice), (47, ints A), (48, I A.length), (49, I i), (139, I j), (175, I k), (176, I 0)] [deckB ts (N, sd)] ?_ hrest.out
                          conv => whnf
                          refine Retell.turn ⟨[0], 4, [], []⟩ (TurnOk.mk' _ _ [] [] (OutOk.lift _) rfl (by decide) zb trivial trivial rfl) zv zm))
                    · conv => whnf
                      refine VCode.lp (fun y : Nat × List Int × (Nat × Int) => [(5, .fp (encF f)), (6, .ptr (.loc 0) 0), (7, ints t), (11, I k), (18, I F.length), (27, .gl (.loc 1) 1 y.2.1.length), (47, ints A), (48, I A.length), (49, I i), (139, I j), (175, I k), (176, I y.1)]) (fun y => [deckB ts y.2.2, .flat true (y.2.1.flatMap encI)]) (fun y => y.1 ≤ k ∧ Yrs t y.1 y.2.1 ∧ y.2.2.1 ≤ 16 + 128 * i + 32 * j + 16 + y.1) (fun y => k - y.1) (0, [], (N, sd)) ⟨Nat.zero_le _, ⟨Nat.le_refl _, List.Pairwise.nil, by simp⟩, by dsimp only; omega⟩ ?_ ?_
                      · conv => whnf
                        refine Retell.turn ⟨[0,1], 1, [], []⟩ (TurnOk.mk' _ _ [] [] (OutOk.lift _) rfl (by decide) zb trivial trivial rfl) zv zm
                      · rintro ⟨m, ys, ⟨N2, sd2⟩⟩ ⟨hm0, hy, he2⟩
                        dsimp only at hm0 hy he2
                        have hyl := hy.len
                        conv => whnf
                        refine VIte.dec (fun h7 => ?_) (fun h7 => ?_)
                        · have hmt : m < t.length := by omega
                          have hyt : t[m]? = some t[m] := List.getElem?_eq_getElem hmt
                          have hyr := o.yr hyt
                          generalize t[m] = y at hyt hyr
                          obtain ⟨r, sd', N', q1, q2⟩ := vc_Coin ts N2 sd2 3 (by omega)
                          cases r
                          · conv => whnf
                            repeat' (first | ((first | refine zs1 ?_ | refine zs2 ?_ | refine zs3 ?_ | refine zs4 ?_ | refine zs5 ?_); conv => whnf) | ((first | apply zi1 | apply zi2 | apply zi3 | apply zi4 | apply zi5) <;> intro _ <;> conv => whnf) | (refine VCall.intro (q2 _ _ rfl) ?_; conv => whnf))
                            all_goals try (rename_i hz; exact absurd rfl hz)
                            refine LEnd.intro (m + 1, ys, (N', sd')) ⟨by dsimp only; omega, hy.skip, by dsimp only; omega⟩ (by dsimp only; omega) ?_
                            conv => whnf
                            refine Retell.turn ⟨[0,1], 2, [], []⟩ (TurnOk.mk' _ _ [] [] (OutOk.lift _) rfl (by decide) zb trivial trivial rfl) zv zm
                          · conv => whnf
                            repeat' (first | ((first | refine zs1 ?_ | refine zs2 ?_ | refine zs3 ?_ | refine zs4 ?_ | refine zs5 ?_); conv => whnf) | ((first | apply zi1 | apply zi2 | apply zi3 | apply zi4 | apply zi5) <;> intro _ <;> conv => whnf) | (refine VCall.intro (q2 _ _ rfl) ?_; conv => whnf) | (refine VAny.ix encI_len m rfl rfl hyt ?_; conv => whnf))
                            all_goals try (rename_i hz; exact absurd rfl hz)
                            refine VMem.app1 (l := ys) y encI_len rfl rfl rfl rfl rfl (by omega) ?_
                            conv => whnf
                            repeat' (first | ((first | refine zs1 ?_ | refine zs2 ?_ | refine zs3 ?_ | refine zs4 ?_ | refine zs5 ?_); conv => whnf) | ((first | apply zi1 | apply zi2 | apply zi3 | apply zi4 | apply zi5) <;> intro _ <;> conv => whnf))
                            refine LEnd.intro (m + 1, ys ++ [y], (N', sd')) ⟨by dsimp only; omega, hy.add o hmt hyt, by dsimp only; omega⟩ (by dsimp only; omega) ?_
                            conv => whnf
                            rw [List.length_append]
                            refine Retell.turn ⟨[0,3], 4, [], []⟩ (TurnOk.mk' _ _ [] [] (OutOk.lift _) rfl (by decide) zb trivial trivial rfl) zv zm
                        · have cQ := fun h => vc_Proves_ok f t k ys h (by omega) (by omega) ht s
                          unfold pvR at cQ
                          have hE := pvE_asc (f := f) (t := t) (p := k) hy.pw
                          have hEF := hFp ys
                          generalize pvE f t k ys = E at cQ hE hEF
                          obtain ⟨u, hu, hu2⟩ : ∃ u : Int, u = (if E = 0 then (ys.length : Int) + 2 else 0) ∧ (E = 0 → u ≤ F.length) := ⟨_, rfl, fun h0 => by rw [if_pos h0]; have := hEF h0; omega⟩
                          rw [← hu] at cQ
                          clear hu
                          conv => whnf
                          repeat' (first | ((first | refine zs1 ?_ | refine zs2 ?_ | refine zs3 ?_ | refine zs4 ?_ | refine zs5 ?_); conv => whnf) | ((first | apply zi1 | apply zi2 | apply zi3 | apply zi4 | apply zi5) <;> intro _ <;> conv => whnf) | (refine VCall.intro ((VC.lendS [dF f, dL t, DI k, dL ys] [(1, ys.flatMap encI)] [] zf trivial zv (cQ Hp.bare))) ?_; conv => whnf))
                          all_goals try (exfalso; omega)
                          all_goals (
                            refine LEnd.intro (j + 1, (N2, sd2)) ⟨by dsimp only; omega, by dsimp only; omega⟩ (by dsimp only; omega) ?_
                            conv => whnf
                            refine Retell.turn ⟨[0], 2, [], []⟩ (TurnOk.mk' _ _ [] [] (OutOk.lift _) rfl (by decide) zb trivial trivial rfl) zv zm)
              · conv => whnf
                repeat' (first | ((first | refine zs1 ?_ | refine zs2 ?_ | refine zs3 ?_ | refine zs4 ?_ | refine zs5 ?_); conv => whnf) | ((first | apply zi1 | apply zi2 | apply zi3 | apply zi4 | apply zi5) <;> intro _ <;> conv => whnf))
                refine LEnd.intro (i + 1, e) ⟨by dsimp only; omega, by dsimp only; omega⟩ (by dsimp only; omega) ?_
                conv => whnf
                refine Retell.turn ⟨[0], 1, [], []⟩ (TurnOk.mk' _ _ [] [] (OutOk.lift _) rfl (by decide) zb trivial trivial rfl) zv zm
      · have hiL : i = A.length := by dsimp only at h3; omega
        conv => whnf
        repeat' (first | ((first | refine zs1 ?_ | refine zs2 ?_ | refine zs3 ?_ | refine zs4 ?_ | refine zs5 ?_); conv => whnf) | ((first | apply zi1 | apply zi2 | apply zi3 | apply zi4 | apply zi5) <;> intro _ <;> conv => whnf) | (refine VCall.intro (vc_awake _) ?_; conv => whnf))
        exact VOut.same rfl
end Go.Proofs.Ytolnajnlcdacmaa

open Go.Vm
namespace Go.Proofs.Ytolnajnlcdacmaa
open Go.ChangeShapes Go.WideShapes Go.ChangeAt Go.RowKit

theorem open10p : OpenAll Try.prog Try.f10.params.toList (fun x : List Int × List Int × Unit => [dU x.1, dU x.2.1]) := by
  rw [Try.params10]
  exact OpenAll.cons openU (OpenAll.cons openU (OpenAll.nil))
set_option maxRecDepth 100000 in
theorem contract10 (H : Type) (enc : TypeId × Value → H) (W : World) (base : Nat) (args : Array Value) (ds gs : List (DataW H)) (before : List MemPlace)
    (hval : ∀ (j : Nat) t v, Try.f10.params[j]? = some t → args[j]? = some v → Value.okWide Try.prog W .any base t v)
    (hW : DataW.Whole enc Try.prog Try.f10.params.toList Rows.silenceProvedSpec.vars false W args.toList ds gs before) :
    Calls Try.prog 10 args W fun e W' => ∃ v, e = .returned v ∧ Rows.silenceProvedSpec.post enc Try.prog Try.f10 false true false false W args v W' := by
  refine contract_of_vc open10p (fun g => vc_SilenceProved g.1 g.2.1 Hp.bare) laidOut ?_ (tb := 4) (by kernel_rfl) Try.underlying4 rfl ?_ hval hW
  · rw [Try.params10]
    intro t ht
    simp only [List.mem_cons, List.not_mem_nil, or_false] at ht
    rcases ht with rfl | rfl
    all_goals exact ⟨by kernel_rfl, of_decide_eq_true (by kernel_rfl)⟩
  · intro H dd hl
    rw [Try.params10] at hl
    match dd, hl with
    | [d0, d1], _ => rfl
set_option maxRecDepth 100000 in
theorem lifted10 (os : Os) (started : os.Started) (H : Type) (enc : TypeId × Value → H) :
    ReturnsInHanded {} Try.checked os 10 .any (Rows.silenceProvedSpec.pre6 enc Try.prog Try.f10 Rows.silenceProvedRow.domain false) (Rows.silenceProvedSpec.post enc Try.prog Try.f10 false true false false) := by
  refine returnsInHanded_of_change (C := Try.checked) ownKn started (by kernel_rfl) Try.func10
    (ChangeSpec.witness6 (enc := enc) (C := Try.checked) false ⟨#[], #[.slice none 0 0, .slice none 0 0], []⟩ 8 (by kernel_rfl) (by kernel_rfl) (by kernel_rfl) (by kernel_rfl)) ?_
  intro W base args ds gs before hval hW _ _
  exact contract10 H enc W base args ds gs before hval hW
theorem silenceProved_said : Rows.SilenceProvedSaid :=
  OpenClaim.holds_of_wide 10 Try.f10 rfl rfl rfl rfl rfl rfl rfl ⟨rfl, rfl, rfl, rfl, rfl⟩ rfl rfl rfl rfl rfl (by kernel_rfl) Try.func10 (by kernel_rfl)
    (of_decide_eq_true (by kernel_rfl)) (by unfold Func.isWrapper; first | (rw [if_pos (by decide +kernel)]; kernel_rfl) | (rw [if_neg (by decide +kernel)]; exact ⟨rfl, rfl⟩))
    (fun os started H enc _ => lifted10 os started H enc)
end Go.Proofs.Ytolnajnlcdacmaa


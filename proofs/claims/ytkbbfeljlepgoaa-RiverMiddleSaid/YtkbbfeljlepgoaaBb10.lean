/- Part 10 of the proof that the laws of chapter 05 that are dealt hold of the given program. No condition. -/
import Derived.Test.YtkbbfeljlepgoaaBb9
set_option linter.unusedVariables false
set_option linter.unusedSimpArgs false
open Go.Vm
namespace Go.Proofs.Ytkbbfeljlepgoaa
set_option maxRecDepth 20000
set_option maxHeartbeats 4000000

abbrev DU (n : Int) : D := .s (.int .u32 n)
def encU (n : Int) : List D := [.s (.int .u8 n)]
theorem encU_len (n : Int) : (encU n).length = 1 := rfl
def bytes (l : List Int) : V := .fs 1 l.length (l.flatMap encU)
def deckD (bs : List Int) (n s : Int) : List D := [.sl 1 bs.length (bs.flatMap encU), DI n, DU s]
def OkB (bs : List Int) : Prop := ∀ x ∈ bs, 0 ≤ x ∧ x ≤ 255
theorem VOut.setS {h : Hp} {loc : List Blk} {i : Vm.Id} {b0 : Blk} {l : List D} {rw : Bool} {x : S} {L : Nat} (hL : Nat.ble loc.length L = true) (hb : h.get i = some b0) : VOut h ⟨outW h.lift i (.flat rw l), loc⟩ (.s x) (.s x) (h.set i (.flat rw l)) := by
  have hd : ∀ p ∈ [(i, Blk.flat rw l)], h.get p.1 ≠ none := by
    intro p hp
    simp only [List.mem_cons, List.not_mem_nil, or_false] at hp
    subst hp; simp only; rw [hb]; simp
  have := VOut.upd (loc := loc) (r1 := .s x) (r := .s x) [(i, .flat rw l)] [] [] L hL hd (by simp) rfl (by intro k b hk; simp at hk) (fun σ x hx => hx) (outer := outW h.lift i (.flat rw l)) rfl
  have he : (h.sets [(i, Blk.flat rw l)]).pushes [] = h.set i (.flat rw l) := by simp [Hp.sets, Hp.pushes]
  rw [he] at this
  exact this
theorem set_same {h : Hp} {i : Vm.Id} {b : Blk} (hb : h.get i = some b) : h.set i b = h := by
  cases i with
  | out i =>
    have hb : h.outer i = some b := hb
    obtain ⟨o, l⟩ := h
    simp only [Hp.set]
    congr 1
    funext j
    split
    · rename_i e; rw [e]; exact hb.symm
    · rfl
  | loc k =>
    have hb : h.loc[k]? = some b := hb
    obtain ⟨o, l⟩ := h
    simp only [Hp.set]
    congr 1
    obtain ⟨h1, h2⟩ := List.getElem?_eq_some_iff.1 hb
    rw [← h2]; exact List.set_getElem_self h1
theorem VOut.set2 {h : Hp} {loc : List Blk} {i : Vm.Id} {b0 b1 : Blk} {l : List D} {rw : Bool} {x : S} (hb : h.get i = some b0) : VOut h ⟨outW (outW h.lift i b1) i (.flat rw l), loc⟩ (.s x) (.s x) (h.set i (.flat rw l)) := by
  rw [outW_same]
  exact VOut.setS (L := loc.length) (by simp) hb
theorem vc_Draw0 (bs : List Int) (n s k : Int) (i : Vm.Id) (h : Hp) (hb : h.get i = some (.flat true (deckD bs n s))) (hk : k ≤ 1 ∨ bs = []) : VC Try.prog 45 [.ptr i 0, I k] h (I 0) (h.set i (.flat true (deckD bs n s))) := by
  rw [set_same hb]
  have hl : k ≤ 1 ∨ bs.length = 0 := by rcases hk with h1 | h1; exact .inl h1; exact .inr (by rw [h1]; rfl)
  refine VC.body Try.func45 rfl Try.ntmps45 Try.call45 (h.grows_refl) rfl ?_; conv => whnf
  repeat' (first | ((first | refine zs1 ?_ | refine zs2 ?_ | refine zs3 ?_ | refine zs4 ?_ | refine zs5 ?_); conv => whnf) | ((first | apply zi1 | apply zi2 | apply zi3 | apply zi4 | apply zi5) <;> intro _ <;> conv => whnf) | (refine VLd.flat rfl rfl (get_out hb _) rfl ?_; conv => whnf))
  · exact VOut.same rfl
  · exact VOut.same rfl
  · exfalso; omega
def dRd (bs : List Int) (N : Nat) : Int := IntKind.u32.wrap (IntKind.i64.wrap ((N : Int).tdiv (bs.length : Int)))
def dkS (bs : List Int) (N : Nat) (s c : Int) : Int := (IntKind.u32.wrap (IntKind.u32.wrap (IntKind.u32.wrap (s * 37) + IntKind.u32.wrap c) + IntKind.u32.wrap (101 * dRd bs N))).tmod 65521
def dR (bs : List Int) (N : Nat) (s k c : Int) : Int := if k ≤ 256 ∧ dRd bs N = 0 then (IntKind.i64.wrap (IntKind.u32.wrap c)).tmod k else (IntKind.i64.wrap (IntKind.u32.wrap (IntKind.u32.wrap (dkS bs N s c * 256) + IntKind.u32.wrap c))).tmod k
theorem u32_bd (n : Int) : 0 ≤ IntKind.u32.wrap n ∧ IntKind.u32.wrap n < 4294967296 := by
  unfold IntKind.wrap; simp [IntKind.bits, IntKind.signed]; omega
theorem tmod_bd {a k : Int} (ha : 0 ≤ a) (hk : 0 < k) : 0 ≤ a.tmod k ∧ a.tmod k < k := by
  rw [Int.tmod_eq_emod_of_nonneg ha]
  exact ⟨Int.emod_nonneg _ (by omega), Int.emod_lt_of_pos _ hk⟩
theorem dR_bd (bs : List Int) (N : Nat) (s c : Int) {k : Int} (hk : 0 < k) : 0 ≤ dR bs N s k c ∧ dR bs N s k c < k := by
  unfold dR
  split
  · have := u32_bd c
    rw [wrap_i64 (by omega)]
    exact tmod_bd this.1 hk
  · have := u32_bd (IntKind.u32.wrap (dkS bs N s c * 256) + IntKind.u32.wrap c)
    rw [wrap_i64 (by omega)]
    exact tmod_bd this.1 hk
theorem vc_Draw1 (bs : List Int) (N : Nat) (s k c : Int) (i : Vm.Id) (h : Hp) (hb : h.get i = some (.flat true (deckD bs N s))) (hk : 1 < k) (hc : bs[N % bs.length]? = some c) (hN : N ≤ 4000000000) :
    VC Try.prog 45 [.ptr i 0, I k] h (I (dR bs N s k c)) (h.set i (.flat true (deckD bs ((N : Int) + 1) (dkS bs N s c)))) := by
  have hlen : 0 < bs.length := by
    have := (List.getElem?_eq_some_iff.1 hc).1
    omega
  have hneB : ((bs.length : Int) != 0) = true := by rw [bne_iff_ne]; omega
  obtain ⟨R, hR⟩ : ∃ R, R = dR bs N s k c := ⟨_, rfl⟩
  rw [← hR]
  unfold dR at hR
  refine VC.body Try.func45 rfl Try.ntmps45 Try.call45 (h.grows_set _ _) rfl ?_
  conv => whnf
  repeat' (first | ((first | refine zs1 ?_ | refine zs2 ?_ | refine zs3 ?_ | refine zs4 ?_ | refine zs5 ?_ | refine zs6 [] ?_); conv => whnf) | ((first | apply zi1 | apply zi2 | apply zi3 | apply zi4 | apply zi5) <;> intro _ <;> conv => whnf) | (refine VLd.flat rfl rfl (get_out hb _) rfl ?_; conv => whnf) | (refine VAny.ix encU_len (N % bs.length) (by rfl) rfl hc ?_; conv => whnf) | (refine VLd.flat rfl rfl (outW_get _ _ _ _) rfl ?_; conv => whnf) | (refine VMem.st1 rfl rfl rfl (get_out hb _) rfl ?_; conv => whnf) | (refine VMem.st1 rfl rfl rfl (outW_get _ _ _ _) rfl ?_; conv => whnf) | (refine VArith.wr ?_; conv => whnf) | (refine VNeed.intro hneB ?_; conv => whnf))
  · exfalso; omega
  · exfalso; omega
  · rename_i h1 h2
    have h2 : dRd bs N = 0 := h2
    rw [if_pos ⟨h1, h2⟩] at hR
    subst hR
    refine VOut.set2 hb
  · rename_i h1 h2
    have h2 : ¬ dRd bs N = 0 := h2
    rw [if_neg (fun h => h2 h.2)] at hR
    subst hR
    refine VOut.set2 hb
  · rename_i h1
    rw [if_neg (fun h => h1 h.1)] at hR
    subst hR
    refine VOut.set2 hb
theorem vc_Draw (bs : List Int) (N : Nat) (s k : Int) (hN : N ≤ 4000000000) : ∃ (r s' : Int) (N' : Nat), 0 ≤ r ∧ (r = 0 ∨ r < k) ∧ N' ≤ N + 1 ∧ ∀ (i : Vm.Id) (h : Hp), h.get i = some (.flat true (deckD bs N s)) → VC Try.prog 45 [.ptr i 0, I k] h (I r) (h.set i (.flat true (deckD bs N' s'))) := by
  by_cases hk : k ≤ 1 ∨ bs = []
  · exact ⟨0, s, N, Int.le_refl _, .inl rfl, by omega, fun i h hb => vc_Draw0 bs N s k i h hb hk⟩
  · have hlen := List.length_pos_iff.2 (fun h => hk (.inr h))
    obtain ⟨c, hc⟩ : ∃ c, bs[N % bs.length]? = some c := ⟨_, List.getElem?_eq_getElem (Nat.mod_lt _ hlen)⟩
    obtain ⟨q1, q2⟩ := dR_bd bs N s c (k := k) (by omega)
    exact ⟨_, _, N + 1, q1, .inr q2, Nat.le_refl _, fun i h hb => vc_Draw1 bs N s k _ i h hb (by omega) hc hN⟩
theorem vc_Between (bs : List Int) (N : Nat) (s a b : Int) (hN : N ≤ 4000000000) (ha : -1000000 ≤ a ∧ a ≤ 1000000) (hb : -1000000 ≤ b ∧ b ≤ 1000000) (hab : a ≤ b) : ∃ (r s' : Int) (N' : Nat), a ≤ r ∧ r ≤ b ∧ N' ≤ N + 1 ∧ ∀ (i : Vm.Id) (h : Hp), h.get i = some (.flat true (deckD bs N s)) → VC Try.prog 44 [.ptr i 0, I a, I b] h (I r) (h.set i (.flat true (deckD bs N' s'))) := by
  obtain ⟨r, s', N', h1, h2, h3, h4⟩ := vc_Draw bs N s (b - a + 1) hN
  refine ⟨a + r, s', N', by omega, by omega, h3, fun i h hb2 => ?_⟩
  refine VC.body Try.func44 rfl Try.ntmps44 Try.call44 (h.grows_set _ _) rfl ?_
  conv => whnf
  repeat' (first | ((first | refine zs1 ?_ | refine zs2 ?_ | refine zs3 ?_ | refine zs4 ?_ | refine zs5 ?_ | refine zs6 [] ?_); conv => whnf) | ((first | apply zi1 | apply zi2 | apply zi3 | apply zi4 | apply zi5) <;> intro _ <;> conv => whnf) | (refine VCall.intro (h4 (.out i) _ (get_out hb2 _)) ?_; conv => whnf))
  exact VOut.setS (L := 0) rfl hb2
theorem vc_Coin (bs : List Int) (N : Nat) (s k : Int) (hN : N ≤ 4000000000) : ∃ (r : Bool) (s' : Int) (N' : Nat), N' ≤ N + 1 ∧ ∀ (i : Vm.Id) (h : Hp), h.get i = some (.flat true (deckD bs N s)) → VC Try.prog 64 [.ptr i 0, I k] h (B r) (h.set i (.flat true (deckD bs N' s'))) := by
  obtain ⟨r, s', N', h1, h2, h3, h4⟩ := vc_Draw bs N s k hN
  refine ⟨r == 0, s', N', h3, fun i h hb2 => ?_⟩
  refine VC.body Try.func64 rfl Try.ntmps64 Try.call64 (h.grows_set _ _) rfl ?_
  conv => whnf
  repeat' (first | ((first | refine zs1 ?_ | refine zs2 ?_ | refine zs3 ?_ | refine zs4 ?_ | refine zs5 ?_ | refine zs6 [] ?_); conv => whnf) | ((first | apply zi1 | apply zi2 | apply zi3 | apply zi4 | apply zi5) <;> intro _ <;> conv => whnf) | (refine VCall.intro (h4 (.out i) _ (get_out hb2 _)) ?_; conv => whnf))
  exact VOut.setS (L := 0) rfl hb2
def dNx (bs : List Int) (d : Nat × Int) (k : Int) : Int × (Nat × Int) :=
  if k ≤ 1 ∨ bs = [] then (0, d) else (dR bs d.1 d.2 k (bs.getD (d.1 % bs.length) 0), (d.1 + 1, dkS bs d.1 d.2 (bs.getD (d.1 % bs.length) 0)))
def deckB (bs : List Int) (d : Nat × Int) : Blk := .flat true (deckD bs d.1 d.2)
theorem dNx_bd (bs : List Int) (d : Nat × Int) (k : Int) : 0 ≤ (dNx bs d k).1 ∧ ((dNx bs d k).1 = 0 ∨ (dNx bs d k).1 < k) ∧ (dNx bs d k).2.1 ≤ d.1 + 1 := by
  unfold dNx
  split
  · exact ⟨Int.le_refl _, .inl rfl, by simp only; omega⟩
  · rename_i h
    obtain ⟨q1, q2⟩ := dR_bd bs d.1 d.2 (bs.getD (d.1 % bs.length) 0) (k := k) (by omega)
    exact ⟨q1, .inr q2, Nat.le_refl _⟩
theorem vc_draw (bs : List Int) (d : Nat × Int) (k : Int) (i : Vm.Id) (h : Hp) (hN : d.1 ≤ 4000000000) (hb : h.get i = some (deckB bs d)) : VC Try.prog 45 [.ptr i 0, I k] h (I (dNx bs d k).1) (h.set i (deckB bs (dNx bs d k).2)) := by
  unfold dNx deckB at *
  split
  · rename_i hk; exact vc_Draw0 bs d.1 d.2 k i h hb hk
  · rename_i hk
    have hlen := List.length_pos_iff.2 (fun h => hk (.inr h))
    have hc : bs[d.1 % bs.length]? = some (bs.getD (d.1 % bs.length) 0) := by simp [List.getElem?_eq_getElem (Nat.mod_lt d.1 hlen)]
    exact vc_Draw1 bs d.1 d.2 k _ i h hb (by omega) hc hN
theorem vc_between (bs : List Int) (d : Nat × Int) (a b : Int) (i : Vm.Id) (h : Hp) (hN : d.1 ≤ 4000000000) (ha : -1000000 ≤ a ∧ a ≤ 1000000) (hb : -1000000 ≤ b ∧ b ≤ 1000000) (hd : h.get i = some (deckB bs d)) : VC Try.prog 44 [.ptr i 0, I a, I b] h (I (a + (dNx bs d (b - a + 1)).1)) (h.set i (deckB bs (dNx bs d (b - a + 1)).2)) := by
  have hbd := dNx_bd bs d (b - a + 1)
  have hD := fun i h hh => vc_draw bs d (b - a + 1) i h hN hh
  generalize dNx bs d (b - a + 1) = x at hbd hD
  refine VC.body Try.func44 rfl Try.ntmps44 Try.call44 (h.grows_set _ _) rfl ?_
  conv => whnf
  repeat' (first | ((first | refine zs1 ?_ | refine zs2 ?_ | refine zs3 ?_ | refine zs4 ?_ | refine zs5 ?_ | refine zs6 [] ?_); conv => whnf) | ((first | apply zi1 | apply zi2 | apply zi3 | apply zi4 | apply zi5) <;> intro _ <;> conv => whnf) | (refine VCall.intro (hD (.out i) _ (get_out hd _)) ?_; conv => whnf))
  exact VOut.setS (L := 0) rfl hd
theorem vc_coin (bs : List Int) (d : Nat × Int) (k : Int) (i : Vm.Id) (h : Hp) (hN : d.1 ≤ 4000000000) (hd : h.get i = some (deckB bs d)) : VC Try.prog 64 [.ptr i 0, I k] h (B ((dNx bs d k).1 == 0)) (h.set i (deckB bs (dNx bs d k).2)) := by
  have hD := fun i h hh => vc_draw bs d k i h hN hh
  generalize dNx bs d k = x at hD
  refine VC.body Try.func64 rfl Try.ntmps64 Try.call64 (h.grows_set _ _) rfl ?_
  conv => whnf
  repeat' (first | ((first | refine zs1 ?_ | refine zs2 ?_ | refine zs3 ?_ | refine zs4 ?_ | refine zs5 ?_ | refine zs6 [] ?_); conv => whnf) | ((first | apply zi1 | apply zi2 | apply zi3 | apply zi4 | apply zi5) <;> intro _ <;> conv => whnf) | (refine VCall.intro (hD (.out i) _ (get_out hd _)) ?_; conv => whnf))
  exact VOut.setS (L := 0) rfl hd
theorem VOut.ownP {h : Hp} {loc : List Blk} {ds : List D} (j L : Nat) (hL : Nat.ble loc.length L = true) (hj : loc[j]? = some (.flat true ds)) : VOut h ⟨h.lift, loc⟩ (.ptr (.loc j) 0) (.ptr h.fresh 0) (h.push (.flat true ds)) := by
  refine VOut.upd [] [.flat true ds] [j] L hL (by intro p hp; cases hp) (by simp) rfl ?_ ?_ rfl
  · intro k b hk
    cases k with
    | zero => rw [List.getElem?_cons_zero, Option.some.injEq] at hk; subst hk; exact ⟨j, rfl, hj⟩
    | succ k => simp at hk
  · intro σ x hx
    have : (V.ptr h.fresh 0).ren (backR h.loc.length [j] L) = .ptr (.loc j) 0 := by simp [V.ren, backR, Hp.fresh]
    rw [this]; exact hx
theorem vc_Of (bs : List Int) (h : Hp) : VC Try.prog 22 [bytes bs] h (.ptr h.fresh 0) (h.push (deckB bs (0, 9))) := by
  refine VC.body Try.func22 rfl Try.ntmps22 Try.call22 (h.grows_push _) rfl ?_
  conv => whnf
  repeat (first | ((first | refine zs1 ?_ | refine zs2 ?_ | refine zs3 ?_ | refine zs4 ?_ | refine zs5 ?_ | refine zs6 [] ?_); conv => whnf))
  exact VOut.ownP 0 1 rfl rfl
theorem VOut.setF {h : Hp} {loc : List Blk} {i : Vm.Id} {b0 : Blk} {l : List D} {rw : Bool} {r : V} {L : Nat} (hL : Nat.ble loc.length L = true) (hb : h.get i = some b0) (hr : ∀ ρ, r.ren ρ = r) : VOut h ⟨outW h.lift i (.flat rw l), loc⟩ r r (h.set i (.flat rw l)) := by
  have hd : ∀ p ∈ [(i, Blk.flat rw l)], h.get p.1 ≠ none := by
    intro p hp
    simp only [List.mem_cons, List.not_mem_nil, or_false] at hp
    subst hp; simp only; rw [hb]; simp
  have := VOut.upd (loc := loc) (r1 := r) (r := r) [(i, .flat rw l)] [] [] L hL hd (by simp) rfl (by intro k b hk; simp at hk) (fun σ x hx => by rw [hr]; exact hx) (outer := outW h.lift i (.flat rw l)) rfl
  have he : (h.sets [(i, Blk.flat rw l)]).pushes [] = h.set i (.flat rw l) := by simp [Hp.sets, Hp.pushes]
  rw [he] at this
  exact this
end Go.Proofs.Ytkbbfeljlepgoaa

open Go.Vm
open Riv
namespace Go.Proofs.Ytkbbfeljlepgoaa
open Go.ChangeShapes Go.WideShapes Go.ChangeAt Go.RowKit

theorem open3 : Opens Try.prog 3 (fun n : Int => [DI n]) := Opens.int Try.underlying3
theorem open22 : Opens Try.prog 22 (fun l : List Int => [dints l]) := Opens.slice Try.underlying22 Vm.encI_len (by kernel_rfl) (by decide) open3
theorem open24 : Opens Try.prog 24 encM := (Opens.struct3 1 1 1 Try.underlying24 (by kernel_rfl) rfl rfl rfl (by kernel_rfl) (by kernel_rfl) (by kernel_rfl) open3 open3 open22).as (fun x => ⟨x.1, x.2.1, x.2.2⟩) encM fun _ => rfl
def dM (m : Mp) : D := .agg (encM m)
def dYs (l : List Mp) : D := .sl 3 l.length (l.flatMap encM)
theorem openM : OpenV Try.prog 24 dM := OpenV.struct Try.underlying24 open24
theorem openI : OpenV Try.prog 3 (fun n : Int => DI n) := OpenV.int Try.underlying3
theorem openL : OpenV Try.prog 22 dints := OpenV.slice Try.underlying22 (Opens.slice Try.underlying22 Vm.encI_len (by kernel_rfl) (by decide) open3)
theorem openYs : OpenV Try.prog 47 dYs := OpenV.slice Try.underlying47 (Opens.slice Try.underlying47 encM_len (by kernel_rfl) (by decide) open24)
def dU (l : List Int) : D := .sl 1 l.length (l.flatMap encU)
theorem openU : OpenV Try.prog 46 dU := OpenV.slice Try.underlying46 (Opens.slice Try.underlying46 encU_len (by kernel_rfl) (by decide) (Opens.int Try.underlying5))
def d8b (n : {n : Int // 0 ≤ n ∧ n ≤ 255}) : D := .s (.int .u8 n.1)
theorem openV_u8 {P : Program} {t : TypeId} (ht : P.underlying t = some (.int .u8)) : OpenV P t d8b := by
  intro W base H en v dd ps hok ⟨fuel, ht2⟩
  obtain ⟨n, h2, _, hw⟩ := DataW.trod_int ht ht2
  have hb : 0 ≤ n ∧ n ≤ 255 := by
    have hw2 : (decide ((0 : Int) ≤ n) && decide (n ≤ (255 : Int))) = true := hw
    simpa using hw2
  unfold Value.okWide at hok
  rw [ht] at hok
  simp only [Cell.okWide, ht] at hok
  refine ⟨⟨n, hb⟩, ?_⟩
  cases v <;> simp [Cell.ok, ht] at hok
  simp [Value.cells] at h2
  simp only [d8b, DR, S.val]
  rw [h2.1, h2.2]
theorem open8b : OpenV Try.prog 5 d8b := openV_u8 Try.underlying5
theorem ownKn : ownKnob Try.prog.godebug = none := by kernel_rfl
theorem laidOut : laidOutB Try.prog = true := by kernel_rfl
end Go.Proofs.Ytkbbfeljlepgoaa

open Go.Vm
open Riv
namespace Go.Proofs.Ytkbbfeljlepgoaa
set_option maxRecDepth 20000
set_option maxHeartbeats 4000000

theorem way_isW {c : List Int} {W H : Nat} (o : MOk W H c) (s : Int) {n : Nat} (hn : n < c.length) (h1 : 1 ≤ at0 (bfs c W s) n) : IsW c W s ((n :: wback c W s (bfs c W s) c.length n).reverse) n ∧ (((n :: wback c W s (bfs c W s) c.length n).reverse).length : Int) = at0 (bfs c W s) n + 1 := by
  have hw := o.w
  have hm := MOk.le o
  have hH := bfs_hld (c := c) (W := W) (H := H) (s := s) (by omega) o.len
  have hlt := bfs_lt (c := c) (W := W) (H := H) (s := s) (by omega) o.len n
  obtain ⟨g1, g2⟩ := wback_ok (by omega) o.len hH c.length n hn (by omega) (by omega)
  rw [List.reverse_cons]
  have hp := wb_path hn g1
  generalize wback c W s (bfs c W s) c.length n = B at *
  have hl : (B.reverse ++ [n]).length = B.length + 1 := by simp
  refine ⟨⟨by omega, ?_, hp⟩, by omega⟩
  rw [hl, Nat.add_sub_cancel, List.getD_eq_getElem?_getD, List.getElem?_append_right (by simp)]; simp
theorem vc_RiverFars (m : Mp) (s cell : Int) (T : List Int) (h : Hp) : VC Try.prog 8 [vM m, I s, I cell, ints T] h (B true) h := by
  have cA := vc_awake
  by_cases hg : (60 < m.c.length ∧ m.c.length ≤ 144) ∨ 160 < m.c.length
  · have cG := fun h => vc_great m 60 h
    have e : grt m 60 = true := by unfold grt; exact decide_eq_true (by omega)
    rw [e] at cG
    obtain ⟨mw, mh, mc⟩ := m
    show VC Try.prog 8 [.agg [I mw, I mh, ints mc], I s, I cell, ints T] h (B true) h
    refine VC.body Try.func8 rfl Try.ntmps8 Try.call8 (h.grows_refl) rfl ?_; conv => whnf
    repeat' (first | ((first | refine zs1 ?_ | refine zs2 ?_ | refine zs3 ?_ | refine zs4 ?_ | refine zs5 ?_); conv => whnf) | ((first | apply zi1 | apply zi2 | apply zi3 | apply zi4 | apply zi5) <;> intro _ <;> first | (exfalso; omega) | contradiction | (conv => whnf)) | (refine VCall.intro (cG _) ?_; conv => whnf) | (refine VCall.intro (cA _) ?_; conv => whnf))
    exact VOut.same rfl
  have cG := fun h => vc_great m 60 h
  have e : grt m 60 = false := by unfold grt; exact decide_eq_false (by omega)
  rw [e] at cG
  by_cases hT : 160 < T.length
  · obtain ⟨mw, mh, mc⟩ := m
    show VC Try.prog 8 [.agg [I mw, I mh, ints mc], I s, I cell, ints T] h (B true) h
    refine VC.body Try.func8 rfl Try.ntmps8 Try.call8 (h.grows_refl) rfl ?_; conv => whnf
    repeat' (first | ((first | refine zs1 ?_ | refine zs2 ?_ | refine zs3 ?_ | refine zs4 ?_ | refine zs5 ?_); conv => whnf) | ((first | apply zi1 | apply zi2 | apply zi3 | apply zi4 | apply zi5) <;> intro _ <;> first | (exfalso; omega) | contradiction | (conv => whnf)) | (refine VCall.intro (cG _) ?_; conv => whnf) | (refine VCall.intro (cA _) ?_; conv => whnf))
    exact VOut.same rfl
  have hl : m.c.length ≤ 4000000 := by omega
  have c1 := fun h => vc_CloneMap m h hl
  have c2 := fun h => vc_kcloneI T h (by omega)
  have c3 := fun h => vc_Map m h hl
  have c4 := fun h => vc_check m h hl
  have c5 := fun h => vc_rcheck m h hl
  have c6 := fun h => vc_Far m s h hl
  have c7 := fun h => vc_rFar m s h hl
  have hF : (frL m s).length ≤ 4000000 := by
    unfold frL
    split
    · rename_i h0
      have h1 : chkM m = 0 := by
        unfold lkE at h0
        refine Decidable.byContradiction fun e => ?_
        rw [if_neg e] at h0; exact e h0
      obtain ⟨W, H, h2, h3, o⟩ := chkM_ok h1
      have hwo := o.w
      rw [h2, Int.toNat_natCast, (bfs_hld (c := m.c) (W := W) (H := H) (s := s) (by omega) o.len).len]; exact hl
    · simp
  have c8 := fun h => vc_kequalI (frL m s) (frL m s) h hF hF
  rw [decide_eq_true rfl] at c8
  have c9 := fun h => vc_Holds m s T h hl (by omega)
  have d1 := fun h => vc_rHolds m s T h hl (by omega)
  have d2 := fun h => vc_Way m s cell h hl
  have d3 := fun h => vc_Long m s cell h hl
  have d5 := fun h => vc_equal m m h hl hl
  have d6 := fun h => vc_kequalI T T h (by omega) (by omega)
  rw [decide_eq_true rfl] at d5 d6
  by_cases hw : wyE m s cell = 0
  · have hlk : lkE m s = 0 := by
      unfold wyE at hw
      refine Decidable.byContradiction fun e => ?_
      rw [if_neg e] at hw; exact e hw
    have hck : chkM m = 0 := by
      unfold lkE at hlk
      refine Decidable.byContradiction fun e => ?_
      rw [if_neg e] at hlk; exact e hlk
    obtain ⟨W, H, h2, h3, o⟩ := chkM_ok hck
    have hfr : frL m s = bfs m.c W s := by unfold frL; rw [if_pos hlk, h2, Int.toNat_natCast]
    have hce : 0 ≤ cell ∧ cell ≤ (m.c.length : Int) - 1 := by
      unfold wyE at hw
      rw [if_pos hlk] at hw
      refine Decidable.byContradiction fun e => ?_
      rw [if_neg e] at hw; exact absurd hw (by decide)
    have hat : 1 ≤ at0 (frL m s) cell.toNat := by
      unfold wyE at hw
      rw [if_pos hlk, if_pos hce] at hw
      refine Decidable.byContradiction fun e => ?_
      rw [if_pos (by omega)] at hw; exact absurd hw (by decide)
    obtain ⟨n, rfl⟩ : ∃ n : Nat, cell = n := ⟨cell.toNat, by omega⟩
    rw [Int.toNat_natCast, hfr] at hat
    obtain ⟨g1, g2⟩ := way_isW o s (n := n) (by omega) hat
    have e2 : wyL m s n = natI ((n :: wback m.c W s (bfs m.c W s) m.c.length n).reverse) := by
      unfold wyL wyN
      rw [if_pos hw, h2, Int.toNat_natCast, Int.toNat_natCast, hfr]
    have hbd := bfs_lt (c := m.c) (W := W) (H := H) (s := s) (by have := o.w; omega) o.len n
    have d4 := fun h => vc_IsWay m s n _ h o h2 g1
    rw [if_pos hw, Int.toNat_natCast, hfr, hw] at d3
    rw [e2, hw] at d2
    have g3 := natI_len ((n :: wback m.c W s (bfs m.c W s) m.c.length n).reverse)
    rw [hfr] at c6 c7 c8
    have hm144 := MOk.le o
    clear e2 g1 hw hfr hF
    generalize natI ((n :: wback m.c W s (bfs m.c W s) m.c.length n).reverse) = L at *
    generalize ((n :: wback m.c W s (bfs m.c W s) m.c.length n).reverse).length = k at *
    generalize at0 (bfs m.c W s) n = a at *
    generalize bfs m.c W s = F at *
    generalize hdB m s T = hB at *
    generalize hdE m s T = hE at *
    generalize lkE m s = Ef at *
    generalize chkM m = E at *
    obtain ⟨mw, mh, mc⟩ := m
    dsimp only at *
    show VC Try.prog 8 [.agg [I mw, I mh, ints mc], I s, I n, ints T] h (B true) h
    refine VC.bodyC 3 Try.func8 rfl Try.ntmps8 Try.call8 (h.grows_refl) rfl ?_; conv => whnf
    repeat' (first | ((first | refine zs1 ?_ | refine zs2 ?_ | refine zs3 ?_ | refine zs4 ?_ | refine zs5 ?_); conv => whnf) | ((first | apply zi1 | apply zi2 | apply zi3 | apply zi4 | apply zi5) <;> intro _ <;> first | (exfalso; omega) | contradiction | (conv => whnf)) | (refine VCall.intro (cG _) ?_; conv => whnf))
    refine zs6 [(1, 4), (3, 4)] ?_
    conv => whnf
    repeat' (first | ((first | refine zs1 ?_ | refine zs2 ?_ | refine zs3 ?_ | refine zs4 ?_ | refine zs5 ?_); conv => whnf) | ((first | apply zi1 | apply zi2 | apply zi3 | apply zi4 | apply zi5) <;> intro _ <;> first | (exfalso; omega) | contradiction | (conv => whnf)) | (refine VCall.intro (c1 _) ?_; conv => whnf) | (refine VCall.intro (c2 _) ?_; conv => whnf) | (refine VCall.intro (c3 _) ?_; conv => whnf))
    refine VCut.at' (outer := h.lift) (marks := []) 99 [(1, I s), (2, I n), (3, ints T), (4, .fp [DI mw, DI mh, dints mc]), (9, .fp [DI mw, DI mh, dints mc]), (10, ints T), (11, .fp [DI mw, DI mh, dints mc])] [] ?_ ?_
    · conv => whnf
      refine Retell.turn ⟨[], 9, [(0, [DI mw, DI mh, dints mc]), (1, [DI mw, DI mh, dints mc]), (2, [DI mw, DI mh, dints mc])], []⟩ (TurnOk.mk' _ _ [(0, [DI mw, DI mh, dints mc]), (1, [DI mw, DI mh, dints mc]), (2, [DI mw, DI mh, dints mc])] [] (OutOk.lift _) rfl (by decide) zb zf trivial rfl) zw zm
    conv => whnf
    refine zs6 [(1, 2)] ?_
    conv => whnf
    repeat' (first | ((first | refine zs1 ?_ | refine zs2 ?_ | refine zs3 ?_ | refine zs4 ?_ | refine zs5 ?_); conv => whnf) | ((first | apply zi1 | apply zi2 | apply zi3 | apply zi4 | apply zi5) <;> intro _ <;> first | (exfalso; omega) | contradiction | (conv => whnf)) | (refine VCall.intro (c4 _) ?_; conv => whnf) | (refine VCall.intro (c5 _) ?_; conv => whnf) | (refine VCall.intro (c6 _) ?_; conv => whnf) | (refine VCall.intro (c7 _) ?_; conv => whnf) | (refine VCall.intro (c8 _) ?_; conv => whnf) | (refine VCall.intro (c9 _) ?_; conv => whnf) | (refine VCall.intro (d1 _) ?_; conv => whnf) | (refine VCall.intro (d2 _) ?_; conv => whnf) | (refine VCall.intro (d3 _) ?_; conv => whnf) | (refine VCall.intro (d4 _) ?_; conv => whnf) | (refine VCall.intro (d5 _) ?_; conv => whnf) | (refine VCall.intro (d6 _) ?_; conv => whnf) | (refine VCall.intro (cA _) ?_; conv => whnf))
    exact VOut.same rfl
  · have e2 : wyL m s cell = [] := by unfold wyL; rw [if_neg hw]
    rw [if_neg hw] at d3
    rw [e2] at d2
    generalize wyE m s cell = Ew at *
    generalize hdB m s T = hB at *
    generalize hdE m s T = hE at *
    generalize frL m s = F at *
    generalize lkE m s = Ef at *
    generalize chkM m = E at *
    obtain ⟨mw, mh, mc⟩ := m
    dsimp only at *
    show VC Try.prog 8 [.agg [I mw, I mh, ints mc], I s, I cell, ints T] h (B true) h
    refine VC.bodyC 3 Try.func8 rfl Try.ntmps8 Try.call8 (h.grows_refl) rfl ?_; conv => whnf
    repeat' (first | ((first | refine zs1 ?_ | refine zs2 ?_ | refine zs3 ?_ | refine zs4 ?_ | refine zs5 ?_); conv => whnf) | ((first | apply zi1 | apply zi2 | apply zi3 | apply zi4 | apply zi5) <;> intro _ <;> first | (exfalso; omega) | contradiction | (conv => whnf)) | (refine VCall.intro (cG _) ?_; conv => whnf))
    refine zs6 [(1, 4), (3, 4)] ?_
    conv => whnf
    repeat' (first | ((first | refine zs1 ?_ | refine zs2 ?_ | refine zs3 ?_ | refine zs4 ?_ | refine zs5 ?_); conv => whnf) | ((first | apply zi1 | apply zi2 | apply zi3 | apply zi4 | apply zi5) <;> intro _ <;> first | (exfalso; omega) | contradiction | (conv => whnf)) | (refine VCall.intro (c1 _) ?_; conv => whnf) | (refine VCall.intro (c2 _) ?_; conv => whnf) | (refine VCall.intro (c3 _) ?_; conv => whnf))
    refine VCut.at' (outer := h.lift) (marks := []) 99 [(1, I s), (2, I cell), (3, ints T), (4, .fp [DI mw, DI mh, dints mc]), (9, .fp [DI mw, DI mh, dints mc]), (10, ints T), (11, .fp [DI mw, DI mh, dints mc])] [] ?_ ?_
    · conv => whnf
      refine Retell.turn ⟨[], 9, [(0, [DI mw, DI mh, dints mc]), (1, [DI mw, DI mh, dints mc]), (2, [DI mw, DI mh, dints mc])], []⟩ (TurnOk.mk' _ _ [(0, [DI mw, DI mh, dints mc]), (1, [DI mw, DI mh, dints mc]), (2, [DI mw, DI mh, dints mc])] [] (OutOk.lift _) rfl (by decide) zb zf trivial rfl) zw zm
    conv => whnf
    refine zs6 [(1, 2)] ?_
    conv => whnf
    repeat' (first | ((first | refine zs1 ?_ | refine zs2 ?_ | refine zs3 ?_ | refine zs4 ?_ | refine zs5 ?_); conv => whnf) | ((first | apply zi1 | apply zi2 | apply zi3 | apply zi4 | apply zi5) <;> intro _ <;> first | (exfalso; omega) | contradiction | (conv => whnf)) | (refine VCall.intro (c4 _) ?_; conv => whnf) | (refine VCall.intro (c5 _) ?_; conv => whnf) | (refine VCall.intro (c6 _) ?_; conv => whnf) | (refine VCall.intro (c7 _) ?_; conv => whnf) | (refine VCall.intro (c8 _) ?_; conv => whnf) | (refine VCall.intro (c9 _) ?_; conv => whnf) | (refine VCall.intro (d1 _) ?_; conv => whnf) | (refine VCall.intro (d2 _) ?_; conv => whnf) | (refine VCall.intro (d3 _) ?_; conv => whnf) | (refine VCall.intro (d5 _) ?_; conv => whnf) | (refine VCall.intro (d6 _) ?_; conv => whnf) | (refine VCall.intro (cA _) ?_; conv => whnf))
    exact VOut.same rfl
end Go.Proofs.Ytkbbfeljlepgoaa

open Go.Vm
open Riv
namespace Go.Vm
theorem VCode.lpoH {P : Program} {ro : Option Nat} {c : Code} {n : Nat} {fr : Fr} {outer0 : Id → Option Blk} {loc0 : List Blk} {marks marks0 : List Id} {Q : X → St → Prop} {Y : Type} (m : Nat) (slots : Y → List (Nat × V)) (outer : Y → Id → Option Blk) (loc : Y → List Blk) (Inv : Y → Prop) (μ : Y → Nat) (x0 : Y)
    (h0 : Inv x0) (ho : outer0 = outer x0) (hst : frSK (slots x0) .leaf fun fr' => Retell isOut ⟨n, fr, ⟨outer x0, loc0⟩, marks0⟩ ⟨n, fr', ⟨outer x0, loc x0⟩, marks⟩)
    (hb : ∀ x, Inv x → frSK (slots x) .leaf fun fr' => vcut P ro isOut m c ⟨n, fr', ⟨outer x, loc x⟩, marks⟩ (fun e st' => match e with
      | .normal => LEndO n marks slots outer loc Inv μ x st'
      | .exit i => Q (.exit i) st'
      | .ret => Q .ret st')) : VCode P ro isOut (.loop c) ⟨n, fr, ⟨outer0, loc0⟩, marks0⟩ Q := by
  subst ho
  exact VCode.lpoC m slots outer loc Inv μ x0 h0 hst hb
end Go.Vm
namespace Go.Proofs.Ytkbbfeljlepgoaa
set_option maxRecDepth 20000
set_option maxHeartbeats 4000000

theorem dealt (bs : List Int) : Dealt (dNx bs) :=
  ⟨fun d k => (dNx_bd bs d k).1, fun d k hk => by have := (dNx_bd bs d k).2.1; omega, fun d k => (dNx_bd bs d k).2.2⟩
def mdM (bs : List Int) (d : Dk) (w h : Int) : Mp := ⟨4 + (mdW (dNx bs) d w).1, 1 + (mdH (dNx bs) d w h).1, (madeX (dNx bs) d w h).2⟩
theorem tdiv3 (W : Nat) : (W : Int).tdiv 3 = ((W / 3 : Nat) : Int) := rfl
theorem vc_Made (bs : List Int) (d : Dk) (w hh : Int) (i : Vm.Id) (h : Hp) (hN : d.1 ≤ 900000) (hw : 4 ≤ w ∧ w ≤ 12) (hh1 : 1 ≤ hh ∧ hh ≤ 12) (hd : h.get i = some (deckB bs d)) :
    VC Try.prog 27 [.ptr i 0, I w, I hh] h (vM (mdM bs d w hh)) (h.set i (deckB bs (madeX (dNx bs) d w hh).1)) := by
  obtain ⟨W, H, eW, eH, hWw, hHh, hW4, hok, hdn, hX⟩ := madeX_ok (dealt bs) (d := d) hw hh1
  have n1 := (dealt bs).n d (w - 4 + 1)
  have c1 := fun (h2 : Hp) hg => vc_between bs d 4 w (.out i) h2 (by omega) (by omega) (by omega) hg
  rw [show dNx bs d (w - 4 + 1) = mdW (dNx bs) d w from rfl] at c1 n1
  have n2 := (dealt bs).n (mdW (dNx bs) d w).2 (hh - 1 + 1)
  have c2 := fun (h2 : Hp) hg => vc_between bs (mdW (dNx bs) d w).2 1 hh (.out i) h2 (by omega) (by omega) (by omega) hg
  rw [show dNx bs (mdW (dNx bs) d w).2 (hh - 1 + 1) = mdH (dNx bs) d w hh from rfl] at c2 n2
  have hres : mdM bs d w hh = ⟨W, H, (rowsM (dNx bs) W ((mdH (dNx bs) d w hh).2, []) H).2⟩ := by unfold mdM; rw [eW, eH, hX]
  rw [hres, hX]
  rw [eW] at c1
  rw [eH] at c2
  have hR := rowsM_ok (dealt bs) (W := W) hW4 (d := (mdH (dNx bs) d w hh).2)
  have hRs : ∀ y, rowsM (dNx bs) W ((mdH (dNx bs) d w hh).2, []) (y + 1) = rowM (dNx bs) W (rowsM (dNx bs) W ((mdH (dNx bs) d w hh).2, []) y) := fun y => rfl
  have hR0 : rowsM (dNx bs) W ((mdH (dNx bs) d w hh).2, []) 0 = ((mdH (dNx bs) d w hh).2, []) := rfl
  generalize (mdW (dNx bs) d w).2 = D1 at *
  generalize (mdH (dNx bs) d w hh).2 = D0 at *
  generalize rowsM (dNx bs) W (D0, []) = X at *
  clear hres hX hok hdn
  refine VC.bodyC 2 Try.func27 rfl Try.ntmps27 Try.call27 (h.grows_set _ _) rfl ?_
  conv => whnf
  repeat' (first | ((first | refine zs1 ?_ | refine zs2 ?_ | refine zs3 ?_ | refine zs4 ?_ | refine zs5 ?_); conv => whnf) | ((first | apply zi1 | apply zi2 | apply zi3 | apply zi4 | apply zi5) <;> intro _ <;> conv => whnf) | (refine VCall.intro (c1 _ (get_out hd _)) ?_; conv => whnf) | (refine VCall.intro (c2 _ (outW_get _ _ _ _)) ?_; conv => whnf))
  refine VCut.atO (marks := []) 99 [(0, .ptr (.out i) 0), (6, .ptr (.loc 0) 0), (7, .ptr (.loc 1) 0)] (outW h.lift i (deckB bs D0)) [.flat true [DI 0, DI 0, .nilslice], .cells true [I W, I H, .gl (.loc 2) 1 0], .flat true []] ?_ ?_ ?_
  · funext j; by_cases e : j = i <;> simp [outW, e, Hp.set]
  · conv => whnf
    refine Retell.turn ⟨[0,1,2], 2, [], []⟩ (TurnOk.mk' _ _ [] [] (OutOk.outW (OutOk.lift _) rfl) rfl (by decide) zb trivial trivial rfl) zw zm
  conv => whnf
  repeat' (first | ((first | refine zs1 ?_ | refine zs2 ?_ | refine zs3 ?_ | refine zs4 ?_ | refine zs5 ?_); conv => whnf) | ((first | apply zi1 | apply zi2 | apply zi3 | apply zi4 | apply zi5) <;> intro _ <;> conv => whnf))
  refine VCode.lpoH (marks := []) 99 (fun y : Nat => [(0, .ptr (.out i) 0), (6, .ptr (.loc 0) 0), (7, .ptr (.loc 1) 0), (19, I H), (20, I y)]) (fun y => outW h.lift i (deckB bs (X y).1)) (fun y => [.flat true [DI 0, DI 0, .nilslice], .cells true [I W, I H, .gl (.loc 2) 1 (X y).2.length], .flat true ((X y).2.flatMap Vm.encI)]) (fun y => y ≤ H) (fun y => H - y) 0 (Nat.zero_le _) (by rw [hR0]) ?_ ?_
  · rw [hR0]
    conv => whnf
    refine Retell.turn ⟨[0,1,2], 9, [], []⟩ (TurnOk.mk' _ _ [] [] (OutOk.outW (OutOk.lift _) rfl) rfl (by decide) zb trivial trivial rfl) zw zm
  rintro y hy
  rcases Nat.lt_or_ge y H with h4 | h4
  · have hRy := hR y
    have hRs := hRs y
    generalize X y = x at *
    have r1 := hRy.n
    have r2 := hRy.len
    have r3 : (2 + 3 * W) * y ≤ 38 * 12 := Nat.mul_le_mul (by omega) (by omega)
    have r4 : y * W ≤ 12 * 12 := Nat.mul_le_mul (by omega) (by omega)
    have a1 := (dealt bs).lo x.1 (max 1 ((W / 3 : Nat) : Int) - 1 + 1)
    have a2 := (dealt bs).hi x.1 (max 1 ((W / 3 : Nat) : Int) - 1 + 1) (by omega)
    have a3 := (dealt bs).n x.1 (max 1 ((W / 3 : Nat) : Int) - 1 + 1)
    have g1 := fun (h2 : Hp) hg => vc_between bs x.1 1 (max 1 ((W / 3 : Nat) : Int)) (.out i) h2 (by omega) (by omega) (by omega) hg
    rw [show dNx bs x.1 (max 1 ((W / 3 : Nat) : Int) - 1 + 1) = Riv.rowA (dNx bs) W x.1 from rfl] at a1 a2 a3 g1
    unfold rowM Riv.rowB at hRs
    generalize Riv.rowA (dNx bs) W x.1 = ra at *
    have b1 := (dealt bs).lo ra.2 ((W : Int) - 1 - max (1 + ra.1) ((W : Int) - 3) + 1)
    have b2 := (dealt bs).hi ra.2 ((W : Int) - 1 - max (1 + ra.1) ((W : Int) - 3) + 1) (by omega)
    have b3 := (dealt bs).n ra.2 ((W : Int) - 1 - max (1 + ra.1) ((W : Int) - 3) + 1)
    have g2 := fun (h2 : Hp) hg => vc_between bs ra.2 (max (1 + ra.1) ((W : Int) - 3)) ((W : Int) - 1) (.out i) h2 (by omega) (by omega) (by omega) hg
    generalize dNx bs ra.2 ((W : Int) - 1 - max (1 + ra.1) ((W : Int) - 3) + 1) = rb at *
    have hZ := cellsM_ok (dealt bs) (1 + ra.1) (max (1 + ra.1) ((W : Int) - 3) + rb.1) (rb.2, x.2)
    have hZs : ∀ k, cellsM (dNx bs) (1 + ra.1) (max (1 + ra.1) ((W : Int) - 3) + rb.1) (rb.2, x.2) (k + 1) = ((cellM (dNx bs) (1 + ra.1) (max (1 + ra.1) ((W : Int) - 3) + rb.1) (cellsM (dNx bs) (1 + ra.1) (max (1 + ra.1) ((W : Int) - 3) + rb.1) (rb.2, x.2) k).1 k).2, (cellsM (dNx bs) (1 + ra.1) (max (1 + ra.1) ((W : Int) - 3) + rb.1) (rb.2, x.2) k).2 ++ [(cellM (dNx bs) (1 + ra.1) (max (1 + ra.1) ((W : Int) - 3) + rb.1) (cellsM (dNx bs) (1 + ra.1) (max (1 + ra.1) ((W : Int) - 3) + rb.1) (rb.2, x.2) k).1 k).1]) := fun k => rfl
    have hZ0 : cellsM (dNx bs) (1 + ra.1) (max (1 + ra.1) ((W : Int) - 3) + rb.1) (rb.2, x.2) 0 = (rb.2, x.2) := rfl
    have ht : IntKind.i64.wrap ((W : Int).tdiv 3) = ((W / 3 : Nat) : Int) := by rw [tdiv3, wrap_i64 (by omega)]
    rw [← ht] at g1
    generalize max (1 + ra.1) ((W : Int) - 3) + rb.1 = B2 at *
    generalize hA2 : 1 + ra.1 = A2 at *
    generalize cellsM (dNx bs) A2 B2 (rb.2, x.2) = Z at *
    conv => whnf
    repeat' (first | ((first | refine zs1 ?_ | refine zs2 ?_ | refine zs3 ?_ | refine zs4 ?_ | refine zs5 ?_); conv => whnf) | ((first | apply zi1 | apply zi2 | apply zi3 | apply zi4 | apply zi5) <;> intro _ <;> conv => whnf) | (refine VCall.intro (g1 _ (outW_get _ _ _ _)) ?_; conv => whnf) | (refine VCall.intro (g2 _ (outW_get _ _ _ _)) ?_; conv => whnf))
    all_goals try (exfalso; omega)
    refine VCode.lpo (fun k : Nat => [(0, .ptr (.out i) 0), (6, .ptr (.loc 0) 0), (7, .ptr (.loc 1) 0), (8, I A2), (9, I B2), (19, I H), (20, I y), (39, I W), (40, I k)]) (fun k => outW h.lift i (deckB bs (Z k).1)) (fun k => [.flat true [DI 0, DI 0, .nilslice], .cells true [I W, I H, .gl (.loc 2) 1 (Z k).2.length], .flat true ((Z k).2.flatMap Vm.encI)]) (fun k => k ≤ W) (fun k => W - k) 0 (Nat.zero_le _) ?_ ?_ ?_
    · rw [hZ0]; funext j; by_cases e : j = i <;> simp [outW, e]
    · rw [hZ0]
      conv => whnf
      refine Retell.turn ⟨[0,1,2], 9, [], []⟩ (TurnOk.mk' _ _ [] [] (OutOk.outW (OutOk.lift _) rfl) rfl (by decide) zb trivial trivial rfl) zw zm
    rintro k hk
    rcases Nat.lt_or_ge k W with h5 | h5
    · have hZs := hZs k
      obtain ⟨z1, l, z2, z3, _, _⟩ := hZ k
      have z4 : (Z k).2.length = x.2.length + k := by rw [z2, List.length_append, z3]
      clear z2 z3
      dsimp only at z1
      generalize Z k = z at *
      unfold cellM at hZs
      have n7 := (dealt bs).n z.1 7
      have q7 := fun (h2 : Hp) hg => vc_coin bs z.1 7 (.out i) h2 (by omega) hg
      have n20 := (dealt bs).n (dNx bs z.1 7).2 20
      have q20 := fun (h2 : Hp) hg => vc_coin bs (dNx bs z.1 7).2 20 (.out i) h2 (by omega) hg
      have q2 := fun (h2 : Hp) hg => vc_between bs (dNx bs (dNx bs z.1 7).2 20).2 1 2 (.out i) h2 (by omega) (by omega) (by omega) hg
      rw [show (2 : Int) - 1 + 1 = 2 from rfl] at q2
      generalize dNx bs z.1 7 = w7 at *
      generalize dNx bs w7.2 20 = w20 at *
      generalize dNx bs w20.2 2 = w2 at *
      by_cases t1 : (k : Int) < A2
      · rw [if_pos t1] at hZs
        have hs1 : Z (k + 1) = (z.1, z.2 ++ [(1 : Int)]) := hZs
        conv => whnf
        repeat' (first | ((first | refine zs1 ?_ | refine zs2 ?_ | refine zs3 ?_ | refine zs4 ?_ | refine zs5 ?_); conv => whnf) | ((first | apply zi1 | apply zi2 | apply zi3 | apply zi4 | apply zi5) <;> intro _ <;> first | (exfalso; omega) | contradiction | (conv => whnf)))
        refine VMem.app1 (l := z.2) (1 : Int) Vm.encI_len rfl rfl rfl rfl rfl (by omega) ?_
        conv => whnf
        repeat' (first | ((first | refine zs1 ?_ | refine zs2 ?_ | refine zs3 ?_ | refine zs4 ?_ | refine zs5 ?_); conv => whnf) | ((first | apply zi1 | apply zi2 | apply zi3 | apply zi4 | apply zi5) <;> intro _ <;> first | (exfalso; omega) | contradiction | (conv => whnf)))
        refine LEndO.intro (k + 1) (by omega) (by omega) (by rw [hs1]; exact rfl) ?_
        have hl1 : z.2.length + 1 = (z.2 ++ [(1 : Int)]).length := by rw [List.length_append]; rfl
        rw [hs1, hl1]
        dsimp only
        conv => whnf
        refine Retell.turn ⟨[0,1,4], 9, [], []⟩ (TurnOk.mk' _ _ [] [] (OutOk.outW (OutOk.lift _) rfl) rfl (by decide) zb trivial trivial rfl) zw zm
      by_cases t2 : B2 ≤ (k : Int)
      · rw [if_neg t1, if_pos t2] at hZs
        have hs1 : Z (k + 1) = (z.1, z.2 ++ [(2 : Int)]) := hZs
        conv => whnf
        repeat' (first | ((first | refine zs1 ?_ | refine zs2 ?_ | refine zs3 ?_ | refine zs4 ?_ | refine zs5 ?_); conv => whnf) | ((first | apply zi1 | apply zi2 | apply zi3 | apply zi4 | apply zi5) <;> intro _ <;> first | (exfalso; omega) | contradiction | (conv => whnf)))
        refine VMem.app1 (l := z.2) (2 : Int) Vm.encI_len rfl rfl rfl rfl rfl (by omega) ?_
        conv => whnf
        repeat' (first | ((first | refine zs1 ?_ | refine zs2 ?_ | refine zs3 ?_ | refine zs4 ?_ | refine zs5 ?_); conv => whnf) | ((first | apply zi1 | apply zi2 | apply zi3 | apply zi4 | apply zi5) <;> intro _ <;> first | (exfalso; omega) | contradiction | (conv => whnf)))
        refine LEndO.intro (k + 1) (by omega) (by omega) (by rw [hs1]; exact rfl) ?_
        have hl1 : z.2.length + 1 = (z.2 ++ [(2 : Int)]).length := by rw [List.length_append]; rfl
        rw [hs1, hl1]
        dsimp only
        conv => whnf
        refine Retell.turn ⟨[0,1,4], 9, [], []⟩ (TurnOk.mk' _ _ [] [] (OutOk.outW (OutOk.lift _) rfl) rfl (by decide) zb trivial trivial rfl) zw zm
      by_cases t3 : w7.1 = 0
      · rw [if_neg t1, if_neg t2, if_pos t3] at hZs
        have hs1 : Z (k + 1) = (w7.2, z.2 ++ [(3 : Int)]) := hZs
        rw [show (w7.1 == 0) = true by rw [t3]; rfl] at q7
        conv => whnf
        repeat' (first | ((first | refine zs1 ?_ | refine zs2 ?_ | refine zs3 ?_ | refine zs4 ?_ | refine zs5 ?_); conv => whnf) | ((first | apply zi1 | apply zi2 | apply zi3 | apply zi4 | apply zi5) <;> intro _ <;> first | (exfalso; omega) | contradiction | (conv => whnf)) | (refine VCall.intro (q7 _ (outW_get _ _ _ _)) ?_; conv => whnf))
        refine VMem.app1 (l := z.2) (3 : Int) Vm.encI_len rfl rfl rfl rfl rfl (by omega) ?_
        conv => whnf
        repeat' (first | ((first | refine zs1 ?_ | refine zs2 ?_ | refine zs3 ?_ | refine zs4 ?_ | refine zs5 ?_); conv => whnf) | ((first | apply zi1 | apply zi2 | apply zi3 | apply zi4 | apply zi5) <;> intro _ <;> first | (exfalso; omega) | contradiction | (conv => whnf)))
        refine LEndO.intro (k + 1) (by omega) (by omega) (by rw [hs1]; exact (outW_same _ _ _ _)) ?_
        have hl1 : z.2.length + 1 = (z.2 ++ [(3 : Int)]).length := by rw [List.length_append]; rfl
        rw [hs1, hl1]
        dsimp only
        conv => whnf
        refine Retell.turn ⟨[0,1,4], 9, [], []⟩ (TurnOk.mk' _ _ [] [] (OutOk.outW (OutOk.lift _) rfl) rfl (by decide) zb trivial trivial rfl) zw zm
      rw [show (w7.1 == 0) = false by rw [beq_eq_false_iff_ne]; exact t3] at q7
      by_cases t4 : w20.1 = 0
      · rw [if_neg t1, if_neg t2, if_neg t3, if_pos t4] at hZs
        have hs1 : Z (k + 1) = (w2.2, z.2 ++ [1 + w2.1]) := hZs
        rw [show (w20.1 == 0) = true by rw [t4]; rfl] at q20
        conv => whnf
        repeat' (first | ((first | refine zs1 ?_ | refine zs2 ?_ | refine zs3 ?_ | refine zs4 ?_ | refine zs5 ?_); conv => whnf) | ((first | apply zi1 | apply zi2 | apply zi3 | apply zi4 | apply zi5) <;> intro _ <;> first | (exfalso; omega) | contradiction | (conv => whnf)) | (refine VCall.intro (q7 _ (outW_get _ _ _ _)) ?_; conv => whnf) | (refine VCall.intro (q20 _ (outW_get _ _ _ _)) ?_; conv => whnf))
        refine zs6 [(1, 3)] ?_
        conv => whnf
        repeat' (first | ((first | refine zs1 ?_ | refine zs2 ?_ | refine zs3 ?_ | refine zs4 ?_ | refine zs5 ?_); conv => whnf) | ((first | apply zi1 | apply zi2 | apply zi3 | apply zi4 | apply zi5) <;> intro _ <;> first | (exfalso; omega) | contradiction | (conv => whnf)) | (refine VCall.intro (q2 _ (outW_get _ _ _ _)) ?_; conv => whnf))
        refine VMem.app1 (l := z.2) (1 + w2.1 : Int) Vm.encI_len rfl rfl rfl rfl rfl (by omega) ?_
        conv => whnf
        repeat' (first | ((first | refine zs1 ?_ | refine zs2 ?_ | refine zs3 ?_ | refine zs4 ?_ | refine zs5 ?_); conv => whnf) | ((first | apply zi1 | apply zi2 | apply zi3 | apply zi4 | apply zi5) <;> intro _ <;> first | (exfalso; omega) | contradiction | (conv => whnf)))
        refine LEndO.intro (k + 1) (by omega) (by omega) (by rw [hs1]; exact ((outW_same _ _ _ _).trans ((outW_same _ _ _ _).trans (outW_same _ _ _ _)))) ?_
        have hl1 : z.2.length + 1 = (z.2 ++ [(1 + w2.1 : Int)]).length := by rw [List.length_append]; rfl
        rw [hs1, hl1]
        dsimp only
        conv => whnf
        refine Retell.turn ⟨[0,1,4], 9, [], []⟩ (TurnOk.mk' _ _ [] [] (OutOk.outW (OutOk.lift _) rfl) rfl (by decide) zb trivial trivial rfl) zw zm
      · rw [if_neg t1, if_neg t2, if_neg t3, if_neg t4] at hZs
        have hs1 : Z (k + 1) = (w20.2, z.2 ++ [(0 : Int)]) := hZs
        rw [show (w20.1 == 0) = false by rw [beq_eq_false_iff_ne]; exact t4] at q20
        conv => whnf
        repeat' (first | ((first | refine zs1 ?_ | refine zs2 ?_ | refine zs3 ?_ | refine zs4 ?_ | refine zs5 ?_); conv => whnf) | ((first | apply zi1 | apply zi2 | apply zi3 | apply zi4 | apply zi5) <;> intro _ <;> first | (exfalso; omega) | contradiction | (conv => whnf)) | (refine VCall.intro (q7 _ (outW_get _ _ _ _)) ?_; conv => whnf) | (refine VCall.intro (q20 _ (outW_get _ _ _ _)) ?_; conv => whnf))
        refine VMem.app1 (l := z.2) (0 : Int) Vm.encI_len rfl rfl rfl rfl rfl (by omega) ?_
        conv => whnf
        repeat' (first | ((first | refine zs1 ?_ | refine zs2 ?_ | refine zs3 ?_ | refine zs4 ?_ | refine zs5 ?_); conv => whnf) | ((first | apply zi1 | apply zi2 | apply zi3 | apply zi4 | apply zi5) <;> intro _ <;> first | (exfalso; omega) | contradiction | (conv => whnf)))
        refine LEndO.intro (k + 1) (by omega) (by omega) (by rw [hs1]; exact ((outW_same _ _ _ _).trans (outW_same _ _ _ _))) ?_
        have hl1 : z.2.length + 1 = (z.2 ++ [(0 : Int)]).length := by rw [List.length_append]; rfl
        rw [hs1, hl1]
        dsimp only
        conv => whnf
        refine Retell.turn ⟨[0,1,4], 9, [], []⟩ (TurnOk.mk' _ _ [] [] (OutOk.outW (OutOk.lift _) rfl) rfl (by decide) zb trivial trivial rfl) zw zm
    · obtain rfl : k = W := by omega
      rw [← hRs]
      conv => whnf
      repeat' (first | ((first | refine zs1 ?_ | refine zs2 ?_ | refine zs3 ?_ | refine zs4 ?_ | refine zs5 ?_); conv => whnf) | ((first | apply zi1 | apply zi2 | apply zi3 | apply zi4 | apply zi5) <;> intro _ <;> first | (exfalso; omega) | contradiction | (conv => whnf)))
      refine LEndO.intro (y + 1) (by omega) (by omega) rfl ?_
      conv => whnf
      refine Retell.turn ⟨[0,1,2], 9, [], []⟩ (TurnOk.mk' _ _ [] [] (OutOk.outW (OutOk.lift _) rfl) rfl (by decide) zb trivial trivial rfl) zw zm
  · obtain rfl : y = H := by omega
    generalize X y = x at *
    conv => whnf
    repeat' (first | ((first | refine zs1 ?_ | refine zs2 ?_ | refine zs3 ?_ | refine zs4 ?_ | refine zs5 ?_); conv => whnf) | ((first | apply zi1 | apply zi2 | apply zi3 | apply zi4 | apply zi5) <;> intro _ <;> first | (exfalso; omega) | contradiction | (conv => whnf)))
    have hfl : (x.2.flatMap Vm.encI).length = x.2.length * 1 := flat_len Vm.encI_len _
    refine VOut.turn ⟨[], 9, [(2, x.2.flatMap Vm.encI)], []⟩ (loc' := []) (r1' := vM ⟨W, y, x.2⟩) (TurnOk.mk' [] 9 [(2, x.2.flatMap Vm.encI)] [] (OutOk.outW (OutOk.lift _) rfl) rfl List.nodup_nil BTos.nil (FzAll.flat rfl FzAll.nil) trivial rfl) zw ?_
    exact VOut.setF (L := 0) rfl hd fun _ => rfl
end Go.Proofs.Ytkbbfeljlepgoaa

open Go.Vm
open Riv
namespace Go.Proofs.Ytkbbfeljlepgoaa
set_option maxRecDepth 20000
set_option maxHeartbeats 4000000
section
variable {W H : Nat} {c : List Int}
abbrev mp (W H : Nat) (c : List Int) : Mp := ⟨W, H, c⟩
theorem lk0 (o : MOk W H c) {s : Int} (hs : s = 1 ∨ s = 2) : lkE (mp W H c) s = 0 := by
  unfold lkE; rw [if_pos (chkM_of o), if_pos hs]
theorem fr0 (o : MOk W H c) {s : Int} (hs : s = 1 ∨ s = 2) : frL (mp W H c) s = bfs c W s := by
  unfold frL; rw [if_pos (lk0 o hs)]; rfl
theorem bfsH (o : MOk W H c) (s : Int) : Hld c W s (bfs c W s) := bfs_hld (H := H) (by have := o.w; omega) o.len
theorem bfs_bd (o : MOk W H c) (s : Int) (k : Nat) : -1 ≤ at0 (bfs c W s) k ∧ at0 (bfs c W s) k ≤ 144 := by
  have h1 := (bfsH o s).low k
  have h2 := bfs_lt (c := c) (W := W) (H := H) (s := s) (by have := o.w; omega) o.len k
  have h3 := MOk.le o
  omega
theorem kO (o : MOk W H c) (h : Hp) : VC Try.prog 17 [vM (mp W H c)] h (.tuple [ints (owns c W), I 0]) h := by
  have := vc_Owners (mp W H c) h (by have := MOk.le o; show c.length ≤ _; omega)
  rw [if_pos (chkM_of o), chkM_of o] at this
  exact this
theorem kF (o : MOk W H c) {s : Int} (hs : s = 1 ∨ s = 2) (h : Hp) : VC Try.prog 28 [vM (mp W H c), I s] h (.tuple [ints (bfs c W s), I 0]) h := by
  have := vc_Far (mp W H c) s h (by have := MOk.le o; show c.length ≤ _; omega)
  rw [fr0 o hs, lk0 o hs] at this
  exact this
theorem kH (o : MOk W H c) {s : Int} (hs : s = 1 ∨ s = 2) (T : List Int) (hT : T.length = c.length) (h : Hp) : VC Try.prog 38 [vM (mp W H c), I s, ints T] h (.tuple [B (decide (T = bfs c W s)), I 0]) h := by
  have hm := MOk.le o
  have := vc_Holds (mp W H c) s T h (by show c.length ≤ _; omega) (by omega)
  have e : hdE (mp W H c) s T = 0 := by unfold hdE; rw [if_pos (lk0 o hs), if_pos hT]
  unfold hdB at this
  rw [e, fr0 o hs, decide_eq_true rfl, Bool.true_and] at this
  exact this
theorem wy7 (o : MOk W H c) {s : Int} (hs : s = 1 ∨ s = 2) {k : Nat} (hk : k < c.length) (h1 : at0 (bfs c W s) k < 1) : wyE (mp W H c) s k = 7 := by
  unfold wyE
  rw [if_pos (lk0 o hs), if_pos (show 0 ≤ (k : Int) ∧ (k : Int) ≤ (c.length : Int) - 1 by omega), fr0 o hs, Int.toNat_natCast, if_pos h1]
theorem wy0 (o : MOk W H c) {s : Int} (hs : s = 1 ∨ s = 2) {k : Nat} (hk : k < c.length) (h1 : ¬ at0 (bfs c W s) k < 1) : wyE (mp W H c) s k = 0 := by
  unfold wyE
  rw [if_pos (lk0 o hs), if_pos (show 0 ≤ (k : Int) ∧ (k : Int) ≤ (c.length : Int) - 1 by omega), fr0 o hs, Int.toNat_natCast, if_neg h1]
theorem kW7 (o : MOk W H c) {s : Int} (hs : s = 1 ∨ s = 2) {k : Nat} (hk : k < c.length) (h1 : at0 (bfs c W s) k < 1) (h : Hp) : VC Try.prog 40 [vM (mp W H c), I s, I k] h (.tuple [ints [], I 7]) h := by
  have := vc_Way (mp W H c) s k h (by have := MOk.le o; show c.length ≤ _; omega)
  unfold wyL at this
  rw [wy7 o hs hk h1, if_neg (by decide)] at this
  exact this
theorem kW0 (o : MOk W H c) {s : Int} (hs : s = 1 ∨ s = 2) {k : Nat} (hk : k < c.length) (h1 : ¬ at0 (bfs c W s) k < 1) : ∃ L : List Int, (L.length : Int) = at0 (bfs c W s) k + 1 ∧ (∀ h, VC Try.prog 40 [vM (mp W H c), I s, I k] h (.tuple [ints L, I 0]) h) ∧ ∀ h, VC Try.prog 43 [vM (mp W H c), I s, I k, ints L] h (B true) h := by
  obtain ⟨g1, g2⟩ := way_isW o s (n := k) hk (by omega)
  refine ⟨natI ((k :: wback c W s (bfs c W s) c.length k).reverse), by rw [natI_len]; exact g2, fun h => ?_, fun h => vc_leads (mp W H c) s k _ h o rfl g1⟩
  have := vc_Way (mp W H c) s k h (by have := MOk.le o; show c.length ≤ _; omega)
  unfold wyL wyN at this
  rw [wy0 o hs hk h1, if_pos rfl, fr0 o hs, Int.toNat_natCast] at this
  exact this
theorem far_own (o : MOk W H c) {s t : Int} (hst : s ≠ t) (ht : t = 1 ∨ t = 2) {k : Nat} (hk : k < c.length) (h1 : at0 c k = t) : at0 (bfs c W t) k = 0 ∧ at0 (bfs c W s) k = -1 := by
  refine ⟨((bfsH o t).fit k hk).own h1, ((bfsH o s).fit k hk).oth (fun e => hst (e.symm.trans h1)) fun e => ?_⟩
  unfold Opn at e
  omega
theorem own_at (o : MOk W H c) {k : Nat} (hk : k < c.length) (h3 : at0 c k ≠ 3) : at0 (owns c W) k = if at0 c k = 0 then ownr (at0 (bfs c W 1) k) (at0 (bfs c W 2) k) else at0 c k := by
  have hm := MOk.le o
  rw [← owns_eq (H := H) (by have := o.w; omega) o.len (by omega)]
  unfold rowns
  rw [at0_mk hk]
  unfold rown
  by_cases h0 : at0 c k = 0
  · rw [if_pos h0, if_pos h0]
  · rw [if_neg h0, if_neg h0, if_neg h3]
theorem own_water (o : MOk W H c) {k : Nat} (hk : k < c.length) (h0 : at0 c k = 0) :
    (at0 (owns c W) k = 0 ∧ at0 (bfs c W 1) k = -1 ∧ at0 (bfs c W 2) k = -1) ∨ (at0 (owns c W) k = 3 ∧ at0 (bfs c W 1) k = at0 (bfs c W 2) k ∧ 1 ≤ at0 (bfs c W 1) k) ∨ (at0 (owns c W) k = 1 ∧ 1 ≤ at0 (bfs c W 1) k ∧ (at0 (bfs c W 2) k = -1 ∨ at0 (bfs c W 1) k < at0 (bfs c W 2) k)) ∨ (at0 (owns c W) k = 2 ∧ 1 ≤ at0 (bfs c W 2) k ∧ (at0 (bfs c W 1) k = -1 ∨ at0 (bfs c W 2) k < at0 (bfs c W 1) k)) := by
  rw [own_at o hk (by omega), if_pos h0]
  have l1 := (bfsH o 1).low k
  have l2 := (bfsH o 2).low k
  have z1 := (bfsH o 1).zero hk
  have z2 := (bfsH o 2).zero hk
  have n1 : at0 (bfs c W 1) k ≠ 0 := fun e => by have := z1.1 e; omega
  have n2 : at0 (bfs c W 2) k ≠ 0 := fun e => by have := z2.1 e; omega
  rcases ownr_cases (at0 (bfs c W 1) k) (at0 (bfs c W 2) k) with g | g | g | g <;> omega
end
end Go.Proofs.Ytkbbfeljlepgoaa


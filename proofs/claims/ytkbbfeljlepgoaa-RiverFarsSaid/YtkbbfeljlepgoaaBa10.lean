/- Part 10 of the proof that the laws of chapter 05 hold of the given program. No condition. -/
import Derived.Test.YtkbbfeljlepgoaaBa9
set_option linter.unusedVariables false
set_option linter.unusedSimpArgs false
open Go.Vm
namespace Go.Proofs.Ytkbbfeljlepgoaa
set_option maxRecDepth 20000
set_option maxHeartbeats 4000000

abbrev DU (n : Int) : D := .s (.int .u32 n)
def encU (n : Int) : List D := [.s (.int .u8 n)]
theorem encU_len (n : Int) : (encU n).length = 1 := rfl
def bytes (l : List Int) : V := .fs 1 l.length (l.flatMap encU)
def deckD (bs : List Int) (n s : Int) : List D := [.sl 1 bs.length (bs.flatMap encU), DI n, DU s]
def OkB (bs : List Int) : Prop := ∀ x ∈ bs, 0 ≤ x ∧ x ≤ 255
theorem VOut.setS {h : Hp} {loc : List Blk} {i : Vm.Id} {b0 : Blk} {l : List D} {rw : Bool} {x : S} {L : Nat} (hL : Nat.ble loc.length L = true) (hb : h.get i = some b0) : VOut h ⟨outW h.lift i (.flat rw l), loc⟩ (.s x) (.s x) (h.set i (.flat rw l)) := by
  have hd : ∀ p ∈ [(i, Blk.flat rw l)], h.get p.1 ≠ none := by
    intro p hp
    simp only [List.mem_cons, List.not_mem_nil, or_false] at hp
    subst hp; simp only; rw [hb]; simp
  have := VOut.upd (loc := loc) (r1 := .s x) (r := .s x) [(i, .flat rw l)] [] [] L hL hd (by simp) rfl (by intro k b hk; simp at hk) (fun σ x hx => hx) (outer := outW h.lift i (.flat rw l)) rfl
  have he : (h.sets [(i, Blk.flat rw l)]).pushes [] = h.set i (.flat rw l) := by simp [Hp.sets, Hp.pushes]
  rw [he] at this
  exact this
theorem set_same {h : Hp} {i : Vm.Id} {b : Blk} (hb : h.get i = some b) : h.set i b = h := by
  cases i with
  | out i =>
    have hb : h.outer i = some b := hb
    obtain ⟨o, l⟩ := h
    simp only [Hp.set]
    congr 1
    funext j
    split
    · rename_i e; rw [e]; exact hb.symm
    · rfl
  | loc k =>
    have hb : h.loc[k]? = some b := hb
    obtain ⟨o, l⟩ := h
    simp only [Hp.set]
    congr 1
    obtain ⟨h1, h2⟩ := List.getElem?_eq_some_iff.1 hb
    rw [← h2]; exact List.set_getElem_self h1
theorem VOut.set2 {h : Hp} {loc : List Blk} {i : Vm.Id} {b0 b1 : Blk} {l : List D} {rw : Bool} {x : S} (hb : h.get i = some b0) : VOut h ⟨outW (outW h.lift i b1) i (.flat rw l), loc⟩ (.s x) (.s x) (h.set i (.flat rw l)) := by
  rw [outW_same]
  exact VOut.setS (L := loc.length) (by simp) hb
theorem vc_Draw0 (bs : List Int) (n s k : Int) (i : Vm.Id) (h : Hp) (hb : h.get i = some (.flat true (deckD bs n s))) (hk : k ≤ 1 ∨ bs = []) : VC Try.prog 45 [.ptr i 0, I k] h (I 0) (h.set i (.flat true (deckD bs n s))) := by
  rw [set_same hb]
  have hl : k ≤ 1 ∨ bs.length = 0 := by rcases hk with h1 | h1; exact .inl h1; exact .inr (by rw [h1]; rfl)
  refine VC.body Try.func45 rfl Try.ntmps45 Try.call45 (h.grows_refl) rfl ?_; conv => whnf
  repeat' (first | ((first | refine zs1 ?_ | refine zs2 ?_ | refine zs3 ?_ | refine zs4 ?_ | refine zs5 ?_); conv => whnf) | ((first | apply zi1 | apply zi2 | apply zi3 | apply zi4 | apply zi5) <;> intro _ <;> conv => whnf) | (refine VLd.flat rfl rfl (get_out hb _) rfl ?_; conv => whnf))
  · exact VOut.same rfl
  · exact VOut.same rfl
  · exfalso; omega
def dRd (bs : List Int) (N : Nat) : Int := IntKind.u32.wrap (IntKind.i64.wrap ((N : Int).tdiv (bs.length : Int)))
def dkS (bs : List Int) (N : Nat) (s c : Int) : Int := (IntKind.u32.wrap (IntKind.u32.wrap (IntKind.u32.wrap (s * 37) + IntKind.u32.wrap c) + IntKind.u32.wrap (101 * dRd bs N))).tmod 65521
def dR (bs : List Int) (N : Nat) (s k c : Int) : Int := if k ≤ 256 ∧ dRd bs N = 0 then (IntKind.i64.wrap (IntKind.u32.wrap c)).tmod k else (IntKind.i64.wrap (IntKind.u32.wrap (IntKind.u32.wrap (dkS bs N s c * 256) + IntKind.u32.wrap c))).tmod k
theorem u32_bd (n : Int) : 0 ≤ IntKind.u32.wrap n ∧ IntKind.u32.wrap n < 4294967296 := by
  unfold IntKind.wrap; simp [IntKind.bits, IntKind.signed]; omega
theorem tmod_bd {a k : Int} (ha : 0 ≤ a) (hk : 0 < k) : 0 ≤ a.tmod k ∧ a.tmod k < k := by
  rw [Int.tmod_eq_emod_of_nonneg ha]
  exact ⟨Int.emod_nonneg _ (by omega), Int.emod_lt_of_pos _ hk⟩
theorem dR_bd (bs : List Int) (N : Nat) (s c : Int) {k : Int} (hk : 0 < k) : 0 ≤ dR bs N s k c ∧ dR bs N s k c < k := by
  unfold dR
  split
  · have := u32_bd c
    rw [wrap_i64 (by omega)]
    exact tmod_bd this.1 hk
  · have := u32_bd (IntKind.u32.wrap (dkS bs N s c * 256) + IntKind.u32.wrap c)
    rw [wrap_i64 (by omega)]
    exact tmod_bd this.1 hk
theorem vc_Draw1 (bs : List Int) (N : Nat) (s k c : Int) (i : Vm.Id) (h : Hp) (hb : h.get i = some (.flat true (deckD bs N s))) (hk : 1 < k) (hc : bs[N % bs.length]? = some c) (hN : N ≤ 4000000000) :
    VC Try.prog 45 [.ptr i 0, I k] h (I (dR bs N s k c)) (h.set i (.flat true (deckD bs ((N : Int) + 1) (dkS bs N s c)))) := by
  have hlen : 0 < bs.length := by
    have := (List.getElem?_eq_some_iff.1 hc).1
    omega
  have hneB : ((bs.length : Int) != 0) = true := by rw [bne_iff_ne]; omega
  obtain ⟨R, hR⟩ : ∃ R, R = dR bs N s k c := ⟨_, rfl⟩
  rw [← hR]
  unfold dR at hR
  refine VC.body Try.func45 rfl Try.ntmps45 Try.call45 (h.grows_set _ _) rfl ?_
  conv => whnf
  repeat' (first | ((first | refine zs1 ?_ | refine zs2 ?_ | refine zs3 ?_ | refine zs4 ?_ | refine zs5 ?_ | refine zs6 [] ?_); conv => whnf) | ((first | apply zi1 | apply zi2 | apply zi3 | apply zi4 | apply zi5) <;> intro _ <;> conv => whnf) | (refine VLd.flat rfl rfl (get_out hb _) rfl ?_; conv => whnf) | (refine VAny.ix encU_len (N % bs.length) (by rfl) rfl hc ?_; conv => whnf) | (refine VLd.flat rfl rfl (outW_get _ _ _ _) rfl ?_; conv => whnf) | (refine VMem.st1 rfl rfl rfl (get_out hb _) rfl ?_; conv => whnf) | (refine VMem.st1 rfl rfl rfl (outW_get _ _ _ _) rfl ?_; conv => whnf) | (refine VArith.wr ?_; conv => whnf) | (refine VNeed.intro hneB ?_; conv => whnf))
  · exfalso; omega
  · exfalso; omega
  · rename_i h1 h2
    have h2 : dRd bs N = 0 := h2
    rw [if_pos ⟨h1, h2⟩] at hR
    subst hR
    refine VOut.set2 hb
  · rename_i h1 h2
    have h2 : ¬ dRd bs N = 0 := h2
    rw [if_neg (fun h => h2 h.2)] at hR
    subst hR
    refine VOut.set2 hb
  · rename_i h1
    rw [if_neg (fun h => h1 h.1)] at hR
    subst hR
    refine VOut.set2 hb
theorem vc_Draw (bs : List Int) (N : Nat) (s k : Int) (hN : N ≤ 4000000000) : ∃ (r s' : Int) (N' : Nat), 0 ≤ r ∧ (r = 0 ∨ r < k) ∧ N' ≤ N + 1 ∧ ∀ (i : Vm.Id) (h : Hp), h.get i = some (.flat true (deckD bs N s)) → VC Try.prog 45 [.ptr i 0, I k] h (I r) (h.set i (.flat true (deckD bs N' s'))) := by
  by_cases hk : k ≤ 1 ∨ bs = []
  · exact ⟨0, s, N, Int.le_refl _, .inl rfl, by omega, fun i h hb => vc_Draw0 bs N s k i h hb hk⟩
  · have hlen := List.length_pos_iff.2 (fun h => hk (.inr h))
    obtain ⟨c, hc⟩ : ∃ c, bs[N % bs.length]? = some c := ⟨_, List.getElem?_eq_getElem (Nat.mod_lt _ hlen)⟩
    obtain ⟨q1, q2⟩ := dR_bd bs N s c (k := k) (by omega)
    exact ⟨_, _, N + 1, q1, .inr q2, Nat.le_refl _, fun i h hb => vc_Draw1 bs N s k _ i h hb (by omega) hc hN⟩
theorem vc_Between (bs : List Int) (N : Nat) (s a b : Int) (hN : N ≤ 4000000000) (ha : -1000000 ≤ a ∧ a ≤ 1000000) (hb : -1000000 ≤ b ∧ b ≤ 1000000) (hab : a ≤ b) : ∃ (r s' : Int) (N' : Nat), a ≤ r ∧ r ≤ b ∧ N' ≤ N + 1 ∧ ∀ (i : Vm.Id) (h : Hp), h.get i = some (.flat true (deckD bs N s)) → VC Try.prog 44 [.ptr i 0, I a, I b] h (I r) (h.set i (.flat true (deckD bs N' s'))) := by
  obtain ⟨r, s', N', h1, h2, h3, h4⟩ := vc_Draw bs N s (b - a + 1) hN
  refine ⟨a + r, s', N', by omega, by omega, h3, fun i h hb2 => ?_⟩
  refine VC.body Try.func44 rfl Try.ntmps44 Try.call44 (h.grows_set _ _) rfl ?_
  conv => whnf
  repeat' (first | ((first | refine zs1 ?_ | refine zs2 ?_ | refine zs3 ?_ | refine zs4 ?_ | refine zs5 ?_ | refine zs6 [] ?_); conv => whnf) | ((first | apply zi1 | apply zi2 | apply zi3 | apply zi4 | apply zi5) <;> intro _ <;> conv => whnf) | (refine VCall.intro (h4 (.out i) _ (get_out hb2 _)) ?_; conv => whnf))
  exact VOut.setS (L := 0) rfl hb2
theorem vc_Coin (bs : List Int) (N : Nat) (s k : Int) (hN : N ≤ 4000000000) : ∃ (r : Bool) (s' : Int) (N' : Nat), N' ≤ N + 1 ∧ ∀ (i : Vm.Id) (h : Hp), h.get i = some (.flat true (deckD bs N s)) → VC Try.prog 64 [.ptr i 0, I k] h (B r) (h.set i (.flat true (deckD bs N' s'))) := by
  obtain ⟨r, s', N', h1, h2, h3, h4⟩ := vc_Draw bs N s k hN
  refine ⟨r == 0, s', N', h3, fun i h hb2 => ?_⟩
  refine VC.body Try.func64 rfl Try.ntmps64 Try.call64 (h.grows_set _ _) rfl ?_
  conv => whnf
  repeat' (first | ((first | refine zs1 ?_ | refine zs2 ?_ | refine zs3 ?_ | refine zs4 ?_ | refine zs5 ?_ | refine zs6 [] ?_); conv => whnf) | ((first | apply zi1 | apply zi2 | apply zi3 | apply zi4 | apply zi5) <;> intro _ <;> conv => whnf) | (refine VCall.intro (h4 (.out i) _ (get_out hb2 _)) ?_; conv => whnf))
  exact VOut.setS (L := 0) rfl hb2
def dNx (bs : List Int) (d : Nat × Int) (k : Int) : Int × (Nat × Int) :=
  if k ≤ 1 ∨ bs = [] then (0, d) else (dR bs d.1 d.2 k (bs.getD (d.1 % bs.length) 0), (d.1 + 1, dkS bs d.1 d.2 (bs.getD (d.1 % bs.length) 0)))
def deckB (bs : List Int) (d : Nat × Int) : Blk := .flat true (deckD bs d.1 d.2)
theorem dNx_bd (bs : List Int) (d : Nat × Int) (k : Int) : 0 ≤ (dNx bs d k).1 ∧ ((dNx bs d k).1 = 0 ∨ (dNx bs d k).1 < k) ∧ (dNx bs d k).2.1 ≤ d.1 + 1 := by
  unfold dNx
  split
  · exact ⟨Int.le_refl _, .inl rfl, by simp only; omega⟩
  · rename_i h
    obtain ⟨q1, q2⟩ := dR_bd bs d.1 d.2 (bs.getD (d.1 % bs.length) 0) (k := k) (by omega)
    exact ⟨q1, .inr q2, Nat.le_refl _⟩
theorem vc_draw (bs : List Int) (d : Nat × Int) (k : Int) (i : Vm.Id) (h : Hp) (hN : d.1 ≤ 4000000000) (hb : h.get i = some (deckB bs d)) : VC Try.prog 45 [.ptr i 0, I k] h (I (dNx bs d k).1) (h.set i (deckB bs (dNx bs d k).2)) := by
  unfold dNx deckB at *
  split
  · rename_i hk; exact vc_Draw0 bs d.1 d.2 k i h hb hk
  · rename_i hk
    have hlen := List.length_pos_iff.2 (fun h => hk (.inr h))
    have hc : bs[d.1 % bs.length]? = some (bs.getD (d.1 % bs.length) 0) := by simp [List.getElem?_eq_getElem (Nat.mod_lt d.1 hlen)]
    exact vc_Draw1 bs d.1 d.2 k _ i h hb (by omega) hc hN
theorem vc_between (bs : List Int) (d : Nat × Int) (a b : Int) (i : Vm.Id) (h : Hp) (hN : d.1 ≤ 4000000000) (ha : -1000000 ≤ a ∧ a ≤ 1000000) (hb : -1000000 ≤ b ∧ b ≤ 1000000) (hd : h.get i = some (deckB bs d)) : VC Try.prog 44 [.ptr i 0, I a, I b] h (I (a + (dNx bs d (b - a + 1)).1)) (h.set i (deckB bs (dNx bs d (b - a + 1)).2)) := by
  have hbd := dNx_bd bs d (b - a + 1)
  have hD := fun i h hh => vc_draw bs d (b - a + 1) i h hN hh
  generalize dNx bs d (b - a + 1) = x at hbd hD
  refine VC.body Try.func44 rfl Try.ntmps44 Try.call44 (h.grows_set _ _) rfl ?_
  conv => whnf
  repeat' (first | ((first | refine zs1 ?_ | refine zs2 ?_ | refine zs3 ?_ | refine zs4 ?_ | refine zs5 ?_ | refine zs6 [] ?_); conv => whnf) | ((first | apply zi1 | apply zi2 | apply zi3 | apply zi4 | apply zi5) <;> intro _ <;> conv => whnf) | (refine VCall.intro (hD (.out i) _ (get_out hd _)) ?_; conv => whnf))
  exact VOut.setS (L := 0) rfl hd
theorem vc_coin (bs : List Int) (d : Nat × Int) (k : Int) (i : Vm.Id) (h : Hp) (hN : d.1 ≤ 4000000000) (hd : h.get i = some (deckB bs d)) : VC Try.prog 64 [.ptr i 0, I k] h (B ((dNx bs d k).1 == 0)) (h.set i (deckB bs (dNx bs d k).2)) := by
  have hD := fun i h hh => vc_draw bs d k i h hN hh
  generalize dNx bs d k = x at hD
  refine VC.body Try.func64 rfl Try.ntmps64 Try.call64 (h.grows_set _ _) rfl ?_
  conv => whnf
  repeat' (first | ((first | refine zs1 ?_ | refine zs2 ?_ | refine zs3 ?_ | refine zs4 ?_ | refine zs5 ?_ | refine zs6 [] ?_); conv => whnf) | ((first | apply zi1 | apply zi2 | apply zi3 | apply zi4 | apply zi5) <;> intro _ <;> conv => whnf) | (refine VCall.intro (hD (.out i) _ (get_out hd _)) ?_; conv => whnf))
  exact VOut.setS (L := 0) rfl hd
theorem VOut.ownP {h : Hp} {loc : List Blk} {ds : List D} (j L : Nat) (hL : Nat.ble loc.length L = true) (hj : loc[j]? = some (.flat true ds)) : VOut h ⟨h.lift, loc⟩ (.ptr (.loc j) 0) (.ptr h.fresh 0) (h.push (.flat true ds)) := by
  refine VOut.upd [] [.flat true ds] [j] L hL (by intro p hp; cases hp) (by simp) rfl ?_ ?_ rfl
  · intro k b hk
    cases k with
    | zero => rw [List.getElem?_cons_zero, Option.some.injEq] at hk; subst hk; exact ⟨j, rfl, hj⟩
    | succ k => simp at hk
  · intro σ x hx
    have : (V.ptr h.fresh 0).ren (backR h.loc.length [j] L) = .ptr (.loc j) 0 := by simp [V.ren, backR, Hp.fresh]
    rw [this]; exact hx
theorem vc_Of (bs : List Int) (h : Hp) : VC Try.prog 22 [bytes bs] h (.ptr h.fresh 0) (h.push (deckB bs (0, 9))) := by
  refine VC.body Try.func22 rfl Try.ntmps22 Try.call22 (h.grows_push _) rfl ?_
  conv => whnf
  repeat (first | ((first | refine zs1 ?_ | refine zs2 ?_ | refine zs3 ?_ | refine zs4 ?_ | refine zs5 ?_ | refine zs6 [] ?_); conv => whnf))
  exact VOut.ownP 0 1 rfl rfl
theorem VOut.setF {h : Hp} {loc : List Blk} {i : Vm.Id} {b0 : Blk} {l : List D} {rw : Bool} {r : V} {L : Nat} (hL : Nat.ble loc.length L = true) (hb : h.get i = some b0) (hr : ∀ ρ, r.ren ρ = r) : VOut h ⟨outW h.lift i (.flat rw l), loc⟩ r r (h.set i (.flat rw l)) := by
  have hd : ∀ p ∈ [(i, Blk.flat rw l)], h.get p.1 ≠ none := by
    intro p hp
    simp only [List.mem_cons, List.not_mem_nil, or_false] at hp
    subst hp; simp only; rw [hb]; simp
  have := VOut.upd (loc := loc) (r1 := r) (r := r) [(i, .flat rw l)] [] [] L hL hd (by simp) rfl (by intro k b hk; simp at hk) (fun σ x hx => by rw [hr]; exact hx) (outer := outW h.lift i (.flat rw l)) rfl
  have he : (h.sets [(i, Blk.flat rw l)]).pushes [] = h.set i (.flat rw l) := by simp [Hp.sets, Hp.pushes]
  rw [he] at this
  exact this
end Go.Proofs.Ytkbbfeljlepgoaa

open Go.Vm
open Riv
namespace Go.Proofs.Ytkbbfeljlepgoaa
open Go.ChangeShapes Go.WideShapes Go.ChangeAt Go.RowKit

theorem open3 : Opens Try.prog 3 (fun n : Int => [DI n]) := Opens.int Try.underlying3
theorem open22 : Opens Try.prog 22 (fun l : List Int => [dints l]) := Opens.slice Try.underlying22 Vm.encI_len (by kernel_rfl) (by decide) open3
theorem open24 : Opens Try.prog 24 encM := (Opens.struct3 1 1 1 Try.underlying24 (by kernel_rfl) rfl rfl rfl (by kernel_rfl) (by kernel_rfl) (by kernel_rfl) open3 open3 open22).as (fun x => ⟨x.1, x.2.1, x.2.2⟩) encM fun _ => rfl
def dM (m : Mp) : D := .agg (encM m)
def dYs (l : List Mp) : D := .sl 3 l.length (l.flatMap encM)
theorem openM : OpenV Try.prog 24 dM := OpenV.struct Try.underlying24 open24
theorem openI : OpenV Try.prog 3 (fun n : Int => DI n) := OpenV.int Try.underlying3
theorem openL : OpenV Try.prog 22 dints := OpenV.slice Try.underlying22 (Opens.slice Try.underlying22 Vm.encI_len (by kernel_rfl) (by decide) open3)
theorem openYs : OpenV Try.prog 47 dYs := OpenV.slice Try.underlying47 (Opens.slice Try.underlying47 encM_len (by kernel_rfl) (by decide) open24)
def dU (l : List Int) : D := .sl 1 l.length (l.flatMap encU)
theorem openU : OpenV Try.prog 46 dU := OpenV.slice Try.underlying46 (Opens.slice Try.underlying46 encU_len (by kernel_rfl) (by decide) (Opens.int Try.underlying5))
def d8b (n : {n : Int // 0 ≤ n ∧ n ≤ 255}) : D := .s (.int .u8 n.1)
theorem openV_u8 {P : Program} {t : TypeId} (ht : P.underlying t = some (.int .u8)) : OpenV P t d8b := by
  intro W base H en v dd ps hok ⟨fuel, ht2⟩
  obtain ⟨n, h2, _, hw⟩ := DataW.trod_int ht ht2
  have hb : 0 ≤ n ∧ n ≤ 255 := by
    have hw2 : (decide ((0 : Int) ≤ n) && decide (n ≤ (255 : Int))) = true := hw
    simpa using hw2
  unfold Value.okWide at hok
  rw [ht] at hok
  simp only [Cell.okWide, ht] at hok
  refine ⟨⟨n, hb⟩, ?_⟩
  cases v <;> simp [Cell.ok, ht] at hok
  simp [Value.cells] at h2
  simp only [d8b, DR, S.val]
  rw [h2.1, h2.2]
theorem open8b : OpenV Try.prog 5 d8b := openV_u8 Try.underlying5
theorem ownKn : ownKnob Try.prog.godebug = none := by kernel_rfl
theorem laidOut : laidOutB Try.prog = true := by kernel_rfl
end Go.Proofs.Ytkbbfeljlepgoaa

open Go.Vm
open Riv
namespace Go.Proofs.Ytkbbfeljlepgoaa
set_option maxRecDepth 20000
set_option maxHeartbeats 4000000

theorem shr_cnt (m : Mp) : (if chkM m = 0 then shr m.c m.w.toNat else []).length ≤ m.c.length := by
  split
  · rename_i h0
    obtain ⟨W, H, h1, h2, o⟩ := chkM_ok h0
    have hw := o.w
    have := (pfK_ok (mk := marks m.c) (W := W) (H := H) (by omega) (by rw [marks_len]; exact o.len) (marks m.c).length).2.2
    rw [marks_len] at this
    have e : isl m.c W = (pfK (marks m.c) W m.c.length).2 := by unfold isl parts pfK; rw [marks_len]
    rw [h1, Int.toNat_natCast, shr_shL]
    unfold shL
    rw [List.length_map, List.length_zip, e]
    omega
  · simp
theorem vc_RiverOwners (m : Mp) (h : Hp) : VC Try.prog 3 [vM m] h (B true) h := by
  by_cases hg : (60 < m.c.length ∧ m.c.length ≤ 144) ∨ 160 < m.c.length
  · have cG := fun h => vc_great m 60 h
    have e : grt m 60 = true := by unfold grt; exact decide_eq_true (by omega)
    rw [e] at cG
    have cA := vc_awake
    obtain ⟨mw, mh, mc⟩ := m
    refine VC.body Try.func3 rfl Try.ntmps3 Try.call3 (h.grows_refl) rfl ?_; conv => whnf
    repeat' (first | ((first | refine zs1 ?_ | refine zs2 ?_ | refine zs3 ?_ | refine zs4 ?_ | refine zs5 ?_); conv => whnf) | ((first | apply zi1 | apply zi2 | apply zi3 | apply zi4 | apply zi5) <;> intro _ <;> first | (exfalso; omega) | contradiction | (conv => whnf)) | (refine VCall.intro (cG _) ?_; conv => whnf) | (refine VCall.intro (cA _) ?_; conv => whnf))
    exact VOut.same rfl
  · have cG := fun h => vc_great m 60 h
    have e : grt m 60 = false := by unfold grt; exact decide_eq_false (by omega)
    rw [e] at cG
    have hl : m.c.length ≤ 4000000 := by omega
    have cA := vc_awake
    have c1 := fun h => vc_CloneMap m h hl
    have c2 := fun h => vc_Map m h hl
    have c3 := fun h => vc_Islands m h hl
    have c4 := fun h => vc_rIslands m h hl
    have c5 := fun h => vc_Owners m h hl
    have c6 := fun h => vc_rOwners m h hl
    have hO : (if chkM m = 0 then owns m.c m.w.toNat else []).length ≤ 4000000 := by
      split
      · rw [owns_len]; exact hl
      · simp
    have hS := shr_cnt m
    have c7 := fun h => vc_kequalI (if chkM m = 0 then owns m.c m.w.toNat else []) (if chkM m = 0 then owns m.c m.w.toNat else []) h hO hO
    rw [decide_eq_true rfl] at c7
    have c8 := fun h => vc_equal m m h hl hl
    rw [decide_eq_true rfl] at c8
    generalize (if chkM m = 0 then owns m.c m.w.toNat else []) = O at *
    generalize (if chkM m = 0 then shr m.c m.w.toNat else []) = S at *
    generalize chkM m = E at *
    obtain ⟨mw, mh, mc⟩ := m
    dsimp only at *
    show VC Try.prog 3 [.agg [I mw, I mh, ints mc]] h (B true) h
    refine VC.bodyC 3 Try.func3 rfl Try.ntmps3 Try.call3 (h.grows_refl) rfl ?_; conv => whnf
    repeat' (first | ((first | refine zs1 ?_ | refine zs2 ?_ | refine zs3 ?_ | refine zs4 ?_ | refine zs5 ?_); conv => whnf) | ((first | apply zi1 | apply zi2 | apply zi3 | apply zi4 | apply zi5) <;> intro _ <;> first | (exfalso; omega) | contradiction | (conv => whnf)) | (refine VCall.intro (cG _) ?_; conv => whnf))
    refine zs6 [(1, 2)] ?_
    conv => whnf
    repeat' (first | ((first | refine zs1 ?_ | refine zs2 ?_ | refine zs3 ?_ | refine zs4 ?_ | refine zs5 ?_); conv => whnf) | ((first | apply zi1 | apply zi2 | apply zi3 | apply zi4 | apply zi5) <;> intro _ <;> first | (exfalso; omega) | contradiction | (conv => whnf)) | (refine VCall.intro (c1 _) ?_; conv => whnf) | (refine VCall.intro (c2 _) ?_; conv => whnf))
    refine VCut.at' (outer := h.lift) (marks := []) 99 [(1, .fp [DI mw, DI mh, dints mc]), (3, .fp [DI mw, DI mh, dints mc]), (4, .fp [DI mw, DI mh, dints mc])] [] ?_ ?_
    · conv => whnf
      refine Retell.turn ⟨[], 9, [(0, [DI mw, DI mh, dints mc]), (1, [DI mw, DI mh, dints mc]), (2, [DI mw, DI mh, dints mc])], []⟩ (TurnOk.mk' _ _ [(0, [DI mw, DI mh, dints mc]), (1, [DI mw, DI mh, dints mc]), (2, [DI mw, DI mh, dints mc])] [] (OutOk.lift _) rfl (by decide) zb zf trivial rfl) zw zm
    conv => whnf
    repeat' (first | ((first | refine zs1 ?_ | refine zs2 ?_ | refine zs3 ?_ | refine zs4 ?_ | refine zs5 ?_); conv => whnf) | ((first | apply zi1 | apply zi2 | apply zi3 | apply zi4 | apply zi5) <;> intro _ <;> first | (exfalso; omega) | contradiction | (conv => whnf)) | (refine VCall.intro (c3 _) ?_; conv => whnf) | (refine VCall.intro (c4 _) ?_; conv => whnf))
    refine VCode.lpC (outer := h.lift) (marks := []) 99 (fun k : Nat => [(1, .fp [DI mw, DI mh, dints mc]), (3, .fp [DI mw, DI mh, dints mc]), (4, .fp [DI mw, DI mh, dints mc]), (5, shs S), (7, shs S), (40, I S.length), (41, I k)]) (fun _ => []) (fun k => k ≤ S.length) (fun k => S.length - k) 0 (Nat.zero_le _) ?_ ?_
    · conv => whnf
      refine Retell.turn ⟨[], 9, [], []⟩ (TurnOk.mk' _ _ [] [] (OutOk.lift _) rfl (by decide) zb trivial trivial rfl) zw zm
    rintro k hk
    rcases Nat.lt_or_ge k S.length with h3 | h3
    · have hx : S[k]? = some S[k] := List.getElem?_eq_getElem h3
      generalize S[k] = x at hx
      have hv := vneqH top38 x x
      rw [decide_eq_false (fun e => e rfl)] at hv
      conv => whnf
      repeat' (first | ((first | refine zs1 ?_ | refine zs2 ?_ | refine zs3 ?_ | refine zs4 ?_ | refine zs5 ?_); conv => whnf) | ((first | apply zi1 | apply zi2 | apply zi3 | apply zi4 | apply zi5) <;> intro _ <;> conv => whnf))
      all_goals try (exfalso; omega)
      refine zs6 [] ?_
      conv => whnf
      repeat' (first | ((first | refine zs1 ?_ | refine zs2 ?_ | refine zs3 ?_ | refine zs4 ?_ | refine zs5 ?_); conv => whnf) | ((first | apply zi1 | apply zi2 | apply zi3 | apply zi4 | apply zi5) <;> intro _ <;> first | (exfalso; omega) | contradiction | (conv => whnf)) | (refine VAny.ix encSh_len k rfl rfl hx ?_; conv => whnf) | (refine VAgg.intro hv ?_; conv => whnf))
      refine LEnd.intro (k + 1) (by omega) (by omega) ?_
      conv => whnf
      refine Retell.turn ⟨[], 9, [], []⟩ (TurnOk.mk' _ _ [] [] (OutOk.lift _) rfl (by decide) zb trivial trivial rfl) zw zm
    · conv => whnf
      repeat' (first | ((first | refine zs1 ?_ | refine zs2 ?_ | refine zs3 ?_ | refine zs4 ?_ | refine zs5 ?_); conv => whnf) | ((first | apply zi1 | apply zi2 | apply zi3 | apply zi4 | apply zi5) <;> intro _ <;> first | (exfalso; omega) | contradiction | (conv => whnf)) | (refine VCall.intro (c5 _) ?_; conv => whnf) | (refine VCall.intro (c6 _) ?_; conv => whnf) | (refine VCall.intro (c7 _) ?_; conv => whnf) | (refine VCall.intro (c8 _) ?_; conv => whnf) | (refine VCall.intro (cA _) ?_; conv => whnf))
      exact VOut.same rfl
end Go.Proofs.Ytkbbfeljlepgoaa

open Go.Vm
open Riv
namespace Go.Proofs.Ytkbbfeljlepgoaa
set_option maxRecDepth 20000
set_option maxHeartbeats 4000000

theorem way_isW {c : List Int} {W H : Nat} (o : MOk W H c) (s : Int) {n : Nat} (hn : n < c.length) (h1 : 1 ≤ at0 (bfs c W s) n) : IsW c W s ((n :: wback c W s (bfs c W s) c.length n).reverse) n ∧ (((n :: wback c W s (bfs c W s) c.length n).reverse).length : Int) = at0 (bfs c W s) n + 1 := by
  have hw := o.w
  have hm := MOk.le o
  have hH := bfs_hld (c := c) (W := W) (H := H) (s := s) (by omega) o.len
  have hlt := bfs_lt (c := c) (W := W) (H := H) (s := s) (by omega) o.len n
  obtain ⟨g1, g2⟩ := wback_ok (by omega) o.len hH c.length n hn (by omega) (by omega)
  rw [List.reverse_cons]
  have hp := wb_path hn g1
  generalize wback c W s (bfs c W s) c.length n = B at *
  have hl : (B.reverse ++ [n]).length = B.length + 1 := by simp
  refine ⟨⟨by omega, ?_, hp⟩, by omega⟩
  rw [hl, Nat.add_sub_cancel, List.getD_eq_getElem?_getD, List.getElem?_append_right (by simp)]; simp
theorem vc_RiverFars (m : Mp) (s cell : Int) (T : List Int) (h : Hp) : VC Try.prog 8 [vM m, I s, I cell, ints T] h (B true) h := by
  have cA := vc_awake
  by_cases hg : (60 < m.c.length ∧ m.c.length ≤ 144) ∨ 160 < m.c.length
  · have cG := fun h => vc_great m 60 h
    have e : grt m 60 = true := by unfold grt; exact decide_eq_true (by omega)
    rw [e] at cG
    obtain ⟨mw, mh, mc⟩ := m
    show VC Try.prog 8 [.agg [I mw, I mh, ints mc], I s, I cell, ints T] h (B true) h
    refine VC.body Try.func8 rfl Try.ntmps8 Try.call8 (h.grows_refl) rfl ?_; conv => whnf
    repeat' (first | ((first | refine zs1 ?_ | refine zs2 ?_ | refine zs3 ?_ | refine zs4 ?_ | refine zs5 ?_); conv => whnf) | ((first | apply zi1 | apply zi2 | apply zi3 | apply zi4 | apply zi5) <;> intro _ <;> first | (exfalso; omega) | contradiction | (conv => whnf)) | (refine VCall.intro (cG _) ?_; conv => whnf) | (refine VCall.intro (cA _) ?_; conv => whnf))
    exact VOut.same rfl
  have cG := fun h => vc_great m 60 h
  have e : grt m 60 = false := by unfold grt; exact decide_eq_false (by omega)
  rw [e] at cG
  by_cases hT : 160 < T.length
  · obtain ⟨mw, mh, mc⟩ := m
    show VC Try.prog 8 [.agg [I mw, I mh, ints mc], I s, I cell, ints T] h (B true) h
    refine VC.body Try.func8 rfl Try.ntmps8 Try.call8 (h.grows_refl) rfl ?_; conv => whnf
    repeat' (first | ((first | refine zs1 ?_ | refine zs2 ?_ | refine zs3 ?_ | refine zs4 ?_ | refine zs5 ?_); conv => whnf) | ((first | apply zi1 | apply zi2 | apply zi3 | apply zi4 | apply zi5) <;> intro _ <;> first | (exfalso; omega) | contradiction | (conv => whnf)) | (refine VCall.intro (cG _) ?_; conv => whnf) | (refine VCall.intro (cA _) ?_; conv => whnf))
    exact VOut.same rfl
  have hl : m.c.length ≤ 4000000 := by omega
  have c1 := fun h => vc_CloneMap m h hl
  have c2 := fun h => vc_kcloneI T h (by omega)
  have c3 := fun h => vc_Map m h hl
  have c4 := fun h => vc_check m h hl
  have c5 := fun h => vc_rcheck m h hl
  have c6 := fun h => vc_Far m s h hl
  have c7 := fun h => vc_rFar m s h hl
  have hF : (frL m s).length ≤ 4000000 := by
    unfold frL
    split
    · rename_i h0
      have h1 : chkM m = 0 := by
        unfold lkE at h0
        refine Decidable.byContradiction fun e => ?_
        rw [if_neg e] at h0; exact e h0
      obtain ⟨W, H, h2, h3, o⟩ := chkM_ok h1
      have hwo := o.w
      rw [h2, Int.toNat_natCast, (bfs_hld (c := m.c) (W := W) (H := H) (s := s) (by omega) o.len).len]; exact hl
    · simp
  have c8 := fun h => vc_kequalI (frL m s) (frL m s) h hF hF
  rw [decide_eq_true rfl] at c8
  have c9 := fun h => vc_Holds m s T h hl (by omega)
  have d1 := fun h => vc_rHolds m s T h hl (by omega)
  have d2 := fun h => vc_Way m s cell h hl
  have d3 := fun h => vc_Long m s cell h hl
  have d5 := fun h => vc_equal m m h hl hl
  have d6 := fun h => vc_kequalI T T h (by omega) (by omega)
  rw [decide_eq_true rfl] at d5 d6
  by_cases hw : wyE m s cell = 0
  · have hlk : lkE m s = 0 := by
      unfold wyE at hw
      refine Decidable.byContradiction fun e => ?_
      rw [if_neg e] at hw; exact e hw
    have hck : chkM m = 0 := by
      unfold lkE at hlk
      refine Decidable.byContradiction fun e => ?_
      rw [if_neg e] at hlk; exact e hlk
    obtain ⟨W, H, h2, h3, o⟩ := chkM_ok hck
    have hfr : frL m s = bfs m.c W s := by unfold frL; rw [if_pos hlk, h2, Int.toNat_natCast]
    have hce : 0 ≤ cell ∧ cell ≤ (m.c.length : Int) - 1 := by
      unfold wyE at hw
      rw [if_pos hlk] at hw
      refine Decidable.byContradiction fun e => ?_
      rw [if_neg e] at hw; exact absurd hw (by decide)
    have hat : 1 ≤ at0 (frL m s) cell.toNat := by
      unfold wyE at hw
      rw [if_pos hlk, if_pos hce] at hw
      refine Decidable.byContradiction fun e => ?_
      rw [if_pos (by omega)] at hw; exact absurd hw (by decide)
    obtain ⟨n, rfl⟩ : ∃ n : Nat, cell = n := ⟨cell.toNat, by omega⟩
    rw [Int.toNat_natCast, hfr] at hat
    obtain ⟨g1, g2⟩ := way_isW o s (n := n) (by omega) hat
    have e2 : wyL m s n = natI ((n :: wback m.c W s (bfs m.c W s) m.c.length n).reverse) := by
      unfold wyL wyN
      rw [if_pos hw, h2, Int.toNat_natCast, Int.toNat_natCast, hfr]
    have hbd := bfs_lt (c := m.c) (W := W) (H := H) (s := s) (by have := o.w; omega) o.len n
    have d4 := fun h => vc_IsWay m s n _ h o h2 g1
    rw [if_pos hw, Int.toNat_natCast, hfr, hw] at d3
    rw [e2, hw] at d2
    have g3 := natI_len ((n :: wback m.c W s (bfs m.c W s) m.c.length n).reverse)
    rw [hfr] at c6 c7 c8
    have hm144 := MOk.le o
    clear e2 g1 hw hfr hF
    generalize natI ((n :: wback m.c W s (bfs m.c W s) m.c.length n).reverse) = L at *
    generalize ((n :: wback m.c W s (bfs m.c W s) m.c.length n).reverse).length = k at *
    generalize at0 (bfs m.c W s) n = a at *
    generalize bfs m.c W s = F at *
    generalize hdB m s T = hB at *
    generalize hdE m s T = hE at *
    generalize lkE m s = Ef at *
    generalize chkM m = E at *
    obtain ⟨mw, mh, mc⟩ := m
    dsimp only at *
    show VC Try.prog 8 [.agg [I mw, I mh, ints mc], I s, I n, ints T] h (B true) h
    refine VC.bodyC 3 Try.func8 rfl Try.ntmps8 Try.call8 (h.grows_refl) rfl ?_; conv => whnf
    repeat' (first | ((first | refine zs1 ?_ | refine zs2 ?_ | refine zs3 ?_ | refine zs4 ?_ | refine zs5 ?_); conv => whnf) | ((first | apply zi1 | apply zi2 | apply zi3 | apply zi4 | apply zi5) <;> intro _ <;> first | (exfalso; omega) | contradiction | (conv => whnf)) | (refine VCall.intro (cG _) ?_; conv => whnf))
    refine zs6 [(1, 4), (3, 4)] ?_
    conv => whnf
    repeat' (first | ((first | refine zs1 ?_ | refine zs2 ?_ | refine zs3 ?_ | refine zs4 ?_ | refine zs5 ?_); conv => whnf) | ((first | apply zi1 | apply zi2 | apply zi3 | apply zi4 | apply zi5) <;> intro _ <;> first | (exfalso; omega) | contradiction | (conv => whnf)) | (refine VCall.intro (c1 _) ?_; conv => whnf) | (refine VCall.intro (c2 _) ?_; conv => whnf) | (refine VCall.intro (c3 _) ?_; conv => whnf))
    refine VCut.at' (outer := h.lift) (marks := []) 99 [(1, I s), (2, I n), (3, ints T), (4, .fp [DI mw, DI mh, dints mc]), (9, .fp [DI mw, DI mh, dints mc]), (10, ints T), (11, .fp [DI mw, DI mh, dints mc])] [] ?_ ?_
    · conv => whnf
      refine Retell.turn ⟨[], 9, [(0, [DI mw, DI mh, dints mc]), (1, [DI mw, DI mh, dints mc]), (2, [DI mw, DI mh, dints mc])], []⟩ (TurnOk.mk' _ _ [(0, [DI mw, DI mh, dints mc]), (1, [DI mw, DI mh, dints mc]), (2, [DI mw, DI mh, dints mc])] [] (OutOk.lift _) rfl (by decide) zb zf trivial rfl) zw zm
    conv => whnf
    refine zs6 [(1, 2)] ?_
    conv => whnf
    repeat' (first | ((first | refine zs1 ?_ | refine zs2 ?_ | refine zs3 ?_ | refine zs4 ?_ | refine zs5 ?_); conv => whnf) | ((first | apply zi1 | apply zi2 | apply zi3 | apply zi4 | apply zi5) <;> intro _ <;> first | (exfalso; omega) | contradiction | (conv => whnf)) | (refine VCall.intro (c4 _) ?_; conv => whnf) | (refine VCall.intro (c5 _) ?_; conv => whnf) | (refine VCall.intro (c6 _) ?_; conv => whnf) | (refine VCall.intro (c7 _) ?_; conv => whnf) | (refine VCall.intro (c8 _) ?_; conv => whnf) | (refine VCall.intro (c9 _) ?_; conv => whnf) | (refine VCall.intro (d1 _) ?_; conv => whnf) | (refine VCall.intro (d2 _) ?_; conv => whnf) | (refine VCall.intro (d3 _) ?_; conv => whnf) | (refine VCall.intro (d4 _) ?_; conv => whnf) | (refine VCall.intro (d5 _) ?_; conv => whnf) | (refine VCall.intro (d6 _) ?_; conv => whnf) | (refine VCall.intro (cA _) ?_; conv => whnf))
    exact VOut.same rfl
  · have e2 : wyL m s cell = [] := by unfold wyL; rw [if_neg hw]
    rw [if_neg hw] at d3
    rw [e2] at d2
    generalize wyE m s cell = Ew at *
    generalize hdB m s T = hB at *
    generalize hdE m s T = hE at *
    generalize frL m s = F at *
    generalize lkE m s = Ef at *
    generalize chkM m = E at *
    obtain ⟨mw, mh, mc⟩ := m
    dsimp only at *
    show VC Try.prog 8 [.agg [I mw, I mh, ints mc], I s, I cell, ints T] h (B true) h
    refine VC.bodyC 3 Try.func8 rfl Try.ntmps8 Try.call8 (h.grows_refl) rfl ?_; conv => whnf
    repeat' (first | ((first | refine zs1 ?_ | refine zs2 ?_ | refine zs3 ?_ | refine zs4 ?_ | refine zs5 ?_); conv => whnf) | ((first | apply zi1 | apply zi2 | apply zi3 | apply zi4 | apply zi5) <;> intro _ <;> first | (exfalso; omega) | contradiction | (conv => whnf)) | (refine VCall.intro (cG _) ?_; conv => whnf))
    refine zs6 [(1, 4), (3, 4)] ?_
    conv => whnf
    repeat' (first | ((first | refine zs1 ?_ | refine zs2 ?_ | refine zs3 ?_ | refine zs4 ?_ | refine zs5 ?_); conv => whnf) | ((first | apply zi1 | apply zi2 | apply zi3 | apply zi4 | apply zi5) <;> intro _ <;> first | (exfalso; omega) | contradiction | (conv => whnf)) | (refine VCall.intro (c1 _) ?_; conv => whnf) | (refine VCall.intro (c2 _) ?_; conv => whnf) | (refine VCall.intro (c3 _) ?_; conv => whnf))
    refine VCut.at' (outer := h.lift) (marks := []) 99 [(1, I s), (2, I cell), (3, ints T), (4, .fp [DI mw, DI mh, dints mc]), (9, .fp [DI mw, DI mh, dints mc]), (10, ints T), (11, .fp [DI mw, DI mh, dints mc])] [] ?_ ?_
    · conv => whnf
      refine Retell.turn ⟨[], 9, [(0, [DI mw, DI mh, dints mc]), (1, [DI mw, DI mh, dints mc]), (2, [DI mw, DI mh, dints mc])], []⟩ (TurnOk.mk' _ _ [(0, [DI mw, DI mh, dints mc]), (1, [DI mw, DI mh, dints mc]), (2, [DI mw, DI mh, dints mc])] [] (OutOk.lift _) rfl (by decide) zb zf trivial rfl) zw zm
    conv => whnf
    refine zs6 [(1, 2)] ?_
    conv => whnf
    repeat' (first | ((first | refine zs1 ?_ | refine zs2 ?_ | refine zs3 ?_ | refine zs4 ?_ | refine zs5 ?_); conv => whnf) | ((first | apply zi1 | apply zi2 | apply zi3 | apply zi4 | apply zi5) <;> intro _ <;> first | (exfalso; omega) | contradiction | (conv => whnf)) | (refine VCall.intro (c4 _) ?_; conv => whnf) | (refine VCall.intro (c5 _) ?_; conv => whnf) | (refine VCall.intro (c6 _) ?_; conv => whnf) | (refine VCall.intro (c7 _) ?_; conv => whnf) | (refine VCall.intro (c8 _) ?_; conv => whnf) | (refine VCall.intro (c9 _) ?_; conv => whnf) | (refine VCall.intro (d1 _) ?_; conv => whnf) | (refine VCall.intro (d2 _) ?_; conv => whnf) | (refine VCall.intro (d3 _) ?_; conv => whnf) | (refine VCall.intro (d5 _) ?_; conv => whnf) | (refine VCall.intro (d6 _) ?_; conv => whnf) | (refine VCall.intro (cA _) ?_; conv => whnf))
    exact VOut.same rfl
end Go.Proofs.Ytkbbfeljlepgoaa


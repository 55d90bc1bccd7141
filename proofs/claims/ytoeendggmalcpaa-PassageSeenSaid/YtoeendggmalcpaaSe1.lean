/- Part 1 of the proof that passageSeen: with fewer sights word goes no faster. No condition. -/
import Derived.Test.YtoeendggmalcpaaSe0
set_option linter.unusedVariables false
set_option linter.unusedSimpArgs false
namespace Psg
theorem Lst.eq {n : Nat} {ws : List Wy} {h : Hd} {D E : Tb} (hw : ∀ w ∈ ws, WOk n w) (hh : HOk n h) (hD : Lst n ws h D) (hE : Lst n ws h E) {p s : Int} (hp : 0 ≤ p ∧ p < n) (hs : Pp s) : D p s = E p s := by
  have := hD.le hw hh hE.hol (fun p s h1 h2 => (hE.cap p s h1 h2).2) hp hs
  have := hE.le hw hh hD.hol (fun p s h1 h2 => (hD.cap p s h1 h2).2) hp hs
  omega
end Psg

open Go.Vm
open Psg
namespace Go.Proofs.Ytoeendggmalcpaa
set_option maxRecDepth 20000
set_option maxHeartbeats 4000000
structure Hold (R : Prop) : Prop where
  out : R
theorem suffices_ {R G : Prop} (main : Hold R → G) (rest : R) : G := main ⟨rest⟩
end Go.Proofs.Ytoeendggmalcpaa

open Go.Vm
namespace Go.Proofs.Ytoeendggmalcpaa
set_option maxRecDepth 20000
set_option maxHeartbeats 4000000
def bytes (l : List Int) : V := .fs 1 l.length (l.flatMap encU)
theorem VOut.ownP {h : Hp} {loc : List Blk} {ds : List D} (j L : Nat) (hL : Nat.ble loc.length L = true) (hj : loc[j]? = some (.flat true ds)) : VOut h ⟨h.lift, loc⟩ (.ptr (.loc j) 0) (.ptr h.fresh 0) (h.push (.flat true ds)) := by
  refine VOut.upd [] [.flat true ds] [j] L hL (by intro p hp; cases hp) (by simp) rfl ?_ ?_ rfl
  · intro k b hk
    cases k with
    | zero => rw [List.getElem?_cons_zero, Option.some.injEq] at hk; subst hk; exact ⟨j, rfl, hj⟩
    | succ k => simp at hk
  · intro σ x hx
    have : (V.ptr h.fresh 0).ren (backR h.loc.length [j] L) = .ptr (.loc j) 0 := by simp [V.ren, backR, Hp.fresh]
    rw [this]; exact hx
theorem vc_Of (bs : List Int) (h : Hp) : VC Try.prog 14 [bytes bs] h (.ptr h.fresh 0) (h.push (deckB bs (0, 9))) := by
  refine VC.body Try.func14 rfl Try.ntmps14 Try.call14 (h.grows_push _) rfl ?_
  conv => whnf
  repeat (first | ((first | refine zs1 ?_ | refine zs2 ?_ | refine zs3 ?_ | refine zs4 ?_ | refine zs5 ?_ | refine zs6 [] ?_); conv => whnf))
  exact VOut.ownP 0 1 rfl rfl
end Go.Proofs.Ytoeendggmalcpaa

open Go.Vm
namespace Go.Vm
theorem VCut.atO {P : Program} {ro : Option Nat} {c : Code} {n : Nat} {fr : Fr} {outer0 : Id → Option Blk} {loc0 : List Blk} {marks : List Id} {Q : X → St → Prop} (m : Nat) (slots : List (Nat × V)) (outer : Id → Option Blk) (loc : List Blk) (ho : outer0 = outer)
    (hst : frSK slots .leaf fun fr' => Retell isOut ⟨n, fr, ⟨outer, loc0⟩, marks⟩ ⟨n, fr', ⟨outer, loc⟩, marks⟩)
    (hb : frSK slots .leaf fun fr' => vcut P ro isOut m c ⟨n, fr', ⟨outer, loc⟩, marks⟩ Q) : VCut P ro isOut c ⟨n, fr, ⟨outer0, loc0⟩, marks⟩ Q := by
  subst ho
  exact VCut.at' m slots loc hst hb
end Go.Vm
namespace Go.Vm
end Go.Vm
namespace Go.Proofs.Ytoeendggmalcpaa
set_option maxRecDepth 20000
set_option maxHeartbeats 4000000
end Go.Proofs.Ytoeendggmalcpaa

open Go.Vm
open Psg
namespace Go.Proofs.Ytoeendggmalcpaa
set_option maxRecDepth 20000
set_option maxHeartbeats 4000000
theorem mdN_ok (bs : List Int) (d : DS) {p w : Int} (hp : 2 ≤ p ∧ p ≤ 10) (hw : 0 ≤ w ∧ w ≤ 24) : ∃ n : Nat, NOk n (mdN bs d p w) ∧ 2 ≤ n ∧ (n : Int) ≤ p ∧ (mdS bs d p w).1.1 ≤ d.1 + 250 ∧ (mdN bs d p w).ws.length ≤ w := by
  have b1 := dNx_bd bs d (p - 2 + 1)
  rw [show dNx bs d (p - 2 + 1) = mdX bs d p from rfl] at b1
  have b2 := dNx_bd bs (mdX bs d p).2 (w + 1)
  rw [show dNx bs (mdX bs d p).2 (w + 1) = mdC bs d p w from rfl] at b2
  obtain ⟨n, hn⟩ : ∃ n : Nat, 2 + (mdX bs d p).1 = n := ⟨(2 + (mdX bs d p).1).toNat, by omega⟩
  have hI := mIt_ok (bs := bs) (n := n) (by omega) (u := ((mdC bs d p w).2, [])) (N := (mdC bs d p w).2.1) ⟨by dsimp only; omega, rfl, by simp⟩ (mdC bs d p w).1.toNat
  rw [← hn] at hI
  rw [show mIt bs (2 + (mdX bs d p).1) ((mdC bs d p w).2, []) (mdC bs d p w).1.toNat = mdS bs d p w from rfl] at hI
  have h1 := hI.dk
  have h2 := hI.len
  refine ⟨n, ⟨hn, by omega, ?_, fun v hv => (hI.ok v hv).1, fun v hv => (hI.ok v hv).2⟩, by omega, by omega, by omega, ?_⟩
  · show (mdS bs d p w).2.length ≤ 24; omega
  · show ((mdS bs d p w).2.length : Int) ≤ w; omega
end Go.Proofs.Ytoeendggmalcpaa

open Go.Vm
open Psg
namespace Go.Proofs.Ytoeendggmalcpaa
set_option maxRecDepth 20000
set_option maxHeartbeats 4000000
structure CtI (a b : List Int) (p : Nat) (S : List Int) : Prop where
  lt : S.Pairwise (· < ·)
  rg : ∀ q ∈ S, 0 ≤ q ∧ q < p
  src : ∀ q ∈ a, 0 ≤ q → q < p → q ∈ S
  gls : ∀ q ∈ S, q ∉ b
  len : S.length ≤ p
theorem CtI.zero (a b : List Int) : CtI a b 0 [] := ⟨List.Pairwise.nil, fun q h => absurd h (by simp), fun q _ h0 h1 => by omega, fun q h => absurd h (by simp), Nat.le_refl _⟩
theorem CtI.skip {a b : List Int} {p : Nat} {S : List Int} (h : CtI a b p S) (hp : (p : Int) ∉ a) : CtI a b (p + 1) S :=
  ⟨h.lt, fun q hq => by have := h.rg q hq; omega, fun q hq h0 h1 => by
    by_cases e : q = p
    · subst e; exact absurd hq hp
    · exact h.src q hq h0 (by omega), h.gls, by have := h.len; omega⟩
theorem CtI.cut {n : Nat} {ws : List Wy} {a b S : List Int} (h : CtI a b n S) (hP : Ps n ws a b) : Cu a b (fun q => decide (q ∈ S)) := by
  refine ⟨fun q hq => ?_, fun q hq => ?_⟩
  · have := hP.smt.inN q hq
    exact decide_eq_true (h.src q hq this.1 this.2)
  · exact decide_eq_false fun hm => h.gls q hm hq
end Go.Proofs.Ytoeendggmalcpaa

open Go.Vm
open Psg
namespace Go.Proofs.Ytoeendggmalcpaa
set_option maxRecDepth 20000
set_option maxHeartbeats 4000000
theorem VOut.ownA {h : Hp} {loc : List Blk} {p : Int} {esz n : Nat} {ds : List Vm.D} (j L : Nat) (hL : Nat.ble loc.length L = true) (hj : loc[j]? = some (.flat true ds)) : VOut h ⟨h.lift, loc⟩ (.agg [I p, .gl (.loc j) esz n]) (.agg [I p, .gl h.fresh esz n]) (h.push (.flat true ds)) := by
  refine VOut.upd [] [.flat true ds] [j] L hL (by intro p hp; cases hp) (by simp) rfl ?_ ?_ rfl
  · intro k b hk
    cases k with
    | zero => rw [List.getElem?_cons_zero, Option.some.injEq] at hk; subst hk; exact ⟨j, rfl, hj⟩
    | succ k => simp at hk
  · intro σ x hx
    have : (V.agg [I p, .gl h.fresh esz n]).ren (backR h.loc.length [j] L) = .agg [I p, .gl (.loc j) esz n] := by simp [V.ren, V.rens, backR, Hp.fresh]
    rw [this]; exact hx
theorem vc_kcloneWO (l : List Wy) (h : Hp) (hl : l.length ≤ 4000000) : VC Try.prog 63 [wys l] h (.gl h.fresh 8 l.length) (h.push (.flat true (l.flatMap encWy))) := by
  refine VC.body Try.func63 rfl Try.ntmps63 Try.call63 (h.grows_push _) rfl ?_; conv => whnf
  repeat' (first | ((first | refine zs1 ?_ | refine zs2 ?_ | refine zs3 ?_ | refine zs4 ?_ | refine zs5 ?_); conv => whnf) | ((first | apply zi1 | apply zi2 | apply zi3 | apply zi4 | apply zi5) <;> intro _ <;> conv => whnf))
  refine VMem.appNil encWy_len rfl rfl rfl (by omega) ?_
  conv => whnf
  repeat' (first | ((first | refine zs1 ?_ | refine zs2 ?_ | refine zs3 ?_ | refine zs4 ?_ | refine zs5 ?_); conv => whnf) | ((first | apply zi1 | apply zi2 | apply zi3 | apply zi4 | apply zi5) <;> intro _ <;> conv => whnf))
  exact VOut.own1 (h := h) (loc := [.flat true (l.flatMap encWy)]) (ds := l.flatMap encWy) 0 1 rfl rfl
theorem vc_CloneNetO (N : Nt) (h : Hp) (hn : N.ws.length ≤ 4000000) : VC Try.prog 19 [vN N] h (.agg [I N.p, .gl h.fresh 8 N.ws.length]) (h.push (.flat true (N.ws.flatMap encWy))) := by
  have c := fun h => vc_kcloneWO N.ws h hn
  refine VC.body Try.func19 rfl Try.ntmps19 Try.call19 (h.grows_push _) rfl ?_; conv => whnf
  repeat' (first | ((first | refine zs1 ?_ | refine zs2 ?_ | refine zs3 ?_ | refine zs4 ?_ | refine zs5 ?_); conv => whnf) | ((first | apply zi1 | apply zi2 | apply zi3 | apply zi4 | apply zi5) <;> intro _ <;> conv => whnf))
  refine zs6 [(1, 4)] ?_
  conv => whnf
  repeat' (first | ((first | refine zs1 ?_ | refine zs2 ?_ | refine zs3 ?_ | refine zs4 ?_ | refine zs5 ?_); conv => whnf) | ((first | apply zi1 | apply zi2 | apply zi3 | apply zi4 | apply zi5) <;> intro _ <;> conv => whnf) | (refine VCall.intro (c _) ?_; conv => whnf))
  exact VOut.ownA (h := h) 2 3 rfl rfl
end Go.Proofs.Ytoeendggmalcpaa

namespace Clip
structure Pt where
  x : Rat
  y : Rat
structure Af where
  a : Rat
  b : Rat
  c : Rat
def Af.ev (u : Af) (p : Pt) : Rat := u.a * p.x + u.b * p.y + u.c
def pos (u : Af) (p : Pt) : Bool := decide (0 < u.ev p)
def chg : List Bool → Nat
  | a :: b :: l => (if a = b then 0 else 1) + chg (b :: l)
  | _ => 0
theorem chg_cons (a : Bool) (l : List Bool) : chg l ≤ chg (a :: l) := by
  cases l with
  | nil => simp [chg]
  | cons b l => rw [chg]; omega
theorem chg_skip (a b : Bool) (l : List Bool) : chg (a :: l) ≤ chg (a :: b :: l) := by
  cases l with
  | nil => simp [chg]
  | cons c l =>
    simp only [chg]
    cases a <;> cases b <;> cases c <;> simp <;> omega
theorem chg_sub {l m : List Bool} (h : l.Sublist m) : chg l ≤ chg m := by
  suffices H : ∀ (m l : List Bool), l.Sublist m → chg l ≤ chg m ∧ ∀ a, chg (a :: l) ≤ chg (a :: m) from (H m l h).1
  intro m
  induction m with
  | nil => intro l h; cases h; exact ⟨Nat.le_refl _, fun _ => Nat.le_refl _⟩
  | cons b m ih =>
    intro l h
    cases h with
    | cons _ h =>
      obtain ⟨h1, h2⟩ := ih l h
      refine ⟨Nat.le_trans h1 (chg_cons b m), fun a => ?_⟩
      exact Nat.le_trans (h2 a) (chg_skip a b m)
    | cons_cons _ h =>
      rename_i l
      obtain ⟨h1, h2⟩ := ih l h
      refine ⟨h2 b, fun a => ?_⟩
      simp only [chg]
      have := h2 b
      omega
def Uni (l : List Pt) : Prop := ∀ u : Af, chg (l.map (pos u)) ≤ 2
theorem Uni.sub {l m : List Pt} (h : Uni m) (hs : l.Sublist m) : Uni l := fun u => Nat.le_trans (chg_sub (hs.map _)) (h u)
structure Btw (p e q : Pt) : Prop where
  ex : ∃ s t : Rat, 0 ≤ s ∧ 0 ≤ t ∧ s + t = 1 ∧ e.x = s * p.x + t * q.x ∧ e.y = s * p.y + t * q.y
theorem Btw.ev {p e q : Pt} (h : Btw p e q) (u : Af) : ∃ s t : Rat, 0 ≤ s ∧ 0 ≤ t ∧ s + t = 1 ∧ u.ev e = s * u.ev p + t * u.ev q := by
  obtain ⟨s, t, h1, h2, h3, h4, h5⟩ := h.ex
  refine ⟨s, t, h1, h2, h3, ?_⟩
  unfold Af.ev
  rw [h4, h5]
  have : u.c = (s + t) * u.c := by rw [h3]; grind
  grind
theorem Btw.pos {p e q : Pt} (h : Btw p e q) {u : Af} (hp : pos u p = pos u q) : pos u e = pos u p := by
  obtain ⟨s, t, h1, h2, h3, h4⟩ := h.ev u
  unfold Clip.pos at *
  rw [h4]
  generalize u.ev p = P at *
  generalize u.ev q = Q at *
  by_cases hP : 0 < P
  · have hQ : 0 < Q := by rw [decide_eq_true hP] at hp; exact of_decide_eq_true hp.symm
    rw [decide_eq_true hP, decide_eq_true_eq]
    by_cases hs : s = 0
    · have ht : t = 1 := by grind
      rw [hs, ht]; grind
    · have hs : 0 < s := by grind
      have a1 := Rat.mul_pos hs hP
      have a2 := Rat.mul_nonneg h2 (Rat.le_of_lt hQ)
      grind
  · have hQ : ¬ 0 < Q := by rw [decide_eq_false hP] at hp; exact of_decide_eq_false hp.symm
    rw [decide_eq_false hP, decide_eq_false_iff_not]
    have a1 := Rat.mul_nonneg h1 (show 0 ≤ -P by grind)
    have a2 := Rat.mul_nonneg h2 (show 0 ≤ -Q by grind)
    grind
inductive Ins : List Pt → List Pt → Prop
  | one (p : Pt) : Ins [p] [p]
  | keep {p q : Pt} {l m : List Pt} (h : Ins (q :: l) (q :: m)) : Ins (p :: q :: l) (p :: q :: m)
  | more {p q e : Pt} {l m : List Pt} (h : Ins (q :: l) (q :: m)) (hb : Btw p e q) : Ins (p :: q :: l) (p :: e :: q :: m)
theorem Ins.chg {l m : List Pt} (h : Ins l m) (u : Af) : chg (m.map (pos u)) = Clip.chg (l.map (pos u)) := by
  induction h with
  | one p => rfl
  | keep h ih =>
    simp only [List.map_cons, Clip.chg] at ih ⊢
    rw [ih]
  | @more p q e l m h hb ih =>
    simp only [List.map_cons, Clip.chg] at ih ⊢
    rw [ih]
    have := fun h => hb.pos (u := u) h
    cases hp : Clip.pos u p <;> cases hq : Clip.pos u q <;> cases he : Clip.pos u e <;> simp_all
def NoX (b : Af) (p q : Pt) : Prop := ¬ (b.ev p < 0 ∧ 0 < b.ev q) ∧ ¬ (0 < b.ev p ∧ b.ev q < 0)
def Chn (b : Af) : List Pt → Prop
  | p :: q :: l => NoX b p q ∧ Chn b (q :: l)
  | _ => True
theorem Chn.tail {b : Af} {p : Pt} {l : List Pt} (h : Chn b (p :: l)) : Chn b l := by
  cases l with
  | nil => trivial
  | cons q l => exact h.2
theorem Chn.right {b : Af} : ∀ {l m : List Pt}, Chn b (l ++ m) → Chn b m
  | [], _, h => h
  | _ :: _, _, h => Chn.right (Chn.tail h)
theorem Chn.zero {b : Af} : ∀ {B : List Pt} {x z : Pt} {D : List Pt}, Chn b (x :: (B ++ z :: D)) → b.ev x ≠ 0 → b.ev z ≠ 0 → (decide (0 < b.ev x) ≠ decide (0 < b.ev z)) → ∃ y ∈ B, b.ev y = 0
  | [], x, z, D, h, hx, hz, hn => by
    exfalso
    have h := h.1
    unfold NoX at h
    by_cases h1 : 0 < b.ev x <;> by_cases h2 : 0 < b.ev z
    · exact hn (by rw [decide_eq_true h1, decide_eq_true h2])
    · exact h.2 ⟨h1, by grind⟩
    · exact h.1 ⟨by grind, h2⟩
    · exact hn (by rw [decide_eq_false h1, decide_eq_false h2])
  | y :: B, x, z, D, h, hx, hz, hn => by
    by_cases hy : b.ev y = 0
    · exact ⟨y, by simp, hy⟩
    · have h1 := h.1
      unfold NoX at h1
      have e : decide (0 < b.ev x) = decide (0 < b.ev y) := by
        by_cases h3 : 0 < b.ev x <;> by_cases h2 : 0 < b.ev y
        · rw [decide_eq_true h3, decide_eq_true h2]
        · exact absurd ⟨h3, by grind⟩ h1.2
        · exact absurd ⟨by grind, h2⟩ h1.1
        · rw [decide_eq_false h3, decide_eq_false h2]
      obtain ⟨y', h4, h5⟩ := Chn.zero (Chn.tail h) hy hz (by rw [← e]; exact hn)
      exact ⟨y', List.mem_cons_of_mem _ h4, h5⟩
theorem Chn.same {b : Af} : ∀ {A : List Pt} {f x : Pt} {R : List Pt}, Chn b (f :: (A ++ x :: R)) → (∀ y ∈ f :: (A ++ [x]), b.ev y ≠ 0) → decide (0 < b.ev f) = decide (0 < b.ev x) := by
  intro A f x R h hn
  by_cases hh : decide (0 < b.ev f) = decide (0 < b.ev x)
  · exact hh
  · exfalso
    obtain ⟨y, h1, h2⟩ := Chn.zero h (hn f (by simp)) (hn x (by simp)) hh
    exact hn y (by simp [h1]) h2
theorem chg4 {a b c d : Bool} (h1 : a ≠ b) (h2 : b ≠ c) (h3 : c ≠ d) : chg [a, b, c, d] = 3 := by
  cases a <;> cases b <;> cases c <;> cases d <;> simp_all [chg]
theorem twoSides {b w : Af} {A B D : List Pt} {x z : Pt} (hc : Chn b (A ++ x :: (B ++ z :: D))) (hU : chg ((A ++ x :: (B ++ z :: D)).map (pos w)) ≤ 2) (hx : b.ev x ≠ 0) (hz : b.ev z ≠ 0) (hn : decide (0 < b.ev x) ≠ decide (0 < b.ev z)) (wx : pos w x = true) (wz : pos w z = true)
    (hlow : ∀ y ∈ A ++ x :: (B ++ z :: D), b.ev y = 0 → pos w y = false) (hw : ∀ f l, (A ++ x :: (B ++ z :: D)).head? = some f → (A ++ x :: (B ++ z :: D)).getLast? = some l → NoX b l f) : False := by
  obtain ⟨y, hy, y0⟩ := Chn.zero hc.right hx hz hn
  have wy := hlow y (by simp [hy]) y0
  have pat : ∀ (p q r s : Pt), [p, q, r, s].Sublist (A ++ x :: (B ++ z :: D)) → pos w p ≠ pos w q → pos w q ≠ pos w r → pos w r ≠ pos w s → False := by
    intro p q r s hs h1 h2 h3
    have := chg_sub (hs.map (pos w))
    simp only [List.map_cons, List.map_nil] at this
    rw [chg4 h1 h2 h3] at this
    omega
  have sB : [x, y, z].Sublist (x :: (B ++ z :: D)) := by
    refine List.Sublist.cons_cons _ ?_
    have h1 : [y].Sublist B := List.singleton_sublist.2 hy
    have h2 : [z].Sublist (z :: D) := List.singleton_sublist.2 (by simp)
    exact h1.append h2
  have hA : ∀ a ∈ A, pos w a = true := by
    intro a ha
    cases h : pos w a
    · exfalso
      have h1 : [a].Sublist A := List.singleton_sublist.2 ha
      exact pat a x y z (h1.append sB) (by rw [h, wx]; decide) (by rw [wx, wy]; decide) (by rw [wy, wz]; decide)
    · rfl
  have hD : ∀ d ∈ D, pos w d = true := by
    intro d hd
    cases h : pos w d
    · exfalso
      have h2 : [z, d].Sublist (z :: D) := List.Sublist.cons_cons _ (List.singleton_sublist.2 hd)
      have h1 : [y].Sublist B := List.singleton_sublist.2 hy
      have h3 : [x, y, z, d].Sublist (x :: (B ++ z :: D)) := List.Sublist.cons_cons _ (h1.append h2)
      exact pat x y z d (h3.trans (List.sublist_append_right _ _)) (by rw [wx, wy]; decide) (by rw [wy, wz]; decide) (by rw [wz, h]; decide)
    · rfl
  have nz : ∀ c ∈ A ++ x :: (B ++ z :: D), pos w c = true → b.ev c ≠ 0 := by
    intro c hc h1 h2
    rw [hlow c hc h2] at h1; cases h1
  -- the first one is where x is
  have hf : ∃ f, (A ++ x :: (B ++ z :: D)).head? = some f ∧ b.ev f ≠ 0 ∧ decide (0 < b.ev f) = decide (0 < b.ev x) := by
    cases A with
    | nil => exact ⟨x, rfl, hx, rfl⟩
    | cons f A =>
      refine ⟨f, rfl, nz f (by simp) (hA f (by simp)), ?_⟩
      refine Chn.same (A := A) (R := B ++ z :: D) hc fun c hc2 => ?_
      simp only [List.mem_cons, List.mem_append, List.not_mem_nil, or_false] at hc2
      rcases hc2 with rfl | h | rfl
      · exact nz _ (by simp) (hA _ (by simp))
      · exact nz c (by simp [h]) (hA c (by simp [h]))
      · exact hx
  have hl : ∃ l, (A ++ x :: (B ++ z :: D)).getLast? = some l ∧ b.ev l ≠ 0 ∧ decide (0 < b.ev l) = decide (0 < b.ev z) := by
    have e : A ++ x :: (B ++ z :: D) = (A ++ x :: B) ++ z :: D := by simp
    rw [e] at hc nz ⊢
    rcases List.eq_nil_or_concat D with rfl | ⟨D', l, rfl⟩
    · exact ⟨z, List.getLast?_concat, hz, rfl⟩
    · refine ⟨l, by rw [show A ++ x :: B ++ z :: D'.concat l = (A ++ x :: B ++ z :: D') ++ [l] by simp]; exact List.getLast?_concat, nz l (by simp) (hD l (by simp)), ?_⟩
      have h1 := hc.right
      have := Chn.same (A := D') (x := l) (R := []) (f := z) (b := b) (by simpa using h1) fun c hc2 => by
        simp only [List.mem_cons, List.mem_append, List.not_mem_nil, or_false] at hc2
        rcases hc2 with rfl | h | rfl
        · exact hz
        · exact nz c (by simp [h]) (hD c (by simp [h]))
        · exact nz _ (by simp) (hD _ (by simp))
      exact this.symm
  obtain ⟨f, f1, f2, f3⟩ := hf
  obtain ⟨l, l1, l2, l3⟩ := hl
  have := hw f l f1 l1
  unfold NoX at this
  rw [← f3, ← l3] at hn
  by_cases h1 : 0 < b.ev f <;> by_cases h2 : 0 < b.ev l
  · exact hn (by rw [decide_eq_true h1, decide_eq_true h2])
  · exact this.1 ⟨by grind, h1⟩
  · exact this.2 ⟨h2, by grind⟩
  · exact hn (by rw [decide_eq_false h1, decide_eq_false h2])
def Spans (L : List Pt) (F : Pt → Prop) : Prop := ∀ u : Af, ∀ q, F q → 0 < u.ev q → ∃ c ∈ L, 0 < u.ev c
theorem best_ratio {b u : Af} : ∀ (M : List Pt), (∃ c ∈ M, 0 < b.ev c ∧ 0 < u.ev c) → ∃ c ∈ M, 0 < b.ev c ∧ 0 < u.ev c ∧ ∀ d ∈ M, 0 < b.ev d → u.ev d * b.ev c ≤ u.ev c * b.ev d
  | [], h => by obtain ⟨c, hc, _⟩ := h; cases hc
  | m :: M, h => by
    by_cases hM : ∃ c ∈ M, 0 < b.ev c ∧ 0 < u.ev c
    · obtain ⟨c, h1, h2, h3, h4⟩ := best_ratio M hM
      by_cases hm : 0 < b.ev m ∧ u.ev c * b.ev m < u.ev m * b.ev c
      · have hum : 0 < u.ev m := by
          have a1 := Rat.mul_pos h3 hm.1
          rcases Rat.le_total (a := u.ev m) (b := 0) with h | h
          · have := Rat.mul_nonneg (show 0 ≤ -u.ev m by grind) (Rat.le_of_lt h2)
            grind
          · rcases (show u.ev m = 0 ∨ 0 < u.ev m by grind) with h | h
            · rw [h] at hm; grind
            · exact h
        refine ⟨m, by simp, hm.1, hum, fun d hd hbd => ?_⟩
        rcases List.mem_cons.1 hd with rfl | hd
        · exact Rat.le_refl
        · have e1 := h4 d hd hbd
          -- u d / b d ≤ u c / b c < u m / b m
          have e2 := Rat.mul_le_mul_of_nonneg_right e1 (Rat.le_of_lt hm.1)
          have e3 := Rat.mul_le_mul_of_nonneg_right (Rat.le_of_lt hm.2) (Rat.le_of_lt hbd)
          have e4 : u.ev d * b.ev m * b.ev c ≤ u.ev m * b.ev d * b.ev c := by grind
          exact Rat.le_of_mul_le_mul_right e4 h2
      · refine ⟨c, List.mem_cons_of_mem _ h1, h2, h3, fun d hd hbd => ?_⟩
        rcases List.mem_cons.1 hd with rfl | hd
        · have := fun hh => hm ⟨hbd, hh⟩
          exact Rat.not_lt.1 this
        · exact h4 d hd hbd
    · obtain ⟨c, hc, h1, h2⟩ := h
      rcases List.mem_cons.1 hc with rfl | hc
      · refine ⟨c, by simp, h1, h2, fun d hd hbd => ?_⟩
        rcases List.mem_cons.1 hd with rfl | hd
        · exact Rat.le_refl
        · have hud : ¬ 0 < u.ev d := fun h3 => hM ⟨d, hd, hbd, h3⟩
          have a1 := Rat.mul_nonneg (show 0 ≤ -u.ev d by grind) (Rat.le_of_lt h1)
          have a2 := Rat.mul_pos h2 hbd
          grind
      · exact absurd ⟨c, hc, h1, h2⟩ hM
theorem Spans.cut {L M out : List Pt} {F : Pt → Prop} {b : Af} (h : Spans L F) (hU : Uni M) (hLM : ∀ c ∈ L, c ∈ M) (hc : Chn b M) (hw : ∀ f l, M.head? = some f → M.getLast? = some l → NoX b l f) (ho : ∀ c ∈ M, b.ev c ≤ 0 → c ∈ out) : Spans out (fun q => F q ∧ b.ev q ≤ 0) := by
  rintro u q ⟨hF, hbq⟩ huq
  by_cases hex : ∃ c ∈ out, 0 < u.ev c
  · exact hex
  exfalso
  have hno : ∀ c ∈ M, b.ev c ≤ 0 → u.ev c ≤ 0 := fun c hcM hb => Rat.not_lt.1 fun hh => hex ⟨c, ho c hcM hb, hh⟩
  obtain ⟨δ, hδ, hδq⟩ : ∃ δ : Rat, 0 < δ ∧ 2 * δ = u.ev q := ⟨u.ev q / 2, by grind, by grind⟩
  -- a little less
  let u' : Af := ⟨u.a, u.b, u.c - δ⟩
  have eu : ∀ p, u'.ev p = u.ev p - δ := fun p => by show u.a * p.x + u.b * p.y + (u.c - δ) = _; unfold Af.ev; grind
  have h1 : ∃ c ∈ M, 0 < b.ev c ∧ 0 < u'.ev c := by
    obtain ⟨c, h1, h2⟩ := h u' q hF (by rw [eu]; grind)
    refine ⟨c, hLM c h1, ?_, h2⟩
    rcases Rat.le_total (a := b.ev c) (b := 0) with h3 | h3
    · have := hno c (hLM c h1) h3
      rw [eu] at h2; grind
    · rcases (show b.ev c = 0 ∨ 0 < b.ev c by grind) with h4 | h4
      · have := hno c (hLM c h1) (by grind)
        rw [eu] at h2; grind
      · exact h4
  obtain ⟨c0, c1, c2, c3, c4⟩ := best_ratio M h1
  obtain ⟨lam, hl⟩ : ∃ lam : Rat, lam * b.ev c0 = u'.ev c0 := ⟨u'.ev c0 / b.ev c0, by rw [Rat.div_mul_cancel (by grind)]⟩
  have hl0 : 0 < lam := by
    rcases Rat.le_total (a := lam) (b := 0) with h3 | h3
    · have := Rat.mul_nonneg (show 0 ≤ -lam by grind) (Rat.le_of_lt c2)
      grind
    · rcases (show lam = 0 ∨ 0 < lam by grind) with h4 | h4
      · rw [h4] at hl; grind
      · exact h4
  let w : Af := ⟨u'.a - lam * b.a, u'.b - lam * b.b, u'.c - lam * b.c⟩
  have ew : ∀ p, w.ev p = u'.ev p - lam * b.ev p := fun p => by
    show (u'.a - lam * b.a) * p.x + (u'.b - lam * b.b) * p.y + (u'.c - lam * b.c) = _
    unfold Af.ev; grind
  have hwq : 0 < w.ev q := by
    have := Rat.mul_nonneg (Rat.le_of_lt hl0) (show 0 ≤ -b.ev q by grind)
    rw [ew, eu]; grind
  obtain ⟨c, hcL, hcw⟩ := h w q hF hwq
  have hcM := hLM c hcL
  have hout : ∀ d ∈ M, 0 < b.ev d → w.ev d ≤ 0 := by
    intro d hd hbd
    have := c4 d hd hbd
    rw [← hl] at this
    have e4 : u'.ev d * b.ev c0 ≤ lam * b.ev d * b.ev c0 := by grind
    have := Rat.le_of_mul_le_mul_right e4 c2
    rw [ew]; grind
  have hcb : b.ev c < 0 := by
    rcases (show b.ev c < 0 ∨ b.ev c = 0 ∨ 0 < b.ev c by grind) with h3 | h3 | h3
    · exact h3
    · have := hno c hcM (by grind)
      rw [ew, eu, h3] at hcw; grind
    · have := hout c hcM h3
      grind
  let v : Af := ⟨w.a, w.b, w.c + δ / 2⟩
  have ev : ∀ p, v.ev p = w.ev p + δ / 2 := fun p => by show w.a * p.x + w.b * p.y + (w.c + δ / 2) = _; unfold Af.ev; grind
  have v1 : pos v c = true := decide_eq_true (by rw [ev]; grind)
  have v2 : pos v c0 = true := decide_eq_true (by rw [ev, ew, hl]; grind)
  have v3 : ∀ y ∈ M, b.ev y = 0 → pos v y = false := fun y hy h0 => decide_eq_false (by
    have := hno y hy (by grind)
    rw [ev, ew, eu, h0]; grind)
  have hne : c ≠ c0 := fun e => by rw [e] at hcb; grind
  obtain ⟨A, R, rfl⟩ := List.append_of_mem hcM
  have hm : c0 ∈ A ∨ c0 ∈ R := by
    rcases List.mem_append.1 c1 with h3 | h3
    · exact .inl h3
    · rcases List.mem_cons.1 h3 with h4 | h4
      · exact absurd h4.symm hne
      · exact .inr h4
  rcases hm with hm | hm
  · obtain ⟨A', B', rfl⟩ := List.append_of_mem hm
    have e : (A' ++ c0 :: B') ++ c :: R = A' ++ c0 :: (B' ++ c :: R) := by simp
    rw [e] at hc hw v3
    have hU := hU v
    rw [e] at hU
    exact twoSides hc hU (by grind) (by grind) (by rw [decide_eq_true c2, decide_eq_false (by grind)]; decide) v2 v1 v3 hw
  · obtain ⟨B', D, rfl⟩ := List.append_of_mem hm
    exact twoSides hc (hU v) (by grind) (by grind) (by rw [decide_eq_true c2, decide_eq_false (by grind)]; decide) v1 v2 v3 hw
end Clip

namespace Clip
structure Cr where
  p : Pt
  al : Af
def step (b : Af) (meet : Af → Pt) (c d : Cr) : List Cr :=
  if b.ev c.p ≤ 0 ∧ b.ev d.p ≤ 0 then [c]
  else if b.ev c.p = 0 then [⟨c.p, b⟩]
  else if b.ev c.p < 0 then [c, ⟨meet c.al, b⟩]
  else if b.ev d.p < 0 then [⟨meet c.al, c.al⟩]
  else []
def cutGo (b : Af) (meet : Af → Pt) (f : Cr) : List Cr → List Cr
  | [] => []
  | [c] => step b meet c f
  | c :: d :: l => step b meet c d ++ cutGo b meet f (d :: l)
def cut (b : Af) (meet : Af → Pt) : List Cr → List Cr
  | [] => []
  | f :: l => cutGo b meet f (f :: l)
def full1 (b : Af) (meet : Af → Pt) (c d : Cr) : List Pt :=
  if (b.ev c.p < 0 ∧ 0 < b.ev d.p) ∨ (0 < b.ev c.p ∧ b.ev d.p < 0) then [c.p, meet c.al] else [c.p]
def fullGo (b : Af) (meet : Af → Pt) (f : Cr) : List Cr → List Pt
  | [] => []
  | [c] => full1 b meet c f
  | c :: d :: l => full1 b meet c d ++ fullGo b meet f (d :: l)
structure MeetOk (b : Af) (meet : Af → Pt) (c d : Cr) : Prop where
  on : b.ev (meet c.al) = 0
  btw : Btw c.p (meet c.al) d.p
def Sides (b : Af) (c d : Cr) : Prop := (b.ev c.p < 0 ∧ 0 < b.ev d.p) ∨ (0 < b.ev c.p ∧ b.ev d.p < 0)
def Adj (R : Cr → Cr → Prop) (f : Cr) : List Cr → Prop
  | [] => True
  | [c] => R c f
  | c :: d :: l => R c d ∧ Adj R f (d :: l)
theorem step_full {b : Af} {meet : Af → Pt} {c d : Cr} (h : Sides b c d → MeetOk b meet c d) : (step b meet c d).map Cr.p = (full1 b meet c d).filter fun p => decide (b.ev p ≤ 0) := by
  unfold step full1
  unfold Sides at h
  by_cases h1 : b.ev c.p ≤ 0
  · by_cases h2 : b.ev d.p ≤ 0
    · rw [if_pos ⟨h1, h2⟩, if_neg (by grind)]
      simp [h1]
    · rw [if_neg (by grind)]
      by_cases h3 : b.ev c.p = 0
      · rw [if_pos h3, if_neg (by grind)]
        simp [h1]
      · have h4 : b.ev c.p < 0 := by grind
        have h5 : 0 < b.ev d.p := by grind
        have := (h (.inl ⟨h4, h5⟩)).on
        rw [if_neg h3, if_pos h4, if_pos (.inl ⟨h4, h5⟩)]
        simp [h1, this]
  · rw [if_neg (by grind), if_neg (by grind), if_neg (by grind)]
    by_cases h3 : b.ev d.p < 0
    · have h4 : 0 < b.ev c.p := by grind
      have := (h (.inr ⟨h4, h3⟩)).on
      rw [if_pos h3, if_pos (.inr ⟨h4, h3⟩)]
      simp [h1, this]
    · rw [if_neg h3, if_neg (by grind)]
      simp [h1]
theorem cut_full {b : Af} {meet : Af → Pt} {f : Cr} : ∀ {l : List Cr}, Adj (fun c d => Sides b c d → MeetOk b meet c d) f l → (cutGo b meet f l).map Cr.p = (fullGo b meet f l).filter fun p => decide (b.ev p ≤ 0)
  | [], _ => rfl
  | [c], h => step_full h
  | c :: d :: l, h => by rw [cutGo, fullGo, List.map_append, List.filter_append, step_full h.1, cut_full h.2]
theorem full1_mem {b : Af} {meet : Af → Pt} {c d : Cr} : c.p ∈ full1 b meet c d := by unfold full1; split <;> simp
theorem full_mem {b : Af} {meet : Af → Pt} {f : Cr} : ∀ {l : List Cr} {c : Cr}, c ∈ l → c.p ∈ fullGo b meet f l
  | [], _, h => by cases h
  | [d], c, h => by rw [List.mem_singleton] at h; subst h; exact full1_mem
  | d :: e :: l, c, h => by
    rw [fullGo, List.mem_append]
    rcases List.mem_cons.1 h with rfl | h
    · exact .inl full1_mem
    · exact .inr (full_mem h)
theorem full_head {b : Af} {meet : Af → Pt} {f c : Cr} {l : List Cr} : ∃ r, fullGo b meet f (c :: l) = c.p :: r := by
  cases l with
  | nil => unfold fullGo full1; split <;> exact ⟨_, rfl⟩
  | cons d l => rw [fullGo]; unfold full1; split <;> exact ⟨_, rfl⟩
theorem full_chn {b : Af} {meet : Af → Pt} {f : Cr} : ∀ {c : Cr} {l : List Cr}, Adj (fun c d => Sides b c d → MeetOk b meet c d) f (c :: l) → Chn b (fullGo b meet f (c :: l)) ∧ ∀ p, (fullGo b meet f (c :: l)).getLast? = some p → NoX b p f.p
  | c, [], h => by
    have h : Sides b c f → MeetOk b meet c f := h
    show Chn b (full1 b meet c f) ∧ ∀ p, (full1 b meet c f).getLast? = some p → NoX b p f.p
    unfold full1
    by_cases hs : Sides b c f
    · have := (h hs).on
      have hs' : (b.ev c.p < 0 ∧ 0 < b.ev f.p) ∨ (0 < b.ev c.p ∧ b.ev f.p < 0) := hs
      rw [if_pos hs']
      refine ⟨⟨⟨?_, ?_⟩, trivial⟩, fun p hp => ?_⟩
      · rw [this]; grind
      · rw [this]; grind
      · simp at hp; subst hp; unfold NoX; rw [this]; grind
    · have hs' : ¬ ((b.ev c.p < 0 ∧ 0 < b.ev f.p) ∨ (0 < b.ev c.p ∧ b.ev f.p < 0)) := hs
      rw [if_neg hs']
      refine ⟨trivial, fun p hp => ?_⟩
      simp at hp; subst hp
      unfold Sides at hs; unfold NoX; grind
  | c, d :: l, h => by
    obtain ⟨ih1, ih2⟩ := full_chn (f := f) (c := d) (l := l) h.2
    obtain ⟨r, hr⟩ := full_head (b := b) (meet := meet) (f := f) (c := d) (l := l)
    rw [fullGo]
    rw [hr] at ih1 ih2 ⊢
    unfold full1
    by_cases hs : Sides b c d
    · have := (h.1 hs).on
      have hs' : (b.ev c.p < 0 ∧ 0 < b.ev d.p) ∨ (0 < b.ev c.p ∧ b.ev d.p < 0) := hs
      rw [if_pos hs']
      refine ⟨⟨⟨?_, ?_⟩, ⟨?_, ?_⟩, ih1⟩, fun p hp => ih2 p (by simpa using hp)⟩
      · rw [this]; grind
      · rw [this]; grind
      · rw [this]; grind
      · rw [this]; grind
    · have hs' : ¬ ((b.ev c.p < 0 ∧ 0 < b.ev d.p) ∨ (0 < b.ev c.p ∧ b.ev d.p < 0)) := hs
      rw [if_neg hs']
      refine ⟨⟨?_, ih1⟩, fun p hp => ih2 p (by simpa using hp)⟩
      unfold Sides at hs; unfold NoX; grind
/-! How often the list with what is put in changes. -/
theorem chg_par : ∀ (a : Bool) (l : List Bool) (z : Bool), (a :: l).getLast? = some z → (chg (a :: l) % 2 = if a = z then 0 else 1)
  | a, [], z, h => by simp at h; subst h; simp [chg]
  | a, b :: l, z, h => by
    have ih := chg_par b l z (by simpa using h)
    rw [chg]
    cases a <;> cases b <;> cases z <;> simp_all <;> omega
theorem chg_snoc : ∀ (l : List Bool) (z e : Bool), l.getLast? = some z → chg (l ++ [e]) = chg l + if z = e then 0 else 1
  | [], z, e, h => by simp at h
  | [a], z, e, h => by simp at h; subst h; simp [chg]
  | a :: b :: l, z, e, h => by
    have ih := chg_snoc (b :: l) z e (by simpa using h)
    rw [List.cons_append, List.cons_append, chg, ← List.cons_append, ih, chg]; omega
theorem full_chg {b u : Af} {meet : Af → Pt} {f : Cr} : ∀ {c : Cr} {l : List Cr}, Adj (fun c d => Sides b c d → MeetOk b meet c d) f (c :: l) →
    chg ((fullGo b meet f (c :: l)).map (pos u) ++ [pos u f.p]) = chg (((c :: l).map fun x => pos u x.p) ++ [pos u f.p])
  | c, [], h => by
    have h : Sides b c f → MeetOk b meet c f := h
    show chg ((full1 b meet c f).map (pos u) ++ [pos u f.p]) = chg [pos u c.p, pos u f.p]
    unfold full1
    by_cases hs : Sides b c f
    · have hb := (h hs).btw
      have hs' : (b.ev c.p < 0 ∧ 0 < b.ev f.p) ∨ (0 < b.ev c.p ∧ b.ev f.p < 0) := hs
      rw [if_pos hs']
      have := fun hh => hb.pos (u := u) hh
      simp only [List.map_cons, List.map_nil, List.cons_append, List.nil_append, chg]
      cases hp : pos u c.p <;> cases hq : pos u f.p <;> cases he : pos u (meet c.al) <;> simp_all
    · have hs' : ¬ ((b.ev c.p < 0 ∧ 0 < b.ev f.p) ∨ (0 < b.ev c.p ∧ b.ev f.p < 0)) := hs
      rw [if_neg hs']; rfl
  | c, d :: l, h => by
    have ih := full_chg (u := u) (f := f) (c := d) (l := l) h.2
    obtain ⟨r, hr⟩ := full_head (b := b) (meet := meet) (f := f) (c := d) (l := l)
    rw [fullGo]
    rw [hr] at ih ⊢
    unfold full1
    by_cases hs : Sides b c d
    · have hb := (h.1 hs).btw
      have hs' : (b.ev c.p < 0 ∧ 0 < b.ev d.p) ∨ (0 < b.ev c.p ∧ b.ev d.p < 0) := hs
      rw [if_pos hs']
      have := fun hh => hb.pos (u := u) hh
      simp only [List.map_cons, List.cons_append, List.nil_append, chg] at ih ⊢
      rw [ih]
      cases hp : pos u c.p <;> cases hq : pos u d.p <;> cases he : pos u (meet c.al) <;> simp_all
    · have hs' : ¬ ((b.ev c.p < 0 ∧ 0 < b.ev d.p) ∨ (0 < b.ev c.p ∧ b.ev d.p < 0)) := hs
      rw [if_neg hs']
      simp only [List.map_cons, List.cons_append, List.nil_append, chg] at ih ⊢
      rw [ih]
theorem full_uni {b : Af} {meet : Af → Pt} {f : Cr} {l : List Cr} (h : Adj (fun c d => Sides b c d → MeetOk b meet c d) f (f :: l)) (hU : Uni ((f :: l).map Cr.p)) : Uni (fullGo b meet f (f :: l)) := by
  intro u
  have h1 := full_chg (u := u) h
  have h2 : chg ((f :: l).map fun x => pos u x.p) ≤ 2 := by
    have := hU u
    rw [List.map_map] at this; exact this
  have hne : ∃ z, ((f :: l).map fun x => pos u x.p).getLast? = some z := by
    rw [List.getLast?_eq_some_getLast (by simp)]; exact ⟨_, rfl⟩
  obtain ⟨z, hz⟩ := hne
  have h3 := chg_snoc _ _ (pos u f.p) hz
  have h4 := chg_par (pos u f.p) (l.map fun x => pos u x.p) z (by simpa using hz)
  rw [List.map_cons] at h2 h3
  rw [List.map_cons] at h1
  have h5 : chg ((fullGo b meet f (f :: l)).map (pos u)) ≤ chg ((fullGo b meet f (f :: l)).map (pos u) ++ [pos u f.p]) := chg_sub (List.sublist_append_left _ _)
  rw [h1, h3] at h5
  by_cases e : pos u f.p = z
  · rw [if_pos e] at h4
    rw [if_pos e.symm] at h5
    omega
  · rw [if_neg e] at h4
    rw [if_neg (fun h => e h.symm)] at h5
    omega
theorem cut_ok {b : Af} {meet : Af → Pt} {f : Cr} {l : List Cr} {F : Pt → Prop} (h : Adj (fun c d => Sides b c d → MeetOk b meet c d) f (f :: l)) (hU : Uni ((f :: l).map Cr.p)) (hS : Spans ((f :: l).map Cr.p) F) :
    Uni ((cut b meet (f :: l)).map Cr.p) ∧ Spans ((cut b meet (f :: l)).map Cr.p) (fun q => F q ∧ b.ev q ≤ 0) := by
  have e : (cut b meet (f :: l)).map Cr.p = (fullGo b meet f (f :: l)).filter fun p => decide (b.ev p ≤ 0) := cut_full h
  have hU2 := full_uni h hU
  obtain ⟨hc, hw⟩ := full_chn h
  obtain ⟨r, hr⟩ := full_head (b := b) (meet := meet) (f := f) (c := f) (l := l)
  rw [e]
  refine ⟨hU2.sub List.filter_sublist, Spans.cut hS hU2 (fun c hcm => ?_) hc (fun g z hg hz => ?_) fun c hcm hb => ?_⟩
  · obtain ⟨x, hx, rfl⟩ := List.mem_map.1 hcm
    exact full_mem hx
  · rw [hr] at hg
    have : g = f.p := by simpa using hg.symm
    subst this
    exact hw z hz
  · exact List.mem_filter.2 ⟨hcm, by simpa using hb⟩
end Clip

namespace Clip
def det (k b : Af) : Rat := k.a * b.b - b.a * k.b
def meetP (k b : Af) : Pt := ⟨(k.b * b.c - b.b * k.c) / det k b, (b.a * k.c - k.a * b.c) / det k b⟩
structure Real (k : Af) : Prop where
  ne : k.a ≠ 0 ∨ k.b ≠ 0
theorem meetP_on {k b : Af} (h : det k b ≠ 0) : k.ev (meetP k b) = 0 ∧ b.ev (meetP k b) = 0 := by
  unfold Af.ev meetP
  have hd : det k b = k.a * b.b - b.a * k.b := rfl
  generalize det k b = d at *
  constructor
  · have e : d * (k.a * ((k.b * b.c - b.b * k.c) / d) + k.b * ((b.a * k.c - k.a * b.c) / d) + k.c) = 0 := by
      have e1 : d * ((k.b * b.c - b.b * k.c) / d) = k.b * b.c - b.b * k.c := by rw [Rat.mul_comm]; exact Rat.div_mul_cancel h
      have e2 : d * ((b.a * k.c - k.a * b.c) / d) = b.a * k.c - k.a * b.c := by rw [Rat.mul_comm]; exact Rat.div_mul_cancel h
      generalize (k.b * b.c - b.b * k.c) / d = X at *
      generalize (b.a * k.c - k.a * b.c) / d = Y at *
      grind
    rcases Rat.mul_eq_zero.1 e with h1 | h1
    · exact absurd h1 h
    · exact h1
  · have e : d * (b.a * ((k.b * b.c - b.b * k.c) / d) + b.b * ((b.a * k.c - k.a * b.c) / d) + b.c) = 0 := by
      have e1 : d * ((k.b * b.c - b.b * k.c) / d) = k.b * b.c - b.b * k.c := by rw [Rat.mul_comm]; exact Rat.div_mul_cancel h
      have e2 : d * ((b.a * k.c - k.a * b.c) / d) = b.a * k.c - k.a * b.c := by rw [Rat.mul_comm]; exact Rat.div_mul_cancel h
      generalize (k.b * b.c - b.b * k.c) / d = X at *
      generalize (b.a * k.c - k.a * b.c) / d = Y at *
      grind
    rcases Rat.mul_eq_zero.1 e with h1 | h1
    · exact absurd h1 h
    · exact h1
theorem meetP_uniq {k b : Af} (h : det k b ≠ 0) {p : Pt} (h1 : k.ev p = 0) (h2 : b.ev p = 0) : p = meetP k b := by
  obtain ⟨q1, q2⟩ := meetP_on h
  generalize meetP k b = q at *
  obtain ⟨px, py⟩ := p
  obtain ⟨qx, qy⟩ := q
  unfold Af.ev at *
  simp only at *
  unfold det at h
  have e1 : (k.a * b.b - b.a * k.b) * (px - qx) = 0 := by grind
  have e2 : (k.a * b.b - b.a * k.b) * (py - qy) = 0 := by grind
  have f1 : px - qx = 0 := by
    rcases Rat.mul_eq_zero.1 e1 with h3 | h3
    · exact absurd h3 h
    · exact h3
  have f2 : py - qy = 0 := by
    rcases Rat.mul_eq_zero.1 e2 with h3 | h3
    · exact absurd h3 h
    · exact h3
  have g1 : px = qx := by grind
  have g2 : py = qy := by grind
  rw [g1, g2]
theorem det_ne {k b : Af} (hk : Real k) {c d : Pt} (h1 : k.ev c = 0) (h2 : k.ev d = 0) (h3 : b.ev c ≠ b.ev d) : det k b ≠ 0 := by
  intro h
  apply h3
  unfold det at h
  unfold Af.ev at *
  rcases hk.ne with hk | hk
  · have : k.a * (b.a * c.x + b.b * c.y + b.c - (b.a * d.x + b.b * d.y + b.c)) = 0 := by grind
    rcases Rat.mul_eq_zero.1 this with h4 | h4
    · exact absurd h4 hk
    · grind
  · have : k.b * (b.a * c.x + b.b * c.y + b.c - (b.a * d.x + b.b * d.y + b.c)) = 0 := by grind
    rcases Rat.mul_eq_zero.1 this with h4 | h4
    · exact absurd h4 hk
    · grind
theorem meet_btw {k b : Af} (hk : Real k) {c d : Pt} (h1 : k.ev c = 0) (h2 : k.ev d = 0) (hs : (b.ev c < 0 ∧ 0 < b.ev d) ∨ (0 < b.ev c ∧ b.ev d < 0)) : det k b ≠ 0 ∧ b.ev (meetP k b) = 0 ∧ Btw c (meetP k b) d := by
  have hne : b.ev c ≠ b.ev d := by grind
  have hd := det_ne hk h1 h2 hne
  refine ⟨hd, (meetP_on hd).2, ?_⟩
  have hD : b.ev c - b.ev d ≠ 0 := by grind
  obtain ⟨t, ht⟩ : ∃ t : Rat, t * (b.ev c - b.ev d) = b.ev c := ⟨b.ev c / (b.ev c - b.ev d), Rat.div_mul_cancel hD⟩
  have ht0 : 0 ≤ t ∧ t ≤ 1 := by
    rcases hs with ⟨a1, a2⟩ | ⟨a1, a2⟩
    · constructor
      · rcases Rat.le_total (a := 0) (b := t) with h | h
        · exact h
        · have := Rat.mul_nonneg (show 0 ≤ -t by grind) (show 0 ≤ b.ev d - b.ev c by grind)
          have e : -t * (b.ev d - b.ev c) = b.ev c := by grind
          grind
      · rcases Rat.le_total (a := t) (b := 1) with h | h
        · exact h
        · have := Rat.mul_nonneg (show 0 ≤ t - 1 by grind) (show 0 ≤ b.ev d - b.ev c by grind)
          have e : (t - 1) * (b.ev d - b.ev c) = -b.ev d := by grind
          grind
    · constructor
      · rcases Rat.le_total (a := 0) (b := t) with h | h
        · exact h
        · have := Rat.mul_nonneg (show 0 ≤ -t by grind) (show 0 ≤ b.ev c - b.ev d by grind)
          have e : -t * (b.ev c - b.ev d) = -b.ev c := by grind
          grind
      · rcases Rat.le_total (a := t) (b := 1) with h | h
        · exact h
        · have := Rat.mul_nonneg (show 0 ≤ t - 1 by grind) (show 0 ≤ b.ev c - b.ev d by grind)
          have e : (t - 1) * (b.ev c - b.ev d) = b.ev d := by grind
          grind
  have hp : (⟨(1 - t) * c.x + t * d.x, (1 - t) * c.y + t * d.y⟩ : Pt) = meetP k b := by
    refine meetP_uniq hd ?_ ?_
    · unfold Af.ev at *
      simp only
      grind
    · unfold Af.ev at *
      simp only
      grind
  rw [← hp]
  exact ⟨1 - t, t, by grind, ht0.1, by grind, rfl, rfl⟩
end Clip


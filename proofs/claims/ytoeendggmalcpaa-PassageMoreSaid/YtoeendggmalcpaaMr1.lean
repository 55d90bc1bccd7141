/- Part 1 of the proof that PassageMore holds: who is earlier or has more is nowhere later, and more ways never make less. No condition. -/
import Derived.Test.YtoeendggmalcpaaMr0
set_option linter.unusedVariables false
set_option linter.unusedSimpArgs false
open Go.Vm
open Psg
namespace Go.Proofs.Ytoeendggmalcpaa
set_option maxRecDepth 20000
set_option maxHeartbeats 4000000
structure CtI (a b : List Int) (p : Nat) (S : List Int) : Prop where
  lt : S.Pairwise (· < ·)
  rg : ∀ q ∈ S, 0 ≤ q ∧ q < p
  src : ∀ q ∈ a, 0 ≤ q → q < p → q ∈ S
  gls : ∀ q ∈ S, q ∉ b
  len : S.length ≤ p
theorem CtI.zero (a b : List Int) : CtI a b 0 [] := ⟨List.Pairwise.nil, fun q h => absurd h (by simp), fun q _ h0 h1 => by omega, fun q h => absurd h (by simp), Nat.le_refl _⟩
theorem CtI.skip {a b : List Int} {p : Nat} {S : List Int} (h : CtI a b p S) (hp : (p : Int) ∉ a) : CtI a b (p + 1) S :=
  ⟨h.lt, fun q hq => by have := h.rg q hq; omega, fun q hq h0 h1 => by
    by_cases e : q = p
    · subst e; exact absurd hq hp
    · exact h.src q hq h0 (by omega), h.gls, by have := h.len; omega⟩
end Go.Proofs.Ytoeendggmalcpaa

open Go.Vm
open Psg
namespace Go.Proofs.Ytoeendggmalcpaa
set_option maxRecDepth 20000
set_option maxHeartbeats 4000000
theorem VOut.ownA {h : Hp} {loc : List Blk} {p : Int} {esz n : Nat} {ds : List Vm.D} (j L : Nat) (hL : Nat.ble loc.length L = true) (hj : loc[j]? = some (.flat true ds)) : VOut h ⟨h.lift, loc⟩ (.agg [I p, .gl (.loc j) esz n]) (.agg [I p, .gl h.fresh esz n]) (h.push (.flat true ds)) := by
  refine VOut.upd [] [.flat true ds] [j] L hL (by intro p hp; cases hp) (by simp) rfl ?_ ?_ rfl
  · intro k b hk
    cases k with
    | zero => rw [List.getElem?_cons_zero, Option.some.injEq] at hk; subst hk; exact ⟨j, rfl, hj⟩
    | succ k => simp at hk
  · intro σ x hx
    have : (V.agg [I p, .gl h.fresh esz n]).ren (backR h.loc.length [j] L) = .agg [I p, .gl (.loc j) esz n] := by simp [V.ren, V.rens, backR, Hp.fresh]
    rw [this]; exact hx
theorem vc_kcloneWO (l : List Wy) (h : Hp) (hl : l.length ≤ 4000000) : VC Try.prog 63 [wys l] h (.gl h.fresh 8 l.length) (h.push (.flat true (l.flatMap encWy))) := by
  refine VC.body Try.func63 rfl Try.ntmps63 Try.call63 (h.grows_push _) rfl ?_; conv => whnf
  repeat' (first | ((first | refine zs1 ?_ | refine zs2 ?_ | refine zs3 ?_ | refine zs4 ?_ | refine zs5 ?_); conv => whnf) | ((first | apply zi1 | apply zi2 | apply zi3 | apply zi4 | apply zi5) <;> intro _ <;> conv => whnf))
  refine VMem.appNil encWy_len rfl rfl rfl (by omega) ?_
  conv => whnf
  repeat' (first | ((first | refine zs1 ?_ | refine zs2 ?_ | refine zs3 ?_ | refine zs4 ?_ | refine zs5 ?_); conv => whnf) | ((first | apply zi1 | apply zi2 | apply zi3 | apply zi4 | apply zi5) <;> intro _ <;> conv => whnf))
  exact VOut.own1 (h := h) (loc := [.flat true (l.flatMap encWy)]) (ds := l.flatMap encWy) 0 1 rfl rfl
theorem vc_CloneNetO (N : Nt) (h : Hp) (hn : N.ws.length ≤ 4000000) : VC Try.prog 19 [vN N] h (.agg [I N.p, .gl h.fresh 8 N.ws.length]) (h.push (.flat true (N.ws.flatMap encWy))) := by
  have c := fun h => vc_kcloneWO N.ws h hn
  refine VC.body Try.func19 rfl Try.ntmps19 Try.call19 (h.grows_push _) rfl ?_; conv => whnf
  repeat' (first | ((first | refine zs1 ?_ | refine zs2 ?_ | refine zs3 ?_ | refine zs4 ?_ | refine zs5 ?_); conv => whnf) | ((first | apply zi1 | apply zi2 | apply zi3 | apply zi4 | apply zi5) <;> intro _ <;> conv => whnf))
  refine zs6 [(1, 4)] ?_
  conv => whnf
  repeat' (first | ((first | refine zs1 ?_ | refine zs2 ?_ | refine zs3 ?_ | refine zs4 ?_ | refine zs5 ?_); conv => whnf) | ((first | apply zi1 | apply zi2 | apply zi3 | apply zi4 | apply zi5) <;> intro _ <;> conv => whnf) | (refine VCall.intro (c _) ?_; conv => whnf))
  exact VOut.ownA (h := h) 2 3 rfl rfl
end Go.Proofs.Ytoeendggmalcpaa

open Go.Vm
open Psg
namespace Psg
theorem pand_pp {a b : Int} (ha : Pp a) (hb : Pp b) : Pp (pand a b) := by
  unfold Pp pand at *
  have := Nat.and_le_left (n := a.toNat) (m := b.toNat)
  omega
end Psg
namespace Go.Proofs.Ytoeendggmalcpaa
set_option maxRecDepth 20000
set_option maxHeartbeats 4000000
theorem hrN_ok (bs : List Int) (d : DS) {n : Nat} (hn : 1 ≤ n) : HOk n (hrN bs d n).1 ∧ (hrN bs d n).2.1 ≤ d.1 + 4 := by
  have a := dNx_bd bs d n
  have b := dNx_bd bs (hr1 bs d n).2 20
  have c := dNx_bd bs (hr2 bs d n).2 16
  have e := dNx_bd bs (hr3 bs d n).2 16
  rw [show dNx bs d n = hr1 bs d n from rfl] at a
  rw [show dNx bs (hr1 bs d n).2 20 = hr2 bs d n from rfl] at b
  rw [show dNx bs (hr2 bs d n).2 16 = hr3 bs d n from rfl] at c
  rw [show dNx bs (hr3 bs d n).2 16 = hr4 bs d n from rfl] at e
  unfold hrN
  refine ⟨⟨⟨a.1, by dsimp only; omega⟩, ⟨b.1, by dsimp only; omega⟩, pand_pp ⟨c.1, by omega⟩ ⟨e.1, by omega⟩⟩, by dsimp only; omega⟩
end Go.Proofs.Ytoeendggmalcpaa


/- Part 6 of the proof that the middle of a straight river is as at sea. No condition. -/
import Derived.Test.YtccpfempgmkmbaaGreatBm5
set_option linter.unusedVariables false
set_option linter.unusedSimpArgs false
open Go.Vm
open Riv
namespace Go.Vm
theorem wrap_u64 {n : Int} (h : 0 ≤ n ∧ n < 18446744073709551616) : IntKind.u64.wrap n = n := by
  unfold IntKind.wrap
  simp [IntKind.bits, IntKind.signed]
  omega
theorem VArith.u64 {n : Int} {K : Int → Prop} (h : 0 ≤ n ∧ n < 18446744073709551616) (hk : K n) : VArith .u64 n K := VArith.wr (by rw [wrap_u64 h]; exact hk)
theorem VArith.mask {n : Nat} {K : Int → Prop} (h : n < 4294967296) (hk : K n) : VArith .u64 (((BitVec.ofInt IntKind.u64.bits (n : Int) &&& BitVec.ofInt IntKind.u64.bits 4294967295).toNat : Nat) : Int) K := by
  have e : (BitVec.ofInt IntKind.u64.bits (n : Int) &&& BitVec.ofInt IntKind.u64.bits 4294967295).toNat = n := by
    rw [BitVec.toNat_and]
    have e1 : (BitVec.ofInt IntKind.u64.bits 4294967295).toNat = 2 ^ 32 - 1 := by decide
    have e2 : (BitVec.ofInt IntKind.u64.bits (n : Int)).toNat = n := by
      rw [BitVec.toNat_ofInt]
      simp only [IntKind.bits]
      omega
    rw [e1, e2, Nat.and_two_pow_sub_one_eq_mod]
    omega
  rw [e]
  exact VArith.u64 (by omega) hk
theorem shr32 {n : Nat} (h : n < 4294967296) : (n : Int).fdiv (2 ^ (min (32 : Int).toNat IntKind.u64.bits)) = 0 := by
  rw [show (2 : Int) ^ (min (32 : Int).toNat IntKind.u64.bits) = 4294967296 by decide]
  rw [Int.fdiv_eq_ediv_of_nonneg _ (by decide)]
  omega
end Go.Vm
namespace Go.Proofs.YtccpfempgmkmbaaGreat
set_option maxRecDepth 20000
set_option maxHeartbeats 4000000
abbrev U (n : Int) : V := .s (.int .u64 n)
theorem vc_Mul64 (n : Nat) (hn : n < 4294967296) (h : Hp) : VC Tryz.prog 85 [U 1, U n] h (.tuple [U 0, U n]) h := by
  have e := shr32 hn
  have e1 : Int.fdiv 1 (2 ^ (min (32 : Int).toNat IntKind.u64.bits)) = 0 := by decide
  have e0 : Int.fdiv 0 (2 ^ (min (32 : Int).toNat IntKind.u64.bits)) = 0 := by decide
  refine VC.body Tryz.func85 rfl Tryz.ntmps85 Tryz.call85 (h.grows_refl) rfl ?_; conv => whnf
  repeat' (first | ((first | refine zs1 ?_ | refine zs2 ?_ | refine zs3 ?_ | refine zs4 ?_ | refine zs5 ?_ | refine zs6 [] ?_); conv => whnf) | ((first | apply zi1 | apply zi2 | apply zi3 | apply zi4 | apply zi5) <;> intro _ <;> conv => whnf) | (refine VArith.mask hn ?_; conv => whnf) | (refine VArith.mask (n := 1) (by decide) ?_; simp only [Int.natCast_one]; conv => whnf) | (refine VArith.mask (n := 0) (by decide) ?_; simp only [Int.natCast_zero]; conv => whnf) | (simp only [e, e1, e0, Int.one_mul, Int.zero_mul, Int.zero_add, Int.add_zero]; conv => whnf) | (refine VArith.u64 (by omega) ?_; conv => whnf))
  exact VOut.same rfl
theorem vc_Mul (n : Nat) (hn : n < 4294967296) (h : Hp) : VC Tryz.prog 67 [U 1, U n] h (.tuple [U 0, U n]) h := by
  refine VC.body Tryz.func67 rfl Tryz.ntmps67 Tryz.call67 (h.grows_refl) rfl ?_; conv => whnf
  repeat' (first | ((first | refine zs1 ?_ | refine zs2 ?_ | refine zs3 ?_ | refine zs4 ?_ | refine zs5 ?_ | refine zs6 [] ?_); conv => whnf) | ((first | apply zi1 | apply zi2 | apply zi3 | apply zi4 | apply zi5) <;> intro _ <;> conv => whnf) | (refine VCall.intro (vc_Mul64 n hn _) ?_; conv => whnf))
  exact VOut.same rfl
end Go.Proofs.YtccpfempgmkmbaaGreat
namespace Go.Vm
theorem flatI (l : List Int) : l.flatMap encI = l.map DI := by
  induction l with
  | nil => rfl
  | cons a l ih => rw [List.flatMap_cons, ih]; rfl
theorem VOut.own1 {h : Hp} {loc : List Blk} {esz n : Nat} {ds : List D} (j L : Nat) (hL : Nat.ble loc.length L = true) (hj : loc[j]? = some (.flat true ds)) : VOut h ⟨h.lift, loc⟩ (.gl (.loc j) esz n) (.gl h.fresh esz n) (h.push (.flat true ds)) := by
  refine VOut.upd [] [.flat true ds] [j] L hL (by intro p hp; cases hp) (by simp) rfl ?_ ?_ rfl
  · intro k b hk
    cases k with
    | zero => rw [List.getElem?_cons_zero, Option.some.injEq] at hk; subst hk; exact ⟨j, rfl, hj⟩
    | succ k => simp at hk
  · intro σ x hx
    have : (V.gl h.fresh esz n).ren (backR h.loc.length [j] L) = .gl (.loc j) esz n := by simp [V.ren, backR, Hp.fresh]
    rw [this]; exact hx
def repL (a z : Int) (n k : Nat) : List Int := List.replicate k a ++ List.replicate (n - k) z
theorem repL_len (a z : Int) {n k : Nat} (h : k ≤ n) : (repL a z n k).length = n := by unfold repL; simp; omega
theorem VMem.copyRep {P : Program} {t ty : TypeId} {e bytes : Nat} {zero : List V} {s_ : Nat} {a_ : Bool} {z_ : V} {h : Hp} {i : Id} {a z : Int} {n k o1 n1 n2 : Nat} {K : V → Hp → Prop} (hTt : tiOf P t = some ⟨.slice e 1 bytes zero, s_, a_, z_⟩)
    (hb : h.get i = some (.flat true ((repL a z n k).flatMap encI))) (hk : k ≤ n) (h1 : o1 = k) (h2 : n1 = n - k) (h3 : n2 = k)
    (hK : K (.s (.int .i64 (min k (n - k) : Nat))) (h.set i (.flat true ((repL a z n (k + min k (n - k))).flatMap encI)))) : VMem P (opCopy #[t, t] ty) [.slice i o1 1 n1 none, .gl i 1 n2] h K := by
  subst h1 h2 h3
  refine VMem.intro (does_copy (n := n2) (m := min n2 (n - n2)) (news := ((List.replicate n2 a).map DI).map D.v) (l := ((repL a z n n2).flatMap encI).map D.v) (tiOf_ok P) hTt hb rfl ?_ ?_ rfl ?_) hK
  · simp only [SegOf]
    refine ⟨trivial, trivial, _, true, _, hb, rfl, by rw [List.length_map, flat_len encI_len, repL_len a z hk]; omega, ?_⟩
    rw [flatI, ← List.map_take, ← List.map_take, repL, List.take_append_of_le_length (by simp), List.take_of_length_le (by simp)]
  · rw [List.length_map, flat_len encI_len, repL_len a z hk]; omega
  · simp only [Blk.row, flatI, ← List.map_take, ← List.map_drop]
    rw [← List.map_append, ← List.map_append, ← List.map_append, ← List.map_append]
    congr 3
    rw [Nat.mul_one]
    generalize hm : min n2 (n - n2) = m
    unfold repL
    rw [List.take_append_of_le_length (by simp), List.take_of_length_le (by simp), List.take_replicate, List.drop_append, List.drop_of_length_le (by simp), List.nil_append, List.length_replicate, List.drop_replicate, Nat.min_eq_left (by omega), ← List.replicate_append_replicate]
    congr 2
    rw [show n - (n2 + m) = n - n2 - (n2 + m - n2) by omega]
theorem VMem.copyOne {P : Program} {t ty : TypeId} {e bytes : Nat} {zero : List V} {s_ : Nat} {a_ : Bool} {z_ : V} {h : Hp} {i : Id} {a z : Int} {n : Nat} {K : V → Hp → Prop} (hTt : tiOf P t = some ⟨.slice e 1 bytes zero, s_, a_, z_⟩)
    (hb : h.get i = some (.flat true ((List.replicate n z).flatMap encI)))
    (hK : K (.s (.int .i64 (min 1 n : Nat))) (h.set i (.flat true ((repL a z n (min 1 n)).flatMap encI)))) : VMem P (opCopy #[t, t] ty) [.gl i 1 n, .fs 1 1 [DI a]] h K := by
  refine VMem.intro (does_copy_gl (k := 1) (m := min 1 n) (news := ([a].map DI).map D.v) (l := ((List.replicate n z).flatMap encI).map D.v) (tiOf_ok P) hTt hb rfl ?_ ?_ rfl ?_) hK
  · simp only [SegOf]
    exact ⟨trivial, trivial, by simp, rfl⟩
  · rw [List.length_map, flat_len encI_len, List.length_replicate]; omega
  · simp only [Blk.row, flatI, ← List.map_take, ← List.map_drop]
    rw [← List.map_append, ← List.map_append]
    congr 3
    rw [Nat.mul_one]
    unfold repL
    cases n with
    | zero => rfl
    | succ n =>
      rw [show min 1 (n + 1) = 1 by omega, List.drop_replicate]
      rfl
end Go.Vm
namespace Go.Proofs.YtccpfempgmkmbaaGreat
set_option maxRecDepth 20000
set_option maxHeartbeats 4000000
theorem vc_Repeat (a : Int) (n : Nat) (h : Hp) (hn : n ≤ 1000000) : VC Tryz.prog 46 [ints [a], I n] h (.gl h.fresh 1 n) (h.push (.flat true ((List.replicate n a).flatMap encI))) := by
  show VC Tryz.prog 46 [.fs 1 1 [DI a], I n] h _ _
  refine VC.body Tryz.func46 rfl Tryz.ntmps46 Tryz.call46 (h.grows_push _) rfl ?_
  conv => whnf
  repeat' (first | ((first | refine zs1 ?_ | refine zs2 ?_ | refine zs3 ?_ | refine zs4 ?_ | refine zs5 ?_); conv => whnf) | ((first | apply zi1 | apply zi2 | apply zi3 | apply zi4 | apply zi5) <;> intro _ <;> first | (exfalso; omega) | contradiction | (conv => whnf)) | (refine VArith.u64 (by omega) ?_; conv => whnf) | (refine VCall.intro (vc_Mul n (by omega) _) ?_; conv => whnf) | (refine VMem.make (0 : Int) encI_len rfl rfl rfl rfl rfl rfl (by omega) ?_; conv => whnf) | (refine VMem.copyOne (a := a) (z := 0) (n := n) rfl rfl ?_; conv => whnf))
  refine VCode.lp (outer := h.lift) (marks := []) (fun k : Nat => [(7, .gl (.loc 0) 1 n), (8, I k)]) (fun k => [.flat true ((repL a 0 n k).flatMap encI)]) (fun k => k ≤ n ∧ (k = 0 → n = 0)) (fun k => n - k) (min 1 n) ⟨by omega, by omega⟩ ?_ ?_
  · generalize hm : min 1 n = m
    conv => whnf
    refine Retell.turn ⟨[0], 1, [], []⟩ (TurnOk.mk' _ _ [] [] (OutOk.lift _) rfl (by decide) zb trivial trivial rfl) zw zm
  · rintro k ⟨h1, h2⟩
    conv => whnf
    repeat (first | ((first | refine zs1 ?_ | refine zs2 ?_ | refine zs3 ?_ | refine zs4 ?_ | refine zs5 ?_ | refine zs6 [] ?_); conv => whnf))
    refine VIte.dec (fun h3 => ?_) (fun h3 => ?_)
    · conv => whnf
      refine zs6 [] ?_
      conv => whnf
      repeat (first | ((first | refine zs1 ?_ | refine zs2 ?_ | refine zs3 ?_ | refine zs4 ?_ | refine zs5 ?_ | refine zs6 [] ?_); conv => whnf))
      refine VAny.intro (v := .slice (.loc 0) (k * 1) 1 (n - k) none) ⟨by omega, n - k, by omega, .inr ⟨by omega, rfl⟩⟩ ?_
      conv => whnf
      repeat (first | ((first | refine zs1 ?_ | refine zs2 ?_ | refine zs3 ?_ | refine zs4 ?_ | refine zs5 ?_ | refine zs6 [] ?_); conv => whnf))
      refine VAny.intro (v := .gl (.loc 0) 1 k) ⟨by omega, k, by omega, .inl ⟨rfl, rfl⟩⟩ ?_
      conv => whnf
      repeat (first | ((first | refine zs1 ?_ | refine zs2 ?_ | refine zs3 ?_ | refine zs4 ?_ | refine zs5 ?_ | refine zs6 [] ?_); conv => whnf))
      refine VMem.copyRep (a := a) (z := 0) (n := n) (k := k) rfl rfl h1 (by omega) rfl rfl ?_
      generalize hm : min k (n - k) = m
      conv => whnf
      repeat (first | ((first | refine zs1 ?_ | refine zs2 ?_ | refine zs3 ?_ | refine zs4 ?_ | refine zs5 ?_ | refine zs6 [] ?_); conv => whnf))
      refine LEnd.intro (k + m) ⟨by omega, by omega⟩ (by omega) ?_
      conv => whnf
      refine Retell.turn ⟨[0], 1, [], []⟩ (TurnOk.mk' _ _ [] [] (OutOk.lift _) rfl (by decide) zb trivial trivial rfl) zw zm
    · obtain rfl : k = n := by omega
      rw [show repL a 0 k k = List.replicate k a by unfold repL; rw [Nat.sub_self]; simp]
      conv => whnf
      repeat' (first | ((first | refine zs1 ?_ | refine zs2 ?_ | refine zs3 ?_ | refine zs4 ?_ | refine zs5 ?_ | refine zs6 [] ?_); conv => whnf) | ((first | apply zi1 | apply zi2 | apply zi3 | apply zi4 | apply zi5) <;> intro _ <;> conv => whnf))
      exact VOut.own1 0 1 rfl rfl
end Go.Proofs.YtccpfempgmkmbaaGreat

open Go.Vm
open Riv
namespace Go.Proofs.YtccpfempgmkmbaaGreat
set_option maxRecDepth 20000
set_option maxHeartbeats 4000000

/-! ### Lists that are written place by place -/
theorem at0_get {l : List Int} {n : Nat} (hn : n < l.length) : l[n]? = some (at0 l n) := by
  unfold at0; rw [List.getD_eq_getElem?_getD, List.getElem?_eq_getElem hn]; rfl
def t0k (c : List Int) (s : Int) (k : Nat) : List Int := t0 (c.take k) s ++ List.replicate (c.length - k) (-1)
theorem t0_len (c : List Int) (s : Int) : (t0 c s).length = c.length := by unfold t0; rw [List.length_map]
theorem t0k_len {c : List Int} {s : Int} {k : Nat} (h : k ≤ c.length) : (t0k c s k).length = c.length := by
  unfold t0k; rw [List.length_append, t0_len, List.length_take, List.length_replicate]; omega
theorem t0k_zero (c : List Int) (s : Int) : t0k c s 0 = List.replicate c.length (-1) := rfl
theorem t0k_all (c : List Int) (s : Int) : t0k c s c.length = t0 c s := by
  unfold t0k; rw [List.take_of_length_le (Nat.le_refl _), Nat.sub_self]; simp
theorem t0k_step {c : List Int} {s x : Int} {k : Nat} (h : c[k]? = some x) : t0k c s (k + 1) = if x = s then (t0k c s k).set k 0 else t0k c s k := by
  obtain ⟨hlt, rfl⟩ := List.getElem?_eq_some_iff.1 h
  have e : List.replicate (c.length - k) (-1 : Int) = -1 :: List.replicate (c.length - (k + 1)) (-1) := by
    rw [show c.length - k = (c.length - (k + 1)) + 1 by omega]; rfl
  have hl : (t0 (c.take k) s).length = k := by rw [t0_len, List.length_take]; omega
  have e2 : t0 (c.take (k + 1)) s = t0 (c.take k) s ++ [if c[k] = s then 0 else -1] := by
    unfold t0
    rw [List.take_add_one, List.getElem?_eq_getElem hlt, List.map_append]; rfl
  unfold t0k
  rw [e2, e]
  split
  · rw [List.set_append_right _ _ (by omega), hl, Nat.sub_self, List.set_cons_zero]; simp
  · simp
theorem putB_len (c : List Int) (st : Int) (T : List Int) (k : Nat) : (putB c st T k).length = T.length := by
  unfold putB; split <;> simp
theorem nbF_len {f : List Int → Nat → List Int} (hf : ∀ T k, (f T k).length = T.length) (W L n : Nat) (T : List Int) (k : Nat) : (nbF f W L n T k).length = T.length := by
  unfold nbF
  generalize (List.range k).filterMap (nbO W L n) = l
  induction l generalizing T with
  | nil => rfl
  | cons a l ih => rw [List.foldl_cons, ih, hf]
theorem fold_len {f : List Int → Nat → List Int} (hf : ∀ T k, (f T k).length = T.length) : ∀ (l : List Nat) (T : List Int), (l.foldl f T).length = T.length
  | [], _ => rfl
  | a :: l, T => by rw [List.foldl_cons, fold_len hf l, hf]
theorem cellB_len (c : List Int) (W : Nat) (s st : Int) (T : List Int) (n : Nat) : (cellB c W s st T n).length = T.length := by
  unfold cellB
  split
  · exact fold_len (putB_len c st) _ T
  · rfl
theorem stepB_len (c : List Int) (W : Nat) (s : Int) (T : List Int) (st : Nat) : (stepB c W s T st).length = T.length := fold_len (cellB_len c W s st) _ T
def bfsK (c : List Int) (W : Nat) (s : Int) (k : Nat) : List Int := (List.range k).foldl (stepB c W s) (t0 c s)
theorem bfsK_len (c : List Int) (W : Nat) (s : Int) (k : Nat) : (bfsK c W s k).length = c.length := by unfold bfsK; rw [fold_len (stepB_len c W s), t0_len]
theorem bfsK_step (c : List Int) (W : Nat) (s : Int) (k : Nat) : bfsK c W s (k + 1) = stepB c W s (bfsK c W s k) k := by unfold bfsK; rw [List.range_succ, List.foldl_append]; rfl
def stepK (c : List Int) (W : Nat) (s : Int) (T : List Int) (st k : Nat) : List Int := (List.range k).foldl (cellB c W s st) T
theorem stepK_len (c : List Int) (W : Nat) (s : Int) (T : List Int) (st k : Nat) : (stepK c W s T st k).length = T.length := fold_len (cellB_len c W s st) _ T
theorem stepK_step (c : List Int) (W : Nat) (s : Int) (T : List Int) (st k : Nat) : stepK c W s T st (k + 1) = cellB c W s st (stepK c W s T st k) k := by unfold stepK; rw [List.range_succ, List.foldl_append]; rfl
structure TJ (o : Vm.Id → Option Blk) (L : Nat) (T : List Int) (g : Hp) : Prop where
  o : g.outer = o
  b0 : g.get (.loc 0) = some (.cells true [.gl (.loc 1) 1 L])
  b1 : g.get (.loc 1) = some (.flat true (T.flatMap encI))
  b2 : g.get (.loc 2) = some .mark
theorem vc_table {W H : Nat} (m : Mp) (s : Int) (h : Hp) (o : MOk W H m.c) (hw : m.w = W) (hs : s = 1 ∨ s = 2) : VC Tryz.prog 29 [vSd m s] h (ints (bfs m.c W s)) h := by
  have hWb := o.w
  have hHb := o.h
  have hL := o.len
  have hlen : m.c.length ≤ 144 := by
    rw [hL]
    exact Nat.le_trans (Nat.mul_le_mul hWb.2 hHb.2) (by decide)
  obtain ⟨R, hR⟩ : ∃ R, R = bfs m.c W s := ⟨_, rfl⟩
  have hRl : R.length = m.c.length := by rw [hR]; exact bfsK_len _ _ _ _
  rw [← hR]
  have cT := fun k x hk h => vc_through m s x k h hk
  have cB := fun n h => vc_beside m n h
  have itB := fun n hn => iter_beside m W n (by omega) hw hn (by omega)
  obtain ⟨mw, mh, c⟩ := m
  dsimp only at hw o hL hlen hR hRl cT itB
  subst hw
  show VC Tryz.prog 29 [.agg [I W, I mh, ints c, I s]] h (ints R) h
  obtain ⟨mapD, hmapD⟩ : ∃ l, l = [DI W, DI mh, dints c, DI s] := ⟨_, rfl⟩
  refine VC.bodyC 2 Tryz.func29 rfl Tryz.ntmps29 Tryz.call29 (h.grows_refl) rfl ?_
  conv => whnf
  repeat' (first | ((first | refine zs1 ?_ | refine zs2 ?_ | refine zs3 ?_ | refine zs4 ?_ | refine zs5 ?_); conv => whnf) | ((first | apply zi1 | apply zi2 | apply zi3 | apply zi4 | apply zi5) <;> intro _ <;> conv => whnf))
  refine VCut.at' (outer := h.lift) (marks := []) 99 [(1, .fp [DI W, DI mh, dints c, DI s]), (3, .func (.func 45) [.agg [I W, I mh, ints c, I s]] [])] [] ?_ ?_
  · conv => whnf
    refine Retell.turn ⟨[], 1, [(0, [DI W, DI mh, dints c, DI s])], []⟩ (TurnOk.mk' _ _ [(0, [DI W, DI mh, dints c, DI s])] [] (OutOk.lift _) rfl (by decide) zb zf trivial rfl) zw zm
  conv => whnf
  repeat' (first | ((first | refine zs1 ?_ | refine zs2 ?_ | refine zs3 ?_ | refine zs4 ?_ | refine zs5 ?_); conv => whnf) | ((first | apply zi1 | apply zi2 | apply zi3 | apply zi4 | apply zi5) <;> intro _ <;> conv => whnf))
  refine VCall.intro (VC.give (args' := [ints [-1], I c.length]) (loc' := [.dead]) [(0, [DI (-1)])] [] (OutOk.lift _) zb zf (by exact FmAll.nil) rfl zw (vc_Repeat (-1) c.length _ (by omega))) ?_
  conv => whnf
  repeat' (first | ((first | refine zs1 ?_ | refine zs2 ?_ | refine zs3 ?_ | refine zs4 ?_ | refine zs5 ?_); conv => whnf) | ((first | apply zi1 | apply zi2 | apply zi3 | apply zi4 | apply zi5) <;> intro _ <;> conv => whnf))
  refine VCode.lpC (outer := h.lift) (marks := []) 99 (fun k : Nat => [(1, .fp [DI W, DI mh, dints c, DI s]), (3, .func (.func 45) [.agg [I W, I mh, ints c, I s]] []), (4, .ptr (.loc 0) 0), (20, ints c), (21, I c.length), (22, I k)]) (fun k => [.cells true [.gl (.loc 1) 1 c.length], .flat true ((t0k c s k).flatMap encI)]) (fun k => k ≤ c.length) (fun k => c.length - k) 0 (Nat.zero_le _) ?_ ?_
  · rw [t0k_zero]
    conv => whnf
    refine Retell.turn ⟨[2,1], 3, [], []⟩ (TurnOk.mk' _ _ [] [] (OutOk.lift _) rfl (by decide) zb trivial trivial rfl) zw zm
  · rintro k hk
    rcases Nat.lt_or_ge k c.length with h3 | h3
    · have hx := at0_get h3
      have hst := t0k_step (s := s) hx
      have hkl : (t0k c s k)[k]? = some (at0 (t0k c s k) k) := at0_get (by rw [t0k_len hk]; exact h3)
      generalize at0 c k = x at hx hst
      generalize t0k c s k = T at hst hkl
      by_cases hxs : x = s
      · rw [if_pos hxs] at hst
        conv => whnf
        repeat' (first | ((first | refine zs1 ?_ | refine zs2 ?_ | refine zs3 ?_ | refine zs4 ?_ | refine zs5 ?_); conv => whnf) | ((first | apply zi1 | apply zi2 | apply zi3 | apply zi4 | apply zi5) <;> intro _ <;> first | (exfalso; omega) | contradiction | (conv => whnf)) | (refine VAny.ix encI_len k rfl rfl hx ?_; conv => whnf) | (refine VMem.setRec encI_len k 0 (0 : Int) rfl rfl rfl hkl (by decide) rfl (by simp) ?_; conv => whnf))
        refine LEnd.intro (k + 1) (by omega) (by omega) ?_
        rw [hst]
        conv => whnf
        refine Retell.turn ⟨[0,1], 2, [], []⟩ (TurnOk.mk' _ _ [] [] (OutOk.lift _) rfl (by decide) zb trivial trivial rfl) zw zm
      · rw [if_neg hxs] at hst
        conv => whnf
        repeat' (first | ((first | refine zs1 ?_ | refine zs2 ?_ | refine zs3 ?_ | refine zs4 ?_ | refine zs5 ?_); conv => whnf) | ((first | apply zi1 | apply zi2 | apply zi3 | apply zi4 | apply zi5) <;> intro _ <;> first | (exfalso; omega) | contradiction | (conv => whnf)) | (refine VAny.ix encI_len k rfl rfl hx ?_; conv => whnf))
        refine LEnd.intro (k + 1) (by omega) (by omega) ?_
        rw [hst]
        conv => whnf
        refine Retell.turn ⟨[0,1], 2, [], []⟩ (TurnOk.mk' _ _ [] [] (OutOk.lift _) rfl (by decide) zb trivial trivial rfl) zw zm
    · obtain rfl : k = c.length := by omega
      rw [t0k_all]
      conv => whnf
      repeat' (first | ((first | refine zs1 ?_ | refine zs2 ?_ | refine zs3 ?_ | refine zs4 ?_ | refine zs5 ?_); conv => whnf) | ((first | apply zi1 | apply zi2 | apply zi3 | apply zi4 | apply zi5) <;> intro _ <;> first | (exfalso; omega) | contradiction | (conv => whnf)))
      refine VCode.lpC (outer := h.lift) (marks := []) 99 (fun st : Nat => [(1, .fp [DI W, DI mh, dints c, DI s]), (3, .func (.func 45) [.agg [I W, I mh, ints c, I s]] []), (4, .ptr (.loc 0) 0), (38, I c.length), (39, I st)]) (fun st => [.cells true [.gl (.loc 1) 1 c.length], .flat true ((bfsK c W s st).flatMap encI)]) (fun st => st ≤ c.length) (fun st => c.length - st) 0 (Nat.zero_le _) ?_ ?_
      · rw [show bfsK c W s 0 = t0 c s from rfl]
        conv => whnf
        refine Retell.turn ⟨[0,1], 2, [], []⟩ (TurnOk.mk' _ _ [] [] (OutOk.lift _) rfl (by decide) zb trivial trivial rfl) zw zm
      · rintro st hst
        rcases Nat.lt_or_ge st c.length with h5 | h5
        · have hB := bfsK_step c W s st
          have hBl := bfsK_len c W s st
          have hst2 : stepB c W s (bfsK c W s st) st = stepK c W s (bfsK c W s st) st c.length := rfl
          rw [hst2] at hB
          have hSl := fun n => stepK_len c W s (bfsK c W s st) st n
          have hSt := fun n => stepK_step c W s (bfsK c W s st) st n
          have hS0 : stepK c W s (bfsK c W s st) st 0 = bfsK c W s st := rfl
          rw [← hS0]
          generalize bfsK c W s st = T0 at *
          conv => whnf
          repeat' (first | ((first | refine zs1 ?_ | refine zs2 ?_ | refine zs3 ?_ | refine zs4 ?_ | refine zs5 ?_); conv => whnf) | ((first | apply zi1 | apply zi2 | apply zi3 | apply zi4 | apply zi5) <;> intro _ <;> first | (exfalso; omega) | contradiction | (conv => whnf)))
          refine VCode.lpC (outer := h.lift) (marks := []) 99 (fun n : Nat => [(1, .fp [DI W, DI mh, dints c, DI s]), (3, .func (.func 45) [.agg [I W, I mh, ints c, I s]] []), (4, .ptr (.loc 0) 0), (38, I c.length), (39, I st), (7, .fp [DI st]), (45, I c.length), (46, I n)]) (fun n => [.cells true [.gl (.loc 1) 1 c.length], .flat true ((stepK c W s T0 st n).flatMap encI)]) (fun n => n ≤ c.length) (fun n => c.length - n) 0 (Nat.zero_le _) ?_ ?_
          · generalize stepK c W s T0 st 0 = T
            conv => whnf
            refine Retell.turn ⟨[0,1], 3, [(2, [DI st])], []⟩ (TurnOk.mk' _ _ [(2, [DI st])] [] (OutOk.lift _) rfl (by decide) zb zf trivial rfl) zw zm
          · rintro n hn
            rcases Nat.lt_or_ge n c.length with h6 | h6
            · have hx := at0_get h6
              have hSn := hSt n
              have hTl := hSl n
              rw [hBl] at hTl
              generalize stepK c W s T0 st n = T at hSn hTl
              have ha : T[n]? = some (at0 T n) := at0_get (by omega)
              have cTn := cT n _ hx
              unfold cellB at hSn
              obtain ⟨x, hxe⟩ : ∃ x, x = at0 c n := ⟨_, rfl⟩
              obtain ⟨a, hae⟩ : ∃ a, a = at0 T n := ⟨_, rfl⟩
              rw [← hxe] at hx cTn
              rw [← hae] at ha
              have hthr : Thr c s n ↔ x = 0 ∨ x = s := by unfold Thr; rw [← hxe]
              by_cases hcond : at0 T n = st ∧ Thr c s n
              · rw [if_pos hcond] at hSn
                rw [decide_eq_true (hthr.1 hcond.2)] at cTn
                have hast : a = st := by rw [hae]; exact hcond.1
                clear hcond hthr hxe hae
                conv => whnf
                repeat' (first | ((first | refine zs1 ?_ | refine zs2 ?_ | refine zs3 ?_ | refine zs4 ?_ | refine zs5 ?_); conv => whnf) | ((first | apply zi1 | apply zi2 | apply zi3 | apply zi4 | apply zi5) <;> intro _ <;> conv => whnf))
                all_goals try (exfalso; omega)
                refine zs6 [] ?_
                conv => whnf
                repeat' (first | ((first | refine zs1 ?_ | refine zs2 ?_ | refine zs3 ?_ | refine zs4 ?_ | refine zs5 ?_); conv => whnf) | ((first | apply zi1 | apply zi2 | apply zi3 | apply zi4 | apply zi5) <;> intro _ <;> first | (exfalso; omega) | contradiction | (conv => whnf)) | (refine VLd.recc encI_len n 0 rfl rfl rfl ha (by decide) rfl (by simp) ?_; conv => whnf) | (refine VCall.intro (cTn _) ?_; conv => whnf) | (refine VCall.intro (cB n _) ?_; conv => whnf))
                refine VCode.tell [(1, .fp [DI W, DI mh, dints c, DI s]), (3, .func (.func 45) [.agg [I W, I mh, ints c, I s]] []), (4, .ptr (.loc 0) 0), (38, I c.length), (39, I st), (7, .fp [DI st]), (45, I c.length), (46, I n), (64, vBes ⟨W, mh, c⟩ n)] [.cells true [.gl (.loc 1) 1 c.length], .flat true (T.flatMap encI)] (marks' := []) ?_ ?_
                · conv => whnf
                  refine Retell.turn ⟨[0,1], 2, [], []⟩ (TurnOk.mk' _ _ [] [] (OutOk.lift _) rfl (by decide) zb trivial trivial rfl) zw zm
                · conv => whnf
                  refine VCode.iterS 4 (nbY W c.length n) (fun k g => TJ h.lift c.length (nbF (putB c st) W c.length n T k) g) _ (.loc 3) rfl (itB n h6) rfl rfl ⟨rfl, rfl, rfl, rfl⟩ ?_ ?_ ?_
                  · rintro k g hk hy hJ
                    rw [nbF_none (nbY_none hy)]; exact hJ
                  · rintro k g vs hk hy ⟨j0, j1, j2, j3⟩ hlp
                    obtain ⟨q, hq, rfl⟩ := nbY_some hy
                    rw [nbF_some hq]
                    have hqL := ((nbs_iff (by omega) hL h6).1 (nbO_mem hk hq)).1
                    have hUl := nbF_len (putB_len c st) W c.length n T k
                    rw [hTl] at hUl
                    generalize nbF (putB c st) W c.length n T k = U at j2 hUl
                    have hb : U[q]? = some (at0 U q) := at0_get (by omega)
                    have hy := at0_get hqL
                    unfold putB
                    obtain ⟨y, hye⟩ : ∃ y, y = at0 c q := ⟨_, rfl⟩
                    obtain ⟨b, hbe⟩ : ∃ b, b = at0 U q := ⟨_, rfl⟩
                    rw [← hye] at hy
                    rw [← hbe] at hb
                    have hopn : Opn c q ↔ y = 0 ∨ y = 3 := by unfold Opn; rw [← hye]
                    by_cases hput : at0 U q = -1 ∧ Opn c q
                    · rw [if_pos hput]
                      have h8 : b = -1 := by rw [hbe]; exact hput.1
                      have h9 := hopn.1 hput.2
                      clear hput hopn hye hbe
                      have n1 : g.get (.loc 1) ≠ none := by rw [j2]; simp
                      refine ⟨g.set (.loc 1) (.flat true ((U.set q ((st : Int) + 1)).flatMap encI)), ?_, ⟨j0, ?_, ?_, ?_⟩, ?_⟩
                      · refine VRound.vy' hlp rfl rfl rfl (Hp.grows_set _ _ _) fun l0 => ?_
                        refine VRound.tell [(1, .fp [DI W, DI mh, dints c, DI s]), (4, .ptr (.out (.loc 0)) 0), (7, .fp [DI st]), (65, I q)] ?_ ?_
                        · conv => whnf
                          refine Retell.turn ⟨[], 0, [], []⟩ (TurnOk.mk' _ _ [] [] (OutOk.lift _) rfl (by decide) zb trivial trivial rfl) zw zm
                        · conv => whnf
                          repeat (first | ((first | refine zs1 ?_ | refine zs2 ?_ | refine zs3 ?_ | refine zs4 ?_ | refine zs5 ?_ | refine zs6 [] ?_); conv => whnf))
                          refine VBegin.intro (get_out hlp _) rfl ?_
                          conv => whnf
                          repeat' (first | ((first | refine zs1 ?_ | refine zs2 ?_ | refine zs3 ?_ | refine zs4 ?_ | refine zs5 ?_); conv => whnf) | ((first | apply zi1 | apply zi2 | apply zi3 | apply zi4 | apply zi5) <;> intro _ <;> first | (exfalso; omega) | contradiction | (conv => whnf)) | (refine VLd.cell rfl rfl (get_setO (by decide) j1 _) rfl ?_; conv => whnf) | (refine VLd.recc encI_len q 0 rfl rfl (get_setO (by decide) j2 _) hb (by decide) rfl (by simp) ?_; conv => whnf) | (refine VAny.ix encI_len q rfl rfl hy ?_; conv => whnf) | (refine VMem.setRec encI_len q 0 ((st : Int) + 1) rfl rfl (get_setO (by decide) j2 _) hb (by decide) rfl (by simp) ?_; conv => whnf))
                          all_goals (
                            refine RFin.on (get_outNe (by decide) (outW_get _ _ _ _)) (VOut.liftS ?_ (Hp.grows_set _ _ _))
                            rw [lift_set n1]
                            exact outer_fix1 (get_out hlp []) (by decide))
                      · rw [Hp.get_set _ _ _ _ n1, if_neg (by decide)]; exact j1
                      · rw [Hp.get_set _ _ _ _ n1, if_pos rfl]
                      · rw [Hp.get_set _ _ _ _ n1, if_neg (by decide)]; exact j3
                      · rw [Hp.get_set _ _ _ _ n1, if_neg (by decide)]; exact hlp
                    · rw [if_neg hput]
                      have h8 : ¬ (b = -1 ∧ (y = 0 ∨ y = 3)) := fun hh => hput ⟨by rw [← hbe]; exact hh.1, hopn.2 hh.2⟩
                      clear hput hopn hye hbe
                      refine ⟨g, ?_, ⟨j0, j1, j2, j3⟩, hlp⟩
                      · refine VRound.vy' hlp rfl rfl rfl g.grows_refl fun l0 => ?_
                        refine VRound.tell [(1, .fp [DI W, DI mh, dints c, DI s]), (4, .ptr (.out (.loc 0)) 0), (7, .fp [DI st]), (65, I q)] ?_ ?_
                        · conv => whnf
                          refine Retell.turn ⟨[], 0, [], []⟩ (TurnOk.mk' _ _ [] [] (OutOk.lift _) rfl (by decide) zb trivial trivial rfl) zw zm
                        · conv => whnf
                          repeat (first | ((first | refine zs1 ?_ | refine zs2 ?_ | refine zs3 ?_ | refine zs4 ?_ | refine zs5 ?_ | refine zs6 [] ?_); conv => whnf))
                          refine VBegin.intro (get_out hlp _) rfl ?_
                          conv => whnf
                          repeat' (first | ((first | refine zs1 ?_ | refine zs2 ?_ | refine zs3 ?_ | refine zs4 ?_ | refine zs5 ?_); conv => whnf) | ((first | apply zi1 | apply zi2 | apply zi3 | apply zi4 | apply zi5) <;> intro _ <;> first | (exfalso; omega) | contradiction | (conv => whnf)) | (refine VLd.cell rfl rfl (get_setO (by decide) j1 _) rfl ?_; conv => whnf) | (refine VLd.recc encI_len q 0 rfl rfl (get_setO (by decide) j2 _) hb (by decide) rfl (by simp) ?_; conv => whnf) | (refine VAny.ix encI_len q rfl rfl hy ?_; conv => whnf))
                          all_goals first
                            | exact RFin.on (outW_get _ _ _ _) (VOut.back (get_out hlp []) rfl)
                            | (exfalso; omega)
                  · rintro ⟨go, gl⟩ ⟨j0, j1, j2, j3⟩ hlp
                    dsimp only at j0
                    subst j0
                    rw [nbF_all, ← hSn] at j2
                    obtain ⟨U, hU⟩ : ∃ U, U = stepK c W s T0 st (n + 1) := ⟨_, rfl⟩
                    rw [← hU] at j2
                    have j1 : gl[0]? = some _ := j1
                    have j2 : gl[1]? = some _ := j2
                    have j3 : gl[2]? = some _ := j3
                    have l0 := (List.getElem?_eq_some_iff.1 j1).1
                    have l1 := (List.getElem?_eq_some_iff.1 j2).1
                    have key : ∀ (x : Nat) (A : Blk), x ≠ 3 → (gl.set 3 A)[x]? = gl[x]? := fun x A hx => List.getElem?_set_ne (Ne.symm hx)
                    refine Told.mk [(1, .fp [DI W, DI mh, dints c, DI s]), (3, .func (.func 45) [.agg [I W, I mh, ints c, I s]] []), (4, .ptr (.loc 0) 0), (38, I c.length), (39, I st), (7, .fp [DI st]), (45, I c.length), (46, I n)] [.cells true [.gl (.loc 1) 1 c.length], .flat true (U.flatMap encI)] (marks' := []) ?_ ?_
                    · conv => whnf
                      refine Retell.turn ⟨[0, 1], gl.length, [], []⟩ (TurnOk.mk' _ _ [] [] (OutOk.lift _) (Nat.ble_eq_true_of_le (by simp)) (by simp) (BTos.cells (blt_of l0) ((key 0 _ (by decide)).trans j1) rfl zw (BTos.flat (blt_of l1) ((key 1 _ (by decide)).trans j2) rfl BTos.nil)) trivial trivial rfl) zw (MkTo.drop (show 2 ∉ ([0, 1] : List Nat) by decide) ((key 2 _ (by decide)).trans j3) MkTo.nil)
                    · conv => whnf
                      repeat' (first | ((first | refine zs1 ?_ | refine zs2 ?_ | refine zs3 ?_ | refine zs4 ?_ | refine zs5 ?_ | refine zs6 [] ?_); conv => whnf) | ((first | apply zi1 | apply zi2 | apply zi3 | apply zi4 | apply zi5) <;> intro _ <;> conv => whnf))
                      refine LEnd.intro (n + 1) (by omega) (by omega) ?_
                      rw [← hU]
                      conv => whnf
                      refine Retell.turn ⟨[0,1], 2, [], []⟩ (TurnOk.mk' _ _ [] [] (OutOk.lift _) rfl (by decide) zb trivial trivial rfl) zw zm
              · rw [if_neg hcond] at hSn
                have hno : ¬ (a = st ∧ (x = 0 ∨ x = s)) := fun hh => hcond ⟨by rw [← hae]; exact hh.1, hthr.2 hh.2⟩
                clear hcond hxe hae
                by_cases hth : x = 0 ∨ x = s
                · rw [decide_eq_true hth] at cTn
                  conv => whnf
                  repeat' (first | ((first | refine zs1 ?_ | refine zs2 ?_ | refine zs3 ?_ | refine zs4 ?_ | refine zs5 ?_); conv => whnf) | ((first | apply zi1 | apply zi2 | apply zi3 | apply zi4 | apply zi5) <;> intro _ <;> conv => whnf))
                  all_goals try (exfalso; omega)
                  refine zs6 [] ?_
                  conv => whnf
                  repeat' (first | ((first | refine zs1 ?_ | refine zs2 ?_ | refine zs3 ?_ | refine zs4 ?_ | refine zs5 ?_); conv => whnf) | ((first | apply zi1 | apply zi2 | apply zi3 | apply zi4 | apply zi5) <;> intro _ <;> first | (exfalso; omega) | contradiction | (conv => whnf)) | (refine VLd.recc encI_len n 0 rfl rfl rfl ha (by decide) rfl (by simp) ?_; conv => whnf) | (refine VCall.intro (cTn _) ?_; conv => whnf) | (refine VCall.intro (cB n _) ?_; conv => whnf))
                  all_goals first
                    | (exfalso; omega)
                    | (refine LEnd.intro (n + 1) (by omega) (by omega) ?_
                       rw [hSn]
                       conv => whnf
                       refine Retell.turn ⟨[0,1], 2, [], []⟩ (TurnOk.mk' _ _ [] [] (OutOk.lift _) rfl (by decide) zb trivial trivial rfl) zw zm)
                · rw [decide_eq_false hth] at cTn
                  conv => whnf
                  repeat' (first | ((first | refine zs1 ?_ | refine zs2 ?_ | refine zs3 ?_ | refine zs4 ?_ | refine zs5 ?_); conv => whnf) | ((first | apply zi1 | apply zi2 | apply zi3 | apply zi4 | apply zi5) <;> intro _ <;> conv => whnf))
                  all_goals try (exfalso; omega)
                  refine zs6 [] ?_
                  conv => whnf
                  repeat' (first | ((first | refine zs1 ?_ | refine zs2 ?_ | refine zs3 ?_ | refine zs4 ?_ | refine zs5 ?_); conv => whnf) | ((first | apply zi1 | apply zi2 | apply zi3 | apply zi4 | apply zi5) <;> intro _ <;> first | (exfalso; omega) | contradiction | (conv => whnf)) | (refine VLd.recc encI_len n 0 rfl rfl rfl ha (by decide) rfl (by simp) ?_; conv => whnf) | (refine VCall.intro (cTn _) ?_; conv => whnf) | (refine VCall.intro (cB n _) ?_; conv => whnf))
                  all_goals first
                    | (exfalso; omega)
                    | (refine LEnd.intro (n + 1) (by omega) (by omega) ?_
                       rw [hSn]
                       conv => whnf
                       refine Retell.turn ⟨[0,1], 2, [], []⟩ (TurnOk.mk' _ _ [] [] (OutOk.lift _) rfl (by decide) zb trivial trivial rfl) zw zm)
            · obtain rfl : n = c.length := by omega
              rw [← hB]
              conv => whnf
              repeat' (first | ((first | refine zs1 ?_ | refine zs2 ?_ | refine zs3 ?_ | refine zs4 ?_ | refine zs5 ?_); conv => whnf) | ((first | apply zi1 | apply zi2 | apply zi3 | apply zi4 | apply zi5) <;> intro _ <;> first | (exfalso; omega) | contradiction | (conv => whnf)))
              refine LEnd.intro (st + 1) (by omega) (by omega) ?_
              generalize bfsK c W s (st + 1) = T
              conv => whnf
              refine Retell.turn ⟨[0,1], 2, [], []⟩ (TurnOk.mk' _ _ [] [] (OutOk.lift _) rfl (by decide) zb trivial trivial rfl) zw zm
        · obtain rfl : st = c.length := by omega
          rw [show bfsK c W s c.length = R by rw [hR]; rfl]
          conv => whnf
          repeat' (first | ((first | refine zs1 ?_ | refine zs2 ?_ | refine zs3 ?_ | refine zs4 ?_ | refine zs5 ?_); conv => whnf) | ((first | apply zi1 | apply zi2 | apply zi3 | apply zi4 | apply zi5) <;> intro _ <;> first | (exfalso; omega) | contradiction | (conv => whnf)))
          rw [show ints R = .fs 1 c.length (R.flatMap encI) by unfold ints; rw [hRl]]
          have hRf : (R.flatMap encI).length = c.length * 1 := by rw [flat_len encI_len, hRl]
          refine VOut.data 2 [(1, R.flatMap encI)] [] rfl zf (by exact FmAll.nil) zw
end Go.Proofs.YtccpfempgmkmbaaGreat

open Go.Vm
open Riv
namespace Go.Proofs.YtccpfempgmkmbaaGreat
set_option maxRecDepth 20000
set_option maxHeartbeats 4000000

theorem ofs (k : Nat) : ((k : Nat) : Int).toNat * (0 + 1) = k * 1 + 0 := by simp
end Go.Proofs.YtccpfempgmkmbaaGreat

open Go.Vm
open Riv
namespace Go.Proofs.YtccpfempgmkmbaaGreat
set_option maxRecDepth 20000
set_option maxHeartbeats 4000000
theorem MOk.le {W H : Nat} {c : List Int} (o : MOk W H c) : c.length ≤ 144 := by
  rw [o.len]
  exact Nat.le_trans (Nat.mul_le_mul o.w.2 o.h.2) (by decide)
end Go.Proofs.YtccpfempgmkmbaaGreat

open Go.Vm
open Riv
namespace Go.Proofs.YtccpfempgmkmbaaGreat
set_option maxRecDepth 20000
set_option maxHeartbeats 4000000

/-! ### Tables of any numbers: a sum that wraps never helps one to hold -/
abbrev wr (n : Int) : Int := IntKind.i64.wrap n
end Go.Proofs.YtccpfempgmkmbaaGreat

open Go.Vm
open Riv
namespace Go.Proofs.YtccpfempgmkmbaaGreat
set_option maxRecDepth 20000
set_option maxHeartbeats 4000000

structure GJ (o : Vm.Id → Option Blk) (l : List Int) (g : Hp) : Prop where
  o : g.outer = o
  li : ∃ m, (m = 1 ∨ 4 ≤ m) ∧ g.get (.loc 0) = some (.cells true [.gl (.loc m) 1 l.length]) ∧ g.get (.loc m) = some (.flat true (l.flatMap encI))
  b2 : g.get (.loc 2) = some .mark
def upG (m : Nat) (b : Blk) : List (Vm.Id × Blk) := [(.loc m, .dead), (.loc 0, b)]
theorem upG_ok {m : Nat} {b b' b2 : Blk} {g : Hp} (jm : g.get (.loc m) = some b2) (j0 : g.get (.loc 0) = some b') : ∀ p ∈ upG m b, g.get p.1 ≠ none := by
  intro p hp
  simp only [upG, List.mem_cons, List.not_mem_nil, or_false] at hp
  rcases hp with rfl | rfl <;> simp only
  · rw [jm]; simp
  · rw [j0]; simp
theorem GJ.step {o : Vm.Id → Option Blk} {l : List Int} {e : Int} {g : Hp} {m : Nat} (jo : g.outer = o) (j0 : g.get (.loc 0) = some (.cells true [.gl (.loc m) 1 l.length])) (jm : g.get (.loc m) = some (.flat true (l.flatMap encI))) (j2 : g.get (.loc 2) = some .mark) (hm : m = 1 ∨ 4 ≤ m) {b6 : Blk} (j3 : g.get (.loc 3) = some b6) :
    g.grows ((g.sets (upG m (.cells true [.gl g.fresh 1 (l.length + 1)]))).pushes [.flat true ((l ++ [e]).flatMap encI)]) ∧
    GJ o (l ++ [e]) ((g.sets (upG m (.cells true [.gl g.fresh 1 (l.length + 1)]))).pushes [.flat true ((l ++ [e]).flatMap encI)]) ∧
    ((g.sets (upG m (.cells true [.gl g.fresh 1 (l.length + 1)]))).pushes [.flat true ((l ++ [e]).flatMap encI)]).get (.loc 3) = some b6 := by
  have hgr := Hp.grows_sets (news := [.flat true ((l ++ [e]).flatMap encI)]) (upG_ok (b := .cells true [.gl g.fresh 1 (l.length + 1)]) jm j0)
  obtain ⟨go, gl⟩ := g
  simp only [Hp.get] at j0 j2 jm j3
  have l0 := (List.getElem?_eq_some_iff.1 j0).1
  have l2 := (List.getElem?_eq_some_iff.1 j2).1
  have l3 := (List.getElem?_eq_some_iff.1 j3).1
  have key : ∀ y, y < gl.length → y ≠ m → y ≠ 0 → ∀ (A B G : Blk), (((gl.set m A).set 0 B) ++ [G])[y]? = gl[y]? := by
    intro y hy h1 h2 A B G
    rw [List.getElem?_append_left (by simpa using hy), List.getElem?_set_ne (Ne.symm h2), List.getElem?_set_ne (Ne.symm h1)]
  refine ⟨hgr, ⟨jo, ⟨gl.length, .inr (by omega), ?_, ?_⟩, ?_⟩, ?_⟩
  · show (((gl.set m _).set 0 _) ++ [_])[0]? = _
    rw [List.getElem?_append_left (by simpa using l0), List.getElem?_set_self (by simpa using l0)]
    simp [Hp.fresh]
  · show (((gl.set m _).set 0 _) ++ [_])[gl.length]? = _
    rw [List.getElem?_append_right (by simp)]
    simp
  · exact (key 2 l2 (by omega) (by omega) _ _ _).trans j2
  · exact (key 3 l3 (by omega) (by omega) _ _ _).trans j3
end Go.Proofs.YtccpfempgmkmbaaGreat

open Go.Vm
open Riv
namespace Go.Proofs.YtccpfempgmkmbaaGreat
set_option maxRecDepth 20000
set_option maxHeartbeats 4000000

structure Rvd (l : List Int) (k : Nat) (m : List Int) : Prop where
  len : m.length = l.length
  le : 2 * k ≤ l.length + 1
  at' : ∀ j, j < l.length → m[j]? = if j < k ∨ l.length - k ≤ j then l[l.length - 1 - j]? else l[j]?
theorem Rvd.step {l m : List Int} {k : Nat} {a b : Int} (h : Rvd l k m) (hk : 2 * k + 1 < l.length) (ha : m[k]? = some a) (hb : m[l.length - 1 - k]? = some b) : Rvd l (k + 1) ((m.set k b).set (l.length - 1 - k) a) where
  len := by simp [h.len]
  le := by omega
  at' := fun j hj => by
    have hl := h.len
    have e1 := h.at' k (by omega)
    have e2 := h.at' (l.length - 1 - k) (by omega)
    rw [ha, if_neg (by omega)] at e1
    rw [hb, if_neg (by omega)] at e2
    rw [List.getElem?_set, List.length_set]
    by_cases h1 : l.length - 1 - k = j
    · rw [if_pos h1, if_pos (by omega), if_pos (by omega), e1]
      congr 1; omega
    · rw [if_neg h1, List.getElem?_set]
      by_cases h2 : k = j
      · rw [if_pos h2, if_pos (by omega), if_pos (by omega), e2]
        subst h2; rfl
      · rw [if_neg h2, h.at' j hj]
        have : (j < k ∨ l.length - k ≤ j) ↔ (j < k + 1 ∨ l.length - (k + 1) ≤ j) := by omega
        simp only [this]
theorem Rvd.done {l m : List Int} {k : Nat} (h : Rvd l k m) (hk : l.length ≤ 2 * k + 1) : m = l.reverse := by
  apply List.ext_getElem?
  intro j
  have hl := h.len
  rcases Nat.lt_or_ge j l.length with h1 | h1
  · rw [h.at' j h1, List.getElem?_reverse h1]
    split
    · rfl
    · congr 1; omega
  · rw [List.getElem?_eq_none (by omega), List.getElem?_eq_none (by simpa using h1)]
theorem vc_reverse (l : List Int) (i : Vm.Id) (h : Hp) (hb : h.get i = some (.flat true (l.flatMap encI))) (hn : l.length ≤ 4000000) :
    VC Tryz.prog 95 [.gl i 1 l.length] h (.tuple []) (h.set i (.flat true (l.reverse.flatMap encI))) := by
  have hd : ∀ p ∈ [(i, Blk.flat true (l.reverse.flatMap encI))], h.get p.1 ≠ none := by
    intro p hp
    simp only [List.mem_cons, List.not_mem_nil, or_false] at hp
    subst hp; simp only; rw [hb]; simp
  have hgr : h.grows (h.set i (.flat true (l.reverse.flatMap encI))) := h.grows_set _ _
  refine VC.body Tryz.func95 rfl Tryz.ntmps95 Tryz.call95 hgr rfl ?_; conv => whnf
  repeat (first | ((first | refine zs1 ?_ | refine zs2 ?_ | refine zs3 ?_ | refine zs4 ?_ | refine zs5 ?_ | refine zs6 [] ?_); conv => whnf))
  have hlift : h.lift i = some (.flat true (l.flatMap encI)) := get_out hb []
  refine VCode.lpo (fun x : Nat × List Int => [(0, .gl (.out i) 1 l.length), (2, I x.1), (3, I ((l.length : Int) - 1 - x.1))]) (fun x => outW h.lift i (.flat true (x.2.flatMap encI))) (fun _ => []) (fun x => Rvd l x.1 x.2) (fun x => l.length - x.1) (0, l) ⟨rfl, by omega, fun j hj => ?_⟩ (outW_id hlift) ?_ ?_
  · rw [if_neg (by omega)]
  · conv => whnf
    refine Retell.turn ⟨[], 0, [], []⟩ (TurnOk.mk' _ _ [] [] (OutOk.outW (OutOk.lift _) rfl) rfl (by decide) zb trivial trivial rfl) zw zm
  · rintro ⟨k, m⟩ hr
    simp only at hr ⊢
    have hl := hr.len
    conv => whnf
    refine VIte.dec (fun h3 => ?_) (fun h3 => ?_)
    · have ha : m[k]? = some m[k] := List.getElem?_eq_getElem (by omega)
      have hc : m[l.length - 1 - k]? = some m[l.length - 1 - k] := List.getElem?_eq_getElem (by omega)
      generalize m[k] = a at ha
      generalize m[l.length - 1 - k] = c at hc
      have hst := hr.step (by omega) ha hc
      have hc2 : (m.set k c)[l.length - 1 - k]? = some c := by rw [List.getElem?_set, if_neg (by omega)]; exact hc
      conv => whnf
      repeat' (first | ((first | refine zs1 ?_ | refine zs2 ?_ | refine zs3 ?_ | refine zs4 ?_ | refine zs5 ?_ | refine zs6 [] ?_); conv => whnf) | ((first | apply zi1 | apply zi2 | apply zi3 | apply zi4 | apply zi5) <;> intro _ <;> conv => whnf) | (refine VLd.recc encI_len (l.length - 1 - k) 0 rfl rfl (outW_get _ _ _ _) hc (by decide) rfl (by simp only [Nat.zero_add, Nat.mul_one]; omega) ?_; conv => whnf) | (refine VLd.recc encI_len k 0 rfl rfl (outW_get _ _ _ _) ha (by decide) rfl (by simp only [Nat.zero_add, Nat.mul_one]; omega) ?_; conv => whnf))
      refine VMem.setRec encI_len k 0 c rfl rfl (outW_get _ _ _ _) ha (by decide) rfl (by simp only [Nat.zero_add, Nat.mul_one]; omega) ?_
      conv => whnf
      repeat (first | ((first | refine zs1 ?_ | refine zs2 ?_ | refine zs3 ?_ | refine zs4 ?_ | refine zs5 ?_ | refine zs6 [] ?_); conv => whnf))
      refine VMem.setRec encI_len (l.length - 1 - k) 0 a rfl rfl (outW_get _ _ _ _) hc2 (by decide) rfl (by simp only [Nat.zero_add, Nat.mul_one]; omega) ?_
      conv => whnf
      repeat (first | ((first | refine zs1 ?_ | refine zs2 ?_ | refine zs3 ?_ | refine zs4 ?_ | refine zs5 ?_ | refine zs6 [] ?_); conv => whnf))
      refine LEndO.intro (k + 1, (m.set k c).set (l.length - 1 - k) a) hst (by simp only; omega) ((outW_same (outW _ _ _) _ _ _).trans (outW_same _ _ _ _)) ?_
      conv => whnf
      refine Retell.turn ⟨[], 0, [], []⟩ (TurnOk.mk' _ _ [] [] (OutOk.outW (OutOk.lift _) rfl) rfl (by decide) zb trivial trivial rfl) zw zm
    · conv => whnf
      have hm := hr.done (by omega)
      subst hm
      have := VOut.upd (loc := []) (r1 := .tuple []) (r := .tuple []) [(i, .flat true (l.reverse.flatMap encI))] [] [] 0 rfl hd (by simp) rfl (by intro k b hk; simp at hk) (fun σ x hx => hx) (outer := outW h.lift i (.flat true (l.reverse.flatMap encI))) rfl
      have he : (h.sets [(i, Blk.flat true (l.reverse.flatMap encI))]).pushes [] = h.set i (.flat true (l.reverse.flatMap encI)) := by simp [Hp.sets, Hp.pushes]
      rw [he] at this
      exact this
/-! ### Ways -/
def natI (l : List Nat) : List Int := l.map fun n : Nat => (n : Int)
end Go.Proofs.YtccpfempgmkmbaaGreat

open Go.Vm
open Riv
namespace Go.Proofs.YtccpfempgmkmbaaGreat
set_option maxRecDepth 20000
set_option maxHeartbeats 4000000
theorem natI_at {ks : List Nat} {i : Nat} (hi : i < ks.length) : (natI ks)[i]? = some ((ks.getD i 0 : Nat) : Int) := by
  unfold natI
  rw [List.getElem?_map, List.getD_eq_getElem?_getD, List.getElem?_eq_getElem hi]; rfl
theorem natI_len (ks : List Nat) : (natI ks).length = ks.length := by unfold natI; rw [List.length_map]
end Go.Proofs.YtccpfempgmkmbaaGreat

open Go.Vm
open Riv
open Sea (nrK oneS ds)
namespace Go.Vm
theorem VMem.appNilGl {P : Program} {α : Type} {enc : α → List D} {t ty : TypeId} {e esz bytes : Nat} {zero : List V} {s_ : Nat} {a_ : Bool} {z_ : V} {h : Hp} {j : Id} {rw : Bool} {K : V → Hp → Prop} (a : α) (hm : ∀ a, (enc a).length = esz) (hTt : tiOf P t = some ⟨.slice e esz bytes zero, s_, a_, z_⟩)
    (hj : h.get j = some (.flat rw (enc a))) (hby : Nat.ble bytes 1048576 = true) (hK : K (.gl h.fresh esz 1) (h.push (.flat true ([a].flatMap enc)))) : VMem P (opAppend #[t, t] ty) [.nilslice, .gl j esz 1] h K :=
  VMem.intro (Vm.appNilX (l2 := [a]) (tiOf_ok P) hTt (by
    simp only [SegOf]
    refine ⟨trivial, rfl, _, rw, (enc a).map D.v, hj, rfl, ?_, ?_⟩
    · rw [List.length_map, hm]; omega
    · rw [List.take_of_length_le (by rw [List.length_map, hm]; omega)]; simp) rfl (mul_bd hby (show 1 ≤ 134217728 by decide)) (show 1 ≤ 4611686018427387904 by decide)) hK
end Go.Vm
namespace Go.Proofs.YtccpfempgmkmbaaGreat
set_option maxRecDepth 20000
set_option maxHeartbeats 4000000

/-! ### Whose a place is -/
theorem sq_bd {a m : Int} (h : -m ≤ a ∧ a ≤ m) : 0 ≤ a * a ∧ a * a ≤ m * m := by
  refine ⟨Sea.sq_nonneg a, ?_⟩
  rcases Int.le_total 0 a with h1 | h1
  · exact Int.mul_le_mul h.2 h.2 h1 (by omega)
  · rw [← Int.neg_mul_neg a a]
    exact Int.mul_le_mul (by omega) (by omega) (by omega) (by omega)
theorem vc_less (a b c d : Int) (h : Hp) (ha : -1000 ≤ a ∧ a ≤ 1000) (hb : -1000 ≤ b ∧ b ≤ 1000) (hc : -1000 ≤ c ∧ c ≤ 1000) (hd : -1000 ≤ d ∧ d ≤ 1000) : VC Tryz.prog 56 [vPt a b, vPt c d] h (vPt (a - c) (b - d)) h := by
  unfold vPt
  refine VC.body Tryz.func56 rfl Tryz.ntmps56 Tryz.call56 (h.grows_refl) rfl ?_; conv => whnf
  repeat' (first | ((first | refine zs1 ?_ | refine zs2 ?_ | refine zs3 ?_ | refine zs4 ?_ | refine zs5 ?_); conv => whnf) | ((first | apply zi1 | apply zi2 | apply zi3 | apply zi4 | apply zi5) <;> intro _ <;> first | (exfalso; omega) | contradiction | (conv => whnf)))
  exact VOut.same rfl
theorem vc_dot (a b : Int) (h : Hp) (ha : -2000 ≤ a ∧ a ≤ 2000) (hb : -2000 ≤ b ∧ b ≤ 2000) : VC Tryz.prog 57 [vPt a b, vPt a b] h (I (a * a + b * b)) h := by
  have h1 := sq_bd ha
  have h2 := sq_bd hb
  unfold vPt
  refine VC.body Tryz.func57 rfl Tryz.ntmps57 Tryz.call57 (h.grows_refl) rfl ?_; conv => whnf
  repeat' (first | ((first | refine zs1 ?_ | refine zs2 ?_ | refine zs3 ?_ | refine zs4 ?_ | refine zs5 ?_); conv => whnf) | ((first | apply zi1 | apply zi2 | apply zi3 | apply zi4 | apply zi5) <;> intro _ <;> first | (exfalso; omega) | contradiction | (conv => whnf)))
  exact VOut.same rfl
theorem vc_far (a : Sit) (x y : Int) (h : Hp) (ha : -600 ≤ a.x ∧ a.x ≤ 600) (hb : -600 ≤ a.y ∧ a.y ≤ 600) (hx : -300 ≤ x ∧ x ≤ 300) (hy : -300 ≤ y ∧ y ≤ 300) : VC Tryz.prog 55 [vSt a, .fp [DI (2 * x), DI (2 * y)]] h (I (ds a.x a.y x y)) h := by
  have c1 := fun h => vc_less a.x a.y (2 * x) (2 * y) h (by omega) (by omega) (by omega) (by omega)
  have c2 := fun h => vc_dot (a.x - 2 * x) (a.y - 2 * y) h (by omega) (by omega)
  unfold vPt at c1 c2
  rw [show (a.x - 2 * x) * (a.x - 2 * x) + (a.y - 2 * y) * (a.y - 2 * y) = ds a.x a.y x y from rfl] at c2
  generalize ds a.x a.y x y = r at *
  refine VC.body Tryz.func55 rfl Tryz.ntmps55 Tryz.call55 (h.grows_refl) rfl ?_; conv => whnf
  repeat' (first | ((first | refine zs1 ?_ | refine zs2 ?_ | refine zs3 ?_ | refine zs4 ?_ | refine zs5 ?_); conv => whnf) | ((first | apply zi1 | apply zi2 | apply zi3 | apply zi4 | apply zi5) <;> intro _ <;> first | (exfalso; omega) | contradiction | (conv => whnf)) | (refine VCall.intro (c1 _) ?_; conv => whnf) | (refine VCall.intro (c2 _) ?_; conv => whnf))
  exact VOut.same rfl
def dHow (x y : Int) : D := .func (.func 55) [] [.pt [DI (2 * x), DI (2 * y)]]
def vHow (x y : Int) : V := .agg [.func (.func 55) [] [.fp [DI (2 * x), DI (2 * y)]]]
theorem vc_sfrom (x y : Int) (h : Hp) (hx : -300 ≤ x ∧ x ≤ 300) (hy : -300 ≤ y ∧ y ≤ 300) : VC Tryz.prog 36 [vPt x y] h (vHow x y) h := by
  unfold vPt vHow
  refine VC.body Tryz.func36 rfl Tryz.ntmps36 Tryz.call36 (h.grows_refl) rfl ?_; conv => whnf
  repeat' (first | ((first | refine zs1 ?_ | refine zs2 ?_ | refine zs3 ?_ | refine zs4 ?_ | refine zs5 ?_); conv => whnf) | ((first | apply zi1 | apply zi2 | apply zi3 | apply zi4 | apply zi5) <;> intro _ <;> first | (exfalso; omega) | contradiction | (conv => whnf)))
  refine VOut.data 9 [(2, [DI (2 * x), DI (2 * y)])] [] rfl zf (by exact FmAll.nil) zw
def zSt : Sit := ⟨0, 0, 0⟩
def stC (S : List Sit) (i : Nat) : Int := (S.getD i zSt).s
def fC (S : List Sit) (x y : Int) (i : Nat) : Int := ds (S.getD i zSt).x (S.getD i zSt).y x y
def SOk (S : List Sit) : Prop := ∀ a ∈ S, (-600 ≤ a.x ∧ a.x ≤ 600) ∧ (-600 ≤ a.y ∧ a.y ≤ 600) ∧ 0 ≤ a.s ∧ a.s ≤ 4
theorem nrK_sz (f : Nat → Int) : ∀ k, (nrK f k).1.length ≤ k
  | 0 => by simp [nrK]
  | k + 1 => by
    have ih := nrK_sz f k
    rw [nrK]
    split
    · simp
    · split
      · simp; omega
      · omega
def wk (c : Cst) (S : List Sit) : List D := [.sl 3 c.bs.length (c.bs.flatMap encBs), .sl 4 c.ie.length (c.ie.flatMap encIe), .sl 3 S.length (S.flatMap encSt)]
theorem vc_nearest (c : Cst) (S : List Sit) (x y : Int) (h : Hp) (hS : SOk S) (hn : S.length ≤ 4000000) (hx : -300 ≤ x ∧ x ≤ 300) (hy : -300 ≤ y ∧ y ≤ 300) :
    VC Tryz.prog 35 [.fp (wk c S), vHow x y] h (.tuple [ints (natI (nrK (fC S x y) S.length).1), I (nrK (fC S x y) S.length).2]) h := by
  have cF := fun a h ha => vc_far a x y h (hS a ha).1 (hS a ha).2.1 hx hy
  have hsz := nrK_sz (fC S x y)
  have hst : ∀ k, nrK (fC S x y) (k + 1) = _ := fun k => rfl
  have h0 : nrK (fC S x y) 0 = ([], 0) := rfl
  have hfa : ∀ k a, S[k]? = some a → fC S x y k = ds a.x a.y x y := fun k a h => by
    unfold fC; rw [List.getD_eq_getElem?_getD, h]; rfl
  have hst : ∀ k a, S[k]? = some a → nrK (fC S x y) (k + 1) = if k = 0 ∨ ds a.x a.y x y < (nrK (fC S x y) k).2 then ([k], ds a.x a.y x y) else if ds a.x a.y x y = (nrK (fC S x y) k).2 then ((nrK (fC S x y) k).1 ++ [k], (nrK (fC S x y) k).2) else nrK (fC S x y) k := fun k a h => by
    rw [nrK, hfa k a h]
  clear hfa
  obtain ⟨wD, hwD⟩ : ∃ w, w = wk c S := ⟨_, rfl⟩
  generalize nrK (fC S x y) = N at *
  unfold vHow
  obtain ⟨bs, ie⟩ := c
  unfold wk
  dsimp only
  refine VC.bodyC 99 Tryz.func35 rfl Tryz.ntmps35 Tryz.call35 (h.grows_refl) rfl ?_
  conv => whnf
  repeat' (first | ((first | refine zs1 ?_ | refine zs2 ?_ | refine zs3 ?_ | refine zs4 ?_ | refine zs5 ?_); conv => whnf) | ((first | apply zi1 | apply zi2 | apply zi3 | apply zi4 | apply zi5) <;> intro _ <;> first | (exfalso; omega) | contradiction | (conv => whnf)))
  refine VCode.lpC (outer := h.lift) (marks := []) 99 (fun k : Nat => [(3, .fp [dHow x y]), (6, .gl (.loc 0) 1 (natI (N k).1).length), (7, I (N k).2), (14, .fs 3 S.length (S.flatMap encSt)), (15, I S.length), (16, I k)]) (fun k => [.flat true ((natI (N k).1).flatMap encI)]) (fun k => k ≤ S.length) (fun k => S.length - k) 0 (Nat.zero_le _) ?_ ?_
  · rw [h0]
    conv => whnf
    refine Retell.turn ⟨[9], 9, [(0, [dHow x y])], []⟩ (TurnOk.mk' _ _ [(0, [dHow x y])] [] (OutOk.lift _) rfl (by decide) zb zr trivial rfl) zw zm
  · intro k hk
    rcases Nat.lt_or_ge k S.length with h3 | h3
    · have ha : S[k]? = some S[k] := List.getElem?_eq_getElem h3
      have hm := List.getElem_mem h3
      have hs := hst k _ ha
      have cf := fun h => cF S[k] h hm
      have hz := hsz k
      have hnl : (natI (N k).1).length ≤ 4000000 := by rw [natI_len]; omega
      have hap : natI ((N k).1 ++ [k]) = natI (N k).1 ++ [(k : Int)] := by unfold natI; rw [List.map_append]; rfl
      clear hst hsz hk cF
      generalize S[k] = a at *
      generalize ds a.x a.y x y = r at *
      generalize N k = p at *
      obtain ⟨L, q⟩ := p
      dsimp only at *
      by_cases hc : k = 0 ∨ r < q
      · rw [if_pos hc] at hs
        conv => whnf
        repeat' (first | ((first | refine zs1 ?_ | refine zs2 ?_ | refine zs3 ?_ | refine zs4 ?_ | refine zs5 ?_); conv => whnf) | ((first | apply zi1 | apply zi2 | apply zi3 | apply zi4 | apply zi5) <;> intro _ <;> first | (exfalso; omega) | contradiction | (conv => whnf)) | (refine VAny.ix encSt_len k rfl rfl ha ?_; conv => whnf) | (refine VCall.intro (cf _) ?_; conv => whnf) | (refine VMem.appNilGl (k : Int) encI_len rfl rfl rfl ?_; conv => whnf))
        all_goals first
          | (exfalso; omega)
          | (refine LEnd.intro (k + 1) (by omega) (by omega) ?_
             rw [hs]
             conv => whnf
             refine Retell.turn ⟨[3], 9, [], []⟩ (TurnOk.mk' _ _ [] [] (OutOk.lift _) rfl (by decide) zb trivial trivial rfl) zw zm)
      · rw [if_neg hc] at hs
        by_cases he : r = q
        · rw [if_pos he] at hs
          conv => whnf
          repeat' (first | ((first | refine zs1 ?_ | refine zs2 ?_ | refine zs3 ?_ | refine zs4 ?_ | refine zs5 ?_); conv => whnf) | ((first | apply zi1 | apply zi2 | apply zi3 | apply zi4 | apply zi5) <;> intro _ <;> first | (exfalso; omega) | contradiction | (conv => whnf)) | (refine VAny.ix encSt_len k rfl rfl ha ?_; conv => whnf) | (refine VCall.intro (cf _) ?_; conv => whnf) | (refine VMem.app1 (l := natI L) (k : Int) encI_len rfl rfl rfl rfl rfl (by omega) ?_; conv => whnf))
          all_goals first
            | (exfalso; omega)
            | (refine LEnd.intro (k + 1) (by omega) (by omega) ?_
               rw [hs]
               dsimp only
               rw [hap]
               conv => whnf
               rw [List.length_append]
               refine Retell.turn ⟨[3], 9, [], []⟩ (TurnOk.mk' _ _ [] [] (OutOk.lift _) rfl (by decide) zb trivial trivial rfl) zw zm)
        · rw [if_neg he] at hs
          conv => whnf
          repeat' (first | ((first | refine zs1 ?_ | refine zs2 ?_ | refine zs3 ?_ | refine zs4 ?_ | refine zs5 ?_); conv => whnf) | ((first | apply zi1 | apply zi2 | apply zi3 | apply zi4 | apply zi5) <;> intro _ <;> first | (exfalso; omega) | contradiction | (conv => whnf)) | (refine VAny.ix encSt_len k rfl rfl ha ?_; conv => whnf) | (refine VCall.intro (cf _) ?_; conv => whnf))
          all_goals first
            | (exfalso; omega)
            | (refine LEnd.intro (k + 1) (by omega) (by omega) ?_
               rw [hs]
               conv => whnf
               refine Retell.turn ⟨[0], 9, [], []⟩ (TurnOk.mk' _ _ [] [] (OutOk.lift _) rfl (by decide) zb trivial trivial rfl) zw zm)
    · obtain rfl : k = S.length := by omega
      generalize N S.length = p at *
      conv => whnf
      repeat' (first | ((first | refine zs1 ?_ | refine zs2 ?_ | refine zs3 ?_ | refine zs4 ?_ | refine zs5 ?_); conv => whnf) | ((first | apply zi1 | apply zi2 | apply zi3 | apply zi4 | apply zi5) <;> intro _ <;> first | (exfalso; omega) | contradiction | (conv => whnf)))
      refine VOut.data 9 [(0, (natI p.1).flatMap encI)] [] rfl zf (by exact FmAll.nil) zw
end Go.Proofs.YtccpfempgmkmbaaGreat

open Go.Vm
open Riv
open Sea (nrK oneS ds)
namespace Go.Proofs.YtccpfempgmkmbaaGreat
set_option maxRecDepth 20000
set_option maxHeartbeats 4000000

theorem vc_one1 (c : Cst) (S : List Sit) (i s : Int) (h : Hp) (hi : 0 ≤ i ∧ i < S.length) (hn : S.length ≤ 4000000) : VC Tryz.prog 58 ([I i] ++ D.vs [.pt [.pt (wk c S)], .pt [DI s]]) h (B (decide (stC S i.toNat ≠ s))) h := by
  have ha : S[i.toNat]? = some S[i.toNat] := List.getElem?_eq_getElem (by omega)
  have e : stC S i.toNat = (S[i.toNat]).s := by unfold stC; rw [List.getD_eq_getElem?_getD, ha]; rfl
  rw [e]
  generalize S[i.toNat] = a at *
  have e2 : (a.s != s) = decide (a.s ≠ s) := by rw [Bool.eq_iff_iff]; simp
  rw [← e2]
  refine VC.body Tryz.func58 rfl Tryz.ntmps58 Tryz.call58 (h.grows_refl) rfl ?_; conv => whnf
  repeat' (first | ((first | refine zs1 ?_ | refine zs2 ?_ | refine zs3 ?_ | refine zs4 ?_ | refine zs5 ?_); conv => whnf) | ((first | apply zi1 | apply zi2 | apply zi3 | apply zi4 | apply zi5) <;> intro _ <;> first | (exfalso; omega) | contradiction | (conv => whnf)))
  refine zs6 [] ?_
  conv => whnf
  repeat' (first | ((first | refine zs1 ?_ | refine zs2 ?_ | refine zs3 ?_ | refine zs4 ?_ | refine zs5 ?_); conv => whnf) | ((first | apply zi1 | apply zi2 | apply zi3 | apply zi4 | apply zi5) <;> intro _ <;> first | (exfalso; omega) | contradiction | (conv => whnf)) | (refine VAny.ix encSt_len i.toNat (by omega) rfl ha ?_; conv => whnf))
  exact VOut.same rfl
theorem vc_one (c : Cst) (S : List Sit) (L : List Nat) (h : Hp) (hL : L ≠ []) (hl : ∀ i ∈ L, i < S.length) (hn : S.length ≤ 4000000) (hm : L.length ≤ 4000000) : VC Tryz.prog 37 [.fp (wk c S), ints (natI L)] h (I (oneS (stC S) L)) h := by
  obtain ⟨i0, L', rfl⟩ : ∃ a l, L = a :: l := by
    cases L with
    | nil => exact absurd rfl hL
    | cons a l => exact ⟨a, l, rfl⟩
  have hi0 := hl i0 List.mem_cons_self
  have ha : S[i0]? = some S[i0] := List.getElem?_eq_getElem hi0
  have e0 : stC S i0 = (S[i0]).s := by unfold stC; rw [List.getD_eq_getElem?_getD, ha]; rfl
  have hx : (natI (i0 :: L'))[0]? = some (i0 : Int) := rfl
  have cC := fun h => vc_coDI (natI (i0 :: L')) (fun i => decide (stC S i.toNat ≠ stC S i0)) 58 [.pt [.pt (wk c S)], .pt [DI (stC S i0)]] (by rw [natI_len]; exact hm) (fun e h he => vc_one1 c S e (stC S i0) h (by
    obtain ⟨n, hn2, rfl⟩ := List.mem_map.1 he
    have := hl n hn2; omega) hn) h
  have eA : ((natI (i0 :: L')).any fun i => decide (stC S i.toNat ≠ stC S i0)) = (i0 :: L').any fun i => decide (stC S i ≠ stC S i0) := by
    unfold natI
    rw [List.any_map]; rfl
  rw [eA] at cC
  have hO : oneS (stC S) (i0 :: L') = if (i0 :: L').any (fun i => decide (stC S i ≠ stC S i0)) then -1 else stC S i0 := rfl
  rw [hO]
  clear hO eA hl hL
  generalize ((i0 :: L').any fun i => decide (stC S i ≠ stC S i0)) = q at *
  rw [e0] at *
  clear e0
  generalize S[i0] = a at *
  obtain ⟨wD, hwD⟩ : ∃ w, w = wk c S := ⟨_, rfl⟩
  obtain ⟨bs, ie⟩ := c
  unfold wk at cC ⊢
  dsimp only at *
  have hln : (natI (i0 :: L')).length ≤ 4000000 := by rw [natI_len]; exact hm
  have hlp : 0 < (natI (i0 :: L')).length := by rw [natI_len]; simp
  generalize natI (i0 :: L') = M at *
  refine VC.bodyC 2 Tryz.func37 rfl Tryz.ntmps37 Tryz.call37 (h.grows_refl) rfl ?_
  conv => whnf
  repeat' (first | ((first | refine zs1 ?_ | refine zs2 ?_ | refine zs3 ?_ | refine zs4 ?_ | refine zs5 ?_); conv => whnf) | ((first | apply zi1 | apply zi2 | apply zi3 | apply zi4 | apply zi5) <;> intro _ <;> first | (exfalso; omega) | contradiction | (conv => whnf)))
  refine zs6 [] ?_
  conv => whnf
  repeat' (first | ((first | refine zs1 ?_ | refine zs2 ?_ | refine zs3 ?_ | refine zs4 ?_ | refine zs5 ?_); conv => whnf) | ((first | apply zi1 | apply zi2 | apply zi3 | apply zi4 | apply zi5) <;> intro _ <;> first | (exfalso; omega) | contradiction | (conv => whnf)) | (refine VAny.ix encI_len 0 rfl rfl hx ?_; conv => whnf) | (refine VAny.ix encSt_len i0 rfl rfl ha ?_; conv => whnf))
  refine VCut.at' (outer := h.lift) (marks := []) 99 [(1, ints M), (2, .fp [.pt [.sl 3 bs.length (bs.flatMap encBs), .sl 4 ie.length (ie.flatMap encIe), .sl 3 S.length (S.flatMap encSt)]]), (5, .fp [DI a.s])] [] ?_ ?_
  · conv => whnf
    refine Retell.turn ⟨[], 9, [(0, [.pt [.sl 3 bs.length (bs.flatMap encBs), .sl 4 ie.length (ie.flatMap encIe), .sl 3 S.length (S.flatMap encSt)]]), (1, [DI a.s])], []⟩ (TurnOk.mk' _ _ [(0, [.pt [.sl 3 bs.length (bs.flatMap encBs), .sl 4 ie.length (ie.flatMap encIe), .sl 3 S.length (S.flatMap encSt)]]), (1, [DI a.s])] [] (OutOk.lift _) rfl (by decide) zb zr trivial rfl) zw zm
  conv => whnf
  repeat' (first | ((first | refine zs1 ?_ | refine zs2 ?_ | refine zs3 ?_ | refine zs4 ?_ | refine zs5 ?_); conv => whnf) | ((first | apply zi1 | apply zi2 | apply zi3 | apply zi4 | apply zi5) <;> intro _ <;> first | (exfalso; omega) | contradiction | (conv => whnf)) | (refine VCall.intro (cC _) ?_; conv => whnf))
  all_goals (rename_i e; subst e; exact VOut.same rfl)
theorem SOk_sites {c : Cst} (o : COk c) : SOk (sitesC c) := by
  intro a ha
  unfold sitesC at ha
  rcases List.mem_append.1 ha with h | h
  · obtain ⟨b, hb, rfl⟩ := List.mem_map.1 h
    have := o.b b hb
    unfold sB; dsimp only; omega
  · obtain ⟨i, hi, h2⟩ := List.mem_flatMap.1 h
    have h3 := o.i i hi
    have h4 := o.o i hi
    have hof : c.bs[i.o.toNat]? = some (c.bs.getD i.o.toNat zBs) := by rw [List.getD_eq_getElem?_getD, List.getElem?_eq_getElem (by omega)]; rfl
    have h5 := o.b _ (List.mem_of_getElem? hof)
    unfold sI at h2
    generalize c.bs.getD i.o.toNat zBs = f at *
    split at h2
    · rw [List.mem_singleton] at h2; subst h2; dsimp only; omega
    · split at h2
      · rw [List.mem_singleton] at h2; subst h2; dsimp only; omega
      · cases h2
theorem sites_len {c : Cst} (o : COk c) : 0 < (sitesC c).length ∧ (sitesC c).length ≤ 17 := by
  have h := isA_len c c.ie.length
  have e : isA c c.ie.length = sitesC c := by unfold isA sitesC; rw [List.take_of_length_le (Nat.le_refl _)]
  have := o.nb
  have := o.ni
  rw [e] at h
  refine ⟨?_, by omega⟩
  unfold sitesC
  rw [List.length_append, List.length_map]; omega
def whC (c : Cst) (x y : Int) : Int := oneS (stC (sitesC c)) (nrK (fC (sitesC c) x y) (sitesC c).length).1
theorem vc_whose (c : Cst) (x y : Int) (h : Hp) (o : COk c) (hx : -300 ≤ x ∧ x ≤ 300) (hy : -300 ≤ y ∧ y ≤ 300) : VC Tryz.prog 17 [.fp (encWk c), vPt x y] h (I (whC c x y)) h := by
  have hs := SOk_sites o
  obtain ⟨hl1, hl2⟩ := sites_len o
  have c1 := fun h => vc_nearest c (sitesC c) x y h hs (by omega) hx hy
  have c0 := fun h => vc_sfrom x y h hx hy
  obtain ⟨n, hn⟩ : ∃ n, (sitesC c).length = n + 1 := ⟨(sitesC c).length - 1, by omega⟩
  have ok := Sea.nrK_ok (fC (sitesC c) x y) n
  rw [← hn] at ok
  have hsz := nrK_sz (fC (sitesC c) x y) (sitesC c).length
  have c2 := fun h => vc_one c (sitesC c) (nrK (fC (sitesC c) x y) (sitesC c).length).1 h ok.ne (fun i hi => ((ok.mem i).1 hi).1) (by omega) (by omega)
  show VC Tryz.prog 17 [.fp (wk c (sitesC c)), vPt x y] h (I (oneS (stC (sitesC c)) (nrK (fC (sitesC c) x y) (sitesC c).length).1)) h
  clear ok hs
  generalize oneS (stC (sitesC c)) (nrK (fC (sitesC c) x y) (sitesC c).length).1 = r at *
  have hnl : (natI (nrK (fC (sitesC c) x y) (sitesC c).length).1).length ≤ 4000000 := by rw [natI_len]; omega
  clear hsz
  generalize natI (nrK (fC (sitesC c) x y) (sitesC c).length).1 = M at *
  generalize (nrK (fC (sitesC c) x y) (sitesC c).length).2 = q at *
  generalize wk c (sitesC c) = W at *
  unfold vPt vHow at *
  refine VC.body Tryz.func17 rfl Tryz.ntmps17 Tryz.call17 (h.grows_refl) rfl ?_; conv => whnf
  repeat' (first | ((first | refine zs1 ?_ | refine zs2 ?_ | refine zs3 ?_ | refine zs4 ?_ | refine zs5 ?_); conv => whnf) | ((first | apply zi1 | apply zi2 | apply zi3 | apply zi4 | apply zi5) <;> intro _ <;> first | (exfalso; omega) | contradiction | (conv => whnf)) | (refine VCall.intro (c0 _) ?_; conv => whnf) | (refine VCall.intro (c1 _) ?_; conv => whnf) | (refine VCall.intro (c2 _) ?_; conv => whnf))
  exact VOut.same rfl
theorem vc_asked (c : Cst) (h : Hp) (o : COk c) (hc : NoCl (sitesC c)) : VC Tryz.prog 33 [vCt c] h (.tuple [.fp (encWk c), I 0]) h := by
  have c0 := fun h => vc_right c h o
  have c1 := fun h => vc_opened c h o hc
  unfold encWk at *
  unfold vCt at *
  refine VC.body Tryz.func33 rfl Tryz.ntmps33 Tryz.call33 (h.grows_refl) rfl ?_; conv => whnf
  repeat' (first | ((first | refine zs1 ?_ | refine zs2 ?_ | refine zs3 ?_ | refine zs4 ?_ | refine zs5 ?_); conv => whnf) | ((first | apply zi1 | apply zi2 | apply zi3 | apply zi4 | apply zi5) <;> intro _ <;> first | (exfalso; omega) | contradiction | (conv => whnf)) | (refine VCall.intro (c0 _) ?_; conv => whnf) | (refine VCall.intro (c1 _) ?_; conv => whnf))
  exact VOut.same rfl
theorem vc_placed (c : Cst) (x y : Int) (h : Hp) (o : COk c) (hc : NoCl (sitesC c)) (hx : -300 ≤ x ∧ x ≤ 300) (hy : -300 ≤ y ∧ y ≤ 300) : VC Tryz.prog 16 [vCt c, vPt x y] h (.tuple [.fp (encWk c), I 0]) h := by
  have c0 := fun h => vc_asked c h o hc
  have c1 := fun h => vc_known x y h
  unfold knB at c1
  rw [decide_eq_true ⟨hx, hy⟩] at c1
  generalize encWk c = W at *
  unfold vCt vPt at *
  refine VC.body Tryz.func16 rfl Tryz.ntmps16 Tryz.call16 (h.grows_refl) rfl ?_; conv => whnf
  repeat' (first | ((first | refine zs1 ?_ | refine zs2 ?_ | refine zs3 ?_ | refine zs4 ?_ | refine zs5 ?_); conv => whnf) | ((first | apply zi1 | apply zi2 | apply zi3 | apply zi4 | apply zi5) <;> intro _ <;> first | (exfalso; omega) | contradiction | (conv => whnf)) | (refine VCall.intro (c0 _) ?_; conv => whnf) | (refine VCall.intro (c1 _) ?_; conv => whnf))
  exact VOut.same rfl
theorem vc_Whose (c : Cst) (x y : Int) (h : Hp) (o : COk c) (hc : NoCl (sitesC c)) (hx : -300 ≤ x ∧ x ≤ 300) (hy : -300 ≤ y ∧ y ≤ 300) : VC Tryz.prog 10 [vCt c, vPt x y] h (.tuple [I (whC c x y), I 0]) h := by
  have c0 := fun h => vc_placed c x y h o hc hx hy
  have c1 := fun h => vc_whose c x y h o hx hy
  generalize whC c x y = r at *
  generalize encWk c = W at *
  unfold vCt vPt at *
  refine VC.body Tryz.func10 rfl Tryz.ntmps10 Tryz.call10 (h.grows_refl) rfl ?_; conv => whnf
  repeat' (first | ((first | refine zs1 ?_ | refine zs2 ?_ | refine zs3 ?_ | refine zs4 ?_ | refine zs5 ?_); conv => whnf) | ((first | apply zi1 | apply zi2 | apply zi3 | apply zi4 | apply zi5) <;> intro _ <;> first | (exfalso; omega) | contradiction | (conv => whnf)) | (refine VCall.intro (c0 _) ?_; conv => whnf) | (refine VCall.intro (c1 _) ?_; conv => whnf))
  exact VOut.same rfl
end Go.Proofs.YtccpfempgmkmbaaGreat

open Go.Vm
open Riv
namespace Go.Vm
theorem VCut.atO {P : Program} {ro : Option Nat} {c : Code} {n : Nat} {fr : Fr} {outer0 : Id → Option Blk} {loc0 : List Blk} {marks : List Id} {Q : X → St → Prop} (m : Nat) (slots : List (Nat × V)) (outer : Id → Option Blk) (loc : List Blk) (ho : outer0 = outer)
    (hst : frSK slots .leaf fun fr' => Retell isOut ⟨n, fr, ⟨outer, loc0⟩, marks⟩ ⟨n, fr', ⟨outer, loc⟩, marks⟩)
    (hb : frSK slots .leaf fun fr' => vcut P ro isOut m c ⟨n, fr', ⟨outer, loc⟩, marks⟩ Q) : VCut P ro isOut c ⟨n, fr, ⟨outer0, loc0⟩, marks⟩ Q := by
  subst ho
  exact VCut.at' m slots loc hst hb
end Go.Vm
namespace Go.Proofs.YtccpfempgmkmbaaGreat
set_option maxRecDepth 20000
set_option maxHeartbeats 4000000

def encB (b : Bool) : List D := [DB b]
theorem encB_len (b : Bool) : (encB b).length = 1 := rfl
def bools (l : List Bool) : V := .fs 1 l.length (l.flatMap encB)
def dbools (l : List Bool) : D := .sl 1 l.length (l.flatMap encB)
def metB (L : Nat) (M : List Nat) : List Bool := (List.range L).map fun k => decide (k ∈ M)
theorem metB_len (L : Nat) (M : List Nat) : (metB L M).length = L := by simp [metB]
theorem metB_at {L k : Nat} (M : List Nat) (hk : k < L) : (metB L M)[k]? = some (decide (k ∈ M)) := by
  unfold metB; rw [List.getElem?_map, List.getElem?_range hk]; rfl
theorem metB_nil (L : Nat) : metB L [] = List.replicate L false := by
  apply List.ext_getElem?
  intro k
  rcases Nat.lt_or_ge k L with h | h
  · rw [metB_at [] h, List.getElem?_replicate, if_pos h]; simp
  · rw [List.getElem?_eq_none (by rw [metB_len]; exact h), List.getElem?_eq_none (by simpa using h)]
theorem metB_set {L n : Nat} (M : List Nat) (hn : n < L) : (metB L M).set n true = metB L (M ++ [n]) := by
  apply List.ext_getElem?
  intro k
  rcases Nat.lt_or_ge k L with h | h
  · rw [metB_at _ h]
    by_cases e : n = k
    · subst e
      rw [List.getElem?_set_self (by rw [metB_len]; exact h)]; simp
    · rw [List.getElem?_set_ne e, metB_at _ h]
      have : (k ∈ M ++ [n]) ↔ k ∈ M := by simp; exact fun e2 => absurd e2.symm e
      simp only [this]
  · rw [List.getElem?_eq_none (by rw [List.length_set, metB_len]; exact h), List.getElem?_eq_none (by rw [metB_len]; exact h)]
def folS (mk : List Bool) (rec : Nat → List Nat → List Nat) (M : List Nat) (k : Nat) : List Nat := if k ∉ M ∧ bat mk k = true then rec k M else M
theorem folL_fold (mk : List Bool) (rec : Nat → List Nat → List Nat) : ∀ (ks M : List Nat), ks.foldl (folS mk rec) M = folL mk rec ks M
  | [], _ => rfl
  | k :: ks, M => by
    rw [List.foldl_cons, folL_fold mk rec ks, folL]
    unfold folS
    split <;> rfl
structure MI (L : Nat) (M1 M : List Nat) : Prop where
  pre : M1 <+: M
  nd : M.Nodup
  lt : ∀ x ∈ M, x < L
theorem MI.len {L : Nat} {M1 M : List Nat} (h : MI L M1 M) : M1.length ≤ M.length ∧ M.length ≤ L := ⟨h.pre.length_le, nodup_len L M h.nd h.lt⟩
theorem folW_mi {mk : List Bool} {W H N n : Nat} {M : List Nat} (hW : 2 ≤ W) (hL : mk.length = W * H) (h1 : bat mk n = true) (h2 : n ∉ M) (h3 : M.Nodup) (h4 : ∀ x ∈ M, x < mk.length) (h5 : mk.length ≤ N + M.length) : MI mk.length M (folW mk W N n M) ∧ n ∈ folW mk W N n M := by
  have h := folW_ok hW hL N n M h1 h2 h3 h4 h5
  refine ⟨⟨h.pre, h.nd, fun x hx => ?_⟩, h.own⟩
  by_cases hm : x ∈ M
  · exact h4 x hm
  · exact bat_lt (h.mrk x hx hm).1
theorem nbM_ok {mk : List Bool} {W H N n : Nat} {M1 : List Nat} (hW : 2 ≤ W) (hL : mk.length = W * H) (h0 : MI mk.length M1 M1) (h5 : mk.length ≤ N + M1.length) : ∀ k, k ≤ 4 → MI mk.length M1 (nbF (folS mk (folW mk W N)) W mk.length n M1 k)
  | 0, _ => h0
  | k + 1, hk => by
    have ih := nbM_ok (n := n) hW hL h0 h5 k (by omega)
    cases hq : nbO W mk.length n k with
    | none => rw [nbF_none hq]; exact ih
    | some q =>
      rw [nbF_some hq]
      generalize nbF (folS mk (folW mk W N)) W mk.length n M1 k = U at ih
      unfold folS
      split
      · rename_i hc
        have h := (folW_mi hW hL (N := N) hc.2 hc.1 ih.nd ih.lt (by have := ih.len.1; omega)).1
        exact ⟨ih.pre.trans h.pre, h.nd, h.lt⟩
      · exact ih
def ownF (own : List Int) (M R : List Nat) : List Int := own ++ natI (R.drop M.length)
theorem ownF_len (own : List Int) {M R : List Nat} (h : M.length ≤ R.length) : (ownF own M R).length = own.length + (R.length - M.length) := by
  unfold ownF; rw [List.length_append, natI_len, List.length_drop]
theorem ownF_one (own : List Int) (M : List Nat) (n : Nat) : ownF own M (M ++ [n]) = own ++ [(n : Int)] := by
  unfold ownF
  rw [List.drop_append_of_le_length (Nat.le_refl _), List.drop_of_length_le (Nat.le_refl _)]; rfl
theorem ownF_ownF (own : List Int) {M R S : List Nat} (h1 : M <+: R) (h2 : R <+: S) : ownF (ownF own M R) R S = ownF own M S := by
  obtain ⟨a, rfl⟩ := h1
  obtain ⟨b, rfl⟩ := h2
  unfold ownF natI
  simp
def oF (o : Vm.Id → Option Blk) (mI oI : Vm.Id) (L : Nat) (M : List Nat) : Vm.Id → Option Blk := outW (outW o mI (.flat true ((metB L M).flatMap encB))) oI .dead
theorem oF_set {o : Vm.Id → Option Blk} {mI oI : Vm.Id} {L : Nat} {M R : List Nat} (hne : mI ≠ oI) : outW (oF o mI oI L M) mI (.flat true ((metB L R).flatMap encB)) = oF o mI oI L R := by
  unfold oF
  rw [outW_comm (o := outW o mI _) (i := oI) (j := mI) (fun e => hne e.symm), outW_same]
theorem oF_met {o : Vm.Id → Option Blk} {mI oI : Vm.Id} {L : Nat} {M : List Nat} (hne : mI ≠ oI) (loc : List Blk) : (⟨oF o mI oI L M, loc⟩ : Hp).get (.out mI) = some (.flat true ((metB L M).flatMap encB)) := by
  show oF o mI oI L M mI = _
  unfold oF outW
  rw [if_neg hne, if_pos rfl]
theorem oF_oth {o : Vm.Id → Option Blk} {mI oI i : Vm.Id} {L : Nat} {M : List Nat} {r : Option Blk} (h1 : i ≠ mI) (h2 : i ≠ oI) (loc : List Blk) (h : o i = r) : (⟨oF o mI oI L M, loc⟩ : Hp).get (.out i) = r := by
  show oF o mI oI L M i = _
  unfold oF outW
  rw [if_neg h2, if_neg h1]; exact h
theorem OutOk.oF {h : Hp} {mI oI : Vm.Id} {L : Nat} {M : List Nat} : OutOk (oF h.lift mI oI L M) := OutOk.outW (OutOk.outW (OutOk.lift _) rfl) rfl
def upF (mI : Vm.Id) (L : Nat) (R : List Nat) (m : Nat) (b : Blk) : List (Vm.Id × Blk) := [(.out mI, .flat true ((metB L R).flatMap encB)), (.loc m, .dead), (.loc 0, b)]
theorem upF_ok {mI : Vm.Id} {L m : Nat} {R : List Nat} {b b0 b' b2 : Blk} {g : Hp} (jI : g.get (.out mI) = some b0) (jm : g.get (.loc m) = some b2) (j0 : g.get (.loc 0) = some b') : ∀ p ∈ upF mI L R m b, g.get p.1 ≠ none := by
  intro p hp
  simp only [upF, List.mem_cons, List.not_mem_nil, or_false] at hp
  rcases hp with rfl | rfl | rfl <;> simp only
  · rw [jI]; simp
  · rw [jm]; simp
  · rw [j0]; simp
theorem FJ.step {o : Vm.Id → Option Blk} {mI oI : Vm.Id} {L : Nat} {M R : List Nat} {l l' : List Int} {g : Hp} {m : Nat} (hne : mI ≠ oI) (jo : g.outer = oF o mI oI L M) (j0 : g.get (.loc 0) = some (.cells true [.gl (.loc m) 1 l.length])) (jm : g.get (.loc m) = some (.flat true (l.flatMap encI))) (j2 : g.get (.loc 2) = some .mark) (hm : m = 1 ∨ 4 ≤ m) {b6 : Blk} (j3 : g.get (.loc 3) = some b6) :
    g.grows ((g.sets (upF mI L R m (.cells true [.gl g.fresh 1 l'.length]))).pushes [.flat true (l'.flatMap encI)]) ∧
    GJ (oF o mI oI L R) l' ((g.sets (upF mI L R m (.cells true [.gl g.fresh 1 l'.length]))).pushes [.flat true (l'.flatMap encI)]) ∧
    ((g.sets (upF mI L R m (.cells true [.gl g.fresh 1 l'.length]))).pushes [.flat true (l'.flatMap encI)]).get (.loc 3) = some b6 := by
  obtain ⟨go, gl⟩ := g
  dsimp only at jo
  subst jo
  have jI := oF_met (o := o) (L := L) (M := M) hne gl
  have hgr := Hp.grows_sets (news := [.flat true (l'.flatMap encI)]) (upF_ok (L := L) (R := R) (b := .cells true [.gl (Hp.fresh ⟨oF o mI oI L M, gl⟩) 1 l'.length]) jI jm j0)
  simp only [Hp.get] at j0 j2 jm j3
  have l0 := (List.getElem?_eq_some_iff.1 j0).1
  have l2 := (List.getElem?_eq_some_iff.1 j2).1
  have l3 := (List.getElem?_eq_some_iff.1 j3).1
  have key : ∀ y, y < gl.length → y ≠ m → y ≠ 0 → ∀ (A B G : Blk), (((gl.set m A).set 0 B) ++ [G])[y]? = gl[y]? := by
    intro y hy h1 h2 A B G
    rw [List.getElem?_append_left (by simpa using hy), List.getElem?_set_ne (Ne.symm h2), List.getElem?_set_ne (Ne.symm h1)]
  refine ⟨hgr, ⟨?_, ⟨gl.length, .inr (by omega), ?_, ?_⟩, ?_⟩, ?_⟩
  · exact oF_set hne
  · show (((gl.set m _).set 0 _) ++ [_])[0]? = _
    rw [List.getElem?_append_left (by simpa using l0), List.getElem?_set_self (by simpa using l0)]
    simp [Hp.fresh]
  · show (((gl.set m _).set 0 _) ++ [_])[gl.length]? = _
    rw [List.getElem?_append_right (by simp)]
    simp
  · exact (key 2 l2 (by omega) (by omega) _ _ _).trans j2
  · exact (key 3 l3 (by omega) (by omega) _ _ _).trans j3
end Go.Proofs.YtccpfempgmkmbaaGreat

open Go.Vm
open Riv
namespace Go.Proofs.YtccpfempgmkmbaaGreat
set_option maxRecDepth 20000
set_option maxHeartbeats 4000000

/-! ### Maps of plots -/
structure EOk (W : Nat) (o : List Int) : Prop where
  n : 1 ≤ o.length ∧ o.length ≤ 100
  w : 1 ≤ W
  m : o.length % W = 0
  v : ∀ x ∈ o, 0 ≤ x ∧ x ≤ 9
def encE (W : Nat) (o : List Int) : List D := [DI W, dints o]
def vE (W : Nat) (o : List Int) : V := .agg [I W, ints o]
theorem EOk.le {W : Nat} {o : List Int} (h : EOk W o) : W ≤ o.length := by
  have h1 := h.n
  have h2 := h.m
  refine Decidable.byContradiction fun hh => ?_
  rw [Nat.mod_eq_of_lt (by omega)] at h2
  omega
theorem vc_ein (n a b : Int) (h : Hp) : VC Tryz.prog 79 [I n, I a, I b] h (B (decide (a ≤ n ∧ n ≤ b))) h := by
  refine VC.body Tryz.func79 rfl Tryz.ntmps79 Tryz.call79 (h.grows_refl) rfl ?_; conv => whnf
  repeat' (first | ((first | refine zs1 ?_ | refine zs2 ?_ | refine zs3 ?_ | refine zs4 ?_ | refine zs5 ?_ | refine zs6 [] ?_); conv => whnf) | ((first | apply zi1 | apply zi2 | apply zi3 | apply zi4 | apply zi5) <;> intro _ <;> conv => whnf))
  all_goals (refine VOut.same ?_; simp [V.ren]; try omega)
theorem vc_counted (W : Nat) (o : List Int) (h : Hp) (e : EOk W o) : VC Tryz.prog 76 [vE W o] h (B true) h := by
  have hn := e.n
  have hw := e.w
  have hl := e.le
  have hm := e.m
  have c := fun h => vc_ein (o.length : Int) 1 100 h
  rw [decide_eq_true (by omega)] at c
  have e1 : (o.length : Int).tmod (W : Int) = ((o.length % W : Nat) : Int) := Int.ofNat_tmod _ _
  rw [hm] at e1
  unfold vE
  refine VC.body Tryz.func76 rfl Tryz.ntmps76 Tryz.call76 (h.grows_refl) rfl ?_; conv => whnf
  repeat' (first | ((first | refine zs1 ?_ | refine zs2 ?_ | refine zs3 ?_ | refine zs4 ?_ | refine zs5 ?_); conv => whnf) | ((first | apply zi1 | apply zi2 | apply zi3 | apply zi4 | apply zi5) <;> intro _ <;> first | (exfalso; omega) | contradiction | (conv => whnf)) | (refine VCall.intro (c _) ?_; conv => whnf))
  all_goals first
    | (exfalso; omega)
    | (rw [e1]; exact VOut.same rfl)
    | exact VOut.same rfl
theorem vc_eCheck1 (x : Int) (h : Hp) : VC Tryz.prog 78 [I x] h (B (decide (0 ≤ x ∧ x ≤ 9))) h := by
  have c := fun h => vc_ein x 0 9 h
  generalize decide (0 ≤ x ∧ x ≤ 9) = q at *
  refine VC.body Tryz.func78 rfl Tryz.ntmps78 Tryz.call78 (h.grows_refl) rfl ?_; conv => whnf
  repeat' (first | ((first | refine zs1 ?_ | refine zs2 ?_ | refine zs3 ?_ | refine zs4 ?_ | refine zs5 ?_); conv => whnf) | ((first | apply zi1 | apply zi2 | apply zi3 | apply zi4 | apply zi5) <;> intro _ <;> first | (exfalso; omega) | contradiction | (conv => whnf)) | (refine VCall.intro (c _) ?_; conv => whnf))
  exact VOut.same rfl
theorem vc_eCheck (W : Nat) (o : List Int) (h : Hp) (e : EOk W o) : VC Tryz.prog 59 [vE W o] h (I 0) h := by
  have hn := e.n
  have c0 := fun h => vc_counted W o h e
  have c1 := fun h => vc_evI0 o (fun x => decide (0 ≤ x ∧ x ≤ 9)) 78 (by omega) (fun x h _ => vc_eCheck1 x h) h
  rw [List.all_eq_true.2 fun x hx => decide_eq_true (e.v x hx)] at c1
  unfold vE at *
  refine VC.body Tryz.func59 rfl Tryz.ntmps59 Tryz.call59 (h.grows_refl) rfl ?_; conv => whnf
  repeat' (first | ((first | refine zs1 ?_ | refine zs2 ?_ | refine zs3 ?_ | refine zs4 ?_ | refine zs5 ?_); conv => whnf) | ((first | apply zi1 | apply zi2 | apply zi3 | apply zi4 | apply zi5) <;> intro _ <;> first | (exfalso; omega) | contradiction | (conv => whnf)) | (refine VCall.intro (c0 _) ?_; conv => whnf) | (refine VCall.intro (c1 _) ?_; conv => whnf))
  exact VOut.same rfl
def rimB (W n p : Nat) : Bool := decide (p < W ∨ n - W ≤ p ∨ p % W = 0 ∨ p % W = W - 1)
theorem vc_rim (W : Nat) (o : List Int) (p : Nat) (h : Hp) (e : EOk W o) (hp : p < o.length) : VC Tryz.prog 94 [vE W o, I p] h (B (rimB W o.length p)) h := by
  have hn := e.n
  have hw := e.w
  have hl := e.le
  have e1 : (p : Int).tmod (W : Int) = ((p % W : Nat) : Int) := Int.ofNat_tmod _ _
  have hr := Nat.mod_lt p (show 0 < W by omega)
  unfold rimB vE
  generalize p % W = r at *
  by_cases h1 : p < W
  · rw [decide_eq_true (.inl h1)]
    refine VC.body Tryz.func94 rfl Tryz.ntmps94 Tryz.call94 (h.grows_refl) rfl ?_; conv => whnf
    repeat' (first | ((first | refine zs1 ?_ | refine zs2 ?_ | refine zs3 ?_ | refine zs4 ?_ | refine zs5 ?_); conv => whnf) | ((first | apply zi1 | apply zi2 | apply zi3 | apply zi4 | apply zi5) <;> intro _ <;> first | (exfalso; omega) | contradiction | (conv => whnf)))
    refine zs6 [] ?_
    conv => whnf
    repeat' (first | ((first | refine zs1 ?_ | refine zs2 ?_ | refine zs3 ?_ | refine zs4 ?_ | refine zs5 ?_); conv => whnf) | ((first | apply zi1 | apply zi2 | apply zi3 | apply zi4 | apply zi5) <;> intro _ <;> first | (exfalso; omega) | contradiction | (conv => whnf)))
    all_goals exact VOut.same rfl
  · by_cases h2 : o.length - W ≤ p
    · rw [decide_eq_true (.inr (.inl h2))]
      refine VC.body Tryz.func94 rfl Tryz.ntmps94 Tryz.call94 (h.grows_refl) rfl ?_; conv => whnf
      repeat' (first | ((first | refine zs1 ?_ | refine zs2 ?_ | refine zs3 ?_ | refine zs4 ?_ | refine zs5 ?_); conv => whnf) | ((first | apply zi1 | apply zi2 | apply zi3 | apply zi4 | apply zi5) <;> intro _ <;> first | (exfalso; omega) | contradiction | (conv => whnf)))
      refine zs6 [] ?_
      conv => whnf
      repeat' (first | ((first | refine zs1 ?_ | refine zs2 ?_ | refine zs3 ?_ | refine zs4 ?_ | refine zs5 ?_); conv => whnf) | ((first | apply zi1 | apply zi2 | apply zi3 | apply zi4 | apply zi5) <;> intro _ <;> first | (exfalso; omega) | contradiction | (conv => whnf)))
      all_goals exact VOut.same rfl
    · by_cases h3 : r = 0
      · rw [decide_eq_true (.inr (.inr (.inl h3)))]
        refine VC.body Tryz.func94 rfl Tryz.ntmps94 Tryz.call94 (h.grows_refl) rfl ?_; conv => whnf
        repeat' (first | ((first | refine zs1 ?_ | refine zs2 ?_ | refine zs3 ?_ | refine zs4 ?_ | refine zs5 ?_); conv => whnf) | ((first | apply zi1 | apply zi2 | apply zi3 | apply zi4 | apply zi5) <;> intro _ <;> first | (exfalso; omega) | contradiction | (conv => whnf)))
        refine zs6 [] ?_
        conv => whnf
        repeat' (first | ((first | refine zs1 ?_ | refine zs2 ?_ | refine zs3 ?_ | refine zs4 ?_ | refine zs5 ?_); conv => whnf) | ((first | apply zi1 | apply zi2 | apply zi3 | apply zi4 | apply zi5) <;> intro _ <;> first | (exfalso; omega) | contradiction | (conv => whnf)))
        all_goals exact VOut.same rfl
      · have e4 : decide (p < W ∨ o.length - W ≤ p ∨ r = 0 ∨ r = W - 1) = decide (r = W - 1) := by rw [decide_eq_decide]; omega
        rw [e4]
        by_cases h4 : r = W - 1
        · rw [decide_eq_true h4]
          have hq : ((r : Int) == (W : Int) - 1) = true := by rw [beq_iff_eq]; omega
          refine VC.body Tryz.func94 rfl Tryz.ntmps94 Tryz.call94 (h.grows_refl) rfl ?_; conv => whnf
          repeat' (first | ((first | refine zs1 ?_ | refine zs2 ?_ | refine zs3 ?_ | refine zs4 ?_ | refine zs5 ?_); conv => whnf) | ((first | apply zi1 | apply zi2 | apply zi3 | apply zi4 | apply zi5) <;> intro _ <;> first | (exfalso; omega) | contradiction | (conv => whnf)))
          refine zs6 [] ?_
          conv => whnf
          repeat' (first | ((first | refine zs1 ?_ | refine zs2 ?_ | refine zs3 ?_ | refine zs4 ?_ | refine zs5 ?_); conv => whnf) | ((first | apply zi1 | apply zi2 | apply zi3 | apply zi4 | apply zi5) <;> intro _ <;> first | (exfalso; omega) | contradiction | (conv => whnf)))
          all_goals (refine VOut.same ?_; rw [e1, hq]; rfl)
        · rw [decide_eq_false h4]
          have hq : ((r : Int) == (W : Int) - 1) = false := by rw [Bool.eq_false_iff]; intro hh; rw [beq_iff_eq] at hh; omega
          refine VC.body Tryz.func94 rfl Tryz.ntmps94 Tryz.call94 (h.grows_refl) rfl ?_; conv => whnf
          repeat' (first | ((first | refine zs1 ?_ | refine zs2 ?_ | refine zs3 ?_ | refine zs4 ?_ | refine zs5 ?_); conv => whnf) | ((first | apply zi1 | apply zi2 | apply zi3 | apply zi4 | apply zi5) <;> intro _ <;> first | (exfalso; omega) | contradiction | (conv => whnf)))
          refine zs6 [] ?_
          conv => whnf
          repeat' (first | ((first | refine zs1 ?_ | refine zs2 ?_ | refine zs3 ?_ | refine zs4 ?_ | refine zs5 ?_); conv => whnf) | ((first | apply zi1 | apply zi2 | apply zi3 | apply zi4 | apply zi5) <;> intro _ <;> first | (exfalso; omega) | contradiction | (conv => whnf)))
          all_goals (refine VOut.same ?_; rw [e1, hq]; rfl)
/-! ### The neighbours of a plot -/
def vNbs (W : Nat) (o : List Int) (n : Nat) : V := .func (.func 80) [] [.fp [DI n], .fp (encE W o)]
theorem vc_nbs (W : Nat) (o : List Int) (n : Nat) (h : Hp) : VC Tryz.prog 61 [vE W o, I n] h (vNbs W o n) h := by
  unfold vE vNbs
  refine VC.body Tryz.func61 rfl Tryz.ntmps61 Tryz.call61 (h.grows_refl) rfl ?_; conv => whnf
  repeat' (first | ((first | refine zs1 ?_ | refine zs2 ?_ | refine zs3 ?_ | refine zs4 ?_ | refine zs5 ?_ | refine zs6 [] ?_); conv => whnf) | ((first | apply zi1 | apply zi2 | apply zi3 | apply zi4 | apply zi5) <;> intro _ <;> conv => whnf))
  refine VOut.data 2 [(0, encE W o), (1, [DI n])] [] rfl zf (by exact FmAll.nil) zw
theorem iter_nbs (W : Nat) (o : List Int) (n : Nat) (hW : 1 ≤ W ∧ W ≤ 100000) (hn : n < o.length) (hc : o.length ≤ 4000000) : IterS Tryz.prog 80 [] [.fp [DI n], .fp (encE W o)] 4 (nbY W o.length n) := by
  intro h i J hs h0
  obtain ⟨g, g0, g1, hI⟩ := iterS_seq (ys := nbY W o.length n) hs h0
  have hgr : ∀ j, j ≤ 4 → h.grows (g j) := by
    intro j
    induction j with
    | zero => intro _; rw [g0]; exact h.grows_refl
    | succ j ih =>
      intro hj
      rcases g1 j (by omega) with ⟨_, e⟩ | ⟨vs, _, hv⟩
      · rw [e]; exact ih (by omega)
      · exact fun k hk => hv.1 k (ih (by omega) k hk)
  have gA := g1 0 (by omega)
  have gB := g1 1 (by omega)
  have gC := g1 2 (by omega)
  have gD := g1 3 (by omega)
  have hend := hgr 4 (by omega)
  refine ⟨g 4, ?_, hI⟩
  clear hI hgr g1 hs h0
  generalize g 4 = h4 at *
  generalize g 3 = h3 at *
  generalize g 2 = h2 at *
  generalize g 1 = h1 at *
  obtain rfl : h = g 0 := g0.symm
  generalize g 0 = h0 at *
  clear g0
  have e1 : (n : Int).tmod (W : Int) = ((n % W : Nat) : Int) := Int.ofNat_tmod n W
  have hr := Nat.mod_lt n (show 0 < W by omega)
  simp only [nbY, nbO] at gA gB gC gD
  rw [show encE W o = [DI W, .sl 1 o.length (o.flatMap encI)] from rfl]
  have key : ∀ {c : Prop} [Decidable c] {q : Nat} {a b : Hp}, (((if c then none else some q : Option Nat).map fun q : Nat => [I q]) = none ∧ b = a ∨ ∃ vs, ((if c then none else some q : Option Nat).map fun q : Nat => [I q]) = some vs ∧ VY Tryz.prog i vs a (.s (.bool true)) b) → (c ∧ b = a) ∨ (¬ c ∧ VY Tryz.prog i [I q] a (.s (.bool true)) b) := by
    intro c _ q a b h
    by_cases hc : c
    · rw [if_pos hc] at h
      rcases h with ⟨_, h⟩ | ⟨vs, h, _⟩
      · exact .inl ⟨hc, h⟩
      · cases h
    · rw [if_neg hc] at h
      rcases h with ⟨h, _⟩ | ⟨vs, h, hv⟩
      · cases h
      · cases h; exact .inr ⟨hc, hv⟩
  have gA := key gA
  have gB := key gB
  have gC := key gC
  have gD := key gD
  clear key
  have qA : ¬ n < W → ((n - W : Nat) : Int) = (n : Int) - W := fun h => by omega
  have qB : ¬ n % W = 0 → ((n - 1 : Nat) : Int) = (n : Int) - 1 := fun h => by
    have : n ≠ 0 := fun e => h (by rw [e]; exact Nat.zero_mod W)
    omega
  have qC : ((n + 1 : Nat) : Int) = (n : Int) + 1 := by omega
  have qD : ((n + W : Nat) : Int) = (n : Int) + W := by omega
  rw [qC] at gC
  rw [qD] at gD
  generalize n % W = r at *
  rcases gA with ⟨a1, rfl⟩ | ⟨a1, yA⟩ <;> rcases gB with ⟨b1, rfl⟩ | ⟨b1, yB⟩ <;> rcases gC with ⟨c1, rfl⟩ | ⟨c1, yC⟩ <;> rcases gD with ⟨d1, rfl⟩ | ⟨d1, yD⟩
  all_goals (
    (try rw [qA a1] at yA)
    (try rw [qB b1] at yB)
    refine VC.body Tryz.func80 rfl Tryz.ntmps80 Tryz.call80 hend rfl ?_
    conv => whnf)
  all_goals (
    repeat' (first | ((first | refine zs1 ?_ | refine zs2 ?_ | refine zs3 ?_ | refine zs4 ?_ | refine zs5 ?_); conv => whnf) | ((first | apply zi1 | apply zi2 | apply zi3 | apply zi4 | apply zi5) <;> intro _ <;> first | (exfalso; omega) | contradiction | (conv => whnf)) | (refine VYield.intro (VY.lift _ yA) ?_; conv => whnf) | (refine VYield.intro (VY.lift _ yB) ?_; conv => whnf) | (refine VYield.intro (VY.lift _ yC) ?_; conv => whnf) | (refine VYield.intro (VY.lift _ yD) ?_; conv => whnf)))
  all_goals first
    | exact VOut.lifted (r := .tuple []) hend
    | (exfalso; omega)
/-! ### The stack -/
theorem backR_old {h : Hp} {i : Vm.Id} (hi : h.get i ≠ none) (pm : List Nat) (L : Nat) : backR h.loc.length pm L i = .out i := by
  cases i with
  | out i => rfl
  | loc k =>
    have hk : k < h.loc.length := by
      rcases Nat.lt_or_ge k h.loc.length with h1 | h1
      · exact h1
      · exact absurd (List.getElem?_eq_none h1) hi
    simp [backR, hk]
def upS (h : Hp) (sI lI : Vm.Id) (n : Nat) : List (Vm.Id × Blk) := [(lI, .dead), (sI, .cells true [.gl h.fresh 1 n])]
def effP (h : Hp) (sI lI : Vm.Id) (l : List Int) : Hp := (h.sets (upS h sI lI l.length)).pushes [.flat true (l.flatMap encI)]
theorem VMem.app1T {P : Program} {t ty : TypeId} {e bytes : Nat} {zero : List V} {s_ : Nat} {a_ : Bool} {z_ : V} {h : Hp} {i j : Vm.Id} {n : Nat} {l : List Int} {ds : List D} {rw : Bool} {K : V → Hp → Prop} (a : Int) (hTt : tiOf P t = some ⟨.slice e 1 bytes zero, s_, a_, z_⟩)
    (hb : h.get i = some (.flat true ds)) (hd : ds.take l.length = l.flatMap encI) (hj : h.get j = some (.flat rw (encI a))) (hn : n = l.length) (hby : Nat.ble bytes 1048576 = true) (h63 : l.length ≤ 67108864)
    (hK : K (.gl h.fresh 1 (n + 1)) ((h.set i .dead).push (.flat true ((l ++ [a]).flatMap encI)))) : VMem P (opAppend #[t, t] ty) [.gl i 1 n, .gl j 1 1] h K := by
  subst hn
  have fl : (l.flatMap encI).length = l.length := by rw [flat_len encI_len, Nat.mul_one]
  have hle : l.length ≤ ds.length := by
    have := congrArg List.length hd
    rw [fl, List.length_take] at this
    omega
  refine VMem.intro (does_append_gl (b := .flat true ds) (l := ds.map D.v) (news := [I a]) (tiOf_ok P) hTt hb rfl ?_ ?_ ?_ (mul_bd (n := l.length + 1) hby (by omega)) (by omega)) hK
  · simp only [SegOf]
    exact ⟨trivial, trivial, _, rw, [I a], hj, rfl, by simp, by simp⟩
  · rw [List.length_map]; omega
  · simp only [Blk.row, Option.some.injEq, Prod.mk.injEq, true_and]
    rw [Nat.mul_one, ← List.map_take, hd, List.flatMap_append, List.map_append]
    rfl
theorem vc_put (x : Int) (l : List Int) (ds : List D) (sI lI : Vm.Id) (h : Hp) (h1 : h.get sI = some (.cells true [.gl lI 1 l.length])) (h2 : h.get lI = some (.flat true ds)) (hd : ds.take l.length = l.flatMap encI) (hne : sI ≠ lI) (hl : l.length ≤ 4000000) :
    VC Tryz.prog 60 [.ptr sI 0, I x] h (.tuple []) (effP h sI lI (l ++ [x])) := by
  have hg : h.grows (effP h sI lI (l ++ [x])) := by
    refine Hp.grows_sets fun p hp => ?_
    simp only [upS, List.mem_cons, List.not_mem_nil, or_false] at hp
    rcases hp with rfl | rfl
    · rw [h2]; simp
    · rw [h1]; simp
  refine VC.body Tryz.func60 rfl Tryz.ntmps60 Tryz.call60 hg rfl ?_
  conv => whnf
  repeat' (first | ((first | refine zs1 ?_ | refine zs2 ?_ | refine zs3 ?_ | refine zs4 ?_ | refine zs5 ?_); conv => whnf) | ((first | apply zi1 | apply zi2 | apply zi3 | apply zi4 | apply zi5) <;> intro _ <;> first | (exfalso; omega) | contradiction | (conv => whnf)) | (refine VLd.cell rfl rfl (get_out h1 _) rfl ?_; conv => whnf) | (refine VMem.app1T (l := l) x rfl (get_out h2 _) hd rfl rfl rfl (by omega) ?_; conv => whnf))
  refine VMem.st1 rfl rfl rfl (get_outNe hne (get_out h1 _)) rfl ?_
  conv => whnf
  repeat' (first | ((first | refine zs1 ?_ | refine zs2 ?_ | refine zs3 ?_ | refine zs4 ?_ | refine zs5 ?_); conv => whnf) | ((first | apply zi1 | apply zi2 | apply zi3 | apply zi4 | apply zi5) <;> intro _ <;> first | (exfalso; omega) | contradiction | (conv => whnf)))
  refine VOut.upd (r1 := .tuple []) (r := .tuple []) (upS h sI lI (l ++ [x]).length) [.flat true ((l ++ [x]).flatMap encI)] [1] 9 ?_ ?_ (by simp) rfl ?_ (fun σ x hx => hx) ?_
  · rfl
  · intro p hp
    simp only [upS, List.mem_cons, List.not_mem_nil, or_false] at hp
    rcases hp with rfl | rfl
    · rw [h2]; simp
    · rw [h1]; simp
  · intro k b hk
    cases k with
    | zero => rw [List.getElem?_cons_zero, Option.some.injEq] at hk; subst hk; exact ⟨1, rfl, rfl⟩
    | succ k => simp at hk
  · have e1 : (Blk.cells true [V.gl h.fresh 1 (l ++ [x]).length]).ren (backR h.loc.length [1] 9) = .cells true [.gl (.loc 1) 1 (l.length + 1)] := by simp [Blk.ren, V.ren, backR, Hp.fresh]
    simp only [upS, List.map_cons, List.map_nil, e1]
    rfl
theorem vc_take (x : Int) (l : List Int) (ds : List D) (sI lI : Vm.Id) (h : Hp) (h1 : h.get sI = some (.cells true [.gl lI 1 (l.length + 1)])) (h2 : h.get lI = some (.flat true ds)) (hd : ds.take (l.length + 1) = (l ++ [x]).flatMap encI) (hl : l.length ≤ 4000000) :
    VC Tryz.prog 62 [.ptr sI 0] h (I x) (h.set sI (.cells true [.gl lI 1 l.length])) := by
  have hx : ds[l.length]? = some (DI x) := by
    have fl : (l.flatMap encI).length = l.length := by rw [flat_len encI_len, Nat.mul_one]
    have := congrArg (fun t => t[l.length]?) hd
    simp only [List.getElem?_take] at this
    rw [if_pos (by omega)] at this
    rw [this, List.flatMap_append, List.getElem?_append_right (by omega), fl, Nat.sub_self]
    rfl
  have hx2 : ∀ n : Nat, n = l.length → ds[n]? = some (DI x) := fun n e => by rw [e]; exact hx
  refine VC.body Tryz.func62 rfl Tryz.ntmps62 Tryz.call62 (h.grows_set _ _) rfl ?_
  conv => whnf
  repeat' (first | ((first | refine zs1 ?_ | refine zs2 ?_ | refine zs3 ?_ | refine zs4 ?_ | refine zs5 ?_); conv => whnf) | ((first | apply zi1 | apply zi2 | apply zi3 | apply zi4 | apply zi5) <;> intro _ <;> first | (exfalso; omega) | contradiction | (conv => whnf)) | (refine VLd.cell rfl rfl (get_out h1 _) rfl ?_; conv => whnf) | (refine VLd.flat rfl rfl (get_out h2 _) (hx2 _ (by show (_ : Nat) * 1 = _; omega)) ?_; conv => whnf) | (refine VAny.intro (v := .gl (.out lI) 1 l.length) ⟨by omega, l.length, by omega, .inl ⟨rfl, rfl⟩⟩ ?_; conv => whnf))
  refine VMem.st1 rfl rfl rfl (get_out h1 _) rfl ?_
  conv => whnf
  repeat' (first | ((first | refine zs1 ?_ | refine zs2 ?_ | refine zs3 ?_ | refine zs4 ?_ | refine zs5 ?_); conv => whnf) | ((first | apply zi1 | apply zi2 | apply zi3 | apply zi4 | apply zi5) <;> intro _ <;> first | (exfalso; omega) | contradiction | (conv => whnf)))
  have hl2 : h.get lI ≠ none := by rw [h2]; simp
  have := VOut.upd (h := h) (loc := []) (r1 := I x) (r := I x) [(sI, .cells true [.gl lI 1 l.length])] [] [] 9 rfl (by intro p hp; simp only [List.mem_cons, List.not_mem_nil, or_false] at hp; subst hp; rw [h1]; simp) (by simp) rfl (by intro k b hk; simp at hk) (fun σ x hx => hx) (outer := outW h.lift sI (.cells true [.gl (.out lI) 1 l.length])) (by
    simp only [List.map_cons, List.map_nil, Blk.ren, V.ren, backR_old hl2]
    rfl)
  rw [show (h.sets [(sI, Blk.cells true [V.gl lI 1 l.length])]).pushes [] = h.set sI (.cells true [V.gl lI 1 l.length]) by simp only [Hp.sets, Hp.pushes, List.append_nil]] at this
  exact this
end Go.Proofs.YtccpfempgmkmbaaGreat

open Go.Vm
open Riv
namespace Go.Proofs.YtccpfempgmkmbaaGreat
set_option maxRecDepth 20000
set_option maxHeartbeats 4000000

/-! ### Regions: what is done, in plain words -/
def putE (o : List Int) (ow mn : Int) (st : List Int × List Nat) (k : Nat) : List Int × List Nat :=
  if at0 st.1 k = -1 ∧ at0 o k = ow then (st.1.set k mn, st.2 ++ [k]) else st
def flE (o : List Int) (W : Nat) (ow mn : Int) : Nat → List Int × List Nat → List Int
  | 0, st => st.1
  | N + 1, st => match st.2.getLast? with
    | none => st.1
    | some p => flE o W ow mn N ((nbs W o.length p).foldl (putE o ow mn) (st.1, st.2.dropLast))
def opE (o : List Int) (W : Nat) : Nat → List Int × Nat
  | 0 => (List.replicate o.length (-1), 0)
  | k + 1 => if at0 (opE o W k).1 k = -1 then (flE o W (at0 o k) (opE o W k).2 o.length ((opE o W k).1.set k (opE o W k).2, [k]), (opE o W k).2 + 1) else opE o W k
structure EI (n : Nat) (st : List Int × List Nat) : Prop where
  len : st.1.length = n
  lt : ∀ k ∈ st.2, k < n
def muE (st : List Int × List Nat) : Nat := st.2.length + st.1.count (-1)
theorem cnt_set {m : Int} (hm : m ≠ -1) : ∀ (R : List Int) (k : Nat), R[k]? = some (-1) → (R.set k m).count (-1) + 1 = R.count (-1)
  | [], k, h => by simp at h
  | a :: R, 0, h => by
    simp only [List.getElem?_cons_zero, Option.some.injEq] at h
    subst h
    rw [List.set_cons_zero, List.count_cons_self, List.count_cons_of_ne (by simpa using hm)]
  | a :: R, k + 1, h => by
    simp only [List.getElem?_cons_succ] at h
    have := cnt_set hm R k h
    rw [List.set_cons_succ, List.count_cons, List.count_cons]
    omega
theorem putE_ok {n : Nat} {o : List Int} {ow mn : Int} {st : List Int × List Nat} {k : Nat} (hI : EI n st) (hk : k < n) (hm : mn ≠ -1) : EI n (putE o ow mn st k) ∧ muE (putE o ow mn st k) = muE st := by
  unfold putE
  split
  · rename_i h
    have ha : st.1[k]? = some (-1) := by rw [at0_get (by rw [hI.len]; exact hk), h.1]
    have hc := cnt_set hm st.1 k ha
    refine ⟨⟨by dsimp only; rw [List.length_set]; exact hI.len, fun x hx => ?_⟩, ?_⟩
    · rcases List.mem_append.1 hx with hx | hx
      · exact hI.lt x hx
      · rw [List.mem_singleton] at hx; omega
    · unfold muE
      dsimp only
      rw [List.length_append, List.length_singleton]; omega
  · exact ⟨hI, rfl⟩
theorem nbF_putE {n W : Nat} {o : List Int} {ow mn : Int} {p : Nat} (hW : 1 ≤ W) (ho : o.length = n) (hn : n % W = 0) (hp : p < n) (hm : mn ≠ -1) {st : List Int × List Nat} (hI : EI n st) (hlt : ∀ k q, k < 4 → nbO W n p k = some q → q < n) : ∀ j, j ≤ 4 → EI n (nbF (putE o ow mn) W n p st j) ∧ muE (nbF (putE o ow mn) W n p st j) = muE st
  | 0, _ => ⟨hI, rfl⟩
  | j + 1, hj => by
    have ih := nbF_putE (ow := ow) hW ho hn hp hm hI hlt j (by omega)
    cases hq : nbO W n p j with
    | none => rw [nbF_none hq]; exact ih
    | some q =>
      rw [nbF_some hq]
      have h2 := putE_ok (o := o) (ow := ow) ih.1 (hlt j q (by omega) hq) hm
      exact ⟨h2.1, h2.2.trans ih.2⟩
theorem nbO_lt {W n p : Nat} (hW : 1 ≤ W) (hn : n % W = 0) (hp : p < n) : ∀ k q, k < 4 → nbO W n p k = some q → q < n := by
  intro k q hk h
  have h1 := Nat.div_add_mod p W
  have h2 := Nat.div_add_mod n W
  have hr := Nat.mod_lt p (show 0 < W by omega)
  match k, hk with
  | 0, _ => (simp only [nbO] at h; split at h <;> first | (cases h; done) | (rw [Option.some.injEq] at h; omega))
  | 1, _ => (simp only [nbO] at h; split at h <;> first | (cases h; done) | (rw [Option.some.injEq] at h; omega))
  | 2, _ =>
    simp only [nbO] at h
    split at h
    · cases h
    rename_i h3
    rw [Option.some.injEq] at h
    subst h
    refine Decidable.byContradiction fun hh => ?_
    have h4 : p + 1 = n := by omega
    have h5 : (p + 1) % W = 0 := by rw [h4]; exact hn
    have h6 : (p + 1) % W = p % W + 1 := by
      rw [Nat.add_mod, Nat.mod_eq_of_lt (show 1 < W by omega)]
      exact Nat.mod_eq_of_lt (by omega)
    omega
  | 3, _ => (simp only [nbO] at h; split at h <;> first | (cases h; done) | (rw [Option.some.injEq] at h; omega))
theorem flE_nil {o : List Int} {W : Nat} {ow mn : Int} {N : Nat} {R : List Int} : flE o W ow mn N (R, []) = R := by
  cases N <;> rfl
theorem flE_step {o : List Int} {W : Nat} {ow mn : Int} {N : Nat} {R : List Int} {S : List Nat} {p : Nat} : flE o W ow mn (N + 1) (R, S ++ [p]) = flE o W ow mn N (nbF (putE o ow mn) W o.length p (R, S) 4) := by
  rw [nbF_all, flE]
  simp only [List.getLast?_append, List.getLast?_singleton, Option.some_or, List.dropLast_concat]
theorem mu_pop {R : List Int} {S : List Nat} {p : Nat} : muE (R, S) + 1 = muE (R, S ++ [p]) := by
  unfold muE; rw [List.length_append, List.length_singleton]; dsimp only; omega
theorem flE_len {o : List Int} {W : Nat} {ow mn : Int} (hW : 1 ≤ W) (hn : o.length % W = 0) (hm : mn ≠ -1) : ∀ (N : Nat) (st : List Int × List Nat), EI o.length st → (flE o W ow mn N st).length = o.length
  | 0, st, h => h.len
  | N + 1, st, h => by
    obtain ⟨R, S⟩ := st
    rcases List.eq_nil_or_concat S with rfl | ⟨S', p, rfl⟩
    · rw [flE_nil]; exact h.len
    · rw [List.concat_eq_append] at h ⊢
      rw [flE_step]
      have hp := h.lt p (by simp)
      have hI2 : EI o.length (R, S') := ⟨h.len, fun k hk => h.lt k (List.mem_append_left _ hk)⟩
      exact flE_len hW hn hm N _ (nbF_putE hW rfl hn hp hm hI2 (nbO_lt hW hn hp) 4 (by omega)).1
theorem opE_ok {o : List Int} {W : Nat} (hW : 1 ≤ W) (hn : o.length % W = 0) : ∀ k, k ≤ o.length → (opE o W k).1.length = o.length ∧ (opE o W k).2 ≤ k
  | 0, _ => ⟨by rw [opE]; simp, by rw [opE]; simp⟩
  | k + 1, hk => by
    have ih := opE_ok hW hn k (by omega)
    rw [opE]
    split
    · refine ⟨?_, by dsimp only; omega⟩
      refine flE_len hW hn (by omega) _ _ ⟨by dsimp only; rw [List.length_set]; exact ih.1, fun x hx => ?_⟩
      rw [List.mem_singleton] at hx; omega
    · exact ⟨ih.1, by omega⟩
theorem mu_one {n : Nat} {R : List Int} {k : Nat} {m : Int} (hm : m ≠ -1) (hl : R.length = n) (hk : k < n) (h : at0 R k = -1) : EI n (R.set k m, [k]) ∧ muE (R.set k m, [k]) ≤ n := by
  refine ⟨⟨by rw [List.length_set]; exact hl, fun x hx => by rw [List.mem_singleton] at hx; omega⟩, ?_⟩
  have ha : R[k]? = some (-1) := by rw [at0_get (by omega), h]
  have hc := cnt_set hm R k ha
  have := List.count_le_length (a := (-1 : Int)) (l := R)
  unfold muE
  rw [List.length_singleton]; dsimp only; omega
end Go.Proofs.YtccpfempgmkmbaaGreat

open Go.Vm
open Riv
namespace Go.Proofs.YtccpfempgmkmbaaGreat
set_option maxRecDepth 20000
set_option maxHeartbeats 4000000

/-! ### A map at work -/
def wkC (W : Nat) (o : List Int) (rg : V) (mn : Int) (ms : List D) : List V := I W :: ints o :: rg :: I mn :: D.vs ms
def ms0 : List D := List.replicate 100 (DB false)
structure OJ (ou : Vm.Id → Option Blk) (B0 B1 : Blk) (R : List Int) (S : List Nat) (g : Hp) : Prop where
  o : g.outer = ou
  b0 : g.get (.loc 0) = some B0
  b1 : g.get (.loc 1) = some B1
  b2 : g.get (.loc 2) = some (.flat true (R.flatMap encI))
  st : ∃ m ds, (m = 4 ∨ 7 ≤ m) ∧ g.get (.loc 3) = some (.cells true [.gl (.loc m) 1 (natI S).length]) ∧ g.get (.loc m) = some (.flat true ds) ∧ ds.take (natI S).length = (natI S).flatMap encI
  b5 : g.get (.loc 5) = some .mark
def upO (R : List Int) (m : Nat) (b : Blk) : List (Vm.Id × Blk) := [(.loc 2, .flat true (R.flatMap encI)), (.loc m, .dead), (.loc 3, b)]
theorem upO_ok {R : List Int} {m : Nat} {b c2 cm c3 : Blk} {g : Hp} (j2 : g.get (.loc 2) = some c2) (jm : g.get (.loc m) = some cm) (j3 : g.get (.loc 3) = some c3) : ∀ p ∈ upO R m b, g.get p.1 ≠ none := by
  intro p hp
  simp only [upO, List.mem_cons, List.not_mem_nil, or_false] at hp
  rcases hp with rfl | rfl | rfl <;> simp only
  · rw [j2]; simp
  · rw [jm]; simp
  · rw [j3]; simp
theorem OJ.step {ou : Vm.Id → Option Blk} {B0 B1 c2 cm c3 b6 : Blk} {R : List Int} {S : List Nat} {g : Hp} {m : Nat} (jo : g.outer = ou) (j0 : g.get (.loc 0) = some B0) (j1 : g.get (.loc 1) = some B1) (j2 : g.get (.loc 2) = some c2) (j3 : g.get (.loc 3) = some c3) (jm : g.get (.loc m) = some cm) (j5 : g.get (.loc 5) = some .mark) (j6 : g.get (.loc 6) = some b6) (hm : m = 4 ∨ 7 ≤ m) :
    g.grows ((g.sets (upO R m (.cells true [.gl g.fresh 1 (natI S).length]))).pushes [.flat true ((natI S).flatMap encI)]) ∧
    OJ ou B0 B1 R S ((g.sets (upO R m (.cells true [.gl g.fresh 1 (natI S).length]))).pushes [.flat true ((natI S).flatMap encI)]) ∧
    ((g.sets (upO R m (.cells true [.gl g.fresh 1 (natI S).length]))).pushes [.flat true ((natI S).flatMap encI)]).get (.loc 6) = some b6 := by
  have hgr := Hp.grows_sets (news := [.flat true ((natI S).flatMap encI)]) (upO_ok (R := R) (b := .cells true [.gl g.fresh 1 (natI S).length]) j2 jm j3)
  obtain ⟨go, gl⟩ := g
  simp only [Hp.get] at j0 j1 j2 j3 jm j5 j6
  have l0 := (List.getElem?_eq_some_iff.1 j0).1
  have l1 := (List.getElem?_eq_some_iff.1 j1).1
  have l2 := (List.getElem?_eq_some_iff.1 j2).1
  have l3 := (List.getElem?_eq_some_iff.1 j3).1
  have l5 := (List.getElem?_eq_some_iff.1 j5).1
  have l6 := (List.getElem?_eq_some_iff.1 j6).1
  have key : ∀ y, y < gl.length → y ≠ 2 → y ≠ m → y ≠ 3 → ∀ (A B C G : Blk), ((((gl.set 2 A).set m B).set 3 C) ++ [G])[y]? = gl[y]? := by
    intro y hy h1 h2 h3 A B C G
    rw [List.getElem?_append_left (by simpa using hy), List.getElem?_set_ne (Ne.symm h3), List.getElem?_set_ne (Ne.symm h2), List.getElem?_set_ne (Ne.symm h1)]
  have fl : ((natI S).flatMap encI).length = (natI S).length := by rw [flat_len encI_len, Nat.mul_one]
  refine ⟨hgr, ⟨jo, ?_, ?_, ?_, ⟨gl.length, (natI S).flatMap encI, .inr (by omega), ?_, ?_, ?_⟩, ?_⟩, ?_⟩
  · exact (key 0 l0 (by omega) (by omega) (by omega) _ _ _ _).trans j0
  · exact (key 1 l1 (by omega) (by omega) (by omega) _ _ _ _).trans j1
  · show ((((gl.set 2 _).set m _).set 3 _) ++ [_])[2]? = _
    rw [List.getElem?_append_left (by simpa using l2), List.getElem?_set_ne (by omega), List.getElem?_set_ne (by omega), List.getElem?_set_self l2]
  · show ((((gl.set 2 _).set m _).set 3 _) ++ [_])[3]? = _
    rw [List.getElem?_append_left (by simpa using l3), List.getElem?_set_self (by simpa using l3)]
    simp [Hp.fresh]
  · show ((((gl.set 2 _).set m _).set 3 _) ++ [_])[gl.length]? = _
    rw [List.getElem?_append_right (by simp)]
    simp
  · rw [← fl, List.take_of_length_le (Nat.le_refl _)]
  · exact (key 5 l5 (by omega) (by omega) (by omega) _ _ _ _).trans j5
  · exact (key 6 l6 (by omega) (by omega) (by omega) _ _ _ _).trans j6
theorem natI_app (S : List Nat) (q : Nat) : natI (S ++ [q]) = natI S ++ [(q : Int)] := by unfold natI; rw [List.map_append]; rfl
theorem wkC_wr {W : Nat} {o : List Int} {rg : V} {mn x : Int} {ms : List D} : (Blk.cells true (wkC W o rg mn ms)).wr1 3 (I x) = some (.cells true (I W :: ints o :: rg :: I x :: D.vs ms)) := by simp [Blk.wr1, wkC, V.cell1]
theorem ix1 (n : Nat) : n * (0 + 1) = n * 1 + 0 := rfl
theorem vc_eopened (W : Nat) (o : List Int) (h : Hp) (e : EOk W o) : VC Tryz.prog 39 [vE W o] h (.tuple [.ptr h.fresh 0, I 0]) (h.push (.cells true (wkC W o (ints (opE o W o.length).1) (opE o W o.length).2 ms0))) := by
  have hn := e.n
  have hw := e.w
  have hmod := e.m
  have c0 := fun h => vc_eCheck W o h e
  have cN := fun n h => vc_nbs W o n h
  have hWl := e.le
  have itN := fun n hn => iter_nbs W o n (by omega) hn (by omega)
  have hnl := fun p (hp : p < o.length) => nbO_lt hw hmod hp
  have hop := opE_ok (W := W) hw hmod
  have hos : ∀ k, opE o W (k + 1) = if at0 (opE o W k).1 k = -1 then (flE o W (at0 o k) (opE o W k).2 o.length ((opE o W k).1.set k (opE o W k).2, [k]), (opE o W k).2 + 1) else opE o W k := fun k => rfl
  have ho0 : opE o W 0 = (List.replicate o.length (-1), 0) := rfl
  generalize opE o W = A at *
  unfold vE at *
  refine VC.bodyC 2 Tryz.func39 rfl Tryz.ntmps39 Tryz.call39 (h.grows_push _) rfl ?_
  conv => whnf
  repeat' (first | ((first | refine zs1 ?_ | refine zs2 ?_ | refine zs3 ?_ | refine zs4 ?_ | refine zs5 ?_); conv => whnf) | ((first | apply zi1 | apply zi2 | apply zi3 | apply zi4 | apply zi5) <;> intro _ <;> first | (exfalso; omega) | contradiction | (conv => whnf)) | (refine VCall.intro (c0 _) ?_; conv => whnf))
  refine VCut.at' (outer := h.lift) (marks := []) 99 [(1, .fp [DI W, dints o]), (2, .nilptr), (3, I 0)] [] ?_ ?_
  · conv => whnf
    refine Retell.turn ⟨[], 9, [(0, [DI W, dints o])], []⟩ (TurnOk.mk' _ _ [(0, [DI W, dints o])] [] (OutOk.lift _) rfl (by decide) zb zf trivial rfl) zw zm
  conv => whnf
  repeat' (first | ((first | refine zs1 ?_ | refine zs2 ?_ | refine zs3 ?_ | refine zs4 ?_ | refine zs5 ?_); conv => whnf) | ((first | apply zi1 | apply zi2 | apply zi3 | apply zi4 | apply zi5) <;> intro _ <;> first | (exfalso; omega) | contradiction | (conv => whnf)))
  refine zs6 [(0, 5)] ?_
  conv => whnf
  repeat' (first | ((first | refine zs1 ?_ | refine zs2 ?_ | refine zs3 ?_ | refine zs4 ?_ | refine zs5 ?_); conv => whnf) | ((first | apply zi1 | apply zi2 | apply zi3 | apply zi4 | apply zi5) <;> intro _ <;> first | (exfalso; omega) | contradiction | (conv => whnf)))
  refine VCall.intro (VC.give (args' := [ints [-1], I o.length]) (loc' := [.dead]) [(0, [DI (-1)])] [] (OutOk.lift _) zb zf (by exact FmAll.nil) rfl zw (vc_Repeat (-1) o.length _ (by omega))) ?_
  conv => whnf
  repeat' (first | ((first | refine zs1 ?_ | refine zs2 ?_ | refine zs3 ?_ | refine zs4 ?_ | refine zs5 ?_); conv => whnf) | ((first | apply zi1 | apply zi2 | apply zi3 | apply zi4 | apply zi5) <;> intro _ <;> first | (exfalso; omega) | contradiction | (conv => whnf)))
  obtain ⟨ms, hms⟩ : ∃ l, l = ms0 := ⟨_, rfl⟩
  refine VCode.lpC (outer := h.lift) (marks := []) 2 (fun k : Nat => [(1, .fp [DI W, dints o]), (2, .nilptr), (3, I 0), (5, .ptr (.loc 0) 0), (24, ints o), (25, I o.length), (26, I k)]) (fun k => [.cells true [.ptr (.loc 1) 0], .cells true (wkC W o (.gl (.loc 2) 1 o.length) (A k).2 ms), .flat true ((A k).1.flatMap encI)]) (fun k => k ≤ o.length) (fun k => o.length - k) 0 (Nat.zero_le _) ?_ ?_
  · rw [ho0, hms]
    conv => whnf
    refine Retell.turn ⟨[3,2,1], 9, [], []⟩ (TurnOk.mk' _ _ [] [] (OutOk.lift _) rfl (by decide) zb trivial trivial rfl) zw zm
  · intro k hk
    have hopk := hop k hk
    rcases Nat.lt_or_ge k o.length with h3 | h3
    · have hxo := at0_get h3
      have hAs := hos k
      have hRk := at0_get (l := (A k).1) (n := k) (by omega)
      generalize hR : (A k).1 = R at *
      generalize hmn : (A k).2 = mn at *
      by_cases hfr : at0 R k = -1
      · rw [if_pos hfr] at hAs
        rw [hfr] at hRk
        have hone := mu_one (m := (mn : Int)) (by omega) hopk.1 h3 hfr
        obtain ⟨ow, how⟩ : ∃ a, a = at0 o k := ⟨_, rfl⟩
        rw [← how] at hxo hAs
        conv => whnf
        repeat' (first | ((first | refine zs1 ?_ | refine zs2 ?_ | refine zs3 ?_ | refine zs4 ?_ | refine zs5 ?_); conv => whnf) | ((first | apply zi1 | apply zi2 | apply zi3 | apply zi4 | apply zi5) <;> intro _ <;> first | (exfalso; omega) | contradiction | (conv => whnf)))
        refine VCut.block 4 ?_
        conv => whnf
        repeat' (first | ((first | refine zs1 ?_ | refine zs2 ?_ | refine zs3 ?_ | refine zs4 ?_ | refine zs5 ?_); conv => whnf) | ((first | apply zi1 | apply zi2 | apply zi3 | apply zi4 | apply zi5) <;> intro _ <;> first | (exfalso; omega) | contradiction | (conv => whnf)) | (refine VAny.ix encI_len k rfl rfl hxo ?_; conv => whnf) | (refine VLd.recc encI_len k 0 rfl rfl rfl hRk (by decide) rfl (ix1 _) ?_; conv => whnf))
        refine zs6 [] ?_
        conv => whnf
        repeat' (first | ((first | refine zs1 ?_ | refine zs2 ?_ | refine zs3 ?_ | refine zs4 ?_ | refine zs5 ?_); conv => whnf) | ((first | apply zi1 | apply zi2 | apply zi3 | apply zi4 | apply zi5) <;> intro _ <;> first | (exfalso; omega) | contradiction | (conv => whnf)) | (refine VMem.setRec encI_len k 0 (mn : Int) rfl rfl rfl hRk (by decide) rfl (ix1 _) ?_; conv => whnf))
        refine VCut.at' (outer := h.lift) (marks := []) 99 [(1, .fp [DI W, dints o]), (2, .nilptr), (3, I 0), (5, .ptr (.loc 0) 0), (24, ints o), (25, I o.length), (26, I k), (6, I k), (7, .fp [DI ow]), (8, .ptr (.loc 3) 0)] [.cells true [.ptr (.loc 1) 0], .cells true (wkC W o (.gl (.loc 2) 1 o.length) mn ms), .flat true ((R.set k mn).flatMap encI), .cells true [.gl (.loc 4) 1 0], .flat true []] ?_ ?_
        · conv => whnf
          refine Retell.turn ⟨[0,1,2,4,9], 9, [(3, [DI ow])], []⟩ (TurnOk.mk' _ _ [(3, [DI ow])] [] (OutOk.lift _) rfl (by decide) zb zf trivial rfl) zw zm
        · conv => whnf
          repeat' (first | ((first | refine zs1 ?_ | refine zs2 ?_ | refine zs3 ?_ | refine zs4 ?_ | refine zs5 ?_); conv => whnf) | ((first | apply zi1 | apply zi2 | apply zi3 | apply zi4 | apply zi5) <;> intro _ <;> first | (exfalso; omega) | contradiction | (conv => whnf)))
          refine VCall.intro (vc_put (k : Int) [] [] (.loc 3) (.loc 4) _ rfl rfl rfl (by decide) (by decide)) ?_
          conv => whnf
          repeat' (first | ((first | refine zs1 ?_ | refine zs2 ?_ | refine zs3 ?_ | refine zs4 ?_ | refine zs5 ?_); conv => whnf) | ((first | apply zi1 | apply zi2 | apply zi3 | apply zi4 | apply zi5) <;> intro _ <;> first | (exfalso; omega) | contradiction | (conv => whnf)))
          have hfin : flE o W ow mn o.length (R.set k mn, [k]) = (A (k + 1)).1 := by rw [hAs]
          have hfin2 : (A (k + 1)).2 = mn + 1 := by rw [hAs]
          have hmnk := hopk.2
          clear hAs hos hop hR hmn hRk hfr hopk
          generalize hA1 : A (k + 1) = Ak at *
          refine VCode.lpC (outer := h.lift) (marks := []) 99 (fun y : Nat × (List Int × List Nat) × List D => [(1, .fp [DI W, dints o]), (2, .nilptr), (3, I 0), (5, .ptr (.loc 0) 0), (24, ints o), (25, I o.length), (26, I k), (6, I k), (7, .fp [DI ow]), (8, .ptr (.loc 3) 0)]) (fun y => [.cells true [.ptr (.loc 1) 0], .cells true (wkC W o (.gl (.loc 2) 1 o.length) mn ms), .flat true (y.2.1.1.flatMap encI), .cells true [.gl (.loc 4) 1 (natI y.2.1.2).length], .flat true y.2.2])
            (fun y => y.1 ≤ o.length ∧ EI o.length y.2.1 ∧ muE y.2.1 ≤ y.1 ∧ flE o W ow mn y.1 y.2.1 = Ak.1 ∧ y.2.2.take (natI y.2.1.2).length = (natI y.2.1.2).flatMap encI) (fun y => y.1) (o.length, (R.set k mn, [k]), [DI k]) ⟨Nat.le_refl _, hone.1, hone.2, hfin, rfl⟩ ?_ ?_
          · conv => whnf
            refine Retell.turn ⟨[0,1,2,3,5], 9, [], []⟩ (TurnOk.mk' _ _ [] [] (OutOk.lift _) rfl (by decide) zb trivial trivial rfl) zw zm
          · clear hfin hone
            rintro ⟨N, ⟨R2, S2⟩, ds⟩ ⟨h4, h5, h6, h7, h8⟩
            dsimp only at h4 h5 h6 h7 h8
            rcases List.eq_nil_or_concat S2 with rfl | ⟨S3, p, rfl⟩
            · rw [flE_nil] at h7
              subst h7
              conv => whnf
              repeat' (first | ((first | refine zs1 ?_ | refine zs2 ?_ | refine zs3 ?_ | refine zs4 ?_ | refine zs5 ?_); conv => whnf) | ((first | apply zi1 | apply zi2 | apply zi3 | apply zi4 | apply zi5) <;> intro _ <;> first | (exfalso; omega) | contradiction | (conv => whnf)) | (refine VMem.st1 (b := .cells true (wkC W o (.gl (.loc 2) 1 o.length) mn ms)) rfl rfl rfl rfl wkC_wr ?_; conv => whnf))
              refine LEnd.intro (k + 1) (by omega) (by omega) ?_
              rw [hA1, hfin2]
              conv => whnf
              refine Retell.turn ⟨[0,1,2], 9, [], []⟩ (TurnOk.mk' _ _ [] [] (OutOk.lift _) rfl (by decide) zb trivial trivial rfl) zw zm
            · rw [List.concat_eq_append] at *
              obtain ⟨N, rfl⟩ : ∃ M, N = M + 1 := ⟨N - 1, by have := mu_pop (R := R2) (S := S3) (p := p); omega⟩
              rw [flE_step] at h7
              have hp := h5.lt p (by simp)
              have hI2 : EI o.length (R2, S3) := ⟨h5.len, fun k hk => h5.lt k (List.mem_append_left _ hk)⟩
              have hmu : muE (R2, S3) ≤ N := by have := mu_pop (R := R2) (S := S3) (p := p); omega
              have hst := fun j hj => nbF_putE (o := o) (ow := ow) (mn := (mn : Int)) hw rfl hmod hp (by omega) hI2 (hnl p hp) j hj
              have hS3 : (natI S3).length ≤ 4000000 := by
                rw [natI_len]
                have h10 := hmu
                unfold muE at h10
                dsimp only at h10
                omega
              have hln : (natI (S3 ++ [p])).length = (natI S3).length + 1 := by rw [natI_app, List.length_append, List.length_singleton]
              rw [hln, natI_app] at h8
              have h9 : ds.take (natI S3).length = (natI S3).flatMap encI := by
                have e1 := congrArg (List.take (natI S3).length) h8
                rw [List.take_take, Nat.min_eq_left (by omega), List.flatMap_append, List.take_left' (by rw [flat_len encI_len, Nat.mul_one])] at e1
                exact e1
              rw [hln]
              have hN := h4
              clear h5 h6
              have cT := fun h h1 h2 => vc_take (p : Int) (natI S3) ds (.loc 3) (.loc 4) h h1 h2 h8 hS3
              conv => whnf
              repeat' (first | ((first | refine zs1 ?_ | refine zs2 ?_ | refine zs3 ?_ | refine zs4 ?_ | refine zs5 ?_); conv => whnf) | ((first | apply zi1 | apply zi2 | apply zi3 | apply zi4 | apply zi5) <;> intro _ <;> first | (exfalso; omega) | contradiction | (conv => whnf)))
              refine zs6 [(0, 4), (3, 4)] ?_
              conv => whnf
              repeat' (first | ((first | refine zs1 ?_ | refine zs2 ?_ | refine zs3 ?_ | refine zs4 ?_ | refine zs5 ?_); conv => whnf) | ((first | apply zi1 | apply zi2 | apply zi3 | apply zi4 | apply zi5) <;> intro _ <;> first | (exfalso; omega) | contradiction | (conv => whnf)) | (refine VCall.intro (cT _ rfl rfl) ?_; conv => whnf) | (refine VCall.intro (cN p _) ?_; conv => whnf))
              refine VCode.tell [(1, .fp [DI W, dints o]), (2, .nilptr), (3, I 0), (5, .ptr (.loc 0) 0), (24, ints o), (25, I o.length), (26, I k), (6, I k), (7, .fp [DI ow]), (8, .ptr (.loc 3) 0), (60, vNbs W o p)] [.cells true [.ptr (.loc 1) 0], .cells true (wkC W o (.gl (.loc 2) 1 o.length) mn ms), .flat true (R2.flatMap encI), .cells true [.gl (.loc 4) 1 (natI S3).length], .flat true ds] (marks' := []) ?_ ?_
              · conv => whnf
                refine Retell.turn ⟨[0,1,2,3,4], 9, [], []⟩ (TurnOk.mk' _ _ [] [] (OutOk.lift _) rfl (by decide) zb trivial trivial rfl) zw zm
              · conv => whnf
                refine VCode.iterS 4 (nbY W o.length p) (fun j g => OJ h.lift (.cells true [.ptr (.loc 1) 0]) (.cells true (wkC W o (.gl (.loc 2) 1 o.length) mn ms)) (nbF (putE o ow mn) W o.length p (R2, S3) j).1 (nbF (putE o ow mn) W o.length p (R2, S3) j).2 g) _ (.loc 6) rfl (itN p hp) rfl rfl ⟨rfl, rfl, rfl, rfl, ⟨4, ds, .inl rfl, rfl, rfl, h9⟩, rfl⟩ ?_ ?_ ?_
                · rintro j g hj hy hJ
                  rw [nbF_none (nbY_none hy)]; exact hJ
                · rintro j g vs hj hy hJ hlp
                  obtain ⟨q, hq, rfl⟩ := nbY_some hy
                  rw [nbF_some hq]
                  have hqL := hnl p hp j q hj hq
                  have hI := (hst j (by omega)).1
                  have hmuj := (hst j (by omega)).2
                  generalize nbF (putE o ow mn) W o.length p (R2, S3) j = st at *
                  obtain ⟨R4, S4⟩ := st
                  dsimp only at hJ
                  obtain ⟨j0, j1, j2, j3, ⟨m, dj, hm, j4, j5, j6⟩, j7⟩ := hJ
                  have hb : R4[q]? = some (at0 R4 q) := at0_get (by have := hI.len; dsimp only at this; omega)
                  have hoq := at0_get hqL
                  have hm0 : Vm.Id.loc m ≠ .loc 6 := by intro h0; injection h0; omega
                  have hm3 : Vm.Id.loc 3 ≠ .loc m := by intro h0; injection h0; omega
                  have hm2 : Vm.Id.loc m ≠ .loc 2 := by intro h0; injection h0; omega
                  have hS4 : (natI S4).length ≤ 4000000 := by
                    rw [natI_len]
                    have h10 := hmu
                    rw [← hmuj] at h10
                    unfold muE at h10
                    dsimp only at h10
                    omega
                  by_cases hput : at0 R4 q = -1 ∧ at0 o q = ow
                  · have e1 : putE o ow mn (R4, S4) q = (R4.set q mn, S4 ++ [q]) := if_pos hput
                    rw [e1]
                    dsimp only
                    obtain ⟨s1, s2, s3⟩ := OJ.step (R := R4.set q mn) (S := S4 ++ [q]) j0 j1 j2 j3 j4 j5 j7 hlp hm
                    refine ⟨_, ?_, s2, s3⟩
                    rw [hput.1] at hb
                    rw [hput.2] at hoq
                    refine VRound.vy' hlp rfl rfl rfl s1 fun l0 => ?_
                    refine VRound.tell [(1, .fp [DI W, dints o]), (5, .ptr (.out (.loc 0)) 0), (7, .fp [DI ow]), (8, .ptr (.out (.loc 3)) 0), (61, I q)] ?_ ?_
                    · conv => whnf
                      refine Retell.turn ⟨[], 0, [], []⟩ (TurnOk.mk' _ _ [] [] (OutOk.lift _) rfl (by decide) zb trivial trivial rfl) zw zm
                    · conv => whnf
                      repeat (first | ((first | refine zs1 ?_ | refine zs2 ?_ | refine zs3 ?_ | refine zs4 ?_ | refine zs5 ?_ | refine zs6 [] ?_); conv => whnf))
                      refine VBegin.intro (get_out hlp _) rfl ?_
                      conv => whnf
                      refine zs6 [] ?_
                      conv => whnf
                      repeat' (first | ((first | refine zs1 ?_ | refine zs2 ?_ | refine zs3 ?_ | refine zs4 ?_ | refine zs5 ?_); conv => whnf) | ((first | apply zi1 | apply zi2 | apply zi3 | apply zi4 | apply zi5) <;> intro _ <;> first | (exfalso; omega) | contradiction | (conv => whnf)) | (refine VLd.cell rfl rfl (get_setO (by decide) j1 _) rfl ?_; conv => whnf) | (refine VLd.cell rfl rfl (get_setO (by decide) j2 _) rfl ?_; conv => whnf) | (refine VLd.recc encI_len q 0 rfl rfl (get_setO (by decide) j3 _) hb (by decide) rfl (ix1 _) ?_; conv => whnf) | (refine VAny.ix encI_len q rfl rfl hoq ?_; conv => whnf))
                      refine zs6 [] ?_
                      conv => whnf
                      repeat' (first | ((first | refine zs1 ?_ | refine zs2 ?_ | refine zs3 ?_ | refine zs4 ?_ | refine zs5 ?_); conv => whnf) | ((first | apply zi1 | apply zi2 | apply zi3 | apply zi4 | apply zi5) <;> intro _ <;> first | (exfalso; omega) | contradiction | (conv => whnf)) | (refine VLd.cell rfl rfl (get_setO (by decide) j1 _) rfl ?_; conv => whnf) | (refine VLd.cell rfl rfl (get_setO (by decide) j2 _) rfl ?_; conv => whnf) | (refine VMem.setRec encI_len q 0 (mn : Int) rfl rfl (get_setO (by decide) j3 _) hb (by decide) rfl (ix1 _) ?_; conv => whnf))
                      refine VCall.intro (vc_put (q : Int) (natI S4) dj (.out (.loc 3)) (.out (.loc m)) _ (get_outNe (by decide) (get_setO (by decide) j4 _)) (get_outNe hm2 (get_setO hm0 j5 _)) j6 (fun e => hm3 (by injection e)) hS4) ?_
                      rw [← natI_app]
                      conv => whnf
                      repeat' (first | ((first | refine zs1 ?_ | refine zs2 ?_ | refine zs3 ?_ | refine zs4 ?_ | refine zs5 ?_); conv => whnf) | ((first | apply zi1 | apply zi2 | apply zi3 | apply zi4 | apply zi5) <;> intro _ <;> first | (exfalso; omega) | contradiction | (conv => whnf)))
                      refine RFin.on (get_outNe (by decide) (get_outNe (fun e => hm0 e.symm) (get_outNe (by decide) (outW_get _ _ _ _)))) ?_
                      refine VOut.upd (upO (R4.set q mn) m (.cells true [.gl g.fresh 1 (natI (S4 ++ [q])).length])) [.flat true ((natI (S4 ++ [q])).flatMap encI)] [0] 1 ?_ (upO_ok j3 j5 j4) ?_ ?_ ?_ ?_ ?_
                      · rfl
                      · decide
                      · rfl
                      · intro k' b' hk'
                        cases k' with
                        | zero => rw [List.getElem?_cons_zero, Option.some.injEq] at hk'; subst hk'; exact ⟨0, rfl, rfl⟩
                        | succ k' => simp at hk'
                      · intro σ x hx; exact hx
                      · have e1 : (Blk.cells true [V.gl g.fresh 1 (natI (S4 ++ [q])).length]).ren (backR g.loc.length [0] 1) = .cells true [.gl (.loc 0) 1 (natI (S4 ++ [q])).length] := by simp [Blk.ren, V.ren, backR, Hp.fresh]
                        simp only [upO, List.map_cons, List.map_nil, e1]
                        exact outer_fix3 (get_out hlp []) (by decide) (fun e => hm0 e.symm) (by decide)
                  · have e1 : putE o ow mn (R4, S4) q = (R4, S4) := if_neg hput
                    rw [e1]
                    refine ⟨g, ?_, ⟨j0, j1, j2, j3, ⟨m, dj, hm, j4, j5, j6⟩, j7⟩, hlp⟩
                    generalize at0 R4 q = a at *
                    generalize at0 o q = b at *
                    refine VRound.vy' hlp rfl rfl rfl g.grows_refl fun l0 => ?_
                    refine VRound.tell [(1, .fp [DI W, dints o]), (5, .ptr (.out (.loc 0)) 0), (7, .fp [DI ow]), (8, .ptr (.out (.loc 3)) 0), (61, I q)] ?_ ?_
                    · conv => whnf
                      refine Retell.turn ⟨[], 0, [], []⟩ (TurnOk.mk' _ _ [] [] (OutOk.lift _) rfl (by decide) zb trivial trivial rfl) zw zm
                    · conv => whnf
                      repeat (first | ((first | refine zs1 ?_ | refine zs2 ?_ | refine zs3 ?_ | refine zs4 ?_ | refine zs5 ?_ | refine zs6 [] ?_); conv => whnf))
                      refine VBegin.intro (get_out hlp _) rfl ?_
                      conv => whnf
                      refine zs6 [] ?_
                      conv => whnf
                      repeat' (first | ((first | refine zs1 ?_ | refine zs2 ?_ | refine zs3 ?_ | refine zs4 ?_ | refine zs5 ?_); conv => whnf) | ((first | apply zi1 | apply zi2 | apply zi3 | apply zi4 | apply zi5) <;> intro _ <;> first | (exfalso; omega) | contradiction | (conv => whnf)) | (refine VLd.cell rfl rfl (get_setO (by decide) j1 _) rfl ?_; conv => whnf) | (refine VLd.cell rfl rfl (get_setO (by decide) j2 _) rfl ?_; conv => whnf) | (refine VLd.recc encI_len q 0 rfl rfl (get_setO (by decide) j3 _) hb (by decide) rfl (ix1 _) ?_; conv => whnf) | (refine VAny.ix encI_len q rfl rfl hoq ?_; conv => whnf))
                      all_goals first
                        | exact RFin.on (outW_get _ _ _ _) (VOut.back (get_out hlp []) rfl)
                        | (exfalso; omega)
                · rintro ⟨go, gl⟩ ⟨j0, j1, j2, j3, ⟨m, dj, hm, j4, j5, j6⟩, j7⟩ hlp
                  dsimp only at j0
                  subst j0
                  have hE := hst 4 (Nat.le_refl _)
                  generalize nbF (putE o ow mn) W o.length p (R2, S3) 4 = st at *
                  obtain ⟨R4, S4⟩ := st
                  dsimp only at j3 j4 j6
                  have j1 : gl[0]? = some _ := j1
                  have j2 : gl[1]? = some _ := j2
                  have j3 : gl[2]? = some _ := j3
                  have j4 : gl[3]? = some _ := j4
                  have j5 : gl[m]? = some _ := j5
                  have j7 : gl[5]? = some _ := j7
                  have l1 := (List.getElem?_eq_some_iff.1 j1).1
                  have l2 := (List.getElem?_eq_some_iff.1 j2).1
                  have l3 := (List.getElem?_eq_some_iff.1 j3).1
                  have l4 := (List.getElem?_eq_some_iff.1 j4).1
                  have l5 := (List.getElem?_eq_some_iff.1 j5).1
                  have key : ∀ (x : Nat) (A : Blk), x ≠ 6 → (gl.set 6 A)[x]? = gl[x]? := fun x A hx => List.getElem?_set_ne (Ne.symm hx)
                  have hmn2 : ([0, 1, 2, 3, m] : List Nat).Nodup := by simp; omega
                  have hm5 : 5 ∉ ([0, 1, 2, 3, m] : List Nat) := by simp; omega
                  refine Told.mk [(1, .fp [DI W, dints o]), (2, .nilptr), (3, I 0), (5, .ptr (.loc 0) 0), (24, ints o), (25, I o.length), (26, I k), (6, I k), (7, .fp [DI ow]), (8, .ptr (.loc 3) 0)] [.cells true [.ptr (.loc 1) 0], .cells true (wkC W o (.gl (.loc 2) 1 o.length) mn ms), .flat true (R4.flatMap encI), .cells true [.gl (.loc 4) 1 (natI S4).length], .flat true dj] (marks' := []) ?_ ?_
                  · conv => whnf
                    refine Retell.turn ⟨[0, 1, 2, 3, m], gl.length, [], []⟩ (TurnOk.mk' _ _ [] [] (OutOk.lift _) (Nat.ble_eq_true_of_le (by simp)) hmn2 (BTos.cells (blt_of l1) ((key 0 _ (by decide)).trans j1) rfl zw (BTos.cells (blt_of l2) ((key 1 _ (by decide)).trans j2) rfl zw (BTos.flat (blt_of l3) ((key 2 _ (by decide)).trans j3) rfl (BTos.cells (blt_of l4) ((key 3 _ (by decide)).trans j4) rfl zw (BTos.flat (blt_of l5) ((key m _ (by omega)).trans j5) rfl BTos.nil))))) trivial trivial rfl) zw (MkTo.drop hm5 ((key 5 _ (by decide)).trans j7) MkTo.nil)
                  · conv => whnf
                    repeat' (first | ((first | refine zs1 ?_ | refine zs2 ?_ | refine zs3 ?_ | refine zs4 ?_ | refine zs5 ?_); conv => whnf) | ((first | apply zi1 | apply zi2 | apply zi3 | apply zi4 | apply zi5) <;> intro _ <;> first | (exfalso; omega) | contradiction | (conv => whnf)))
                    refine LEnd.intro (N, (R4, S4), dj) ⟨by dsimp only; omega, hE.1, by dsimp only; rw [hE.2]; exact hmu, h7, j6⟩ (by dsimp only; omega) ?_
                    conv => whnf
                    refine Retell.turn ⟨[0,1,2,3,4], 9, [], []⟩ (TurnOk.mk' _ _ [] [] (OutOk.lift _) rfl (by decide) zb trivial trivial rfl) zw zm
      · rw [if_neg hfr] at hAs
        conv => whnf
        repeat' (first | ((first | refine zs1 ?_ | refine zs2 ?_ | refine zs3 ?_ | refine zs4 ?_ | refine zs5 ?_); conv => whnf) | ((first | apply zi1 | apply zi2 | apply zi3 | apply zi4 | apply zi5) <;> intro _ <;> first | (exfalso; omega) | contradiction | (conv => whnf)))
        refine VCut.block 99 ?_
        conv => whnf
        repeat' (first | ((first | refine zs1 ?_ | refine zs2 ?_ | refine zs3 ?_ | refine zs4 ?_ | refine zs5 ?_); conv => whnf) | ((first | apply zi1 | apply zi2 | apply zi3 | apply zi4 | apply zi5) <;> intro _ <;> first | (exfalso; omega) | contradiction | (conv => whnf)) | (refine VAny.ix encI_len k rfl rfl hxo ?_; conv => whnf) | (refine VLd.recc encI_len k 0 rfl rfl rfl hRk (by decide) rfl (ix1 _) ?_; conv => whnf))
        all_goals first
          | (exfalso; omega)
          | (refine LEnd.intro (k + 1) (by omega) (by omega) ?_
             rw [hAs, hR, hmn]
             conv => whnf
             refine Retell.turn ⟨[0,1,2], 9, [], []⟩ (TurnOk.mk' _ _ [] [] (OutOk.lift _) rfl (by decide) zb trivial trivial rfl) zw zm)
    · obtain rfl : k = o.length := by omega
      subst hms
      generalize (A o.length).1 = R at *
      generalize (A o.length).2 = mn at *
      have fl : (R.flatMap encI).length = o.length * 1 := by rw [flat_len encI_len, hopk.1]
      have hRl : R.length = o.length := hopk.1
      conv => whnf
      repeat' (first | ((first | refine zs1 ?_ | refine zs2 ?_ | refine zs3 ?_ | refine zs4 ?_ | refine zs5 ?_); conv => whnf) | ((first | apply zi1 | apply zi2 | apply zi3 | apply zi4 | apply zi5) <;> intro _ <;> first | (exfalso; omega) | contradiction | (conv => whnf)))
      refine VOut.turn ⟨[1], 9, [(2, R.flatMap encI)], []⟩ (loc' := [.cells true (wkC W o (.fs 1 o.length (R.flatMap encI)) mn ms0)]) (r1' := .tuple [.ptr (.loc 0) 0, I 0]) (TurnOk.mk' _ _ [(2, R.flatMap encI)] [] (OutOk.lift _) rfl (by decide) zb zf trivial rfl) zw ?_
      rw [← hRl, show V.fs 1 R.length (R.flatMap encI) = ints R from rfl]
      refine VOut.upd [] [.cells true (wkC W o (ints R) mn ms0)] [0] 9 rfl (by intro p hp; cases hp) (by decide) rfl ?_ ?_ rfl
      · intro k' b' hk'
        cases k' with
        | zero =>
          rw [List.getElem?_cons_zero, Option.some.injEq] at hk'
          subst hk'
          refine ⟨0, rfl, ?_⟩
          rw [List.getElem?_cons_zero]
          congr 1
        | succ k' => simp at hk'
      · intro σ x hx
        have : (V.tuple [.ptr h.fresh 0, I 0]).ren (backR h.loc.length [0] 9) = .tuple [.ptr (.loc 0) 0, I 0] := by simp [V.ren, V.rens, backR, Hp.fresh]
        rw [this]; exact hx
end Go.Proofs.YtccpfempgmkmbaaGreat

open Go.Vm
open Riv
namespace Go.Proofs.YtccpfempgmkmbaaGreat
set_option maxRecDepth 20000
set_option maxHeartbeats 4000000

theorem vc_isl1 (x : Int) (h : Hp) : VC Tryz.prog 50 [I x] h (B (decide (x = 3))) h := by
  refine VC.body Tryz.func50 rfl Tryz.ntmps50 Tryz.call50 (h.grows_refl) rfl ?_; conv => whnf
  repeat' (first | ((first | refine zs1 ?_ | refine zs2 ?_ | refine zs3 ?_ | refine zs4 ?_ | refine zs5 ?_ | refine zs6 [] ?_); conv => whnf) | ((first | apply zi1 | apply zi2 | apply zi3 | apply zi4 | apply zi5) <;> intro _ <;> conv => whnf))
  refine VOut.same ?_
  have : (x == 3) = decide (x = 3) := by rw [Bool.eq_iff_iff, decide_eq_true_eq, beq_iff_eq]
  simp only [V.ren, this]
def vFolI (w hh : Int) (c : List Int) (mC fC : Vm.Id) : V := .func (.func 69) [] [.ptr mC 0, .fp [DI w, DI hh, dints c], .fp [.func (.func 50) [] []], .fp [dints c], .ptr fC 0]
structure MemI (w hh : Int) (c : List Int) (mC mI fC : Vm.Id) (M : List Nat) (h : Hp) : Prop where
  mc : h.get mC = some (.cells true [.gl mI 1 c.length])
  mi : h.get mI = some (.flat true ((metB c.length M).flatMap encB))
  fc : h.get fC = some (.cells true [vFolI w hh c mC fC])
structure DjtI (mC mI fC oI : Vm.Id) : Prop where
  cI : mC ≠ mI
  co : mC ≠ oI
  fI : fC ≠ mI
  fo : fC ≠ oI
  Io : mI ≠ oI
def effI (h : Hp) (mI oI : Vm.Id) (L : Nat) (R : List Nat) (l : List Int) : Hp := (h.sets [(mI, .flat true ((metB L R).flatMap encB)), (oI, .dead)]).pushes [.flat true (l.flatMap encI)]
theorem vc_folI {W H : Nat} (m : Mp) (o : MOk W H m.c) (hw : m.w = W) : ∀ (N n : Nat) (M : List Nat) (own : List Int) (mC mI fC oI : Vm.Id) (h : Hp), bat (marks m.c) n = true → n ∉ M → M.Nodup → (∀ x ∈ M, x < m.c.length) → m.c.length ≤ N + M.length → own.length ≤ M.length →
    MemI m.w m.h m.c mC mI fC M h → h.get oI = some (.flat true (own.flatMap encI)) → DjtI mC mI fC oI →
    VC Tryz.prog 69 [I n, .gl oI 1 own.length, .ptr mC 0, .fp (encM m), .fp [.func (.func 50) [] []], .fp [dints m.c], .ptr fC 0] h (.gl h.fresh 1 (ownF own M (folW (marks m.c) W N n M)).length) (effI h mI oI m.c.length (folW (marks m.c) W N n M) (ownF own M (folW (marks m.c) W N n M)))
  | 0, n, M, own, mC, mI, fC, oI, h, h1, h2, h3, h4, h5, h6, h7, h8, h9 => by
    have h10 := nodup_len m.c.length (M ++ [n]) (by
      rw [List.nodup_append]
      exact ⟨h3, by simp, fun a ha b hb => by simp at hb; subst hb; intro e; subst e; exact h2 ha⟩) fun x hx => by
      rcases List.mem_append.1 hx with hx | hx
      · exact h4 x hx
      · simp at hx; subst hx; have := bat_lt h1; rw [marks_len] at this; exact this
    rw [List.length_append, List.length_singleton] at h10
    omega
  | N + 1, n, M, own, mC, mI, fC, oI, h, h1, h2, h3, h4, h5, h6, h7, h8, h9 => by
    have IH := fun n M own mC mI fC oI h => vc_folI m o hw N n M own mC mI fC oI h
    have hWb := o.w
    have hHb := o.h
    have hL := o.len
    have hm144 := MOk.le o
    have cB := fun n h => vc_beside m n h
    have itB := fun n hn => iter_beside m W n (by omega) hw hn (by omega)
    have hmkl := marks_len m.c
    have hnl := bat_lt h1
    have hR : folW (marks m.c) W (N + 1) n M = folL (marks m.c) (folW (marks m.c) W N) (nbs W (marks m.c).length n) (M ++ [n]) := rfl
    rw [← folL_fold, ← nbF_all] at hR
    have hmi0 : MI (marks m.c).length (M ++ [n]) (M ++ [n]) := by
      refine ⟨List.prefix_refl _, ?_, fun x hx => ?_⟩
      · rw [List.nodup_append]
        exact ⟨h3, by simp, fun a ha b hb => by simp at hb; subst hb; intro e; subst e; exact h2 ha⟩
      · rcases List.mem_append.1 hx with hx | hx
        · rw [hmkl]; exact h4 x hx
        · simp at hx; subst hx; exact hnl
    have hMI := fun j hj => nbM_ok (mk := (marks m.c)) (N := N) (n := n) (W := W) (H := H) (by omega) (by rw [hmkl]; exact hL) hmi0 (by rw [List.length_append, List.length_singleton, hmkl]; omega) j hj
    have hMl : (M ++ [n]).length = M.length + 1 := by simp
    have hfo : ∀ k M, bat (marks m.c) k = true → k ∉ M → M.Nodup → (∀ x ∈ M, x < (marks m.c).length) → (marks m.c).length ≤ N + M.length → M <+: folW (marks m.c) W N k M := fun k M a1 a2 a3 a4 a5 => (folW_mi (by omega) (by rw [hmkl]; exact hL) a1 a2 a3 a4 a5).1.pre
    have hpre0 : M <+: M ++ [n] := List.prefix_append _ _
    obtain ⟨R, hRe⟩ : ∃ R, R = folW (marks m.c) W (N + 1) n M := ⟨_, rfl⟩
    rw [← hRe] at hR ⊢
    clear hRe
    have hset := metB_set (L := m.c.length) M (n := n) (by omega)
    have hmat := metB_at (L := m.c.length) (k := n) M (by omega)
    have hown1 := ownF_one own M n
    have hgrow : h.grows (effI h mI oI m.c.length R (ownF own M R)) := by
      refine Hp.grows_sets fun e he => ?_
      simp only [List.mem_cons, List.not_mem_nil, or_false] at he
      rcases he with rfl | rfl <;> simp only
      · rw [h7.mi]; simp
      · rw [h8]; simp
    obtain ⟨mw, mh, c⟩ := m
    dsimp only at *
    subst hw
    show VC Tryz.prog 69 [I n, .gl oI 1 own.length, .ptr mC 0, .fp [DI W, DI mh, dints c], .fp [.func (.func 50) [] []], .fp [dints c], .ptr fC 0] h _ _
    refine VC.bodyC 3 Tryz.func69 rfl Tryz.ntmps69 Tryz.call69 hgrow rfl ?_
    conv => whnf
    have hno : ∀ (i : Vm.Id) (j : Nat), Vm.Id.out i ≠ .loc j := fun _ _ e => by cases e
    have hMle := hmi0.len.2
    repeat' (first | ((first | refine zs1 ?_ | refine zs2 ?_ | refine zs3 ?_ | refine zs4 ?_ | refine zs5 ?_); conv => whnf) | ((first | apply zi1 | apply zi2 | apply zi3 | apply zi4 | apply zi5) <;> intro _ <;> conv => whnf) | (refine VLd.cell rfl rfl (get_out h7.mc _) rfl ?_; conv => whnf))
    refine VMem.setRec encB_len n 0 true rfl rfl (get_out h7.mi _) hmat (by decide) rfl (ofs _) ?_
    rw [hset]
    conv => whnf
    repeat' (first | ((first | refine zs1 ?_ | refine zs2 ?_ | refine zs3 ?_ | refine zs4 ?_ | refine zs5 ?_); conv => whnf) | ((first | apply zi1 | apply zi2 | apply zi3 | apply zi4 | apply zi5) <;> intro _ <;> conv => whnf))
    refine VMem.app1B (α := Int) (l := own) (n : Int) encI_len rfl (get_outNe (fun e => h9.Io e.symm) (get_out h8 _)) rfl rfl rfl (by omega) ?_
    rw [← hown1]
    conv => whnf
    repeat' (first | ((first | refine zs1 ?_ | refine zs2 ?_ | refine zs3 ?_ | refine zs4 ?_ | refine zs5 ?_); conv => whnf) | ((first | apply zi1 | apply zi2 | apply zi3 | apply zi4 | apply zi5) <;> intro _ <;> conv => whnf))
    have hol : own.length + 1 = (ownF own M (M ++ [n])).length := by rw [hown1, List.length_append, List.length_singleton]
    refine VCut.atO (outer := oF h.lift mI oI c.length (M ++ [n])) (marks := []) 99 [(0, I n), (2, .ptr (.out mC) 0), (3, .fp [DI W, DI mh, dints c]), (4, .fp [.func (.func 50) [] []]), (5, .fp [dints c]), (6, .ptr (.out fC) 0), (8, .ptr (.loc 0) 0)] [.cells true [.gl (.loc 1) 1 (own.length + 1)], .flat true ((ownF own M (M ++ [n])).flatMap encI)] rfl ?_ ?_
    · generalize ownF own M (M ++ [n]) = o1
      conv => whnf
      refine Retell.turn ⟨[0, 2], 3, [], []⟩ (TurnOk.mk' _ _ [] [] OutOk.oF rfl (by decide) zb trivial trivial rfl) zw zm
    · conv => whnf
      repeat' (first | ((first | refine zs1 ?_ | refine zs2 ?_ | refine zs3 ?_ | refine zs4 ?_ | refine zs5 ?_); conv => whnf) | ((first | apply zi1 | apply zi2 | apply zi3 | apply zi4 | apply zi5) <;> intro _ <;> conv => whnf) | (refine VCall.intro (cB n _) ?_; conv => whnf))
      refine VCode.tell [(2, .ptr (.out mC) 0), (4, .fp [.func (.func 50) [] []]), (5, .fp [dints c]), (6, .ptr (.out fC) 0), (8, .ptr (.loc 0) 0), (20, vBes ⟨W, mh, c⟩ n)] [.cells true [.gl (.loc 1) 1 (own.length + 1)], .flat true ((ownF own M (M ++ [n])).flatMap encI)] (marks' := []) ?_ ?_
      · generalize ownF own M (M ++ [n]) = o1
        conv => whnf
        refine Retell.turn ⟨[0, 1], 2, [], []⟩ (TurnOk.mk' _ _ [] [] OutOk.oF rfl (by decide) zb trivial trivial rfl) zw zm
      · conv => whnf
        refine VCode.iterS 4 (nbY W c.length n) (fun j g => GJ (oF h.lift mI oI c.length (nbF (folS (marks c) (folW (marks c) W N)) W (marks c).length n (M ++ [n]) j)) (ownF own M (nbF (folS (marks c) (folW (marks c) W N)) W (marks c).length n (M ++ [n]) j)) g) _ (.loc 3) rfl (itB n (by omega)) rfl rfl ⟨rfl, ⟨1, .inl rfl, by rw [nbF_zero, ← hol]; rfl, rfl⟩, rfl⟩ ?_ ?_ ?_
        · rintro j g hj hy hJ
          rw [nbF_none (by rw [hmkl]; exact nbY_none hy)]; exact hJ
        · rintro j g vs hj hy hJ hlp
          obtain ⟨q, hq, rfl⟩ := nbY_some hy
          have hqc : q < c.length := by
            have := ((nbs_iff (by omega) hL (by omega)).1 (nbO_mem hj hq)).1
            exact this
          rw [← hmkl] at hq
          rw [nbF_some hq]
          have hI := hMI j (by omega)
          generalize nbF (folS (marks c) (folW (marks c) W N)) W (marks c).length n (M ++ [n]) j = Mk at hJ hI
          have hpreM : M <+: Mk := hpre0.trans hI.pre
          have hlenM := hI.len
          have hlown := ownF_len own hpreM.length_le
          have hpp := fun S (hS : Mk <+: S) => ownF_ownF own hpreM hS
          obtain ⟨jo, ⟨m, hm, j0, jm⟩, j2⟩ := hJ
          obtain ⟨l, hl0⟩ : ∃ l, l = ownF own M Mk := ⟨_, rfl⟩
          rw [← hl0] at j0 jm hlown
          simp only [← hl0] at hpp
          have kmc : g.get (.out mC) = some ((Blk.cells true [.gl mI 1 c.length]).ren .out) := by
            show g.outer mC = _
            rw [jo]; exact oF_oth h9.cI h9.co [] (get_out h7.mc [])
          have kfc : g.get (.out fC) = some ((Blk.cells true [vFolI W mh c mC fC]).ren .out) := by
            show g.outer fC = _
            rw [jo]; exact oF_oth h9.fI h9.fo [] (get_out h7.fc [])
          have kmi : g.get (.out mI) = some (.flat true ((metB c.length Mk).flatMap encB)) := by
            show g.outer mI = _
            rw [jo]; exact oF_met h9.Io []
          have hqm := metB_at Mk hqc
          have hx := at0_get hqc
          have cSq := fun h => vc_isl1 (at0 c q) h
          rw [← bat_marks] at cSq
          unfold folS
          have hm0 : Vm.Id.loc m ≠ .loc 0 := by intro h0; injection h0; omega
          have hm3 : Vm.Id.loc m ≠ .loc 3 := by intro h0; injection h0; omega
          by_cases hgo : q ∉ Mk ∧ bat (marks c) q = true
          · rw [if_pos hgo]
            rw [decide_eq_false hgo.1] at hqm
            rw [hgo.2] at cSq
            have hfp := hfo q Mk hgo.2 hgo.1 hI.nd hI.lt (by omega)
            have IHq := fun H hM hb => IH q Mk l (.out (.out mC)) (.out (.out mI)) (.out (.out fC)) (.out (.loc m)) H hgo.2 hgo.1 hI.nd (fun x hx => by have := hI.lt x hx; omega) (by omega) (by omega) hM hb ⟨fun e => h9.cI (by injection e with e; injection e), (fun e => by injection e with e; cases e), fun e => h9.fI (by injection e with e; injection e), (fun e => by injection e with e; cases e), (fun e => by injection e with e; cases e)⟩
            have hown2 := hpp _ hfp
            have hfl := hfp.length_le
            have hl2 := ownF_len l hfl
            generalize folW (marks c) W N q Mk = S at IHq hown2 hfl hl2
            rw [← hown2]
            generalize ownF l Mk S = l' at IHq hl2
            obtain ⟨s1, s2, s3⟩ := FJ.step (R := S) (l' := l') h9.Io jo j0 jm j2 hm hlp
            refine ⟨_, ?_, s2, s3⟩
            refine VRound.vy' hlp rfl rfl rfl s1 fun l0 => ?_
            refine VRound.tell [(2, .ptr (.out (.out mC)) 0), (4, .fp [.func (.func 50) [] []]), (5, .fp [dints c]), (6, .ptr (.out (.out fC)) 0), (8, .ptr (.out (.loc 0)) 0), (21, I q)] ?_ ?_
            · conv => whnf
              refine Retell.turn ⟨[], 0, [], []⟩ (TurnOk.mk' _ _ [] [] (OutOk.lift _) rfl (by decide) zb trivial trivial rfl) zw zm
            · conv => whnf
              repeat (first | ((first | refine zs1 ?_ | refine zs2 ?_ | refine zs3 ?_ | refine zs4 ?_ | refine zs5 ?_ | refine zs6 [] ?_); conv => whnf))
              refine VBegin.intro (get_out hlp _) rfl ?_
              conv => whnf
              refine zs6 [] ?_
              conv => whnf
              repeat' (first | ((first | refine zs1 ?_ | refine zs2 ?_ | refine zs3 ?_ | refine zs4 ?_ | refine zs5 ?_); conv => whnf) | ((first | apply zi1 | apply zi2 | apply zi3 | apply zi4 | apply zi5) <;> intro _ <;> conv => whnf) | (refine VLd.cell rfl rfl (get_setO (hno _ _) kmc _) rfl ?_; conv => whnf) | (refine VLd.recc encB_len q 0 rfl rfl (get_setO (hno _ _) kmi _) hqm (by decide) rfl (ofs _) ?_; conv => whnf) | (refine VAny.ix encI_len q rfl rfl hx ?_; conv => whnf) | (refine VCall.intro (cSq _) ?_; conv => whnf))
              repeat' (first | ((first | refine zs1 ?_ | refine zs2 ?_ | refine zs3 ?_ | refine zs4 ?_ | refine zs5 ?_); conv => whnf) | ((first | apply zi1 | apply zi2 | apply zi3 | apply zi4 | apply zi5) <;> intro _ <;> conv => whnf) | (refine VLd.cell rfl rfl (get_setO (hno _ _) kfc _) rfl ?_; conv => whnf) | (refine VLd.cell rfl rfl (get_setO (by decide) j0 _) rfl ?_; conv => whnf))
              refine VCall.intro (IHq _ ⟨get_setO (hno _ _) kmc _, get_setO (hno _ _) kmi _, get_setO (hno _ _) kfc _⟩ (get_setO hm3 jm _)) ?_
              conv => whnf
              repeat' (first | ((first | refine zs1 ?_ | refine zs2 ?_ | refine zs3 ?_ | refine zs4 ?_ | refine zs5 ?_); conv => whnf) | ((first | apply zi1 | apply zi2 | apply zi3 | apply zi4 | apply zi5) <;> intro _ <;> conv => whnf))
              refine VMem.st1 rfl rfl rfl (b := .cells true [.gl (.out (.loc m)) 1 l.length]) (get_outNe (fun e => hm0 e.symm) (get_outNe (fun e => by cases e) (get_setO (by decide) j0 _))) rfl ?_
              conv => whnf
              repeat' (first | ((first | refine zs1 ?_ | refine zs2 ?_ | refine zs3 ?_ | refine zs4 ?_ | refine zs5 ?_); conv => whnf) | ((first | apply zi1 | apply zi2 | apply zi3 | apply zi4 | apply zi5) <;> intro _ <;> conv => whnf))
              refine RFin.on (get_outNe (by decide) (get_outNe (fun e => hm3 e.symm) (get_outNe (fun e => by cases e) (outW_get _ _ _ _)))) ?_
              refine VOut.upd (upF mI c.length S m (.cells true [.gl g.fresh 1 l'.length])) [.flat true (l'.flatMap encI)] [0] 1 ?_ (upF_ok kmi jm j0) ?_ ?_ ?_ ?_ ?_
              · rfl
              · decide
              · rfl
              · intro k' b' hk'
                cases k' with
                | zero => rw [List.getElem?_cons_zero, Option.some.injEq] at hk'; subst hk'; exact ⟨0, rfl, rfl⟩
                | succ k' => simp at hk'
              · intro σ x hx; exact hx
              · have e1 : (Blk.cells true [V.gl g.fresh 1 l'.length]).ren (backR g.loc.length [0] 1) = .cells true [.gl (.loc 0) 1 l'.length] := by simp [Blk.ren, V.ren, backR, Hp.fresh]
                simp only [upF, List.map_cons, List.map_nil, e1]
                exact outer_fix3 (get_out hlp []) (fun e => by cases e) (fun e => hm3 e.symm) (by decide)
          · rw [if_neg hgo, ← hl0]
            refine ⟨g, ?_, ⟨jo, ⟨m, hm, j0, jm⟩, j2⟩, hlp⟩
            have hgo2 : q ∈ Mk ∨ bat (marks c) q = false := by
              by_cases hqM : q ∈ Mk
              · exact .inl hqM
              · right
                cases hb : bat (marks c) q with
                | false => rfl
                | true => exact absurd ⟨hqM, hb⟩ hgo
            rcases hgo2 with hb | hb
            all_goals (
              first | rw [decide_eq_true hb] at hqm | rw [hb] at cSq
              refine VRound.vy' hlp rfl rfl rfl g.grows_refl fun l0 => ?_
              refine VRound.tell [(2, .ptr (.out (.out mC)) 0), (4, .fp [.func (.func 50) [] []]), (5, .fp [dints c]), (21, I q)] ?_ ?_
              · conv => whnf
                refine Retell.turn ⟨[], 0, [], []⟩ (TurnOk.mk' _ _ [] [] (OutOk.lift _) rfl (by decide) zb trivial trivial rfl) zw zm
              · conv => whnf
                repeat (first | ((first | refine zs1 ?_ | refine zs2 ?_ | refine zs3 ?_ | refine zs4 ?_ | refine zs5 ?_ | refine zs6 [] ?_); conv => whnf))
                refine VBegin.intro (get_out hlp _) rfl ?_
                conv => whnf
                refine zs6 [] ?_
                conv => whnf
                repeat' (first | ((first | refine zs1 ?_ | refine zs2 ?_ | refine zs3 ?_ | refine zs4 ?_ | refine zs5 ?_); conv => whnf) | ((first | apply zi1 | apply zi2 | apply zi3 | apply zi4 | apply zi5) <;> intro _ <;> conv => whnf) | (refine VLd.cell rfl rfl (get_setO (hno _ _) kmc _) rfl ?_; conv => whnf) | (refine VLd.recc encB_len q 0 rfl rfl (get_setO (hno _ _) kmi _) hqm (by decide) rfl (ofs _) ?_; conv => whnf) | (refine VAny.ix encI_len q rfl rfl hx ?_; conv => whnf) | (refine VCall.intro (cSq _) ?_; conv => whnf))
                all_goals first
                  | exact RFin.on (outW_get _ _ _ _) (VOut.back (get_out hlp []) rfl)
                  | contradiction
                  | skip)
        · rintro ⟨go, gl⟩ ⟨jo, ⟨m, hm, j0, jm⟩, j2⟩ hlp
          dsimp only at jo
          subst jo
          rw [← hR] at j0 jm ⊢
          have hlR : M.length ≤ R.length := by
            have := hMI 4 (by omega)
            rw [← hR] at this
            have := this.len
            omega
          have hol2 := ownF_len own hlR
          generalize ownF own M R = l at j0 jm hol2 hgrow ⊢
          have j0 : gl[0]? = some _ := j0
          have jm : gl[m]? = some _ := jm
          have j2 : gl[2]? = some _ := j2
          have l0 := (List.getElem?_eq_some_iff.1 j0).1
          have lm := (List.getElem?_eq_some_iff.1 jm).1
          have key : ∀ (x : Nat) (A : Blk), x ≠ 3 → (gl.set 3 A)[x]? = gl[x]? := fun x A hx => List.getElem?_set_ne (Ne.symm hx)
          have hmn : ([0, m] : List Nat).Nodup := by simp; omega
          have hm4 : 2 ∉ ([0, m] : List Nat) := by simp; omega
          refine Told.mk [(8, .ptr (.loc 0) 0)] [.cells true [.gl (.loc 1) 1 l.length], .flat true (l.flatMap encI)] (marks' := []) ?_ ?_
          · conv => whnf
            refine Retell.turn ⟨[0, m], gl.length, [], []⟩ (TurnOk.mk' _ _ [] [] OutOk.oF (Nat.ble_eq_true_of_le (by simp)) hmn (BTos.cells (blt_of l0) ((key 0 _ (by decide)).trans j0) rfl zw (BTos.flat (blt_of lm) ((key m _ (by omega)).trans jm) rfl BTos.nil)) trivial trivial rfl) zw (MkTo.drop hm4 ((key 2 _ (by decide)).trans j2) MkTo.nil)
          · conv => whnf
            repeat' (first | ((first | refine zs1 ?_ | refine zs2 ?_ | refine zs3 ?_ | refine zs4 ?_ | refine zs5 ?_); conv => whnf) | ((first | apply zi1 | apply zi2 | apply zi3 | apply zi4 | apply zi5) <;> intro _ <;> conv => whnf))
            refine VOut.upd [(mI, .flat true ((metB c.length R).flatMap encB)), (oI, .dead)] [.flat true (l.flatMap encI)] [1] 2 ?_ ?_ ?_ ?_ ?_ ?_ ?_
            · rfl
            · intro e he
              simp only [List.mem_cons, List.not_mem_nil, or_false] at he
              rcases he with rfl | rfl <;> simp only
              · rw [h7.mi]; simp
              · rw [h8]; simp
            · decide
            · rfl
            · intro k' b' hk'
              cases k' with
              | zero => rw [List.getElem?_cons_zero, Option.some.injEq] at hk'; subst hk'; exact ⟨1, rfl, rfl⟩
              | succ k' => simp at hk'
            · intro σ x hx
              have : (V.gl h.fresh 1 l.length).ren (backR h.loc.length [1] 2) = .gl (.loc 1) 1 l.length := by simp [V.ren, backR, Hp.fresh]
              rw [this]; exact hx
            · rfl
end Go.Proofs.YtccpfempgmkmbaaGreat

open Go.Vm
open Riv
namespace Go.Proofs.YtccpfempgmkmbaaGreat
set_option maxRecDepth 20000
set_option maxHeartbeats 4000000

theorem vc_chg1 (b : Bool) (h : Hp) : VC Tryz.prog 66 [B b] h (B b) h := by
  refine VC.body Tryz.func66 rfl Tryz.ntmps66 Tryz.call66 (h.grows_refl) rfl ?_; conv => whnf
  repeat' (first | ((first | refine zs1 ?_ | refine zs2 ?_ | refine zs3 ?_ | refine zs4 ?_ | refine zs5 ?_ | refine zs6 [] ?_); conv => whnf) | ((first | apply zi1 | apply zi2 | apply zi3 | apply zi4 | apply zi5) <;> intro _ <;> conv => whnf))
  exact VOut.same rfl
theorem bat_get {mk : List Bool} {q : Nat} (h : q < mk.length) : mk[q]? = some (bat mk q) := by
  unfold bat; rw [List.getD_eq_getElem?_getD, List.getElem?_eq_getElem h]; rfl
def vFolB (w hh : Int) (c : List Int) (mk : List Bool) (mC fC : Vm.Id) : V := .func (.func 83) [] [.ptr mC 0, .fp [DI w, DI hh, dints c], .fp [.func (.func 66) [] []], .fp [dbools mk], .ptr fC 0]
structure MemB (w hh : Int) (c : List Int) (mk : List Bool) (mC mI fC : Vm.Id) (M : List Nat) (h : Hp) : Prop where
  mc : h.get mC = some (.cells true [.gl mI 1 mk.length])
  mi : h.get mI = some (.flat true ((metB mk.length M).flatMap encB))
  fc : h.get fC = some (.cells true [vFolB w hh c mk mC fC])
structure DjtB (mC mI fC oI : Vm.Id) : Prop where
  cI : mC ≠ mI
  co : mC ≠ oI
  fI : fC ≠ mI
  fo : fC ≠ oI
  Io : mI ≠ oI
def effB (h : Hp) (mI oI : Vm.Id) (L : Nat) (R : List Nat) (l : List Int) : Hp := (h.sets [(mI, .flat true ((metB L R).flatMap encB)), (oI, .dead)]).pushes [.flat true (l.flatMap encI)]
theorem vc_folB {W H : Nat} (m : Mp) (mk : List Bool) (o : MOk W H m.c) (hw : m.w = W) (hmk : mk.length = m.c.length) : ∀ (N n : Nat) (M : List Nat) (own : List Int) (mC mI fC oI : Vm.Id) (h : Hp), bat mk n = true → n ∉ M → M.Nodup → (∀ x ∈ M, x < m.c.length) → m.c.length ≤ N + M.length → own.length ≤ M.length →
    MemB m.w m.h m.c mk mC mI fC M h → h.get oI = some (.flat true (own.flatMap encI)) → DjtB mC mI fC oI →
    VC Tryz.prog 83 [I n, .gl oI 1 own.length, .ptr mC 0, .fp (encM m), .fp [.func (.func 66) [] []], .fp [dbools mk], .ptr fC 0] h (.gl h.fresh 1 (ownF own M (folW mk W N n M)).length) (effB h mI oI mk.length (folW mk W N n M) (ownF own M (folW mk W N n M)))
  | 0, n, M, own, mC, mI, fC, oI, h, h1, h2, h3, h4, h5, h6, h7, h8, h9 => by
    have h10 := nodup_len m.c.length (M ++ [n]) (by
      rw [List.nodup_append]
      exact ⟨h3, by simp, fun a ha b hb => by simp at hb; subst hb; intro e; subst e; exact h2 ha⟩) fun x hx => by
      rcases List.mem_append.1 hx with hx | hx
      · exact h4 x hx
      · simp at hx; subst hx; have := bat_lt h1; omega
    rw [List.length_append, List.length_singleton] at h10
    omega
  | N + 1, n, M, own, mC, mI, fC, oI, h, h1, h2, h3, h4, h5, h6, h7, h8, h9 => by
    have IH := fun n M own mC mI fC oI h => vc_folB m mk o hw hmk N n M own mC mI fC oI h
    have hWb := o.w
    have hHb := o.h
    have hL := o.len
    have hm144 := MOk.le o
    have cB := fun n h => vc_beside m n h
    have itB := fun n hn => iter_beside m W n (by omega) hw hn (by omega)
    have hnl := bat_lt h1
    have hR : folW mk W (N + 1) n M = folL mk (folW mk W N) (nbs W mk.length n) (M ++ [n]) := rfl
    rw [← folL_fold, ← nbF_all] at hR
    have hmi0 : MI mk.length (M ++ [n]) (M ++ [n]) := by
      refine ⟨List.prefix_refl _, ?_, fun x hx => ?_⟩
      · rw [List.nodup_append]
        exact ⟨h3, by simp, fun a ha b hb => by simp at hb; subst hb; intro e; subst e; exact h2 ha⟩
      · rcases List.mem_append.1 hx with hx | hx
        · rw [hmk]; exact h4 x hx
        · simp at hx; subst hx; exact hnl
    have hMI := fun j hj => nbM_ok (mk := mk) (N := N) (n := n) (W := W) (H := H) (by omega) (by rw [hmk]; exact hL) hmi0 (by rw [List.length_append, List.length_singleton, hmk]; omega) j hj
    have hMl : (M ++ [n]).length = M.length + 1 := by simp
    have hfo : ∀ k M, bat mk k = true → k ∉ M → M.Nodup → (∀ x ∈ M, x < mk.length) → mk.length ≤ N + M.length → M <+: folW mk W N k M := fun k M a1 a2 a3 a4 a5 => (folW_mi (by omega) (by rw [hmk]; exact hL) a1 a2 a3 a4 a5).1.pre
    have hpre0 : M <+: M ++ [n] := List.prefix_append _ _
    obtain ⟨R, hRe⟩ : ∃ R, R = folW mk W (N + 1) n M := ⟨_, rfl⟩
    rw [← hRe] at hR ⊢
    clear hRe
    have hset := metB_set (L := mk.length) M (n := n) (by exact hnl)
    have hmat := metB_at (L := mk.length) (k := n) M (by exact hnl)
    have hown1 := ownF_one own M n
    have hgrow : h.grows (effB h mI oI mk.length R (ownF own M R)) := by
      refine Hp.grows_sets fun e he => ?_
      simp only [List.mem_cons, List.not_mem_nil, or_false] at he
      rcases he with rfl | rfl <;> simp only
      · rw [h7.mi]; simp
      · rw [h8]; simp
    obtain ⟨mw, mh, c⟩ := m
    dsimp only at *
    subst hw
    show VC Tryz.prog 83 [I n, .gl oI 1 own.length, .ptr mC 0, .fp [DI W, DI mh, dints c], .fp [.func (.func 66) [] []], .fp [dbools mk], .ptr fC 0] h _ _
    refine VC.bodyC 3 Tryz.func83 rfl Tryz.ntmps83 Tryz.call83 hgrow rfl ?_
    conv => whnf
    have hno : ∀ (i : Vm.Id) (j : Nat), Vm.Id.out i ≠ .loc j := fun _ _ e => by cases e
    have hMle := hmi0.len.2
    repeat' (first | ((first | refine zs1 ?_ | refine zs2 ?_ | refine zs3 ?_ | refine zs4 ?_ | refine zs5 ?_); conv => whnf) | ((first | apply zi1 | apply zi2 | apply zi3 | apply zi4 | apply zi5) <;> intro _ <;> conv => whnf) | (refine VLd.cell rfl rfl (get_out h7.mc _) rfl ?_; conv => whnf))
    refine VMem.setRec encB_len n 0 true rfl rfl (get_out h7.mi _) hmat (by decide) rfl (ofs _) ?_
    rw [hset]
    conv => whnf
    repeat' (first | ((first | refine zs1 ?_ | refine zs2 ?_ | refine zs3 ?_ | refine zs4 ?_ | refine zs5 ?_); conv => whnf) | ((first | apply zi1 | apply zi2 | apply zi3 | apply zi4 | apply zi5) <;> intro _ <;> conv => whnf))
    refine VMem.app1B (α := Int) (l := own) (n : Int) encI_len rfl (get_outNe (fun e => h9.Io e.symm) (get_out h8 _)) rfl rfl rfl (by omega) ?_
    rw [← hown1]
    conv => whnf
    repeat' (first | ((first | refine zs1 ?_ | refine zs2 ?_ | refine zs3 ?_ | refine zs4 ?_ | refine zs5 ?_); conv => whnf) | ((first | apply zi1 | apply zi2 | apply zi3 | apply zi4 | apply zi5) <;> intro _ <;> conv => whnf))
    have hol : own.length + 1 = (ownF own M (M ++ [n])).length := by rw [hown1, List.length_append, List.length_singleton]
    refine VCut.atO (outer := oF h.lift mI oI mk.length (M ++ [n])) (marks := []) 99 [(0, I n), (2, .ptr (.out mC) 0), (3, .fp [DI W, DI mh, dints c]), (4, .fp [.func (.func 66) [] []]), (5, .fp [dbools mk]), (6, .ptr (.out fC) 0), (8, .ptr (.loc 0) 0)] [.cells true [.gl (.loc 1) 1 (own.length + 1)], .flat true ((ownF own M (M ++ [n])).flatMap encI)] rfl ?_ ?_
    · generalize ownF own M (M ++ [n]) = o1
      conv => whnf
      refine Retell.turn ⟨[0, 2], 3, [], []⟩ (TurnOk.mk' _ _ [] [] OutOk.oF rfl (by decide) zb trivial trivial rfl) zw zm
    · conv => whnf
      repeat' (first | ((first | refine zs1 ?_ | refine zs2 ?_ | refine zs3 ?_ | refine zs4 ?_ | refine zs5 ?_); conv => whnf) | ((first | apply zi1 | apply zi2 | apply zi3 | apply zi4 | apply zi5) <;> intro _ <;> conv => whnf) | (refine VCall.intro (cB n _) ?_; conv => whnf))
      refine VCode.tell [(2, .ptr (.out mC) 0), (4, .fp [.func (.func 66) [] []]), (5, .fp [dbools mk]), (6, .ptr (.out fC) 0), (8, .ptr (.loc 0) 0), (20, vBes ⟨W, mh, c⟩ n)] [.cells true [.gl (.loc 1) 1 (own.length + 1)], .flat true ((ownF own M (M ++ [n])).flatMap encI)] (marks' := []) ?_ ?_
      · generalize ownF own M (M ++ [n]) = o1
        conv => whnf
        refine Retell.turn ⟨[0, 1], 2, [], []⟩ (TurnOk.mk' _ _ [] [] OutOk.oF rfl (by decide) zb trivial trivial rfl) zw zm
      · conv => whnf
        refine VCode.iterS 4 (nbY W c.length n) (fun j g => GJ (oF h.lift mI oI mk.length (nbF (folS mk (folW mk W N)) W mk.length n (M ++ [n]) j)) (ownF own M (nbF (folS mk (folW mk W N)) W mk.length n (M ++ [n]) j)) g) _ (.loc 3) rfl (itB n (by omega)) rfl rfl ⟨rfl, ⟨1, .inl rfl, by rw [nbF_zero, ← hol]; rfl, rfl⟩, rfl⟩ ?_ ?_ ?_
        · rintro j g hj hy hJ
          rw [nbF_none (by rw [hmk]; exact nbY_none hy)]; exact hJ
        · rintro j g vs hj hy hJ hlp
          obtain ⟨q, hq, rfl⟩ := nbY_some hy
          have hqc : q < mk.length := by
            have := ((nbs_iff (by omega) hL (by omega)).1 (nbO_mem hj hq)).1
            omega
          rw [← hmk] at hq
          rw [nbF_some hq]
          have hI := hMI j (by omega)
          generalize nbF (folS mk (folW mk W N)) W mk.length n (M ++ [n]) j = Mk at hJ hI
          have hpreM : M <+: Mk := hpre0.trans hI.pre
          have hlenM := hI.len
          have hlown := ownF_len own hpreM.length_le
          have hpp := fun S (hS : Mk <+: S) => ownF_ownF own hpreM hS
          obtain ⟨jo, ⟨m, hm, j0, jm⟩, j2⟩ := hJ
          obtain ⟨l, hl0⟩ : ∃ l, l = ownF own M Mk := ⟨_, rfl⟩
          rw [← hl0] at j0 jm hlown
          simp only [← hl0] at hpp
          have kmc : g.get (.out mC) = some ((Blk.cells true [.gl mI 1 mk.length]).ren .out) := by
            show g.outer mC = _
            rw [jo]; exact oF_oth h9.cI h9.co [] (get_out h7.mc [])
          have kfc : g.get (.out fC) = some ((Blk.cells true [vFolB W mh c mk mC fC]).ren .out) := by
            show g.outer fC = _
            rw [jo]; exact oF_oth h9.fI h9.fo [] (get_out h7.fc [])
          have kmi : g.get (.out mI) = some (.flat true ((metB mk.length Mk).flatMap encB)) := by
            show g.outer mI = _
            rw [jo]; exact oF_met h9.Io []
          have hqm := metB_at Mk hqc
          have hx := bat_get hqc
          have cSq := fun h => vc_chg1 (bat mk q) h
          unfold folS
          have hm0 : Vm.Id.loc m ≠ .loc 0 := by intro h0; injection h0; omega
          have hm3 : Vm.Id.loc m ≠ .loc 3 := by intro h0; injection h0; omega
          by_cases hgo : q ∉ Mk ∧ bat mk q = true
          · rw [if_pos hgo]
            rw [decide_eq_false hgo.1] at hqm
            rw [hgo.2] at hx cSq
            have hfp := hfo q Mk hgo.2 hgo.1 hI.nd hI.lt (by omega)
            have IHq := fun H hM hb => IH q Mk l (.out (.out mC)) (.out (.out mI)) (.out (.out fC)) (.out (.loc m)) H hgo.2 hgo.1 hI.nd (fun x hx => by have := hI.lt x hx; omega) (by omega) (by omega) hM hb ⟨fun e => h9.cI (by injection e with e; injection e), (fun e => by injection e with e; cases e), fun e => h9.fI (by injection e with e; injection e), (fun e => by injection e with e; cases e), (fun e => by injection e with e; cases e)⟩
            have hown2 := hpp _ hfp
            have hfl := hfp.length_le
            have hl2 := ownF_len l hfl
            generalize folW mk W N q Mk = S at IHq hown2 hfl hl2
            rw [← hown2]
            generalize ownF l Mk S = l' at IHq hl2
            obtain ⟨s1, s2, s3⟩ := FJ.step (R := S) (l' := l') h9.Io jo j0 jm j2 hm hlp
            refine ⟨_, ?_, s2, s3⟩
            refine VRound.vy' hlp rfl rfl rfl s1 fun l0 => ?_
            refine VRound.tell [(2, .ptr (.out (.out mC)) 0), (4, .fp [.func (.func 66) [] []]), (5, .fp [dbools mk]), (6, .ptr (.out (.out fC)) 0), (8, .ptr (.out (.loc 0)) 0), (21, I q)] ?_ ?_
            · conv => whnf
              refine Retell.turn ⟨[], 0, [], []⟩ (TurnOk.mk' _ _ [] [] (OutOk.lift _) rfl (by decide) zb trivial trivial rfl) zw zm
            · conv => whnf
              repeat (first | ((first | refine zs1 ?_ | refine zs2 ?_ | refine zs3 ?_ | refine zs4 ?_ | refine zs5 ?_ | refine zs6 [] ?_); conv => whnf))
              refine VBegin.intro (get_out hlp _) rfl ?_
              conv => whnf
              refine zs6 [] ?_
              conv => whnf
              repeat' (first | ((first | refine zs1 ?_ | refine zs2 ?_ | refine zs3 ?_ | refine zs4 ?_ | refine zs5 ?_); conv => whnf) | ((first | apply zi1 | apply zi2 | apply zi3 | apply zi4 | apply zi5) <;> intro _ <;> conv => whnf) | (refine VLd.cell rfl rfl (get_setO (hno _ _) kmc _) rfl ?_; conv => whnf) | (refine VLd.recc encB_len q 0 rfl rfl (get_setO (hno _ _) kmi _) hqm (by decide) rfl (ofs _) ?_; conv => whnf) | (refine VAny.ix encB_len q rfl rfl hx ?_; conv => whnf) | (refine VCall.intro (cSq _) ?_; conv => whnf))
              repeat' (first | ((first | refine zs1 ?_ | refine zs2 ?_ | refine zs3 ?_ | refine zs4 ?_ | refine zs5 ?_); conv => whnf) | ((first | apply zi1 | apply zi2 | apply zi3 | apply zi4 | apply zi5) <;> intro _ <;> conv => whnf) | (refine VLd.cell rfl rfl (get_setO (hno _ _) kfc _) rfl ?_; conv => whnf) | (refine VLd.cell rfl rfl (get_setO (by decide) j0 _) rfl ?_; conv => whnf))
              refine VCall.intro (IHq _ ⟨get_setO (hno _ _) kmc _, get_setO (hno _ _) kmi _, get_setO (hno _ _) kfc _⟩ (get_setO hm3 jm _)) ?_
              conv => whnf
              repeat' (first | ((first | refine zs1 ?_ | refine zs2 ?_ | refine zs3 ?_ | refine zs4 ?_ | refine zs5 ?_); conv => whnf) | ((first | apply zi1 | apply zi2 | apply zi3 | apply zi4 | apply zi5) <;> intro _ <;> conv => whnf))
              refine VMem.st1 rfl rfl rfl (b := .cells true [.gl (.out (.loc m)) 1 l.length]) (get_outNe (fun e => hm0 e.symm) (get_outNe (fun e => by cases e) (get_setO (by decide) j0 _))) rfl ?_
              conv => whnf
              repeat' (first | ((first | refine zs1 ?_ | refine zs2 ?_ | refine zs3 ?_ | refine zs4 ?_ | refine zs5 ?_); conv => whnf) | ((first | apply zi1 | apply zi2 | apply zi3 | apply zi4 | apply zi5) <;> intro _ <;> conv => whnf))
              refine RFin.on (get_outNe (by decide) (get_outNe (fun e => hm3 e.symm) (get_outNe (fun e => by cases e) (outW_get _ _ _ _)))) ?_
              refine VOut.upd (upF mI mk.length S m (.cells true [.gl g.fresh 1 l'.length])) [.flat true (l'.flatMap encI)] [0] 1 ?_ (upF_ok kmi jm j0) ?_ ?_ ?_ ?_ ?_
              · rfl
              · decide
              · rfl
              · intro k' b' hk'
                cases k' with
                | zero => rw [List.getElem?_cons_zero, Option.some.injEq] at hk'; subst hk'; exact ⟨0, rfl, rfl⟩
                | succ k' => simp at hk'
              · intro σ x hx; exact hx
              · have e1 : (Blk.cells true [V.gl g.fresh 1 l'.length]).ren (backR g.loc.length [0] 1) = .cells true [.gl (.loc 0) 1 l'.length] := by simp [Blk.ren, V.ren, backR, Hp.fresh]
                simp only [upF, List.map_cons, List.map_nil, e1]
                exact outer_fix3 (get_out hlp []) (fun e => by cases e) (fun e => hm3 e.symm) (by decide)
          · rw [if_neg hgo, ← hl0]
            refine ⟨g, ?_, ⟨jo, ⟨m, hm, j0, jm⟩, j2⟩, hlp⟩
            have hgo2 : q ∈ Mk ∨ bat mk q = false := by
              by_cases hqM : q ∈ Mk
              · exact .inl hqM
              · right
                cases hb : bat mk q with
                | false => rfl
                | true => exact absurd ⟨hqM, hb⟩ hgo
            rcases hgo2 with hb | hb
            all_goals (
              first | rw [decide_eq_true hb] at hqm | rw [hb] at hx cSq
              refine VRound.vy' hlp rfl rfl rfl g.grows_refl fun l0 => ?_
              refine VRound.tell [(2, .ptr (.out (.out mC)) 0), (4, .fp [.func (.func 66) [] []]), (5, .fp [dbools mk]), (21, I q)] ?_ ?_
              · conv => whnf
                refine Retell.turn ⟨[], 0, [], []⟩ (TurnOk.mk' _ _ [] [] (OutOk.lift _) rfl (by decide) zb trivial trivial rfl) zw zm
              · conv => whnf
                repeat (first | ((first | refine zs1 ?_ | refine zs2 ?_ | refine zs3 ?_ | refine zs4 ?_ | refine zs5 ?_ | refine zs6 [] ?_); conv => whnf))
                refine VBegin.intro (get_out hlp _) rfl ?_
                conv => whnf
                refine zs6 [] ?_
                conv => whnf
                repeat' (first | ((first | refine zs1 ?_ | refine zs2 ?_ | refine zs3 ?_ | refine zs4 ?_ | refine zs5 ?_); conv => whnf) | ((first | apply zi1 | apply zi2 | apply zi3 | apply zi4 | apply zi5) <;> intro _ <;> conv => whnf) | (refine VLd.cell rfl rfl (get_setO (hno _ _) kmc _) rfl ?_; conv => whnf) | (refine VLd.recc encB_len q 0 rfl rfl (get_setO (hno _ _) kmi _) hqm (by decide) rfl (ofs _) ?_; conv => whnf) | (refine VAny.ix encB_len q rfl rfl hx ?_; conv => whnf) | (refine VCall.intro (cSq _) ?_; conv => whnf))
                all_goals first
                  | exact RFin.on (outW_get _ _ _ _) (VOut.back (get_out hlp []) rfl)
                  | contradiction
                  | skip)
        · rintro ⟨go, gl⟩ ⟨jo, ⟨m, hm, j0, jm⟩, j2⟩ hlp
          dsimp only at jo
          subst jo
          rw [← hR] at j0 jm ⊢
          have hlR : M.length ≤ R.length := by
            have := hMI 4 (by omega)
            rw [← hR] at this
            have := this.len
            omega
          have hol2 := ownF_len own hlR
          generalize ownF own M R = l at j0 jm hol2 hgrow ⊢
          have j0 : gl[0]? = some _ := j0
          have jm : gl[m]? = some _ := jm
          have j2 : gl[2]? = some _ := j2
          have l0 := (List.getElem?_eq_some_iff.1 j0).1
          have lm := (List.getElem?_eq_some_iff.1 jm).1
          have key : ∀ (x : Nat) (A : Blk), x ≠ 3 → (gl.set 3 A)[x]? = gl[x]? := fun x A hx => List.getElem?_set_ne (Ne.symm hx)
          have hmn : ([0, m] : List Nat).Nodup := by simp; omega
          have hm4 : 2 ∉ ([0, m] : List Nat) := by simp; omega
          refine Told.mk [(8, .ptr (.loc 0) 0)] [.cells true [.gl (.loc 1) 1 l.length], .flat true (l.flatMap encI)] (marks' := []) ?_ ?_
          · conv => whnf
            refine Retell.turn ⟨[0, m], gl.length, [], []⟩ (TurnOk.mk' _ _ [] [] OutOk.oF (Nat.ble_eq_true_of_le (by simp)) hmn (BTos.cells (blt_of l0) ((key 0 _ (by decide)).trans j0) rfl zw (BTos.flat (blt_of lm) ((key m _ (by omega)).trans jm) rfl BTos.nil)) trivial trivial rfl) zw (MkTo.drop hm4 ((key 2 _ (by decide)).trans j2) MkTo.nil)
          · conv => whnf
            repeat' (first | ((first | refine zs1 ?_ | refine zs2 ?_ | refine zs3 ?_ | refine zs4 ?_ | refine zs5 ?_); conv => whnf) | ((first | apply zi1 | apply zi2 | apply zi3 | apply zi4 | apply zi5) <;> intro _ <;> conv => whnf))
            refine VOut.upd [(mI, .flat true ((metB mk.length R).flatMap encB)), (oI, .dead)] [.flat true (l.flatMap encI)] [1] 2 ?_ ?_ ?_ ?_ ?_ ?_ ?_
            · rfl
            · intro e he
              simp only [List.mem_cons, List.not_mem_nil, or_false] at he
              rcases he with rfl | rfl <;> simp only
              · rw [h7.mi]; simp
              · rw [h8]; simp
            · decide
            · rfl
            · intro k' b' hk'
              cases k' with
              | zero => rw [List.getElem?_cons_zero, Option.some.injEq] at hk'; subst hk'; exact ⟨1, rfl, rfl⟩
              | succ k' => simp at hk'
            · intro σ x hx
              have : (V.gl h.fresh 1 l.length).ren (backR h.loc.length [1] 2) = .gl (.loc 1) 1 l.length := by simp [V.ren, backR, Hp.fresh]
              rw [this]; exact hx
            · rfl
end Go.Proofs.YtccpfempgmkmbaaGreat

namespace Riv
theorem Hld.eq {c : List Int} {W : Nat} {s : Int} {T U : List Int} (h : Hld c W s T) (g : Hld c W s U) : T = U := by
  refine ext0 (by rw [h.len, g.len]) fun n hn => ?_
  rw [h.len] at hn
  have h1 := h.low n
  have h2 := g.low n
  rcases Int.lt_or_le (at0 T n) 0 with h3 | h3
  · rcases Int.lt_or_le (at0 U n) 0 with h4 | h4
    · omega
    · have := (h.same g (at0 U n).toNat n hn).2 (by omega)
      omega
  · have := (h.same g (at0 T n).toNat n hn).1 (by omega)
    omega
end Riv

namespace Riv
structure Ren (ren : Int → Int) (s s' : Int) : Prop where
  wat : ∀ x, ren x = 0 ↔ x = 0
  isl : ∀ x, ren x = 3 ↔ x = 3
  sho : ∀ x, ren x = s' ↔ x = s
end Riv


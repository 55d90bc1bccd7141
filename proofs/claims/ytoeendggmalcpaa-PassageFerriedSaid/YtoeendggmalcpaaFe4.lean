/- Part 4 of the proof that passageFerried: ferries take a herd as far as the cells are. No condition. -/
import Derived.Test.YtoeendggmalcpaaFe3
set_option linter.unusedVariables false
set_option linter.unusedSimpArgs false
open Go.Vm
open Riv
namespace Go.Proofs.Ytoeendggmalcpaa.Rv
set_option maxRecDepth 20000
set_option maxHeartbeats 4000000

/-! ### The neighbours of a cell, handed on one by one -/
def vBes (m : Mp) (n : Nat) : V := .func (.func 157) [] [.fp [DI n], .fp (encM m)]
theorem vc_beside (m : Mp) (n : Nat) (h : Hp) : VC Try.prog 137 [vM m, I n] h (vBes m n) h := by
  refine VC.body Try.func137 rfl Try.ntmps137 Try.call137 (h.grows_refl) rfl ?_; conv => whnf
  repeat' (first | ((first | refine zs1 ?_ | refine zs2 ?_ | refine zs3 ?_ | refine zs4 ?_ | refine zs5 ?_ | refine zs6 [] ?_); conv => whnf) | ((first | apply zi1 | apply zi2 | apply zi3 | apply zi4 | apply zi5) <;> intro _ <;> conv => whnf))
  refine VOut.data 2 [(0, encM m), (1, [DI n])] [] rfl zf (by exact FmAll.nil) zw
def nbO (W L n : Nat) : Nat → Option Nat
  | 0 => if n < W then none else some (n - W)
  | 1 => if n % W = 0 then none else some (n - 1)
  | 2 => if n % W = W - 1 then none else some (n + 1)
  | 3 => if L ≤ n + W then none else some (n + W)
  | _ => none
def nbY (W L n k : Nat) : Option (List V) := (nbO W L n k).map fun q : Nat => [I q]
theorem fm4 (a b c d : Prop) [Decidable a] [Decidable b] [Decidable c] [Decidable d] (x y z t : Nat) : [(if a then none else some x), (if b then none else some y), (if c then none else some z), (if d then none else some t)].filterMap id = (if a then [] else [x]) ++ (if b then [] else [y]) ++ (if c then [] else [z]) ++ (if d then [] else [t]) := by
  by_cases h1 : a <;> by_cases h2 : b <;> by_cases h3 : c <;> by_cases h4 : d <;> simp [h1, h2, h3, h4]
theorem nbO_list (W L n : Nat) : (List.range 4).filterMap (nbO W L n) = nbs W L n := by
  have h := fm4 (n < W) (n % W = 0) (n % W = W - 1) (L ≤ n + W) (n - W) (n - 1) (n + 1) (n + W)
  unfold nbs
  rw [← h, show List.range 4 = [0, 1, 2, 3] from rfl]
  rfl
theorem nbO_mem {W L n k q : Nat} (hk : k < 4) (h : nbO W L n k = some q) : q ∈ nbs W L n := by
  rw [← nbO_list]
  exact List.mem_filterMap.2 ⟨k, List.mem_range.2 hk, h⟩
theorem nbY_some {W L n k : Nat} {vs : List V} (h : nbY W L n k = some vs) : ∃ q, nbO W L n k = some q ∧ vs = [I q] := by
  unfold nbY at h
  cases hq : nbO W L n k with
  | none => rw [hq] at h; cases h
  | some q => rw [hq] at h; cases h; exact ⟨q, rfl, rfl⟩
theorem nbY_none {W L n k : Nat} (h : nbY W L n k = none) : nbO W L n k = none := by
  unfold nbY at h
  cases hq : nbO W L n k with
  | none => rfl
  | some q => rw [hq] at h; cases h
def nbF {α : Type} (f : α → Nat → α) (W L n : Nat) (x : α) (k : Nat) : α := (((List.range k).filterMap (nbO W L n))).foldl f x
theorem nbF_all {α : Type} (f : α → Nat → α) (W L n : Nat) (x : α) : nbF f W L n x 4 = (nbs W L n).foldl f x := by unfold nbF; rw [nbO_list]
theorem nbF_none {α : Type} {f : α → Nat → α} {W L n : Nat} {x : α} {k : Nat} (h : nbO W L n k = none) : nbF f W L n x (k + 1) = nbF f W L n x k := by
  unfold nbF
  rw [List.range_succ, List.filterMap_append]
  simp [h]
theorem nbF_some {α : Type} {f : α → Nat → α} {W L n q : Nat} {x : α} {k : Nat} (h : nbO W L n k = some q) : nbF f W L n x (k + 1) = f (nbF f W L n x k) q := by
  unfold nbF
  rw [List.range_succ, List.filterMap_append, List.foldl_append]
  simp [h]
theorem iter_beside (m : Mp) (W n : Nat) (hW : 2 ≤ W ∧ W ≤ 100000) (hm : m.w = W) (hn : n < m.c.length) (hc : m.c.length ≤ 4000000) : IterS Try.prog 157 [] [.fp [DI n], .fp (encM m)] 4 (nbY W m.c.length n) := by
  intro h i J hs h0
  obtain ⟨g, g0, g1, hI⟩ := iterS_seq (ys := nbY W m.c.length n) hs h0
  have hgr : ∀ j, j ≤ 4 → h.grows (g j) := by
    intro j
    induction j with
    | zero => intro _; rw [g0]; exact h.grows_refl
    | succ j ih =>
      intro hj
      rcases g1 j (by omega) with ⟨_, e⟩ | ⟨vs, _, hv⟩
      · rw [e]; exact ih (by omega)
      · exact fun k hk => hv.1 k (ih (by omega) k hk)
  have gA := g1 0 (by omega)
  have gB := g1 1 (by omega)
  have gC := g1 2 (by omega)
  have gD := g1 3 (by omega)
  have hend := hgr 4 (by omega)
  refine ⟨g 4, ?_, hI⟩
  clear hI hgr g1 hs h0
  generalize g 4 = h4 at *
  generalize g 3 = h3 at *
  generalize g 2 = h2 at *
  generalize g 1 = h1 at *
  obtain rfl : h = g 0 := g0.symm
  generalize g 0 = h0 at *
  clear g0
  have e1 : (n : Int).tmod (W : Int) = ((n % W : Nat) : Int) := Int.ofNat_tmod n W
  have hr := Nat.mod_lt n (show 0 < W by omega)
  simp only [nbY, nbO] at gA gB gC gD
  obtain ⟨mw, mh, mc⟩ := m
  dsimp only at hm hn hc gA gB gC gD
  subst hm
  rw [show encM ⟨(W : Int), mh, mc⟩ = [DI W, DI mh, .sl 1 mc.length (mc.flatMap Vm.encI)] from rfl]
  have key : ∀ {c : Prop} [Decidable c] {q : Nat} {a b : Hp}, (((if c then none else some q : Option Nat).map fun q : Nat => [I q]) = none ∧ b = a ∨ ∃ vs, ((if c then none else some q : Option Nat).map fun q : Nat => [I q]) = some vs ∧ VY Try.prog i vs a (.s (.bool true)) b) → (c ∧ b = a) ∨ (¬ c ∧ VY Try.prog i [I q] a (.s (.bool true)) b) := by
    intro c _ q a b h
    by_cases hc : c
    · rw [if_pos hc] at h
      rcases h with ⟨_, h⟩ | ⟨vs, h, _⟩
      · exact .inl ⟨hc, h⟩
      · cases h
    · rw [if_neg hc] at h
      rcases h with ⟨h, _⟩ | ⟨vs, h, hv⟩
      · cases h
      · cases h; exact .inr ⟨hc, hv⟩
  have gA := key gA
  have gB := key gB
  have gC := key gC
  have gD := key gD
  clear key
  have qA : ¬ n < W → ((n - W : Nat) : Int) = (n : Int) - W := fun h => by omega
  have qB : ¬ n % W = 0 → ((n - 1 : Nat) : Int) = (n : Int) - 1 := fun h => by
    have : n ≠ 0 := fun e => h (by rw [e]; exact Nat.zero_mod W)
    omega
  have qC : ((n + 1 : Nat) : Int) = (n : Int) + 1 := by omega
  have qD : ((n + W : Nat) : Int) = (n : Int) + W := by omega
  rw [qC] at gC
  rw [qD] at gD
  generalize n % W = r at *
  rcases gA with ⟨a1, rfl⟩ | ⟨a1, yA⟩ <;> rcases gB with ⟨b1, rfl⟩ | ⟨b1, yB⟩ <;> rcases gC with ⟨c1, rfl⟩ | ⟨c1, yC⟩ <;> rcases gD with ⟨d1, rfl⟩ | ⟨d1, yD⟩
  all_goals (
    (try rw [qA a1] at yA)
    (try rw [qB b1] at yB)
    refine VC.body Try.func157 rfl Try.ntmps157 Try.call157 hend rfl ?_
    conv => whnf)
  all_goals (
    refine zs6 [] ?_
    conv => whnf
    repeat' (first | ((first | refine zs1 ?_ | refine zs2 ?_ | refine zs3 ?_ | refine zs4 ?_ | refine zs5 ?_); conv => whnf) | ((first | apply zi1 | apply zi2 | apply zi3 | apply zi4 | apply zi5) <;> intro _ <;> first | (exfalso; omega) | contradiction | (conv => whnf)) | (refine VYield.intro (VY.lift _ yA) ?_; conv => whnf) | (refine VYield.intro (VY.lift _ yB) ?_; conv => whnf) | (refine VYield.intro (VY.lift _ yC) ?_; conv => whnf) | (refine VYield.intro (VY.lift _ yD) ?_; conv => whnf)))
  all_goals first
    | exact VOut.lifted (r := .tuple []) hend
    | (exfalso; omega)
end Go.Proofs.Ytoeendggmalcpaa.Rv

open Go.Vm
open Riv
namespace Go.Proofs.Ytoeendggmalcpaa.Rv
set_option maxRecDepth 20000
set_option maxHeartbeats 4000000

theorem sz_mul {W H : Int} (hW : 0 ≤ W ∧ W ≤ 12) (hH : 0 ≤ H ∧ H ≤ 12) : 0 ≤ W * H ∧ W * H ≤ 144 :=
  ⟨Int.mul_nonneg hW.1 hH.1, by have := Int.mul_le_mul hW.2 hH.2 hH.1 (show (0 : Int) ≤ 12 by decide); omega⟩
theorem outW_one {o : Vm.Id → Option Blk} {iy i0 : Vm.Id} {a c d : Blk} (n0 : i0 ≠ iy) : outW (outW (outW o iy c) i0 a) iy d = outW (outW o i0 a) iy d := by
  funext k
  unfold outW
  by_cases e : k = iy
  · subst e; simp only [if_true]
  · simp only [if_neg e]
structure CJ (o : Vm.Id → Option Blk) (e : Int) (g : Hp) : Prop where
  o : g.outer = o
  b0 : g.get (.loc 0) = some (.flat true [DI e])
  b1 : g.get (.loc 1) = some .mark
theorem vc_check (m : Mp) (h : Hp) (hl : m.c.length ≤ 4000000) : VC Try.prog 134 [vM m] h (I (chkM m)) h := by
  obtain ⟨E, hE⟩ : ∃ E, E = chkM m := ⟨_, rfl⟩
  rw [← hE]
  unfold chkM at hE
  have cC := fun h => vc_ContFI m.c (fun x => !decide (0 ≤ x ∧ x ≤ 3)) 154 hl vc_Check1 h
  rw [any_kind] at cC
  obtain ⟨mw, mh, mc⟩ := m
  dsimp only at hE hl cC
  show VC Try.prog 134 [.agg [I mw, I mh, ints mc]] h (I E) h
  by_cases h0 : ((3 ≤ mw ∧ mw ≤ 12) ∧ 1 ≤ mh ∧ mh ≤ 12) ∧ (mc.length : Int) = mw * mh
  · have hm := sz_mul (W := mw) (H := mh) (by omega) (by omega)
    rw [if_pos h0] at hE
    obtain ⟨⟨h1, h2⟩, h3⟩ := h0
    obtain ⟨W, rfl⟩ : ∃ W : Nat, mw = W := ⟨mw.toNat, by omega⟩
    obtain ⟨H, rfl⟩ : ∃ H : Nat, mh = H := ⟨mh.toNat, by omega⟩
    rw [Int.toNat_natCast, Int.toNat_natCast] at hE
    have hL : mc.length = W * H := by
      have e : ((W * H : Nat) : Int) = (W : Int) * H := by rw [Int.natCast_mul]
      omega
    have hit := iter_Chunk mc W H (by omega) hL hl
    have hrl := fun y hy => rowL_len (W := W) (y := y) hL hy
    have hlt : ∀ y, y < H → y * W + W ≤ mc.length := fun y hy => by
      have h1 : (y + 1) * W ≤ H * W := Nat.mul_le_mul_right _ hy
      rw [Nat.add_mul, Nat.one_mul, Nat.mul_comm H] at h1; omega
    have hr0 : ∀ y, y < H → (rowL mc W y)[0]? = some (at0 mc (y * W)) := fun y hy => by
      have := hlt y hy
      have := rowL_at (c := mc) (W := W) (y := y) (k := 0) (by omega) (by omega)
      rw [Nat.add_zero] at this; exact this
    have hr1 : ∀ y, y < H → (rowL mc W y)[W - 1]? = some (at0 mc (y * W + W - 1)) := fun y hy => by
      have := hlt y hy
      have := rowL_at (c := mc) (W := W) (y := y) (k := W - 1) (by omega) (by omega)
      rw [show y * W + W - 1 = y * W + (W - 1) by omega]; exact this
    have cK := fun h => vc_Chunk mc W h (by omega)
    clear hL
    cases hk : kindB mc
    · rw [hk] at hE cC
      rw [cond_false] at hE
      subst hE
      refine VC.body Try.func134 rfl Try.ntmps134 Try.call134 (h.grows_refl) rfl ?_; conv => whnf
      repeat' (first | ((first | refine zs1 ?_ | refine zs2 ?_ | refine zs3 ?_ | refine zs4 ?_ | refine zs5 ?_); conv => whnf) | ((first | apply zi1 | apply zi2 | apply zi3 | apply zi4 | apply zi5) <;> intro _ <;> first | (exfalso; omega) | contradiction | (conv => whnf)) | (refine VCall.intro (vc_from _ _ _ _) ?_; conv => whnf) | (refine VCall.intro (cC _) ?_; conv => whnf))
      all_goals first | exact VOut.same rfl | (exfalso; simp at *; omega)
    · rw [hk] at hE cC
      rw [cond_true] at hE
      refine VC.bodyC 3 Try.func134 rfl Try.ntmps134 Try.call134 (h.grows_refl) rfl ?_
      conv => whnf
      repeat' (first | ((first | refine zs1 ?_ | refine zs2 ?_ | refine zs3 ?_ | refine zs4 ?_ | refine zs5 ?_); conv => whnf) | ((first | apply zi1 | apply zi2 | apply zi3 | apply zi4 | apply zi5) <;> intro _ <;> first | (exfalso; omega) | contradiction | (conv => whnf)) | (refine VCall.intro (vc_from _ _ _ _) ?_; conv => whnf) | (refine VCall.intro (cC _) ?_; conv => whnf) | (refine VCall.intro (cK _) ?_; conv => whnf))
      refine VCode.tell [(1, .fp [DI W, DI H, dints mc]), (3, .ptr (.loc 0) 0), (33, vChunk mc W)] [.flat true [DI 0]] (marks' := []) ?_ ?_
      · conv => whnf
        refine Retell.turn ⟨[1], 2, [(0, [DI W, DI H, dints mc])], []⟩ (TurnOk.mk' _ _ [(0, [DI W, DI H, dints mc])] [] (OutOk.lift _) rfl (by decide) zb zf trivial rfl) zw zm
      · conv => whnf
        refine VCode.iterN H (fun y => some [ints (rowL mc W y)]) (fun y g => CJ h.lift 0 g ∧ ∀ z, z < y → sideB mc W z = true) (fun x g => x = .exit 0 ∧ CJ h.lift 9 g ∧ ∃ z, z < H ∧ sideB mc W z = false) _ (.loc 2) rfl hit rfl rfl ⟨⟨rfl, rfl, rfl⟩, fun z hz => by omega⟩ ?_ ?_ ?_ ?_
        · rintro y g hy hn _
          cases hn
        · rintro y g vs hy hvs ⟨⟨j0, j1, j2⟩, ha⟩ hlp
          cases hvs
          have hA := hr0 y hy
          have hB := hr1 y hy
          have hR := hrl y hy
          have hS : sideB mc W y = decide (at0 mc (y * W) = 1 ∧ at0 mc (y * W + W - 1) = 2) := rfl
          generalize at0 mc (y * W) = a at hA hS
          generalize at0 mc (y * W + W - 1) = b at hB hS
          generalize rowL mc W y = R at hA hB hR
          by_cases hs : a = 1 ∧ b = 2
          · left
            refine ⟨g, VRound.vy' hlp rfl rfl rfl g.grows_refl fun l0 => ?_, ⟨⟨j0, j1, j2⟩, fun z hz => ?_⟩, hlp⟩
            · refine VRound.tell [(1, .fp [DI W, DI H, dints mc]), (3, .ptr (.out (.loc 0)) 0), (34, ints R)] ?_ ?_
              · conv => whnf
                refine Retell.turn ⟨[], 0, [], []⟩ (TurnOk.mk' _ _ [] [] (OutOk.lift _) rfl (by decide) zb trivial trivial rfl) zw zm
              · conv => whnf
                repeat (first | ((first | refine zs1 ?_ | refine zs2 ?_ | refine zs3 ?_ | refine zs4 ?_ | refine zs5 ?_ | refine zs6 [] ?_); conv => whnf))
                refine VBegin.intro (get_out hlp _) rfl ?_
                conv => whnf
                repeat' (first | ((first | refine zs1 ?_ | refine zs2 ?_ | refine zs3 ?_ | refine zs4 ?_ | refine zs5 ?_); conv => whnf) | ((first | apply zi1 | apply zi2 | apply zi3 | apply zi4 | apply zi5) <;> intro _ <;> first | (exfalso; omega) | contradiction | (conv => whnf)) | (refine VAny.ix Vm.encI_len 0 (by omega) rfl hA ?_; conv => whnf) | (refine VAny.ix Vm.encI_len (W - 1) (by omega) rfl hB ?_; conv => whnf))
                exact RFin.on (outW_get _ _ _ _) (VOut.back (get_out hlp []) rfl)
            · rcases Nat.lt_or_ge z y with h5 | h5
              · exact ha z h5
              · obtain rfl : z = y := by omega
                rw [hS]; exact decide_eq_true hs
          · have n0 : g.get (.loc 0) ≠ none := by rw [j1]; simp
            have n2 : (g.set (.loc 0) (.flat true [DI 9])).get (.loc 2) ≠ none := by rw [Hp.get_set g _ _ _ n0, if_neg (by decide), hlp]; simp
            refine Rnd.stop (.exit 0) rfl hlp (g.set (.loc 0) (.flat true [DI 9])) n2 ?_ ⟨rfl, ⟨j0, ?_, ?_⟩, y, hy, by rw [hS]; exact decide_eq_false hs⟩
            · refine VRound.vy' hlp rfl rfl rfl grows_set2 fun l0 => ?_
              refine VRound.tell [(1, .fp [DI W, DI H, dints mc]), (3, .ptr (.out (.loc 0)) 0), (34, ints R)] ?_ ?_
              · conv => whnf
                refine Retell.turn ⟨[], 0, [], []⟩ (TurnOk.mk' _ _ [] [] (OutOk.lift _) rfl (by decide) zb trivial trivial rfl) zw zm
              · conv => whnf
                repeat (first | ((first | refine zs1 ?_ | refine zs2 ?_ | refine zs3 ?_ | refine zs4 ?_ | refine zs5 ?_ | refine zs6 [] ?_); conv => whnf))
                refine VBegin.intro (get_out hlp _) rfl ?_
                conv => whnf
                repeat' (first | ((first | refine zs1 ?_ | refine zs2 ?_ | refine zs3 ?_ | refine zs4 ?_ | refine zs5 ?_); conv => whnf) | ((first | apply zi1 | apply zi2 | apply zi3 | apply zi4 | apply zi5) <;> intro _ <;> first | (exfalso; omega) | contradiction | (conv => whnf)) | (refine VAny.ix Vm.encI_len 0 (by omega) rfl hA ?_; conv => whnf) | (refine VAny.ix Vm.encI_len (W - 1) (by omega) rfl hB ?_; conv => whnf) | (refine VMem.st1 rfl rfl rfl (get_outNe (by decide) (get_out j1 _)) rfl ?_; conv => whnf))
                all_goals (
                  refine RFin.off rfl (get_outNe (by decide) (outW_get _ _ _ _)) (VOut.liftS ?_ grows_set2)
                  rw [lift_set n2, lift_set n0]
                  exact outW_one (by decide))
            · rw [Hp.get_set _ _ _ _ n2, if_neg (by decide), Hp.get_set _ _ _ _ n0, if_pos rfl]
            · rw [Hp.get_set _ _ _ _ n2, if_neg (by decide), Hp.get_set _ _ _ _ n0, if_neg (by decide)]; exact j2
        · rintro ⟨go, gl⟩ ⟨⟨j0, j1, j2⟩, ha⟩ hlp
          dsimp only at j0
          subst j0
          have j1 : gl[0]? = some _ := j1
          have j2 : gl[1]? = some _ := j2
          have l0 := (List.getElem?_eq_some_iff.1 j1).1
          have key : ∀ (x : Nat) (A : Blk), x ≠ 2 → (gl.set 2 A)[x]? = gl[x]? := fun x A hx => List.getElem?_set_ne (Ne.symm hx)
          have hE0 : E = 0 := by
            rw [hE]
            have : (List.range H).all (sideB mc W) = true := by
              rw [List.all_eq_true]
              exact fun z hz => ha z (List.mem_range.1 hz)
            rw [this]; rfl
          subst hE0
          refine Told.mk [(3, .ptr (.loc 0) 0)] [.flat true [DI 0]] (marks' := []) ?_ ?_
          · conv => whnf
            refine Retell.turn ⟨[0], gl.length, [], []⟩ (TurnOk.mk' _ _ [] [] (OutOk.lift _) (Nat.ble_eq_true_of_le (by simp)) (by simp) (BTos.flat (blt_of l0) ((key 0 _ (by decide)).trans j1) rfl BTos.nil) trivial trivial rfl) zw (MkTo.drop (show 1 ∉ ([0] : List Nat) by decide) ((key 1 _ (by decide)).trans j2) MkTo.nil)
          · conv => whnf
            repeat' (first | ((first | refine zs1 ?_ | refine zs2 ?_ | refine zs3 ?_ | refine zs4 ?_ | refine zs5 ?_ | refine zs6 [] ?_); conv => whnf) | ((first | apply zi1 | apply zi2 | apply zi3 | apply zi4 | apply zi5) <;> intro _ <;> conv => whnf))
            exact VOut.same rfl
        · rintro x ⟨go, gl⟩ _ ⟨rfl, ⟨j0, j1, j2⟩, z, hz, hb⟩ hlp
          dsimp only at j0
          subst j0
          have j1 : gl[0]? = some _ := j1
          have j2 : gl[1]? = some _ := j2
          have l0 := (List.getElem?_eq_some_iff.1 j1).1
          have key : ∀ (x : Nat) (A : Blk), x ≠ 2 → (gl.set 2 A)[x]? = gl[x]? := fun x A hx => List.getElem?_set_ne (Ne.symm hx)
          have hE0 : E = 9 := by
            rw [hE]
            have : (List.range H).all (sideB mc W) = false := by
              cases hx : (List.range H).all (sideB mc W) with
              | false => rfl
              | true =>
                rw [List.all_eq_true] at hx
                rw [hx z (List.mem_range.2 hz)] at hb; cases hb
            rw [this]; rfl
          subst hE0
          refine Told.mk [(3, .ptr (.loc 0) 0)] [.flat true [DI 9]] (marks' := []) ?_ ?_
          · conv => whnf
            refine Retell.turn ⟨[0], gl.length, [], []⟩ (TurnOk.mk' _ _ [] [] (OutOk.lift _) (Nat.ble_eq_true_of_le (by simp)) (by simp) (BTos.flat (blt_of l0) ((key 0 _ (by decide)).trans j1) rfl BTos.nil) trivial trivial rfl) zw (MkTo.drop (show 1 ∉ ([0] : List Nat) by decide) ((key 1 _ (by decide)).trans j2) MkTo.nil)
          · conv => whnf
            repeat' (first | ((first | refine zs1 ?_ | refine zs2 ?_ | refine zs3 ?_ | refine zs4 ?_ | refine zs5 ?_ | refine zs6 [] ?_); conv => whnf) | ((first | apply zi1 | apply zi2 | apply zi3 | apply zi4 | apply zi5) <;> intro _ <;> conv => whnf))
            exact VOut.same rfl
  · rw [if_neg h0] at hE
    subst hE
    have hm : (0 ≤ mw ∧ mw ≤ 12) → (0 ≤ mh ∧ mh ≤ 12) → 0 ≤ mw * mh ∧ mw * mh ≤ 144 := sz_mul
    refine VC.body Try.func134 rfl Try.ntmps134 Try.call134 (h.grows_refl) rfl ?_; conv => whnf
    repeat' (first | ((first | refine zs1 ?_ | refine zs2 ?_ | refine zs3 ?_ | refine zs4 ?_ | refine zs5 ?_); conv => whnf) | ((first | apply zi1 | apply zi2 | apply zi3 | apply zi4 | apply zi5) <;> intro _ <;> first | (exfalso; omega) | contradiction | (conv => whnf)) | (refine VCall.intro (vc_from _ _ _ _) ?_; conv => whnf) | (refine VCall.intro (cC _) ?_; conv => whnf))
    all_goals first | exact VOut.same rfl | (exfalso; simp at *; omega)
end Go.Proofs.Ytoeendggmalcpaa.Rv

open Go.Vm
open Riv
namespace Go.Vm
theorem wrap_u64 {n : Int} (h : 0 ≤ n ∧ n < 18446744073709551616) : IntKind.u64.wrap n = n := by
  unfold IntKind.wrap
  simp [IntKind.bits, IntKind.signed]
  omega
theorem VArith.u64 {n : Int} {K : Int → Prop} (h : 0 ≤ n ∧ n < 18446744073709551616) (hk : K n) : VArith .u64 n K := VArith.wr (by rw [wrap_u64 h]; exact hk)
theorem VArith.mask {n : Nat} {K : Int → Prop} (h : n < 4294967296) (hk : K n) : VArith .u64 (((BitVec.ofInt IntKind.u64.bits (n : Int) &&& BitVec.ofInt IntKind.u64.bits 4294967295).toNat : Nat) : Int) K := by
  have e : (BitVec.ofInt IntKind.u64.bits (n : Int) &&& BitVec.ofInt IntKind.u64.bits 4294967295).toNat = n := by
    rw [BitVec.toNat_and]
    have e1 : (BitVec.ofInt IntKind.u64.bits 4294967295).toNat = 2 ^ 32 - 1 := by decide
    have e2 : (BitVec.ofInt IntKind.u64.bits (n : Int)).toNat = n := by
      rw [BitVec.toNat_ofInt]
      simp only [IntKind.bits]
      omega
    rw [e1, e2, Nat.and_two_pow_sub_one_eq_mod]
    omega
  rw [e]
  exact VArith.u64 (by omega) hk
theorem shr32 {n : Nat} (h : n < 4294967296) : (n : Int).fdiv (2 ^ (min (32 : Int).toNat IntKind.u64.bits)) = 0 := by
  rw [show (2 : Int) ^ (min (32 : Int).toNat IntKind.u64.bits) = 4294967296 by decide]
  rw [Int.fdiv_eq_ediv_of_nonneg _ (by decide)]
  omega
end Go.Vm
namespace Go.Proofs.Ytoeendggmalcpaa.Rv
set_option maxRecDepth 20000
set_option maxHeartbeats 4000000
abbrev U (n : Int) : V := .s (.int .u64 n)
theorem vc_Mul64 (n : Nat) (hn : n < 4294967296) (h : Hp) : VC Try.prog 168 [U 1, U n] h (.tuple [U 0, U n]) h := by
  have e := shr32 hn
  have e1 : Int.fdiv 1 (2 ^ (min (32 : Int).toNat IntKind.u64.bits)) = 0 := by decide
  have e0 : Int.fdiv 0 (2 ^ (min (32 : Int).toNat IntKind.u64.bits)) = 0 := by decide
  refine VC.body Try.func168 rfl Try.ntmps168 Try.call168 (h.grows_refl) rfl ?_; conv => whnf
  repeat' (first | ((first | refine zs1 ?_ | refine zs2 ?_ | refine zs3 ?_ | refine zs4 ?_ | refine zs5 ?_ | refine zs6 [] ?_); conv => whnf) | ((first | apply zi1 | apply zi2 | apply zi3 | apply zi4 | apply zi5) <;> intro _ <;> conv => whnf) | (refine VArith.mask hn ?_; conv => whnf) | (refine VArith.mask (n := 1) (by decide) ?_; simp only [Int.natCast_one]; conv => whnf) | (refine VArith.mask (n := 0) (by decide) ?_; simp only [Int.natCast_zero]; conv => whnf) | (simp only [e, e1, e0, Int.one_mul, Int.zero_mul, Int.zero_add, Int.add_zero]; conv => whnf) | (refine VArith.u64 (by omega) ?_; conv => whnf))
  exact VOut.same rfl
theorem vc_Mul (n : Nat) (hn : n < 4294967296) (h : Hp) : VC Try.prog 156 [U 1, U n] h (.tuple [U 0, U n]) h := by
  refine VC.body Try.func156 rfl Try.ntmps156 Try.call156 (h.grows_refl) rfl ?_; conv => whnf
  repeat' (first | ((first | refine zs1 ?_ | refine zs2 ?_ | refine zs3 ?_ | refine zs4 ?_ | refine zs5 ?_ | refine zs6 [] ?_); conv => whnf) | ((first | apply zi1 | apply zi2 | apply zi3 | apply zi4 | apply zi5) <;> intro _ <;> conv => whnf) | (refine VCall.intro (vc_Mul64 n hn _) ?_; conv => whnf))
  exact VOut.same rfl
end Go.Proofs.Ytoeendggmalcpaa.Rv
namespace Go.Vm
theorem flatI (l : List Int) : l.flatMap Vm.encI = l.map DI := by
  induction l with
  | nil => rfl
  | cons a l ih => rw [List.flatMap_cons, ih]; rfl
def repL (a z : Int) (n k : Nat) : List Int := List.replicate k a ++ List.replicate (n - k) z
theorem repL_len (a z : Int) {n k : Nat} (h : k ≤ n) : (repL a z n k).length = n := by unfold repL; simp; omega
theorem VMem.copyRep {P : Program} {t ty : TypeId} {e bytes : Nat} {zero : List V} {s_ : Nat} {a_ : Bool} {z_ : V} {h : Hp} {i : Id} {a z : Int} {n k o1 n1 n2 : Nat} {K : V → Hp → Prop} (hTt : tiOf P t = some ⟨.slice e 1 bytes zero, s_, a_, z_⟩)
    (hb : h.get i = some (.flat true ((repL a z n k).flatMap Vm.encI))) (hk : k ≤ n) (h1 : o1 = k) (h2 : n1 = n - k) (h3 : n2 = k)
    (hK : K (.s (.int .i64 (min k (n - k) : Nat))) (h.set i (.flat true ((repL a z n (k + min k (n - k))).flatMap Vm.encI)))) : VMem P (opCopy #[t, t] ty) [.slice i o1 1 n1 none, .gl i 1 n2] h K := by
  subst h1 h2 h3
  refine VMem.intro (does_copy (n := n2) (m := min n2 (n - n2)) (news := ((List.replicate n2 a).map DI).map D.v) (l := ((repL a z n n2).flatMap Vm.encI).map D.v) (tiOf_ok P) hTt hb rfl ?_ ?_ rfl ?_) hK
  · simp only [SegOf]
    refine ⟨trivial, trivial, _, true, _, hb, rfl, by rw [List.length_map, flat_len Vm.encI_len, repL_len a z hk]; omega, ?_⟩
    rw [flatI, ← List.map_take, ← List.map_take, repL, List.take_append_of_le_length (by simp), List.take_of_length_le (by simp)]
  · rw [List.length_map, flat_len Vm.encI_len, repL_len a z hk]; omega
  · simp only [Blk.row, flatI, ← List.map_take, ← List.map_drop]
    rw [← List.map_append, ← List.map_append, ← List.map_append, ← List.map_append]
    congr 3
    rw [Nat.mul_one]
    generalize hm : min n2 (n - n2) = m
    unfold repL
    rw [List.take_append_of_le_length (by simp), List.take_of_length_le (by simp), List.take_replicate, List.drop_append, List.drop_of_length_le (by simp), List.nil_append, List.length_replicate, List.drop_replicate, Nat.min_eq_left (by omega), ← List.replicate_append_replicate]
    congr 2
    rw [show n - (n2 + m) = n - n2 - (n2 + m - n2) by omega]
theorem VMem.copyOne {P : Program} {t ty : TypeId} {e bytes : Nat} {zero : List V} {s_ : Nat} {a_ : Bool} {z_ : V} {h : Hp} {i : Id} {a z : Int} {n : Nat} {K : V → Hp → Prop} (hTt : tiOf P t = some ⟨.slice e 1 bytes zero, s_, a_, z_⟩)
    (hb : h.get i = some (.flat true ((List.replicate n z).flatMap Vm.encI)))
    (hK : K (.s (.int .i64 (min 1 n : Nat))) (h.set i (.flat true ((repL a z n (min 1 n)).flatMap Vm.encI)))) : VMem P (opCopy #[t, t] ty) [.gl i 1 n, .fs 1 1 [DI a]] h K := by
  refine VMem.intro (does_copy_gl (k := 1) (m := min 1 n) (news := ([a].map DI).map D.v) (l := ((List.replicate n z).flatMap Vm.encI).map D.v) (tiOf_ok P) hTt hb rfl ?_ ?_ rfl ?_) hK
  · simp only [SegOf]
    exact ⟨trivial, trivial, by simp, rfl⟩
  · rw [List.length_map, flat_len Vm.encI_len, List.length_replicate]; omega
  · simp only [Blk.row, flatI, ← List.map_take, ← List.map_drop]
    rw [← List.map_append, ← List.map_append]
    congr 3
    rw [Nat.mul_one]
    unfold repL
    cases n with
    | zero => rfl
    | succ n =>
      rw [show min 1 (n + 1) = 1 by omega, List.drop_replicate]
      rfl
end Go.Vm
namespace Go.Proofs.Ytoeendggmalcpaa.Rv
set_option maxRecDepth 20000
set_option maxHeartbeats 4000000
theorem vc_Repeat (a : Int) (n : Nat) (h : Hp) (hn : n ≤ 1000000) : VC Try.prog 136 [ints [a], I n] h (.gl h.fresh 1 n) (h.push (.flat true ((List.replicate n a).flatMap Vm.encI))) := by
  show VC Try.prog 136 [.fs 1 1 [DI a], I n] h _ _
  refine VC.body Try.func136 rfl Try.ntmps136 Try.call136 (h.grows_push _) rfl ?_
  conv => whnf
  repeat' (first | ((first | refine zs1 ?_ | refine zs2 ?_ | refine zs3 ?_ | refine zs4 ?_ | refine zs5 ?_); conv => whnf) | ((first | apply zi1 | apply zi2 | apply zi3 | apply zi4 | apply zi5) <;> intro _ <;> first | (exfalso; omega) | contradiction | (conv => whnf)) | (refine VArith.u64 (by omega) ?_; conv => whnf) | (refine VCall.intro (vc_Mul n (by omega) _) ?_; conv => whnf) | (refine VMem.make (0 : Int) Vm.encI_len rfl rfl rfl rfl rfl rfl (by omega) ?_; conv => whnf) | (refine VMem.copyOne (a := a) (z := 0) (n := n) rfl rfl ?_; conv => whnf))
  refine VCode.lp (outer := h.lift) (marks := []) (fun k : Nat => [(7, .gl (.loc 0) 1 n), (8, I k)]) (fun k => [.flat true ((repL a 0 n k).flatMap Vm.encI)]) (fun k => k ≤ n ∧ (k = 0 → n = 0)) (fun k => n - k) (min 1 n) ⟨by omega, by omega⟩ ?_ ?_
  · generalize hm : min 1 n = m
    conv => whnf
    refine Retell.turn ⟨[0], 1, [], []⟩ (TurnOk.mk' _ _ [] [] (OutOk.lift _) rfl (by decide) zb trivial trivial rfl) zw zm
  · rintro k ⟨h1, h2⟩
    conv => whnf
    repeat (first | ((first | refine zs1 ?_ | refine zs2 ?_ | refine zs3 ?_ | refine zs4 ?_ | refine zs5 ?_ | refine zs6 [] ?_); conv => whnf))
    refine VIte.dec (fun h3 => ?_) (fun h3 => ?_)
    · conv => whnf
      refine zs6 [] ?_
      conv => whnf
      repeat (first | ((first | refine zs1 ?_ | refine zs2 ?_ | refine zs3 ?_ | refine zs4 ?_ | refine zs5 ?_ | refine zs6 [] ?_); conv => whnf))
      refine VAny.intro (v := .slice (.loc 0) (k * 1) 1 (n - k) none) ⟨by omega, n - k, by omega, .inr ⟨by omega, rfl⟩⟩ ?_
      conv => whnf
      repeat (first | ((first | refine zs1 ?_ | refine zs2 ?_ | refine zs3 ?_ | refine zs4 ?_ | refine zs5 ?_ | refine zs6 [] ?_); conv => whnf))
      refine VAny.intro (v := .gl (.loc 0) 1 k) ⟨by omega, k, by omega, .inl ⟨rfl, rfl⟩⟩ ?_
      conv => whnf
      repeat (first | ((first | refine zs1 ?_ | refine zs2 ?_ | refine zs3 ?_ | refine zs4 ?_ | refine zs5 ?_ | refine zs6 [] ?_); conv => whnf))
      refine VMem.copyRep (a := a) (z := 0) (n := n) (k := k) rfl rfl h1 (by omega) rfl rfl ?_
      generalize hm : min k (n - k) = m
      conv => whnf
      repeat (first | ((first | refine zs1 ?_ | refine zs2 ?_ | refine zs3 ?_ | refine zs4 ?_ | refine zs5 ?_ | refine zs6 [] ?_); conv => whnf))
      refine LEnd.intro (k + m) ⟨by omega, by omega⟩ (by omega) ?_
      conv => whnf
      refine Retell.turn ⟨[0], 1, [], []⟩ (TurnOk.mk' _ _ [] [] (OutOk.lift _) rfl (by decide) zb trivial trivial rfl) zw zm
    · obtain rfl : k = n := by omega
      rw [show repL a 0 k k = List.replicate k a by unfold repL; rw [Nat.sub_self]; simp]
      conv => whnf
      repeat' (first | ((first | refine zs1 ?_ | refine zs2 ?_ | refine zs3 ?_ | refine zs4 ?_ | refine zs5 ?_ | refine zs6 [] ?_); conv => whnf) | ((first | apply zi1 | apply zi2 | apply zi3 | apply zi4 | apply zi5) <;> intro _ <;> conv => whnf))
      exact VOut.own1 0 1 rfl rfl
end Go.Proofs.Ytoeendggmalcpaa.Rv

open Go.Vm
open Riv
namespace Go.Proofs.Ytoeendggmalcpaa.Rv
set_option maxRecDepth 20000
set_option maxHeartbeats 4000000

def lkE (m : Mp) (s : Int) : Int := if chkM m = 0 then (if s = 1 ∨ s = 2 then 0 else 4) else chkM m
theorem vc_looked (m : Mp) (s : Int) (h : Hp) (hl : m.c.length ≤ 4000000) : VC Try.prog 108 [vM m, I s] h (.tuple [vSd m s, I (lkE m s)]) h := by
  have c := fun h => vc_check m h hl
  unfold lkE
  generalize chkM m = E at c
  obtain ⟨mw, mh, mc⟩ := m
  by_cases h0 : E = 0
  · subst h0
    rw [if_pos rfl]
    by_cases h1 : s = 1 ∨ s = 2
    · rw [if_pos h1]
      refine VC.body Try.func108 rfl Try.ntmps108 Try.call108 (h.grows_refl) rfl ?_; conv => whnf
      repeat' (first | ((first | refine zs1 ?_ | refine zs2 ?_ | refine zs3 ?_ | refine zs4 ?_ | refine zs5 ?_); conv => whnf) | ((first | apply zi1 | apply zi2 | apply zi3 | apply zi4 | apply zi5) <;> intro _ <;> first | (exfalso; omega) | contradiction | (conv => whnf)) | (refine VCall.intro (c _) ?_; conv => whnf))
      all_goals exact VOut.same rfl
    · rw [if_neg h1]
      refine VC.body Try.func108 rfl Try.ntmps108 Try.call108 (h.grows_refl) rfl ?_; conv => whnf
      repeat' (first | ((first | refine zs1 ?_ | refine zs2 ?_ | refine zs3 ?_ | refine zs4 ?_ | refine zs5 ?_); conv => whnf) | ((first | apply zi1 | apply zi2 | apply zi3 | apply zi4 | apply zi5) <;> intro _ <;> first | (exfalso; omega) | contradiction | (conv => whnf)) | (refine VCall.intro (c _) ?_; conv => whnf))
      all_goals exact VOut.same rfl
  · rw [if_neg h0]
    refine VC.body Try.func108 rfl Try.ntmps108 Try.call108 (h.grows_refl) rfl ?_; conv => whnf
    repeat' (first | ((first | refine zs1 ?_ | refine zs2 ?_ | refine zs3 ?_ | refine zs4 ?_ | refine zs5 ?_); conv => whnf) | ((first | apply zi1 | apply zi2 | apply zi3 | apply zi4 | apply zi5) <;> intro _ <;> first | (exfalso; omega) | contradiction | (conv => whnf)) | (refine VCall.intro (c _) ?_; conv => whnf))
    all_goals exact VOut.same rfl
end Go.Proofs.Ytoeendggmalcpaa.Rv


/- Part 0 of the proof that passageFerried: ferries take a herd as far as the cells are. No condition. -/
import Derived.Test.YtoeendggmalcpaaBp8
set_option linter.unusedVariables false
set_option linter.unusedSimpArgs false
namespace Go.Vm
section
variable {P : Program} {T : TT} (hT : TOk P T)
include hT
theorem does_makeSlice {t : TypeId} {e esz bytes : Nat} {zero : List V} {s_ : Nat} {a_ : Bool} {z_ : V} {h : Hp} {l c : Int} {b' : Blk} {zs : List V} (hTt : T t = some ⟨.slice e esz bytes zero, s_, a_, z_⟩)
    (hl : 0 ≤ l ∧ l ≤ c) (hc : c * bytes ≤ 140737488355328) (hc63 : c ≤ 9223372036854775807) (hb' : b'.row = some (true, zs)) (hzs : zs = zeroAt zero esz (l.toNat * esz)) :
    Does P (opMakeSlice t) [.s (.int .i64 l), .s (.int .i64 c)] h (.gl h.fresh esz l.toNat) (h.push b') := by
  subst hzs
  refine ⟨h.grows_push _, ?_⟩
  intro σ w xs hr hxs
  obtain ⟨x, y, rfl, hx, hy⟩ := VRs_two hxs
  simp only [VR, S.val] at hx hy
  subst hx hy
  obtain ⟨hu, hp, info, z, hinfo, hsize, hbytes, hzero, hzc, hzl, hzsz⟩ := slice_kind hT hTt
  obtain ⟨hz1, hz2⟩ := zeroAt_ok (σ := σ) (n := c.toNat * esz) hzc hzl hp
  have hw1 : IntKind.i64.wrap l = l := by unfold IntKind.wrap; simp [IntKind.bits, IntKind.signed]; omega
  have hw2 : IntKind.i64.wrap c = c := by unfold IntKind.wrap; simp [IntKind.bits, IntKind.signed]; omega
  have hnb : ¬ ((281474976710656 : Int) < info.bytes * c) := by rw [hbytes, Int.mul_comm]; omega
  have c1 : ¬ (c < 0) := by omega
  have c2 : ¬ (l < 0) := by omega
  have c3 : ¬ (c < l) := by omega
  have hlc : l.toNat * esz ≤ c.toNat * esz := Nat.mul_le_mul_right _ (by omega)
  have hzt : zeroAt zero esz (l.toNat * esz) = (zeroAt zero esz (c.toNat * esz)).take (l.toNat * esz) := by
    simp only [zeroAt, ← List.map_take, List.take_range, Nat.min_eq_left hlc]
  have hrel : Rel (σ.put h.fresh ⟨w.heap.size, 0, c.toNat * esz⟩) (h.push b') (w.alloc (.cells ((Array.range (c.toNat * esz)).map (z.cells[· % z.cells.size]!)) e)) := by
    refine hr.push ((BlkRel_row hb').2 ⟨_, e, (0, 0), rfl, by simp, ?_, fun _ => rfl, ?_⟩)
    · simp [zeroAt]; exact hlc
    · intro i v hv
      have hv : (zeroAt zero esz (l.toNat * esz))[i]? = some v := hv
      rw [hzt, List.getElem?_take] at hv
      split at hv
      · obtain ⟨x, hx, hvr⟩ := VRs.get (VRs.mono (Sig.le_put hr.fresh_none) _ _ hz1) hv
        refine ⟨x, ?_, hvr, hz2 x (List.mem_of_getElem? hx)⟩
        rw [Nat.zero_add, ← Array.getElem?_toList]; exact hx
      · cases hv
  refine ⟨_, _, _, run_valN (x := .slice (some ⟨w.heap.size, 0, none⟩) l.toNat c.toNat) ?_, ?_, hrel, Ext.push hr (Blk.row_rw hb')⟩
  · by_cases h0 : c.toNat * esz = 0
    · have hh : (Array.map (fun x => z.cells[x % z.cells.size]!) (Array.range (c.toNat * esz))) = (#[] : Array Value) := by rw [h0]; simp
      have hc0 : c.toNat = 0 := by rcases Nat.mul_eq_zero.1 h0 with h1 | h1; exact h1; omega
      rw [hh]
      simp [Instr.makeSlice, run_underlying hu, asInt, asIntOf, sizeOf, typeInfo, hinfo, hsize, hw1, hw2, c1, c2, c3, hnb, newRow, hc0]
      rw [show (Array.map (fun _ => (default : Value)) (Array.range 0)) = (#[] : Array Value) by simp]
    · have hcne : ¬ (c.toNat = 0) := fun h1 => h0 (by rw [h1, Nat.zero_mul])
      have hene : ¬ (esz = 0) := by omega
      simp [Instr.makeSlice, run_underlying hu, asInt, asIntOf, sizeOf, typeInfo, zeroValue, hinfo, hsize, hzero, hw1, hw2, c1, c2, c3, hnb, newRow, hcne, hene]
      try exact fun h1 => absurd h1 h0
  · simp only [NextRel, VR]
    exact ⟨hp, .inr ⟨_, c.toNat, 0, Sig.put_same _ _ _, by omega, by simp, fun _ => rfl, rfl⟩⟩
end
end Go.Vm

namespace Go.Vm
section
variable {P : Program} {T : TT} (hT : TOk P T)
include hT
end
theorem VAny.subM {α : Type} {enc : α → List D} {m : Nat} (hm : ∀ a, (enc a).length = m) {l : List α} {len : Nat} {lo hi mx : Int} {is : Bool} {K : V → Prop} (hlen : len = l.length) (hi1 : is = true) (hb : 0 ≤ lo ∧ lo ≤ hi ∧ hi ≤ mx ∧ mx ≤ len)
    (hK : K (.fs m ((l.drop lo.toNat).take (hi - lo).toNat).length (((l.drop lo.toNat).take (hi - lo).toNat).flatMap enc))) : VAny (SubM m len (l.flatMap enc) lo hi mx is) K :=
  VAny.intro (v := .fs m ((l.drop lo.toNat).take (hi - lo).toNat).length (((l.drop lo.toNat).take (hi - lo).toNat).flatMap enc)) ⟨⟨hi1, hb.2.2⟩, ⟨hb.1, hb.2.1, by omega⟩, _, _, by rw [flat_dropD hm, flat_takeD hm], by simp; omega, rfl⟩ hK
end Go.Vm

namespace Go.Vm
theorem VMem.make {P : Program} {α : Type} {enc : α → List D} {t : TypeId} {e esz bytes : Nat} {zero : List V} {s_ : Nat} {a_ : Bool} {z_ : V} {h : Hp} {n : Nat} {l c : Int} {K : V → Hp → Prop} (a : α) (hm : ∀ a, (enc a).length = esz) (hTt : tiOf P t = some ⟨.slice e esz bytes zero, s_, a_, z_⟩)
    (hz : zero = (enc a).map D.v) (he : Nat.blt 0 esz = true) (hl : l = n) (hc : c = n) (hby : Nat.ble bytes 1048576 = true) (h63 : n ≤ 134217728) (hK : K (.gl h.fresh esz n) (h.push (.flat true ((List.replicate n a).flatMap enc)))) :
    VMem P (opMakeSlice t) [.s (.int .i64 l), .s (.int .i64 c)] h K := by
  subst hl hc
  refine VMem.intro (?_ : Does P _ _ h (.gl h.fresh esz (n : Int).toNat) _) hK
  have hbd := mul_bd hby h63
  refine does_makeSlice (zs := ((List.replicate n a).flatMap enc).map D.v) (tiOf_ok P) hTt ⟨by omega, Int.le_refl _⟩ (by have h7 := Int.ofNat_le.2 hbd; rw [Int.natCast_mul] at h7; exact h7) (by omega) rfl ?_
  rw [Int.toNat_natCast, hz, zeroAt_flat hm (by simpa using he)]
end Go.Vm

namespace Go.Vm
theorem iterN_seqZ {P : Program} {i : Id} {ys : Nat → Option (List V)} {h : Hp} {I : Nat → Hp → Prop} {E : Hp → Prop} : ∀ (m : Nat), (∀ k g, k < m → I k g → match ys k with
    | none => I (k + 1) g
    | some vs => (∃ g', VY P i vs g (.s (.bool true)) g' ∧ I (k + 1) g') ∨ ∃ g', VY P i vs g (.s (.bool false)) g' ∧ E g') → I 0 h →
    ∃ (s : Nat) (g : Nat → Hp), g 0 = h ∧ s ≤ m ∧ (∀ k, k < s → (ys k = none ∧ g (k + 1) = g k) ∨ ∃ vs, ys k = some vs ∧ VY P i vs (g k) (.s (.bool true)) (g (k + 1))) ∧
      ((s = m ∧ I m (g m)) ∨ (s < m ∧ ∃ vs g', ys s = some vs ∧ VY P i vs (g s) (.s (.bool false)) g' ∧ E g'))
  | 0, _, h0 => ⟨0, fun _ => h, rfl, Nat.le_refl _, fun k hk => absurd hk (Nat.not_lt_zero _), .inl ⟨rfl, h0⟩⟩
  | m + 1, hs, h0 => by
    obtain ⟨s, g, g0, hsm, g1, g2⟩ := iterN_seqZ m (fun k g hk hi => hs k g (by omega) hi) h0
    rcases g2 with ⟨rfl, hI⟩ | ⟨hlt, vs, g', a, b, c⟩
    · have := hs s (g s) (Nat.lt_succ_self _) hI
      have ext : ∀ gn : Hp, ∃ g2 : Nat → Hp, (∀ k, k ≤ s → g2 k = g k) ∧ g2 (s + 1) = gn := fun gn => ⟨fun k => if k = s + 1 then gn else g k, fun k hk => by simp only [if_neg (show ¬ k = s + 1 by omega)], by simp⟩
      cases hy : ys s with
      | none =>
        rw [hy] at this
        obtain ⟨g2, e1, e2⟩ := ext (g s)
        refine ⟨s + 1, g2, by rw [e1 0 (Nat.zero_le _)]; exact g0, Nat.le_refl _, fun k hk => ?_, .inl ⟨rfl, by rw [e2]; exact this⟩⟩
        rcases Nat.lt_or_ge k s with h1 | h1
        · rw [e1 k (by omega), e1 (k + 1) (by omega)]; exact g1 k h1
        · obtain rfl : k = s := by omega
          rw [e1 k (Nat.le_refl _), e2]; exact .inl ⟨hy, rfl⟩
      | some vs =>
        rw [hy] at this
        rcases this with ⟨g', a, b⟩ | ⟨g', a, b⟩
        · obtain ⟨g2, e1, e2⟩ := ext g'
          refine ⟨s + 1, g2, by rw [e1 0 (Nat.zero_le _)]; exact g0, Nat.le_refl _, fun k hk => ?_, .inl ⟨rfl, by rw [e2]; exact b⟩⟩
          rcases Nat.lt_or_ge k s with h1 | h1
          · rw [e1 k (by omega), e1 (k + 1) (by omega)]; exact g1 k h1
          · obtain rfl : k = s := by omega
            rw [e1 k (Nat.le_refl _), e2]; exact .inr ⟨vs, hy, a⟩
        · exact ⟨s, g, g0, Nat.le_succ _, g1, .inr ⟨Nat.lt_succ_self _, vs, g', hy, a, b⟩⟩
    · exact ⟨s, g, g0, by omega, g1, .inr ⟨by omega, vs, g', a, b, c⟩⟩
theorem iterS_seq {P : Program} {i : Id} {ys : Nat → Option (List V)} {h : Hp} {I : Nat → Hp → Prop} {m : Nat} (hs : ∀ k g, k < m → I k g → match ys k with
    | none => I (k + 1) g
    | some vs => ∃ g', VY P i vs g (.s (.bool true)) g' ∧ I (k + 1) g') (h0 : I 0 h) :
    ∃ g : Nat → Hp, g 0 = h ∧ (∀ k, k < m → (ys k = none ∧ g (k + 1) = g k) ∨ ∃ vs, ys k = some vs ∧ VY P i vs (g k) (.s (.bool true)) (g (k + 1))) ∧ I m (g m) := by
  obtain ⟨s, g, g0, hsm, g1, g2⟩ := iterN_seqZ (P := P) (i := i) (ys := ys) (I := I) (E := fun _ => False) m (fun k g hk hi => by
    have := hs k g hk hi
    revert this
    cases ys k with
    | none => exact fun h => h
    | some vs => exact fun h => .inl h) h0
  rcases g2 with ⟨rfl, hI⟩ | ⟨_, _, _, _, _, hF⟩
  · exact ⟨g, g0, g1, hI⟩
  · exact hF.elim
theorem VCode.iterS {P : Program} {g : Operand} {ps : Array Tmp} {assign body : Code} {n : Nat} {fr : Fr} {h : Hp} {marks : List Id} {Q : X → St → Prop} {f : FuncId} {first caps : List V} (m : Nat) (ys : Nat → Option (List V)) (J : Nat → Hp → Prop) (LR : LoopV) (iy : Id)
    (hg : ev fr g = .func (.func f) first caps) (hit : IterS P f first caps m ys) (hLR : LR = { state := .ready, pending := none, n, fr, params := ps, assign, body, mark := h.fresh }) (hiy : iy = (h.push .mark).fresh)
    (h0 : J 0 ((h.push .mark).push (.loop LR)))
    (hskip : ∀ k g, k < m → ys k = none → J k g → J (k + 1) g)
    (hr : ∀ k g vs, k < m → ys k = some vs → J k g → g.get iy = some (.loop LR) → ∃ g', VY P iy vs g (.s (.bool true)) g' ∧ J (k + 1) g' ∧ g'.get iy = some (.loop LR))
    (hq : ∀ g, J m g → g.get iy = some (.loop LR) → Told Q .normal ⟨n, fr, g.set iy (.loop { LR with state := .exhausted }), h.fresh :: marks⟩) : VCode P none isOut (.rangeFunc g ps assign body) ⟨n, fr, h, marks⟩ Q := by
  have hfr : ((h.push .mark).push (.loop LR)).get iy = some (.loop LR) := by rw [hiy, Hp.get_push, if_pos rfl]
  obtain ⟨h2, hv, hj, hl⟩ := hit ((h.push .mark).push (.loop LR)) iy (fun j g => J j g ∧ g.get iy = some (.loop LR)) (fun k g hk hJ => by
    cases hy : ys k with
    | none => exact ⟨hskip k g hk hy hJ.1, hJ.2⟩
    | some vs =>
      obtain ⟨g', k1, k2, k3⟩ := hr k g vs hk hy hJ.1 hJ.2
      exact ⟨g', k1, k2, k3⟩) ⟨h0, hfr⟩
  subst hiy
  refine VCode.intro (VWp.retell_post (Q' := Told Q) ?_ fun x st' hst => hst)
  refine (VWp.rangeFunc (lr := LR) (h2 := h2) (r := .tuple []) (f := f) (first := first) (caps := caps) hg (by subst hLR; exact hv) hl (by rw [hLR]; simp) ?_)
  have := hq h2 hj hl
  rw [hLR] at this ⊢
  exact this
theorem outer_fix1 {o : Vm.Id → Option Blk} {iy i1 : Vm.Id} {b0 b b1 : Blk} (h : o iy = some b) (n1 : iy ≠ i1) : outW (outW (outW o iy b0) i1 b1) iy b = outW o i1 b1 := by
  funext j
  unfold outW
  by_cases e : j = iy
  · subst e; rw [if_pos rfl, if_neg n1, h]
  · rw [if_neg e, if_neg e]
theorem grows_set2 {h : Hp} {a b : Id} {A B : Blk} : h.grows ((h.set a A).set b B) := fun i hi => Hp.grows_set _ _ _ i (Hp.grows_set _ _ _ i hi)
end Go.Vm


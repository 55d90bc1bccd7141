/- Part 1 of the proof that two base points leave no enclaves. No condition. -/
import Derived.Test.YtajnkenbhmkjaaaGreatBn0
set_option linter.unusedVariables false
set_option linter.unusedSimpArgs false
namespace Go.Vm

def opSliceArr (t : TypeId) (xs : List Value) : Sem Next := valN (Instr.sliceAt t (xs.getD 0 undef) none none none)
def zeroAt (zero : List V) (esz n : Nat) : List V := (List.range n).map fun j => zero.getD (j % esz) .undef
theorem zeroAt_ok {σ : Sig} {zero : List V} {z : Value} {esz n : Nat} (hz : ZeroCs zero z) (hl : zero.length = esz) (he : 0 < esz) :
    VRs σ (zeroAt zero esz n) ((Array.range n).map (z.cells[· % z.cells.size]!)).toList ∧ ∀ x ∈ ((Array.range n).map (z.cells[· % z.cells.size]!)).toList, x.oneCell' = true := by
  obtain ⟨h1, h2⟩ := hz σ
  have hsz : z.cells.size = esz := by have := VRs.length h1; simp at this; omega
  have hget : ∀ k, k < esz → ∃ x, z.cells[k]? = some x ∧ VR σ (zero.getD k .undef) x ∧ x.oneCell' = true := by
    intro k hk
    have hv : zero[k]? = some (zero.getD k .undef) := by rw [List.getD_eq_getElem?_getD, List.getElem?_eq_getElem (by omega)]; rfl
    obtain ⟨x, hx, hr⟩ := VRs.get h1 hv
    exact ⟨x, by simpa using hx, hr, h2 x (List.mem_of_getElem? hx)⟩
  constructor
  · refine VRs.of_get (by simp [zeroAt]) ?_
    intro i v hv
    simp only [zeroAt, List.getElem?_map, Option.map_eq_some_iff] at hv
    obtain ⟨j, hj, rfl⟩ := hv
    have hin : i < n := by have := (List.getElem?_eq_some_iff.1 hj).1; simpa using this
    rw [List.getElem?_range hin] at hj
    cases hj
    obtain ⟨x, hx, hr, _⟩ := hget (i % esz) (Nat.mod_lt _ he)
    refine ⟨x, ?_, hr⟩
    simp [hin, hsz, getElem!_def, hx]
  · intro x hx
    simp only [Array.toList_map, Array.toList_range, List.mem_map, List.mem_range] at hx
    obtain ⟨i, hi, rfl⟩ := hx
    obtain ⟨x, hx, _, h3⟩ := hget (i % esz) (Nat.mod_lt _ he)
    simpa [hsz, getElem!_def, hx] using h3
section
variable {P : Program} {T : TT} (hT : TOk P T)
include hT
theorem does_makeSlice {t : TypeId} {e esz bytes : Nat} {zero : List V} {s_ : Nat} {a_ : Bool} {z_ : V} {h : Hp} {l c : Int} {b' : Blk} {zs : List V} (hTt : T t = some ⟨.slice e esz bytes zero, s_, a_, z_⟩)
    (hl : 0 ≤ l ∧ l ≤ c) (hc : c * bytes ≤ 140737488355328) (hc63 : c ≤ 9223372036854775807) (hb' : b'.row = some (true, zs)) (hzs : zs = zeroAt zero esz (l.toNat * esz)) :
    Does P (opMakeSlice t) [.s (.int .i64 l), .s (.int .i64 c)] h (.gl h.fresh esz l.toNat) (h.push b') := by
  subst hzs
  refine ⟨h.grows_push _, ?_⟩
  intro σ w xs hr hxs
  obtain ⟨x, y, rfl, hx, hy⟩ := VRs_two hxs
  simp only [VR, S.val] at hx hy
  subst hx hy
  obtain ⟨hu, hp, info, z, hinfo, hsize, hbytes, hzero, hzc, hzl, hzsz⟩ := slice_kind hT hTt
  obtain ⟨hz1, hz2⟩ := zeroAt_ok (σ := σ) (n := c.toNat * esz) hzc hzl hp
  have hw1 : IntKind.i64.wrap l = l := by unfold IntKind.wrap; simp [IntKind.bits, IntKind.signed]; omega
  have hw2 : IntKind.i64.wrap c = c := by unfold IntKind.wrap; simp [IntKind.bits, IntKind.signed]; omega
  have hnb : ¬ ((281474976710656 : Int) < info.bytes * c) := by rw [hbytes, Int.mul_comm]; omega
  have c1 : ¬ (c < 0) := by omega
  have c2 : ¬ (l < 0) := by omega
  have c3 : ¬ (c < l) := by omega
  have hlc : l.toNat * esz ≤ c.toNat * esz := Nat.mul_le_mul_right _ (by omega)
  have hzt : zeroAt zero esz (l.toNat * esz) = (zeroAt zero esz (c.toNat * esz)).take (l.toNat * esz) := by
    simp only [zeroAt, ← List.map_take, List.take_range, Nat.min_eq_left hlc]
  have hrel : Rel (σ.put h.fresh ⟨w.heap.size, 0, c.toNat * esz⟩) (h.push b') (w.alloc (.cells ((Array.range (c.toNat * esz)).map (z.cells[· % z.cells.size]!)) e)) := by
    refine hr.push ((BlkRel_row hb').2 ⟨_, e, (0, 0), rfl, by simp, ?_, fun _ => rfl, ?_⟩)
    · simp [zeroAt]; exact hlc
    · intro i v hv
      have hv : (zeroAt zero esz (l.toNat * esz))[i]? = some v := hv
      rw [hzt, List.getElem?_take] at hv
      split at hv
      · obtain ⟨x, hx, hvr⟩ := VRs.get (VRs.mono (Sig.le_put hr.fresh_none) _ _ hz1) hv
        refine ⟨x, ?_, hvr, hz2 x (List.mem_of_getElem? hx)⟩
        rw [Nat.zero_add, ← Array.getElem?_toList]; exact hx
      · cases hv
  refine ⟨_, _, _, run_valN (x := .slice (some ⟨w.heap.size, 0, none⟩) l.toNat c.toNat) ?_, ?_, hrel, Ext.push hr (Blk.row_rw hb')⟩
  · by_cases h0 : c.toNat * esz = 0
    · have hh : (Array.map (fun x => z.cells[x % z.cells.size]!) (Array.range (c.toNat * esz))) = (#[] : Array Value) := by rw [h0]; simp
      have hc0 : c.toNat = 0 := by rcases Nat.mul_eq_zero.1 h0 with h1 | h1; exact h1; omega
      rw [hh]
      simp [Instr.makeSlice, run_underlying hu, asInt, asIntOf, sizeOf, typeInfo, hinfo, hsize, hw1, hw2, c1, c2, c3, hnb, newRow, hc0]
      rw [show (Array.map (fun _ => (default : Value)) (Array.range 0)) = (#[] : Array Value) by simp]
    · have hcne : ¬ (c.toNat = 0) := fun h1 => h0 (by rw [h1, Nat.zero_mul])
      have hene : ¬ (esz = 0) := by omega
      simp [Instr.makeSlice, run_underlying hu, asInt, asIntOf, sizeOf, typeInfo, zeroValue, hinfo, hsize, hzero, hw1, hw2, c1, c2, c3, hnb, newRow, hcne, hene]
      try exact fun h1 => absurd h1 h0
  · simp only [NextRel, VR]
    exact ⟨hp, .inr ⟨_, c.toNat, 0, Sig.put_same _ _ _, by omega, by simp, fun _ => rfl, rfl⟩⟩
theorem does_copy {t ty : TypeId} {e esz bytes : Nat} {zero : List V} {s_ : Nat} {a_ : Bool} {z_ : V} {h : Hp} {x : V} {n m : Nat} {news : List V} {i : Id} {off len : Nat} {lim : Option Nat} {b b' : Blk} {l : List V} (hTt : T t = some ⟨.slice e esz bytes zero, s_, a_, z_⟩)
    (hb : h.get i = some b) (hrow : b.row = some (true, l)) (hx : SegOf h esz x n news) (hfit : off + len * esz ≤ l.length) (hm : m = min n len)
    (hb' : b'.row = some (true, l.take off ++ news.take (m * esz) ++ l.drop (off + m * esz))) :
    Does P (opCopy #[t, t] ty) [.slice i off esz len lim, x] h (.s (.int .i64 m)) (h.set i b') := by
  refine ⟨h.grows_set _ _, ?_⟩
  intro σ w xs hr hxs
  obtain ⟨sv, xv, rfl, hsv, hxv⟩ := VRs_two hxs
  obtain ⟨hu, hp, info, z, hinfo, hsize, hbytes, hzero, hzc, hzl, hzsz⟩ := slice_kind hT hTt
  simp only [VR] at hsv
  obtain ⟨ee, cap, o, hi, hz, hlc, hl, ho, rfl⟩ := hsv
  obtain ⟨_, ob, hob, hrel⟩ := hr.blk i ee b hi hb
  rw [BlkRel_row hrow] at hrel
  obtain ⟨cur, TT, fz, rfl, hs1, hs2, hfz, hc⟩ := hrel
  have hfz := hfz rfl
  subst hfz
  obtain ⟨ys, hyl, hyr, hy1, hy⟩ := hx.real hr hxv
  have hnl := hx.length
  have hmn : m * esz ≤ n * esz := Nat.mul_le_mul_right _ (by omega)
  have hml : m * esz ≤ len * esz := Nat.mul_le_mul_right _ (by omega)
  have hylm : (ys.take (m * esz)).length = m * esz := by simp; omega
  have hnlm : (news.take (m * esz)).length = m * esz := by simp; omega
  have hlen : (Builtin.lenOf xv).run P w = .ok n w ∧ (Builtin.firstCells info.size m xv).run P w = .ok (ys.take (m * esz)).toArray w := by
    rcases hy with ⟨rfl, rfl, rfl⟩ | ⟨ad, c, rfl, hnc, hcell⟩
    · exact ⟨by simp [Builtin.lenOf], by simp [Builtin.firstCells]⟩
    · refine ⟨by simp [Builtin.lenOf], run_firstCells_some (P := P) w info.size m ad n c _ (by rw [hsize]; exact hylm) ?_⟩
      intro j v hv
      rw [List.getElem?_take] at hv
      split at hv
      · exact cells_nil_of hyl hnc hcell j v hv
      · cases hv
  have hst : ∃ w', (storeCells (⟨ee.rid, o, none⟩ : Addr) (ys.take (m * esz))).run P w = .ok () w' ∧ w'.heap.size = w.heap.size ∧ w'.os = w.os ∧ w'.tape = w.tape ∧ w'.output = w.output ∧ (∀ r, r ≠ ee.rid → w'.heap[r]? = w.heap[r]?) ∧
      w'.heap[ee.rid]? = some (.cells (cur.toList.take (ee.base + off) ++ ys.take (m * esz) ++ cur.toList.drop (ee.base + off + (ys.take (m * esz)).length)).toArray TT (0, 0)) := by
    by_cases h0 : cap = 0
    · have hm0 : m = 0 := by omega
      subst hm0
      rw [Nat.zero_mul]
      exact ⟨w, by simp [storeCells], rfl, rfl, rfl, rfl, fun _ _ => rfl, by simpa using hob⟩
    · have hrun := run_storeCells_at P ee.rid (ee.base + off) TT (ys.take (m * esz)) 0 cur w hob (by omega) (fun v hv => hy1 v (List.mem_of_mem_take hv))
      simp only [Nat.add_zero] at hrun
      refine ⟨w.setRow ee.rid (cur.toList.take (ee.base + off) ++ ys.take (m * esz) ++ cur.toList.drop (ee.base + off + (ys.take (m * esz)).length)).toArray, ?_, by simp, rfl, rfl, rfl, fun r hr' => setRow_other _ _ _ _ hr', setRow_heap _ _ _ _ _ _ hob⟩
      rw [ho h0]; exact hrun
  obtain ⟨w', hst, g1, g2, g3, g4, g5, g6⟩ := hst
  refine ⟨σ, _, w', run_valN (x := .int .i64 m) ?_, rfl, ?_, ?_⟩
  · have hmm : Nat.min n len = m := hm.symm
    simp [Builtin.copy_, run_underlying hu, hlen.1, hmm, sizeOf, typeInfo, hinfo, hlen.2, hst, goInt]
  · refine hr.upd hi hb (Blk.row_rw hrow) (fun _ => Blk.row_alive hrow) g1 g5 g6 ((BlkRel_row hb').2 ⟨_, TT, (0, 0), rfl, ?_, ?_, fun _ => rfl, ?_⟩)
    · simp; omega
    · simp; omega
    · intro j v hv
      exact splice_row (at_ := off) hs1 hc (VRs.take _ hyr) (fun v hv => hy1 v (List.mem_of_mem_take hv)) rfl (by omega) j v (by rw [hnlm]; exact hv) (by omega)
  · exact Ext.upd hi hb (Blk.row_rw hrow) (fun _ => Blk.row_rw hb') g1 g2 g3 g4 g5
theorem does_clear {t ty : TypeId} {e esz bytes : Nat} {zero : List V} {s_ : Nat} {a_ : Bool} {z_ : V} {h : Hp} {i : Id} {off len : Nat} {lim : Option Nat} {b b' : Blk} {l : List V} (hTt : T t = some ⟨.slice e esz bytes zero, s_, a_, z_⟩)
    (hb : h.get i = some b) (hrow : b.row = some (true, l)) (hfit : off + len * esz ≤ l.length)
    (hb' : b'.row = some (true, l.take off ++ zeroAt zero esz (len * esz) ++ l.drop (off + len * esz))) :
    Does P (opClear #[t] ty) [.slice i off esz len lim] h (.tuple []) (h.set i b') := by
  refine ⟨h.grows_set _ _, ?_⟩
  intro σ w xs hr hxs
  obtain ⟨sv, rfl, hsv⟩ := VRs_one hxs
  obtain ⟨hu, hp, info, z, hinfo, hsize, hbytes, hzero, hzc, hzl, hzsz⟩ := slice_kind hT hTt
  simp only [VR] at hsv
  obtain ⟨ee, cap, o, hi, hz, hlc, hl, ho, rfl⟩ := hsv
  obtain ⟨_, ob, hob, hrel⟩ := hr.blk i ee b hi hb
  rw [BlkRel_row hrow] at hrel
  obtain ⟨cur, TT, fz, rfl, hs1, hs2, hfz, hc⟩ := hrel
  have hfz := hfz rfl
  subst hfz
  obtain ⟨hz1, hz2⟩ := zeroAt_ok (σ := σ) (n := len * esz) hzc hzl hp
  have hzz : Builtin.zeroCells z.cells len = (Array.range (len * esz)).map (z.cells[· % z.cells.size]!) := by simp [Builtin.zeroCells, hzsz]
  have hzl2 : (((Array.range (len * esz)).map (z.cells[· % z.cells.size]!)).toList).length = len * esz := by simp
  by_cases h0 : len = 0
  · subst h0
    refine ⟨σ, _, w, run_valN (x := .tuple #[]) ?_, by simp only [NextRel, VR]; exact ⟨_, rfl, by simp [VRs]⟩, ?_, ?_⟩
    · simp [Builtin.clear_, run_underlying hu]
    · refine hr.upd (o' := .cells cur TT (0, 0)) hi hb (Blk.row_rw hrow) (fun _ => Blk.row_alive hrow) rfl (fun _ _ => rfl) hob ((BlkRel_row hb').2 ⟨cur, TT, (0, 0), rfl, hs1, ?_, fun _ => rfl, ?_⟩)
      · simp [zeroAt]; omega
      · intro j v hv
        refine hc j v ?_
        simpa [zeroAt] using hv
    · exact Ext.upd hi hb (Blk.row_rw hrow) (fun _ => Blk.row_rw hb') rfl rfl rfl rfl (fun _ _ => rfl)
  · have hc0 : cap ≠ 0 := by omega
    have hrun := run_storeCells_at P ee.rid (ee.base + off) TT ((Array.range (len * esz)).map (z.cells[· % z.cells.size]!)).toList 0 cur w hob (by omega) hz2
    simp only [Nat.add_zero] at hrun
    refine ⟨σ, _, w.setRow ee.rid (cur.toList.take (ee.base + off) ++ ((Array.range (len * esz)).map (z.cells[· % z.cells.size]!)).toList ++ cur.toList.drop (ee.base + off + (((Array.range (len * esz)).map (z.cells[· % z.cells.size]!)).toList).length)).toArray,
      run_valN (x := .tuple #[]) ?_, by simp only [NextRel, VR]; exact ⟨_, rfl, by simp [VRs]⟩, ?_, ?_⟩
    · rw [← ho hc0] at hrun ⊢
      rw [← hzz] at hrun ⊢
      obtain ⟨len', rfl⟩ : ∃ k, len = k + 1 := ⟨len - 1, by omega⟩
      have : (Builtin.clear_ #[t] ty #[.slice (some ⟨ee.rid, o, none⟩) (len' + 1) cap]).run P w = ((storeCells ⟨ee.rid, o, none⟩ (Builtin.zeroCells z.cells (len' + 1)).toList).run P w).andThen fun _ w' => .ok (.tuple #[]) w' := by
        simp [Builtin.clear_, run_underlying hu, zeroValue, typeInfo, hinfo, hzero]
      show (Builtin.clear_ #[t] ty #[.slice (some ⟨ee.rid, o, none⟩) (len' + 1) cap]).run P w = _
      rw [this, hrun]; rfl
    · refine hr.upd hi hb (Blk.row_rw hrow) (fun _ => Blk.row_alive hrow) (by simp) (fun r hne => setRow_other _ _ _ _ hne) (setRow_heap _ _ _ _ _ _ hob) ((BlkRel_row hb').2 ⟨_, TT, (0, 0), rfl, ?_, ?_, fun _ => rfl, ?_⟩)
      · simp; omega
      · simp [zeroAt]; omega
      · intro j v hv
        exact splice_row (at_ := off) hs1 hc hz1 hz2 rfl (by omega) j v (by simpa [zeroAt] using hv) (by omega)
    · exact Ext.upd hi hb (Blk.row_rw hrow) (fun _ => Blk.row_rw hb') (by simp) rfl rfl rfl (fun r hne => setRow_other _ _ _ _ hne)
theorem does_sliceArr {t : TypeId} {n esz s_ : Nat} {ea a_ : Bool} {z_ : V} {h : Hp} {i : Id} {off : Nat} {b : Blk} {rw : Bool} {l : List V} (hTt : T t = some ⟨.array n esz ea, s_, a_, z_⟩) (he : 0 < esz)
    (hb : h.get i = some b) (hrow : b.row = some (rw, l)) (hfit : off + n * esz ≤ l.length) :
    Does P (opSliceArr t) [.ptr i off] h (.slice i off esz n (some n)) h := by
  refine ⟨h.grows_refl, ?_⟩
  intro σ w xs hr hxs
  obtain ⟨xv, rfl, hxv⟩ := VRs_one hxs
  obtain ⟨d, hu, _, hk⟩ := kind_of hT hTt
  simp only [KindOk] at hk
  obtain ⟨e, rfl, hs, _⟩ := hk
  have hsz := size_of hs w
  simp only [VR] at hxv
  obtain ⟨ee, hi, rfl⟩ := hxv
  obtain ⟨_, ob, hob, hrel⟩ := hr.blk i ee b hi hb
  rw [BlkRel_row hrow] at hrel
  obtain ⟨cur, TT, fz, rfl, hs1, hs2, hfz, hc⟩ := hrel
  refine ⟨σ, _, w, run_valN (x := .slice (some ⟨ee.rid, ee.base + off, none⟩) n n) ?_, ?_, hr, Ext.refl _ _ _⟩
  · by_cases h0 : n = 0
    · subst h0
      simp [Instr.sliceAt, run_underlying hu, Instr.sureAddr, Instr.sliceBounds, hsz]
    · simp [Instr.sliceAt, run_underlying hu, Instr.sureAddr, Instr.sliceBounds, hsz, h0]
      simp [Addr.add]
  · simp only [NextRel, VR]
    exact ⟨ee, n, _, hi, he, Nat.le_refl _, ⟨rfl, by omega⟩, fun _ => rfl, rfl⟩
end
end Go.Vm

namespace Go.Vm
mutual
def V.ren (ρ : Id → Id) : V → V
  | .undef => .undef
  | .s x => .s x
  | .lit v => .lit v
  | .nilptr => .nilptr
  | .ptr i off => .ptr (ρ i) off
  | .nilslice => .nilslice
  | .slice i off esz len lim => .slice (ρ i) off esz len lim
  | .gl i esz len => .gl (ρ i) esz len
  | .nilmap => .nilmap
  | .map i => .map (ρ i)
  | .func fn f c => .func fn (V.rens ρ f) (V.rens ρ c)
  | .yld i => .yld (ρ i)
  | .nilfunc => .nilfunc
  | .agg cs => .agg (V.rens ρ cs)
  | .tuple cs => .tuple (V.rens ρ cs)
  | .fs a b c => .fs a b c
  | .fp c => .fp c
  | .fm a b => .fm a b
def V.rens (ρ : Id → Id) : List V → List V
  | [] => []
  | v :: l => V.ren ρ v :: V.rens ρ l
end

theorem V.rens_eq (ρ : Id → Id) : ∀ l : List V, V.rens ρ l = l.map (V.ren ρ)
  | [] => rfl
  | v :: l => by simp [V.rens, V.rens_eq ρ l]
def Sig.ren (σ : Sig) (ρ : Id → Id) : Sig := ⟨fun i => σ (ρ i), σ.fz, fun i => σ.nm (ρ i), σ.lo⟩
mutual
theorem VR_ren (σ : Sig) (ρ : Id → Id) : ∀ (v : V) (x : Value), VR σ (v.ren ρ) x ↔ VR (σ.ren ρ) v x
  | .undef, _ => by simp only [V.ren, VR]
  | .s _, _ => by simp only [V.ren, VR]
  | .lit _, _ => by simp only [V.ren, VR]
  | .nilptr, _ => by simp only [V.ren, VR]
  | .ptr i off, _ => by simp only [V.ren, VR, Sig.ren]
  | .nilslice, _ => by simp only [V.ren, VR]
  | .slice i off esz len lim, _ => by simp only [V.ren, VR, Sig.ren]
  | .gl i esz len, _ => by simp only [V.ren, VR, Sig.ren]
  | .nilmap, _ => by simp only [V.ren, VR]
  | .map i, _ => by simp only [V.ren, VR, Sig.ren]
  | .func fn f c, _ => by simp only [V.ren, VR, VRs_ren σ ρ]
  | .yld i, _ => by simp only [V.ren, VR, Sig.ren]
  | .nilfunc, _ => by simp only [V.ren, VR]
  | .agg cs, _ => by simp only [V.ren, VR, VRs_ren σ ρ]
  | .tuple cs, _ => by simp only [V.ren, VR, VRs_ren σ ρ]
  | .fs a b c, _ => by simp only [V.ren, VR, Sig.ren]
  | .fp c, _ => by simp only [V.ren, VR, Sig.ren]
  | .fm a b, _ => by simp only [V.ren, VR, Sig.ren]
theorem VRs_ren (σ : Sig) (ρ : Id → Id) : ∀ (v : List V) (x : List Value), VRs σ (V.rens ρ v) x ↔ VRs (σ.ren ρ) v x
  | [], _ => by simp only [V.rens, VRs]
  | v :: vs, l => by simp only [V.rens, VRs, VR_ren σ ρ v, VRs_ren σ ρ vs]
end

def PT.map {α β : Type} (f : α → β) : PT α → PT β
  | .leaf => .leaf
  | .node l v r => .node (PT.map f l) (f v) (PT.map f r)
theorem PT.get_map {α β : Type} (f : α → β) (d : α) : ∀ (t : PT α) (n : Nat), PT.get (f d) (PT.map f t) n = f (PT.get d t n)
  | .leaf, n => by simp [PT.map, PT.get]
  | .node l v r, 0 => by simp [PT.map, PT.get]
  | .node l v r, n + 1 => by
    simp only [PT.map, PT.get]
    split
    · exact PT.get_map f d l _
    · exact PT.get_map f d r _
def LoopV.ren (ρ : Id → Id) (r : LoopV) : LoopV := { r with fr := PT.map (V.ren ρ) r.fr, mark := ρ r.mark }
def Blk.ren (ρ : Id → Id) : Blk → Blk
  | .flat rw l => .flat rw l
  | .cells rw l => .cells rw (l.map (V.ren ρ))
  | .map es => .map (es.map fun p => (p.1.ren ρ, p.2.ren ρ))
  | .loop r => .loop (r.ren ρ)
  | .mark => .mark
  | .dead => .dead
@[simp] theorem Blk.ren_rw (ρ : Id → Id) (b : Blk) : (b.ren ρ).rw = b.rw := by cases b <;> rfl
@[simp] theorem Blk.ren_alive (ρ : Id → Id) (b : Blk) : (b.ren ρ).alive = b.alive := by cases b <;> rfl
theorem FrRel_ren (σ : Sig) (ρ : Id → Id) (fr : Fr) (t : Array Value) : FrRel σ (PT.map (V.ren ρ) fr) t ↔ FrRel (σ.ren ρ) fr t := by
  have : ∀ n, Fr.at (PT.map (V.ren ρ) fr) n = V.ren ρ (Fr.at fr n) := fun n => PT.get_map (V.ren ρ) .undef fr n
  simp only [FrRel, this, VR_ren]
theorem EsRel_ren (σ : Sig) (ρ : Id → Id) : ∀ (es : List (V × V)) (ms : List MapEntry), EsRel σ (es.map fun p => (p.1.ren ρ, p.2.ren ρ)) ms ↔ EsRel (σ.ren ρ) es ms
  | [], ms => by simp [EsRel]
  | (k, v) :: es, ms => by simp only [List.map_cons, EsRel, VR_ren, EsRel_ren σ ρ es]
theorem BlkRel_ren (σ : Sig) (ρ : Id → Id) (e : Ent) (b : Blk) (o : Obj) : BlkRel σ e (b.ren ρ) o ↔ BlkRel (σ.ren ρ) e b o := by
  cases b with
  | flat rw l => simp only [Blk.ren, BlkRel, RowRel, Option.map_eq_some_iff]; constructor <;> (rintro ⟨c, t, f, a1, a2, a3, a4, a5⟩; refine ⟨c, t, f, a1, a2, a3, a4, ?_⟩; rintro i v ⟨s, hs, rfl⟩; obtain ⟨x, b1, b2, b3⟩ := a5 i _ ⟨s, hs, rfl⟩; exact ⟨x, b1, DR.v _ _ (by simpa only [Sig.ren] using DR.of_v _ _ b2), b3⟩)
  | cells rw l =>
    simp only [Blk.ren, BlkRel, RowRel, List.length_map, List.getElem?_map, Option.map_eq_some_iff]
    constructor
    · rintro ⟨c, t, f, a1, a2, a3, a4, a5⟩
      refine ⟨c, t, f, a1, a2, a3, a4, fun i v hv => ?_⟩
      obtain ⟨x, b1, b2, b3⟩ := a5 i _ ⟨v, hv, rfl⟩
      exact ⟨x, b1, (VR_ren σ ρ v x).1 b2, b3⟩
    · rintro ⟨c, t, f, a1, a2, a3, a4, a5⟩
      refine ⟨c, t, f, a1, a2, a3, a4, ?_⟩
      rintro i _ ⟨v, hv, rfl⟩
      obtain ⟨x, b1, b2, b3⟩ := a5 i v hv
      exact ⟨x, b1, (VR_ren σ ρ v x).2 b2, b3⟩
  | map es => simp only [Blk.ren, BlkRel, EsRel_ren]
  | loop r => simp only [Blk.ren, BlkRel, LoopV.ren, FrRel_ren, Sig.ren]
  | mark => simp only [Blk.ren, BlkRel]
  | dead => simp only [Blk.ren, BlkRel]
/-! ### From one state to a later one, of which some names must be kept -/

structure ExtK (K : Id → Prop) (σ : Sig) (g : Id → Option Blk) (w : World) (σ' : Sig) (g' : Id → Option Blk) (w' : World) : Prop where
  le : ∀ i e, K i → σ i = some e → σ' i = some e
  nm : ∀ i, K i → σ.nm i → σ'.nm i
  lo : σ'.lo = σ.lo
  fz : ∀ r o, σ.fz r = some o → σ'.fz r = some o
  fzn : ∀ r o, σ'.fz r = some o → σ.fz r = some o ∨ w.heap.size ≤ r ∨ ∃ j ej bj, σ j = some ej ∧ g j = some bj ∧ bj.rw = true ∧ ej.rid = r
  size : w.heap.size ≤ w'.heap.size
  os : w'.os = w.os
  tape : w'.tape = w.tape
  output : w'.output = w.output
  frame : ∀ r, r < w.heap.size → (∀ i e b, σ i = some e → g i = some b → b.rw = true → e.rid ≠ r) → w'.heap[r]? = w.heap[r]?
  wr : ∀ i e b, σ' i = some e → g' i = some b → b.rw = true → w.heap.size ≤ e.rid ∨ ∃ j ej bj, σ j = some ej ∧ g j = some bj ∧ bj.rw = true ∧ ej.rid = e.rid
  ro : ∀ i e b, σ' i = some e → g' i = some b → b.rw = false → b.alive = true → ∃ j bj, σ j = some e ∧ g j = some bj ∧ bj.alive = true ∧ bj.rw = false
  old : ∀ i, K i → g i ≠ none → g' i ≠ none ∧ (σ i = none → σ' i = none)
  oldn : ∀ i, K i → g i ≠ none → σ'.nm i → σ.nm i
theorem ExtK.refl (K : Id → Prop) (σ : Sig) (g : Id → Option Blk) (w : World) : ExtK K σ g w σ g w :=
  ⟨fun _ _ _ h => h, fun _ _ h => h, rfl, fun _ _ h => h, fun _ _ h => .inl h, Nat.le_refl _, rfl, rfl, rfl, fun _ _ _ => rfl, (fun i e b h1 h2 h3 => .inr ⟨i, e, b, h1, h2, h3, rfl⟩), (fun i e b h1 h2 h3 h4 => ⟨i, b, h1, h2, h4, h3⟩), (fun i _ h1 => ⟨h1, id⟩), fun _ _ _ h => h⟩
theorem Ext.toK {K : Id → Prop} {σ σ' : Sig} {g g' : Id → Option Blk} {w w' : World} (x : Ext σ g w σ' g' w') : ExtK K σ g w σ' g' w' where
  le := fun i e _ hi => x.le i e hi
  nm := fun i _ h => x.le.nm i h
  lo := x.lo
  fz := x.le.fz
  fzn := fun r o h => .inl (x.fzn r o h)
  size := x.size
  os := x.os
  tape := x.tape
  output := x.output
  frame := x.frame
  wr := fun i e b hi hb hw => by
    cases hs : σ i with
    | none =>
      rcases x.new i e hi hs with h1 | ⟨j, ej, bj, h1, h2, h3, h4⟩
      · exact .inl h1
      · exact .inr ⟨j, ej, bj, h1, h2, h3, h4⟩
    | some e0 =>
      have := x.le i e0 hs
      rw [hi] at this; cases this
      obtain ⟨b0, h1, h2⟩ := x.down i e b hs hb hw
      exact .inr ⟨i, e, b0, hs, h1, h2, rfl⟩
  ro := fun i e b hi hb hw hal => by
    obtain ⟨h1, b0, h2, h3, h4⟩ := x.ro i e b hi hb hw hal
    exact ⟨i, b0, h1, h2, h3, h4⟩
  old := fun i _ hi => x.old i hi
  oldn := fun i _ hi h => x.oldn i hi h
theorem ExtK.trans {K : Id → Prop} {σ σ1 σ2 : Sig} {g g1 g2 : Id → Option Blk} {w w1 w2 : World} (a : ExtK K σ g w σ1 g1 w1) (b : ExtK K σ1 g1 w1 σ2 g2 w2) : ExtK K σ g w σ2 g2 w2 where
  le := fun i e hk hi => b.le i e hk (a.le i e hk hi)
  nm := fun i k h => b.nm i k (a.nm i k h)
  lo := b.lo.trans a.lo
  fz := fun r o h => b.fz r o (a.fz r o h)
  fzn := fun r o h => by
    rcases b.fzn r o h with h1 | h1 | ⟨j, ej, bj, h1, h2, h3, h4⟩
    · exact a.fzn r o h1
    · exact .inr (.inl (Nat.le_trans a.size h1))
    · rcases a.wr j ej bj h1 h2 h3 with h5 | ⟨k, ek, bk, h5, h6, h7, h8⟩
      · exact .inr (.inl (h4 ▸ h5))
      · exact .inr (.inr ⟨k, ek, bk, h5, h6, h7, h8.trans h4⟩)
  size := Nat.le_trans a.size b.size
  os := b.os.trans a.os
  tape := b.tape.trans a.tape
  output := b.output.trans a.output
  frame := fun r hr hn => by
    rw [b.frame r (Nat.lt_of_lt_of_le hr a.size) ?_, a.frame r hr hn]
    intro i e bl hi hg hw hee
    rcases a.wr i e bl hi hg hw with h1 | ⟨j, ej, bj, h1, h2, h3, h4⟩
    · omega
    · exact hn j ej bj h1 h2 h3 (h4.trans hee)
  wr := fun i e bl hi hg hw => by
    rcases b.wr i e bl hi hg hw with h1 | ⟨j, ej, bj, h1, h2, h3, h4⟩
    · exact .inl (Nat.le_trans a.size h1)
    · rcases a.wr j ej bj h1 h2 h3 with h5 | ⟨k, ek, bk, h5, h6, h7, h8⟩
      · exact .inl (h4 ▸ h5)
      · exact .inr ⟨k, ek, bk, h5, h6, h7, h8.trans h4⟩
  ro := fun i e bl hi hg hw hal => by
    obtain ⟨j, bj, h1, h2, h3, h4⟩ := b.ro i e bl hi hg hw hal
    exact a.ro j e bj h1 h2 h4 h3
  old := fun i hk hi => by
    obtain ⟨h1, h2⟩ := a.old i hk hi
    obtain ⟨h3, h4⟩ := b.old i hk h1
    exact ⟨h3, fun h => h4 (h2 h)⟩
  oldn := fun i hk hi h => a.oldn i hk hi (b.oldn i hk (a.old i hk hi).1 h)
def allIds : Id → Prop := fun _ => True
theorem ExtK.leAll {σ σ' : Sig} {g g' : Id → Option Blk} {w w' : World} (x : ExtK allIds σ g w σ' g' w') : σ.le σ' := ⟨fun i e hi => x.le i e trivial hi, x.fz, fun i h => x.nm i trivial h⟩
theorem ExtK.ghost {K : Id → Prop} {σ σ' : Sig} {g g' : Id → Option Blk} {w w' : World} (x : ExtK K σ g w σ' g' w') {r : Nat} (h : Ghost σ g w r) : Ghost σ' g' w' r := by
  have hlt : r < w.heap.size := (Array.getElem?_eq_some_iff.1 h.here).1
  have hal : ∀ b : Blk, b.rw = true → b.alive = true := fun b hb => by cases b <;> first | rfl | simp [Blk.rw] at hb
  refine ⟨by rw [x.lo]; exact h.lo, ?_, ?_, ?_⟩
  · rw [x.frame r hlt fun i e b h1 h2 h3 => h.un i e b h1 h2 (hal b h3)]; exact h.here
  · cases ho : σ'.fz r with
    | none => rfl
    | some o =>
      exfalso
      rcases x.fzn r o ho with h1 | h1 | ⟨j, ej, bj, h1, h2, h3, h4⟩
      · rw [h.fz] at h1; cases h1
      · omega
      · exact h.un j ej bj h1 h2 (hal bj h3) h4
  · intro i e b hi hb hab
    cases hw : b.rw with
    | true =>
      rcases x.wr i e b hi hb hw with h1 | ⟨j, ej, bj, h1, h2, h3, h4⟩
      · omega
      · rw [← h4]; exact h.un j ej bj h1 h2 (hal bj h3)
    | false =>
      obtain ⟨j, bj, h1, h2, h3, _⟩ := x.ro i e b hi hb hw hab
      exact h.un j e bj h1 h2 h3
theorem MarksRel.ext {σ σ' : Sig} {g g' : Id → Option Blk} {w w' : World} {is : List Id} {ds : List Deferred} (m : MarksRel σ g w is ds) (x : ExtK allIds σ g w σ' g' w') : MarksRel σ' g' w' is ds :=
  ⟨m.nodup, by rw [x.lo]; exact Nat.le_trans m.lo x.size, m.list.step (fun i e h => x.le i e trivial h) x.lo fun _ h => x.ghost h⟩
theorem MarkL.lt {σ : Sig} {g : Id → Option Blk} {w : World} (hr : Rel σ g w) : ∀ {ds : List Deferred} {is : List Id}, MarkL σ g w is ds → ∀ d ∈ ds, ∃ r, d = { target := .collected r, args := #[] } ∧ r < w.heap.size
  | [], _, _, d, hd => by cases hd
  | d0 :: ds, is, h, d, hd => by
    simp only [MarkL] at h
    rcases h with ⟨i, is', e, h1, h2, h3, h4, h5⟩ | ⟨r, h1, h2, h3⟩
    · rcases List.mem_cons.1 hd with rfl | hd
      · refine ⟨_, h2, ?_⟩
        cases hg : g i with
        | none => rw [hr.dom i hg] at h3; cases h3
        | some b => exact (hr.blk i e b h3 hg).1
      · exact h5.lt hr d hd
    · rcases List.mem_cons.1 hd with rfl | hd
      · exact ⟨r, h1, (Array.getElem?_eq_some_iff.1 h2.here).1⟩
      · exact h3.lt hr d hd
theorem MarksRel.nil {σ : Sig} {g : Id → Option Blk} {w : World} (h : σ.lo ≤ w.heap.size) : MarksRel σ g w [] [] := ⟨List.nodup_nil, h, rfl⟩
def Sig.at (σ : Sig) (n : Nat) : Sig := ⟨σ.ent, σ.fz, σ.nm, n⟩
theorem Sig.at_le (σ : Sig) (n : Nat) : σ.le (σ.at n) := ⟨fun _ _ h => h, fun _ _ h => h, fun _ h => h⟩
theorem Rel.at {σ : Sig} {g : Id → Option Blk} {w : World} (hr : Rel σ g w) (n : Nat) : Rel (σ.at n) g w :=
  ⟨fun i e b hi hb => by obtain ⟨h1, o, h2, h3⟩ := hr.blk i e b hi hb; exact ⟨h1, o, h2, h3.mono (σ.at_le n)⟩, hr.apart, hr.dom, hr.nmd, hr.fz⟩
theorem ExtK.at {K : Id → Prop} {σ σ' : Sig} {g g' : Id → Option Blk} {w w' : World} {n : Nat} (x : ExtK K (σ.at n) g w σ' g' w') : ExtK K σ g w (σ'.at σ.lo) g' w' :=
  ⟨x.le, x.nm, rfl, x.fz, x.fzn, x.size, x.os, x.tape, x.output, x.frame, x.wr, x.ro, x.old, x.oldn⟩
theorem ExtK.weak {K K' : Id → Prop} {σ σ' : Sig} {g g' : Id → Option Blk} {w w' : World} (x : ExtK K σ g w σ' g' w') (hk : ∀ i, K' i → K i) : ExtK K' σ g w σ' g' w' :=
  ⟨fun i e hk' hi => x.le i e (hk i hk') hi, fun i hk' h => x.nm i (hk i hk') h, x.lo, x.fz, x.fzn, x.size, x.os, x.tape, x.output, x.frame, x.wr, x.ro, fun i hk' hi => x.old i (hk i hk') hi, fun i hk' hi h => x.oldn i (hk i hk') hi h⟩
def Fl (ro : Option Nat) : Fence := { Fence.wide with round := ro }
def VC (P : Program) (f : FuncId) (args : List V) (h : Hp) (r : V) (h' : Hp) : Prop :=
  (∀ as0 w, (callFunc f as0).run P w = .ok (.enter f as0) w) ∧ h.grows h' ∧ ∀ σ w xs, Rel σ h w → VRs σ args xs → CallsIn Fence.wide 0 P f xs.toArray w
    (fun e w' => ∃ σ' x, e = .returned x ∧ VR σ' r x ∧ Rel σ' h' w' ∧ ExtK allIds σ h w σ' h' w')
/-! ### Code -/

inductive X where
  | normal
  | exit (id : Nat)
  | ret
def X.real : X → Exit
  | .normal => .normal
  | .exit id => .exit id
  | .ret => .ret
def VPost (K : Id → Prop) (σ : Sig) (h : Hp) (w : World) (Q : X → St → Prop) : Exit → Act → World → Prop :=
  fun e a' w' => ∃ x σ' st', e = x.real ∧ Q x st' ∧ StRel σ' st' a' w' ∧ ExtK K σ h w σ' st'.h w'
def VWp (P : Program) (ro : Option Nat) (K : Id → Prop) (c : Code) (st : St) (Q : X → St → Prop) : Prop :=
  ∀ σ a w, StRel σ st a w → c.wpIn (Fl ro) 0 P (VPost K σ st.h w Q) a w
section
variable {P : Program} {ro : Option Nat} {K : Id → Prop} {st : St} {Q : X → St → Prop}

theorem VWp.mono {c : Code} {Q' : X → St → Prop} (h : VWp P ro K c st Q) (hq : ∀ x st', Q x st' → Q' x st') : VWp P ro K c st Q' :=
  fun σ a w hs => wpIn_mono (h σ a w hs) fun _ _ _ ⟨x, σ', st', h1, h2, h3, h4⟩ => ⟨x, σ', st', h1, hq _ _ h2, h3, h4⟩
theorem VWp.skip (h : Q .normal st) : VWp P ro K .skip st Q := fun σ _ w hs => wpIn_skip ⟨.normal, σ, st, rfl, h, hs, ExtK.refl _ _ _ _⟩
theorem VWp.exit {id : Nat} (h : Q (.exit id) st) : VWp P ro K (.exit id) st Q := fun σ _ w hs => wpIn_exit ⟨.exit id, σ, st, rfl, h, hs, ExtK.refl _ _ _ _⟩
theorem VWp.ret (h : Q .ret st) : VWp P ro K .ret st Q := fun σ _ w hs => wpIn_ret ⟨.ret, σ, st, rfl, h, hs, ExtK.refl _ _ _ _⟩
def X.then (next : St → Prop) (Q : X → St → Prop) : X → St → Prop
  | .normal, st => next st
  | x, st => Q x st
theorem VWp.seq {a b : Code} (h : VWp P ro K a st (X.then (fun st' => VWp P ro K b st' Q) Q)) : VWp P ro K (.seq a b) st Q := by
  intro σ ac w hs
  refine wpIn_seq (wpIn_mono (h σ ac w hs) ?_)
  rintro e a' w' ⟨x, σ', st', rfl, hq, hs', hx⟩
  cases x with
  | normal => exact wpIn_mono (hq σ' a' w' hs') fun e a2 w2 ⟨x2, σ2, st2, h1, h2, h3, h4⟩ => ⟨x2, σ2, st2, h1, h2, h3, hx.trans h4⟩
  | exit id => exact ⟨.exit id, σ', st', rfl, hq, hs', hx⟩
  | ret => exact ⟨.ret, σ', st', rfl, hq, hs', hx⟩
theorem VWp.cond {c : Operand} {a b : Code} {t : Bool} (hc : ev st.fr c = .s (.bool t)) (h1 : t = true → VWp P ro K a st Q) (h2 : t = false → VWp P ro K b st Q) : VWp P ro K (.cond c a b) st Q := by
  intro σ ac w hs
  have hv := ev_ok hs.fr c
  rw [hc] at hv
  simp only [VR, S.val] at hv
  exact wpIn_cond_split hv (fun ht => h1 ht σ ac w hs) (fun ht => h2 ht σ ac w hs)
def X.inBlock (id : Nat) (Q : X → St → Prop) : X → St → Prop
  | .exit i, st => if i = id then Q .normal st else Q (.exit i) st
  | x, st => Q x st
theorem VWp.block {id : Nat} {c : Code} (h : VWp P ro K c st (X.inBlock id Q)) : VWp P ro K (.block id c) st Q := by
  intro σ ac w hs
  refine wpIn_block (wpIn_mono (h σ ac w hs) ?_)
  rintro e a' w' ⟨x, σ', st', rfl, hq, hs', hx⟩
  cases x with
  | normal => exact ⟨.normal, σ', st', rfl, hq, hs', hx⟩
  | exit i =>
    simp only [X.real, Exit.inBlock]
    simp only [X.inBlock] at hq
    split
    · rename_i e1; rw [if_pos e1] at hq; exact ⟨.normal, σ', st', rfl, hq, hs', hx⟩
    · rename_i e1; rw [if_neg e1] at hq; exact ⟨.exit i, σ', st', rfl, hq, hs', hx⟩
  | ret => exact ⟨.ret, σ', st', rfl, hq, hs', hx⟩
theorem exists_least {p : Nat → Prop} (h : ∃ n, p n) : ∃ m, p m ∧ ∀ k, p k → m ≤ k := by
  obtain ⟨n, hn⟩ := h
  induction n using Nat.strongRecOn with
  | _ n ih =>
    by_cases hx : ∃ k, k < n ∧ p k
    · obtain ⟨k, hk, hp⟩ := hx; exact ih k hk hp
    · exact ⟨n, hn, fun k hk => Nat.le_of_not_lt fun hlt => hx ⟨k, hlt, hk⟩⟩
open Classical in
noncomputable def leastOf (p : Nat → Prop) : Nat := if h : ∃ n, p n then Classical.choose (exists_least h) else 0
theorem leastOf_spec {p : Nat → Prop} (h : ∃ n, p n) : p (leastOf p) := by
  unfold leastOf; rw [dif_pos h]; exact (Classical.choose_spec (exists_least h)).1
theorem leastOf_le {p : Nat → Prop} {n : Nat} (h : p n) : leastOf p ≤ n := by
  have h' : ∃ n, p n := ⟨n, h⟩
  unfold leastOf; rw [dif_pos h']; exact (Classical.choose_spec (exists_least h')).2 n h
theorem VWp.loop {c : Code} (I : St → Prop) (μ : St → Nat) (h0 : I st)
    (round : ∀ st', I st' → VWp P ro K c st' (X.then (fun st'' => I st'' ∧ μ st'' < μ st') Q)) : VWp P ro K (.loop c) st Q := by
  intro σ ac w hs
  let J : Nat → Act → World → Prop := fun m a' w' => ∃ σ' st', I st' ∧ μ st' = m ∧ StRel σ' st' a' w' ∧ ExtK K σ st.h w σ' st'.h w'
  refine wpIn_loop (fun a' w' => ∃ m, J m a' w') (fun a' w' => leastOf (fun m => J m a' w')) ⟨μ st, σ, st, h0, rfl, hs, ExtK.refl _ _ _ _⟩ ?_
  intro a' w' hJ
  obtain ⟨σ', st', hi, hm, hs', hx⟩ := leastOf_spec hJ
  refine wpIn_mono (round st' hi σ' a' w' hs') ?_
  rintro e a2 w2 ⟨x, σ2, st2, rfl, hq, hs2, hx2⟩
  cases x with
  | normal =>
    obtain ⟨hi2, hlt⟩ := hq
    have hj2 : J (μ st2) a2 w2 := ⟨σ2, st2, hi2, rfl, hs2, hx.trans hx2⟩
    exact ⟨⟨_, hj2⟩, Nat.lt_of_le_of_lt (leastOf_le hj2) (by omega)⟩
  | exit id => exact ⟨.exit id, σ2, st2, rfl, hq, hs2, hx.trans hx2⟩
  | ret => exact ⟨.ret, σ2, st2, rfl, hq, hs2, hx.trans hx2⟩
def Retell (K : Id → Prop) (st st' : St) : Prop := ∀ σ a w, StRel σ st a w → ∃ σ', StRel σ' st' a w ∧ ExtK K σ st.h w σ' st'.h w
theorem VWp.retell {c : Code} {st' : St} (hr : Retell K st st') (h : VWp P ro K c st' Q) : VWp P ro K c st Q := by
  intro σ ac w hs
  obtain ⟨σ', hs', hx⟩ := hr σ ac w hs
  exact wpIn_mono (h σ' ac w hs') fun e a2 w2 ⟨x2, σ2, st2, h1, h2, h3, h4⟩ => ⟨x2, σ2, st2, h1, h2, h3, hx.trans h4⟩
theorem VWp.retell_post {c : Code} {Q' : X → St → Prop} (h : VWp P ro K c st Q') (hq : ∀ x st', Q' x st' → ∃ st'', Retell K st' st'' ∧ Q x st'') : VWp P ro K c st Q := by
  intro σ ac w hs
  refine wpIn_mono (h σ ac w hs) ?_
  rintro e a2 w2 ⟨x2, σ2, st2, h1, h2, h3, h4⟩
  obtain ⟨st3, hr, hq3⟩ := hq _ _ h2
  obtain ⟨σ3, hs3, hx3⟩ := hr σ2 a2 w2 h3
  exact ⟨x2, σ3, st3, h1, hq3, hs3, h4.trans hx3⟩
end

/-! ### Operations in order -/

def OpDoes (P : Program) (ro : Option Nat) (o : Oper) (ρv : Operand → V) (h : Hp) (v : V) (h' : Hp) : Prop :=
  h.grows h' ∧ ∀ σ (a : Act) w (next : Act → World → Prop) (Q : Exit → Act → World → Prop), Rel σ h w → (∀ x, VR σ (ρv x) (a.eval x)) →
    (∀ σ' x w', VR σ' v x → Rel σ' h' w' → ExtK allIds σ h w σ' h' w' → next (a.put o.dst x) w') → o.wpIn (Fl ro) 0 P a w next Q
theorem semAt_fl {ro : Option Nat} {o : Oper} (hd : ∀ c, o.op ≠ .defer c) (ρ : Operand → Value) : o.semAt (Fl ro).round ρ = execOp ρ o := Oper.semAt_eq _ _ _ hd
theorem opDoes_run {P : Program} {ro : Option Nat} {o : Oper} {ρv : Operand → V} {h h' : Hp} {v : V} (hd : ∀ c, o.op ≠ .defer c) (hg : h.grows h')
    (hrun : ∀ σ w (ρ : Operand → Value), Rel σ h w → (∀ x, VR σ (ρv x) (ρ x)) → ∃ σ' nx w', (execOp ρ o).run P w = .ok nx w' ∧ NextRel σ' v nx ∧ Rel σ' h' w' ∧ Ext σ h w σ' h' w') : OpDoes P ro o ρv h v h' := by
  refine ⟨hg, ?_⟩
  intro σ a w next Q hr hρ hn
  obtain ⟨σ', nx, w', hru, hnx, hr', hx⟩ := hrun σ w a.eval hr hρ
  refine ⟨fun _ _ => trivial, ?_⟩
  rw [semAt_fl hd, hru]
  cases nx with
  | value x => exact hn σ' x w' hnx hr' hx.toK
  | skip =>
    simp only [NextRel] at hnx
    subst hnx
    exact hn σ' _ w' (by simp [VR]) hr' hx.toK
  | _ => simp [NextRel] at hnx
end Go.Vm

namespace Go.Vm

inductive Sh where
  | bool
  | int
  | nil
  | cons (off n : Nat) (a : Bool) (s rest : Sh)
def shF (P : Program) (rec : TypeId → Option Sh) : List Field → Option Sh
  | [] => some .nil
  | g :: gs => match decide (g.name = "_") with
    | true => none
    | false => match rec g.type, (P.info? g.type).map (·.size), aggOf P g.type, shF P rec gs with
      | some s, some n, some a, some l => some (.cons g.offset n a s l)
      | _, _, _, _ => none
def eqSh (P : Program) : Nat → TypeId → Option Sh
  | 0, _ => none
  | d + 1, t => match P.underlying t with
    | some .bool => some .bool
    | some (.int _) => some .int
    | some (.struct gs) => match P.stoodInHeld t with
      | true => none
      | false => shF P (eqSh P d) gs.toList
    | _ => none
def shA (n : Nat) (a : Bool) (s : Sh) : Nat → Nat → Sh
  | 0, _ => .nil
  | k + 1, i => .cons (i * n) n a s (shA n a s k (i + 1))
def veqSh : Sh → V → V → Option Bool
  | .bool, x, y => match x, y with
    | .s (.bool a), .s (.bool b) => some (a == b)
    | _, _ => none
  | .int, x, y => match x, y with
    | .s (.int k a), .s (.int k' b) => match kindEq k k' with
      | true => some (a == b)
      | false => none
    | _, _ => none
  | .nil, x, y => match x, y with
    | .agg _, .agg _ => some true
    | _, _ => none
  | .cons off n a s rest, x, y => match x, y with
    | .agg xs, .agg ys => match vpart n a xs off, vpart n a ys off with
      | some u, some v => match veqSh s u v, veqSh rest (.agg xs) (.agg ys) with
        | some b, some c => some (b && c)
        | _, _ => none
      | _, _ => none
    | _, _ => none
theorem forIn_fields {P : Program} {d : Nat} {σ : Sig} {rec : TypeId → Option Sh} {w : World} {cs cs' : List V} {xs ys : Array Value} (hx : VRs σ cs xs.toList) (hy : VRs σ cs' ys.toList)
    (hrec : ∀ t sh, rec t = some sh → ∀ (u v : V) (a b : Value) (r : Bool), VR σ u a → VR σ v b → veqSh sh u v = some r → (Op.equalIn d t a b).run P w = .ok r w) :
    ∀ (l : List Field) (sh : Sh) (r : Bool), shF P rec l = some sh → veqSh sh (.agg cs) (.agg cs') = some r →
      (forIn (m := Sem) l ((none : Option Bool), ()) fun f __s =>
            if f.name = "_" then pure (ForInStep.yield (none, ()))
            else do
              let __do_lift ← part f.type xs f.offset
              let __do_lift_1 ← part f.type ys f.offset
              let __do_lift ← Op.equalIn d f.type __do_lift __do_lift_1
              if __do_lift = false then pure (ForInStep.done (some false, ())) else pure (ForInStep.yield (none, ()))).run P w = .ok (if r then (none, ()) else (some false, ())) w
  | [], sh, r, hs, hv => by
    simp [shF] at hs; subst hs
    simp [veqSh] at hv; subst hv
    simp
  | g :: gs, sh, r, hs, hv => by
    simp only [shF] at hs
    split at hs
    · cases hs
    · rename_i hn
      have hn : ¬ g.name = "_" := by simpa using hn
      split at hs
      · rename_i s n a rest h1 h2 h3 h4
        simp at hs; subst hs
        simp only [veqSh] at hv
        split at hv
        · rename_i u v hu hv'
          split at hv
          · rename_i b c hb hc
            simp at hv; subst hv
            obtain ⟨x, hx1, hx2⟩ := vpart_ok (P := P) (w := w) h3 h2 hx hu
            obtain ⟨y, hy1, hy2⟩ := vpart_ok (P := P) (w := w) h3 h2 hy hv'
            have he := hrec _ _ h1 u v x y b hx2 hy2 hb
            have ih := forIn_fields hx hy hrec gs rest c h4 hc
            simp only [List.forIn_cons, if_neg hn, Sem.run_bind, hx1, hy1, he, Result.andThen_ok]
            cases b with
            | false => simp
            | true => simp only [Bool.true_eq_false, if_false, Sem.run_pure, Result.andThen_ok, Bool.true_and]; exact ih
          · cases hv
        · cases hv
      · cases hs
theorem forIn_elems {P : Program} {d n : Nat} {a : Bool} {e : TypeId} {s : Sh} {σ : Sig} {w : World} {cs cs' : List V} {xs ys : Array Value} (hx : VRs σ cs xs.toList) (hy : VRs σ cs' ys.toList)
    (hn : (P.info? e).map (·.size) = some n) (ha : aggOf P e = some a)
    (hrec : ∀ (u v : V) (a b : Value) (r : Bool), VR σ u a → VR σ v b → veqSh s u v = some r → (Op.equalIn d e a b).run P w = .ok r w) :
    ∀ (k i : Nat) (r : Bool), veqSh (shA n a s k i) (.agg cs) (.agg cs') = some r →
      (forIn (m := Sem) (List.range' i k) ((none : Option Bool), ()) fun i __s => do
              let __do_lift ← part e xs (i * n)
              let __do_lift_1 ← part e ys (i * n)
              let __do_lift ← Op.equalIn d e __do_lift __do_lift_1
              if __do_lift = false then pure (ForInStep.done (some false, ())) else pure (ForInStep.yield (none, ()))).run P w = .ok (if r then (none, ()) else (some false, ())) w
  | 0, i, r, hv => by
    simp [shA, veqSh] at hv; subst hv
    simp
  | k + 1, i, r, hv => by
    simp only [shA, veqSh] at hv
    split at hv
    · rename_i u v hu hv'
      split at hv
      · rename_i b c hb hc
        simp at hv; subst hv
        obtain ⟨x, hx1, hx2⟩ := vpart_ok (P := P) (w := w) ha hn hx hu
        obtain ⟨y, hy1, hy2⟩ := vpart_ok (P := P) (w := w) ha hn hy hv'
        have he := hrec u v x y b hx2 hy2 hb
        have ih := forIn_elems hx hy hn ha hrec k (i + 1) c hc
        rw [List.range'_succ]
        simp only [List.forIn_cons, Sem.run_bind, hx1, hy1, he, Result.andThen_ok]
        cases b with
        | false => simp
        | true => simp only [Bool.true_eq_false, if_false, Sem.run_pure, Result.andThen_ok, Bool.true_and]; exact ih
      · cases hv
    · cases hv
theorem shF_not {P : Program} {rec : TypeId → Option Sh} {l : List Field} {sh : Sh} (h : shF P rec l = some sh) : sh ≠ .bool ∧ sh ≠ .int := by
  cases l with
  | nil => simp [shF] at h; subst h; simp
  | cons g l =>
    simp only [shF] at h
    split at h
    · cases h
    · split at h
      · simp at h; subst h; simp
      · cases h
theorem veqSh_ok {P : Program} {σ : Sig} {w : World} : ∀ (d : Nat) (t : TypeId) (sh : Sh), eqSh P d t = some sh → ∀ (u v : V) (a b : Value) (r : Bool), VR σ u a → VR σ v b → veqSh sh u v = some r → ∀ m, (Op.equalIn (d + m) t a b).run P w = .ok r w
  | 0, t, sh, hs => by simp [eqSh] at hs
  | d + 1, t, sh, hs => by
    intro u v a b r hu hv hr m
    rw [show d + 1 + m = (d + m) + 1 by omega]
    simp only [eqSh] at hs
    split at hs
    · rename_i hud
      simp at hs; subst hs
      unfold veqSh at hr
      split at hr
      · simp at hr; subst hr
        simp only [VR] at hu hv; subst hu hv
        simp [Op.equalIn, run_underlying hud, S.val]
      · cases hr
    · rename_i k hud
      simp at hs; subst hs
      unfold veqSh at hr
      split at hr
      · rename_i k1 a1 k2 b1
        split at hr
        · rename_i hk
          have := kindEq_eq hk; subst this
          simp at hr; subst hr
          simp only [VR] at hu hv; subst hu hv
          simp [Op.equalIn, run_underlying hud, S.val]
        · cases hr
      · cases hr
    · rename_i gs hud
      split at hs
      · cases hs
      · rename_i hst
        have hagg : ∃ xs ys, u = .agg xs ∧ v = .agg ys := by
          cases sh with
          | bool =>
            exact absurd rfl (shF_not hs).1
          | int =>
            exact absurd rfl (shF_not hs).2
          | nil =>
            simp only [veqSh] at hr
            split at hr
            · exact ⟨_, _, rfl, rfl⟩
            · cases hr
          | cons off n a s rest =>
            simp only [veqSh] at hr
            split at hr
            · exact ⟨_, _, rfl, rfl⟩
            · cases hr
        obtain ⟨cs, cs', rfl, rfl⟩ := hagg
        simp only [VR] at hu hv
        obtain ⟨xs, rfl, hx⟩ := hu
        obtain ⟨ys, rfl, hy⟩ := hv
        have key := forIn_fields (d := d + m) (w := w) hx hy (fun t' sh' h' u' v' a' b' r' h1 h2 h3 => veqSh_ok d t' sh' h' u' v' a' b' r' h1 h2 h3 m) gs.toList sh r hs hr
        rw [Op.equalIn]
        simp only [Sem.run_bind, run_underlying hud, Result.andThen_ok, run_program, hst]
        rw [← Array.forIn_toList]
        generalize gs.toList = l at key ⊢
        simp
        rw [key]
        cases r <;> simp
    · cases hs
theorem eqSh_guard {P : Program} : ∀ (d : Nat) (t : TypeId) (sh : Sh), eqSh P d t = some sh → ∀ m, P.eqGuardType (d + m) t = false
  | 0, t, sh, hs => by simp [eqSh] at hs
  | d + 1, t, sh, hs => by
    intro m
    rw [show d + 1 + m = (d + m) + 1 by omega]
    simp only [eqSh] at hs
    have flds : ∀ (l : List Field) (sh : Sh), shF P (eqSh P d) l = some sh → (l.any fun f => f.name != "_" && P.eqGuardType (d + m) f.type) = false := by
      intro l
      induction l with
      | nil => intro sh _; rfl
      | cons g l ih =>
        intro sh hs
        simp only [shF] at hs
        split at hs
        · cases hs
        · split at hs
          · rename_i s n a rest h1 h2 h3 h4
            rw [List.any_cons, ih _ h4, eqSh_guard d _ _ h1 m]
            simp
          · cases hs
    split at hs
    · rename_i hu; simp [Program.eqGuardType, hu]
    · rename_i k hu; simp [Program.eqGuardType, hu]
    · rename_i gs hu
      split at hs
      · cases hs
      · simp only [Program.eqGuardType, hu]
        rw [← Array.any_toList]
        exact flds _ _ hs
    · cases hs
def eqShA (P : Program) : Nat → TypeId → Option Sh
  | 0, _ => none
  | d + 1, t => match P.underlying t with
    | some (.array len e) => match (match eqSh P d e with | some s => some s | none => eqShA P d e), (P.info? e).map (·.size), aggOf P e with
      | some s, some n, some a => some (shA n a s len 0)
      | _, _, _ => none
    | _ => none
theorem veqShA_ok {P : Program} {σ : Sig} {w : World} : ∀ (d : Nat) (t : TypeId) (sh : Sh), eqShA P d t = some sh → ∀ (u v : V) (a b : Value) (r : Bool), VR σ u a → VR σ v b → veqSh sh u v = some r → ∀ m, (Op.equalIn (d + m) t a b).run P w = .ok r w
  | 0, t, sh, hs => by simp [eqShA] at hs
  | d + 1, t, sh, hs => by
    intro u v a b r hu hv hr m
    rw [show d + 1 + m = (d + m) + 1 by omega]
    simp only [eqShA] at hs
    split at hs
    · rename_i len e hud
      split at hs
      · rename_i s n ag h1 h2 h3
        simp at hs; subst hs
        have hagg : ∃ xs ys, u = .agg xs ∧ v = .agg ys := by
          cases len with
          | zero =>
            simp only [shA, veqSh] at hr
            split at hr
            · exact ⟨_, _, rfl, rfl⟩
            · cases hr
          | succ k =>
            simp only [shA, veqSh] at hr
            split at hr
            · exact ⟨_, _, rfl, rfl⟩
            · cases hr
        obtain ⟨cs, cs', rfl, rfl⟩ := hagg
        simp only [VR] at hu hv
        obtain ⟨xs, rfl, hx⟩ := hu
        obtain ⟨ys, rfl, hy⟩ := hv
        have key := forIn_elems (d := d + m) (w := w) hx hy h2 h3 (fun u' v' a' b' r' k1 k2 k3 => by
          split at h1
          · rename_i s1 h4
            cases h1
            exact veqSh_ok d e s h4 u' v' a' b' r' k1 k2 k3 m
          · exact veqShA_ok d e s h1 u' v' a' b' r' k1 k2 k3 m) len 0 r hr
        rw [Op.equalIn]
        simp only [Sem.run_bind, run_underlying hud, Result.andThen_ok, size_of h2 w]
        rw [Std.Legacy.Range.forIn_eq_forIn_range']
        simp
        rw [key]
        cases r <;> simp
      · cases hs
    · cases hs
theorem eqShA_guard {P : Program} : ∀ (d : Nat) (t : TypeId) (sh : Sh), eqShA P d t = some sh → ∀ m, P.eqGuardType (d + m) t = false
  | 0, t, sh, hs => by simp [eqShA] at hs
  | d + 1, t, sh, hs => by
    intro m
    rw [show d + 1 + m = (d + m) + 1 by omega]
    simp only [eqShA] at hs
    split at hs
    · rename_i len e hu
      split at hs
      · rename_i s n a h1 h2 h3
        simp only [Program.eqGuardType, hu]
        split at h1
        · rename_i s1 h4
          exact eqSh_guard d _ _ h4 m
        · exact eqShA_guard d _ _ h1 m
      · cases hs
    · cases hs
def eqTop (P : Program) (t : TypeId) : Option Sh := match Nat.ble 6 P.depth with
  | true => eqSh P 6 t
  | false => none
theorem eqTop_ok {P : Program} {σ : Sig} {w : World} {t : TypeId} {sh : Sh} (h : eqTop P t = some sh) {u v : V} {a b : Value} {r : Bool} (hu : VR σ u a) (hv : VR σ v b) (hr : veqSh sh u v = some r) : (Op.equal t a b).run P w = .ok r w := by
  unfold eqTop at h
  split at h
  · exact veqSh_ok 6 t sh h u v a b r hu hv hr (Op.maxDepth - 6)
  · cases h
theorem eqTop_guard {P : Program} {t : TypeId} {sh : Sh} (h : eqTop P t = some sh) : P.eqGuardType P.depth t = false := by
  unfold eqTop at h
  split at h
  · rename_i hd
    have := eqSh_guard 6 t sh h (P.depth - 6)
    have hle := Nat.le_of_ble_eq_true hd
    rwa [show 6 + (P.depth - 6) = P.depth by omega] at this
  · cases h
def eqTopA (P : Program) (t : TypeId) : Option Sh := match Nat.ble 6 P.depth with
  | true => eqShA P 6 t
  | false => none
theorem eqTopA_ok {P : Program} {σ : Sig} {w : World} {t : TypeId} {sh : Sh} (h : eqTopA P t = some sh) {u v : V} {a b : Value} {r : Bool} (hu : VR σ u a) (hv : VR σ v b) (hr : veqSh sh u v = some r) : (Op.equal t a b).run P w = .ok r w := by
  unfold eqTopA at h
  split at h
  · exact veqShA_ok 6 t sh h u v a b r hu hv hr (Op.maxDepth - 6)
  · cases h
theorem eqTopA_guard {P : Program} {t : TypeId} {sh : Sh} (h : eqTopA P t = some sh) : P.eqGuardType P.depth t = false := by
  unfold eqTopA at h
  split at h
  · rename_i hd
    have := eqShA_guard 6 t sh h (P.depth - 6)
    have hle := Nat.le_of_ble_eq_true hd
    rwa [show 6 + (P.depth - 6) = P.depth by omega] at this
  · cases h
end Go.Vm

namespace Go.Vm

theorem forIn_check {P : Program} {e : Bool} {n : Nat} {σ : Sig} {rec : TypeId → Option Sh} {w : World} {cs : List V} {xs : Array Value} (hx : VRs σ cs xs.toList)
    (hrec : ∀ t sh, rec t = some sh → ∀ (u : V) (a : Value) (r : Bool), VR σ u a → veqSh sh u u = some r → (Instr.checkKey e n t a).run P w = .ok () w) :
    ∀ (l : List Field) (sh : Sh) (r : Bool), shF P rec l = some sh → veqSh sh (.agg cs) (.agg cs) = some r →
      (forIn (m := Sem) l PUnit.unit fun f (_ : PUnit) =>
            if f.name = "_" then pure (ForInStep.yield PUnit.unit)
            else do
              let x ← part f.type xs f.offset
              (fun _ => ForInStep.yield PUnit.unit) <$> Instr.checkKey e n f.type x).run P w = .ok PUnit.unit w
  | [], sh, r, hs, hv => by simp
  | g :: gs, sh, r, hs, hv => by
    simp only [shF] at hs
    split at hs
    · cases hs
    · rename_i hn
      have hn : ¬ g.name = "_" := by simpa using hn
      split at hs
      · rename_i s n a rest h1 h2 h3 h4
        simp at hs; subst hs
        simp only [veqSh] at hv
        split at hv
        · rename_i u v hu hv'
          rw [hu] at hv'; cases hv'
          split at hv
          · rename_i b c hb hc
            obtain ⟨x, hx1, hx2⟩ := vpart_ok (P := P) (w := w) h3 h2 hx hu
            have he := hrec _ _ h1 u x b hx2 hb
            have ih := forIn_check hx hrec gs rest c h4 hc
            simp only [List.forIn_cons, if_neg hn, Sem.run_bind, hx1, he, Result.andThen_ok, Sem.run_map]
            exact ih
          · cases hv
        · cases hv
      · cases hs
theorem checkKey_ok {P : Program} {σ : Sig} {w : World} {e : Bool} : ∀ (d : Nat) (t : TypeId) (sh : Sh), eqSh P d t = some sh → ∀ (u : V) (a : Value) (r : Bool), VR σ u a → veqSh sh u u = some r → ∀ m, (Instr.checkKey e (d + m) t a).run P w = .ok () w
  | 0, t, sh, hs => by simp [eqSh] at hs
  | d + 1, t, sh, hs => by
    intro u a r hu hr m
    rw [show d + 1 + m = (d + m) + 1 by omega]
    simp only [eqSh] at hs
    split at hs
    · rename_i hud; simp [Instr.checkKey, run_underlying hud]
    · rename_i k hud; simp [Instr.checkKey, run_underlying hud]
    · rename_i gs hud
      split at hs
      · cases hs
      · have hagg : ∃ xs, u = .agg xs := by
          cases sh with
          | bool => exact absurd rfl (shF_not hs).1
          | int => exact absurd rfl (shF_not hs).2
          | nil =>
            simp only [veqSh] at hr
            split at hr
            · exact ⟨_, rfl⟩
            · cases hr
          | cons off n a s rest =>
            simp only [veqSh] at hr
            split at hr
            · exact ⟨_, rfl⟩
            · cases hr
        obtain ⟨cs, rfl⟩ := hagg
        simp only [VR] at hu
        obtain ⟨xs, rfl, hx⟩ := hu
        have key := forIn_check (e := e) (n := d + m) (w := w) hx (fun t' sh' h' u' a' r' h1 h2 => checkKey_ok d t' sh' h' u' a' r' h1 h2 m) gs.toList sh r hs hr
        rw [Instr.checkKey]
        simp only [Sem.run_bind, run_underlying hud, Result.andThen_ok]
        rw [← Array.forIn_toList]
        generalize gs.toList = l at key ⊢
        simp
        rw [key]
        rfl
    · cases hs
def Found (sh : Sh) (key : V) (es : List (V × V)) : Option (Nat × V) → Prop
  | some (i, v) => ∃ k0, es[i]? = some (k0, v) ∧ veqSh sh key k0 = some true ∧ ∀ (j : Nat) (p : V × V), j < i → es[j]? = some p → veqSh sh key p.1 = some false
  | none => ∀ (j : Nat) (p : V × V), es[j]? = some p → veqSh sh key p.1 = some false
def FRes (σ : Sig) : Option (Nat × V) → Option (Nat × Value) → Prop
  | some (i, v), r => ∃ x, r = some (i, x) ∧ VR σ v x
  | none, r => r = none
theorem Found.tail {sh : Sh} {key : V} {p : V × V} {es : List (V × V)} {r : Option (Nat × V)} (h : Found sh key (p :: es) r) :
    (veqSh sh key p.1 = some true ∧ r = some (0, p.2)) ∨ (veqSh sh key p.1 = some false ∧ ∃ r', Found sh key es r' ∧ r = r'.map fun q => (q.1 + 1, q.2)) := by
  cases r with
  | none => exact .inr ⟨h 0 p (by simp), none, fun j q hq => h (j + 1) q (by simpa using hq), rfl⟩
  | some q =>
    obtain ⟨i, v⟩ := q
    obtain ⟨k0, h1, h2, h3⟩ := h
    cases i with
    | zero => simp at h1; subst h1; exact .inl ⟨h2, rfl⟩
    | succ i => exact .inr ⟨h3 0 p (by omega) (by simp), some (i, v), ⟨k0, by simpa using h1, h2, fun j q hj hq => h3 (j + 1) q (by omega) (by simpa using hq)⟩, rfl⟩
def shiftR (i : Nat) (r : Option (Nat × V)) : Option (Nat × V) := r.map fun q => (q.1 + i, q.2)
theorem findAsking_ok {P : Program} {σ : Sig} {w : World} {kt : TypeId} {sh : Sh} (hs : eqTop P kt = some sh) {key : V} {k : Value} (hk : VR σ key k) : ∀ (es : List (V × V)) (ms : List MapEntry) (i : Nat) (r : Option (Nat × V)), EsRel σ es ms → Found sh key es r →
    ∃ r', (Instr.findAsking kt k ms i).run P w = .ok r' w ∧ FRes σ (shiftR i r) r'
  | [], ms, i, r, he, hf => by
    simp only [EsRel] at he; subst he
    cases r with
    | none => exact ⟨none, by simp [Instr.findAsking], rfl⟩
    | some q => obtain ⟨_, h1, _⟩ := hf; simp at h1
  | (k0, v0) :: es, ms, i, r, he, hf => by
    simp only [EsRel] at he
    obtain ⟨m, ms, rfl, h1, h2, h3⟩ := he
    rcases hf.tail with ⟨h4, rfl⟩ | ⟨h4, r', h5, rfl⟩
    · refine ⟨some (i, m.val), ?_, ?_⟩
      · simp [Instr.findAsking, eqTop_ok (w := w) hs hk h1 h4]
      · exact ⟨m.val, by simp, h2⟩
    · obtain ⟨r2, h6, h7⟩ := findAsking_ok (w := w) hs hk es ms (i + 1) r' h3 h5
      refine ⟨r2, ?_, ?_⟩
      · simp [Instr.findAsking, eqTop_ok (w := w) hs hk h1 h4, h6]
      · have : shiftR i (r'.map fun q => (q.1 + 1, q.2)) = shiftR (i + 1) r' := by
          cases r' with
          | none => rfl
          | some q => simp [shiftR]; omega
        rw [this]; exact h7
theorem sameNow_ok {P : Program} {σ : Sig} {t : TypeId} {kd : TypeDesc} {sh : Sh} (hs : eqTop P t = some sh) (hu : P.underlying t = some kd) {key k0 : V} {a b : Value} (ha : VR σ key a) (hb : VR σ k0 b) {r r' : Bool}
    (hr : veqSh sh key k0 = some r) (h : Instr.sameNow kd a b = some r') : r' = r := by
  unfold eqTop at hs
  split at hs
  · simp only [eqSh, hu] at hs
    split at hs
    · rename_i he; cases he
      simp at hs; subst hs
      simp only [veqSh] at hr
      split at hr
      · simp only [VR] at ha hb; subst ha hb
        simp at hr; subst hr
        simp [Instr.sameNow, S.val] at h; exact h.symm
      · cases hr
    · rename_i k he; cases he
      simp at hs; subst hs
      simp only [veqSh] at hr
      split at hr
      · split at hr
        · rename_i hk
          have := kindEq_eq hk; subst this
          simp only [VR] at ha hb; subst ha hb
          simp at hr; subst hr
          simp [Instr.sameNow, S.val] at h; exact h.symm
        · cases hr
      · cases hr
    · rename_i gs he; cases he
      simp [Instr.sameNow] at h
    · cases hs
  · cases hs
theorem findNow_ok {P : Program} {σ : Sig} {t : TypeId} {kd : TypeDesc} {sh : Sh} (hs : eqTop P t = some sh) (hu : P.underlying t = some kd) {key : V} {k : Value} (hk : VR σ key k) : ∀ (es : List (V × V)) (ms : List MapEntry) (i : Nat) (r : Option (Nat × V)) (r' : Option (Nat × Value)), EsRel σ es ms → Found sh key es r →
    Instr.findNow kd k ms i = some r' → FRes σ (shiftR i r) r'
  | [], ms, i, r, r', he, hf, h => by
    simp only [EsRel] at he; subst he
    simp [Instr.findNow] at h; subst h
    cases r with
    | none => rfl
    | some q => obtain ⟨_, h1, _⟩ := hf; simp at h1
  | (k0, v0) :: es, ms, i, r, r', he, hf, h => by
    simp only [EsRel] at he
    obtain ⟨m, ms, rfl, h1, h2, h3⟩ := he
    simp only [Instr.findNow] at h
    rcases hf.tail with ⟨h4, rfl⟩ | ⟨h4, r2, h5, rfl⟩
    · split at h
      · simp at h; subst h; exact ⟨m.val, by simp, h2⟩
      · rename_i hn
        have := sameNow_ok hs hu hk h1 h4 hn
        cases this
      · cases h
    · split at h
      · rename_i hn
        have := sameNow_ok hs hu hk h1 h4 hn
        cases this
      · have := findNow_ok hs hu hk es ms (i + 1) r2 r' h3 h5 h
        have e : shiftR i (r2.map fun q => (q.1 + 1, q.2)) = shiftR (i + 1) r2 := by
          cases r2 with
          | none => rfl
          | some q => simp [shiftR]; omega
        rw [e]; exact this
      · cases h
theorem findKey_ok {P : Program} {σ : Sig} {w : World} {kt : TypeId} {sh : Sh} (hs : eqTop P kt = some sh) {key : V} {k : Value} (hk : VR σ key k) {es : List (V × V)} {ms : List MapEntry} {r : Option (Nat × V)} (he : EsRel σ es ms) (hf : Found sh key es r) :
    ∃ r', (Instr.findKey kt k ms).run P w = .ok r' w ∧ FRes σ r r' := by
  have hsh : shiftR 0 r = r := by cases r <;> simp [shiftR]
  have hu : ∃ kd, P.underlying kt = some kd := by
    unfold eqTop at hs
    split at hs
    · simp only [eqSh] at hs
      cases hk : P.underlying kt with
      | none => rw [hk] at hs; simp at hs
      | some kd => exact ⟨kd, rfl⟩
    · cases hs
  obtain ⟨kd, hu⟩ := hu
  unfold Instr.findKey
  cases hn : Instr.findNow kd k ms 0 with
  | some r' => exact ⟨r', by simp [run_underlying hu, hn], by have := findNow_ok hs hu hk es ms 0 r r' he hf hn; rwa [hsh] at this⟩
  | none =>
    obtain ⟨r', h1, h2⟩ := findAsking_ok (w := w) hs hk es ms 0 r he hf
    exact ⟨r', by simp [run_underlying hu, hn, h1], by rwa [hsh] at h2⟩
end Go.Vm

namespace Go.Vm

def opLookup (t : TypeId) (c : Bool) (xs : List Value) : Sem Next := valN (Instr.lookup t (xs.getD 0 undef) (xs.getD 1 undef) c)
def opMapUpdate (t : TypeId) (xs : List Value) : Sem Next := skipN (Instr.mapUpdate t (xs.getD 0 undef) (xs.getD 1 undef) (xs.getD 2 undef))
def opMakeMap (t : TypeId) (_ : List Value) : Sem Next := valN (Instr.makeMap t none)
def lookRes (zero : V) (c : Bool) (r : Option (Nat × V)) : V :=
  match c with
  | true => match r with
    | some (_, v) => .tuple [v, .s (.bool true)]
    | none => .tuple [zero, .s (.bool false)]
  | false => match r with
    | some (_, v) => v
    | none => zero
def Look (P : Program) (T : TT) (t : TypeId) (c : Bool) (key : V) (es : List (V × V)) (v : V) : Prop :=
  ∃ ti kt et zero sh b r, T t = some ti ∧ ti.kind = .map kt et zero ∧ eqTop P kt = some sh ∧ veqSh sh key key = some b ∧ Found sh key es r ∧ v = lookRes zero c r
theorem map_kind {P : Program} {T : TT} (hT : TOk P T) {t : TypeId} {ti : TI} {kt et : Nat} {zero : V} (h : T t = some ti) (hk : ti.kind = .map kt et zero) :
    P.underlying t = some (.map kt et) ∧ ∃ info z, P.info? et = some info ∧ info.zero = some z ∧ ZeroV zero z := by
  obtain ⟨d, _, _, hu, _, _, _, _, _, hko⟩ := hT.ok _ _ h
  rw [hk] at hko
  obtain ⟨rfl, h2⟩ := hko
  exact ⟨hu, h2⟩
theorem eqTop_check {P : Program} {σ : Sig} {w : World} {e : Bool} {t : TypeId} {sh : Sh} (h : eqTop P t = some sh) {u : V} {a : Value} {r : Bool} (hu : VR σ u a) (hr : veqSh sh u u = some r) : (Instr.checkKey e 10000 t a).run P w = .ok () w := by
  unfold eqTop at h
  split at h
  · exact checkKey_ok 6 t sh h u a r hu hr 9994
  · cases h
theorem look_at {P : Program} {T : TT} (hT : TOk P T) {t : TypeId} {c : Bool} {key : V} {es : List (V × V)} {v : V} (hL : Look P T t c key es v) {σ : Sig} {w : World} {k : Value} (hk : VR σ key k)
    {rid : Nat} {ms : Array MapEntry} {cl : Nat} (ho : w.heap[rid]? = some (.map ms cl)) (hes : EsRel σ es ms.toList) : ∃ x, (Instr.lookup t (.map (some rid)) k c).run P w = .ok x w ∧ VR σ v x := by
  obtain ⟨ti, kt, et, zero, sh, b, r, h1, h2, h3, h4, h5, rfl⟩ := hL
  obtain ⟨hu, info, z, hi, hz, hzv⟩ := map_kind hT h1 h2
  obtain ⟨r', hf, hfr⟩ := findKey_ok (w := w) h3 hk hes h5
  have hc : ∀ e, (Instr.checkKey e 10000 kt k).run P w = .ok () w := fun e => eqTop_check h3 hk h4
  have hg : (getObj rid).run P w = .ok (.map ms cl) w := by simp [getObj, Sem.run, ho]
  unfold Instr.lookup
  cases r with
  | none =>
    simp only [FRes] at hfr
    subst hfr
    cases c with
    | true => exact ⟨.tuple #[z, .bool false], by simp [run_underlying hu, hg, hc, hf, zeroValue, typeInfo, hi, hz], by simp only [lookRes, VR, VRs]; exact ⟨_, rfl, _, _, rfl, hzv σ, _, _, rfl, rfl, rfl⟩⟩
    | false => exact ⟨z, by simp [run_underlying hu, hg, hc, hf, zeroValue, typeInfo, hi, hz], hzv σ⟩
  | some q =>
    obtain ⟨j, v⟩ := q
    obtain ⟨x, rfl, hx⟩ := hfr
    cases c with
    | true => exact ⟨.tuple #[x, .bool true], by simp [run_underlying hu, hg, hc, hf], by simp only [lookRes, VR, VRs]; exact ⟨_, rfl, _, _, rfl, hx, _, _, rfl, rfl, rfl⟩⟩
    | false => exact ⟨x, by simp [run_underlying hu, hg, hc, hf], hx⟩
theorem EsRel_zip {σ : Sig} : ∀ (ks vs : List D) (ms : List MapEntry), DRs σ.fz ks (ms.map (·.key)) → DRs σ.fz vs (ms.map (·.val)) → EsRel σ ((D.vs ks).zip (D.vs vs)) ms
  | [], [], ms, h, _ => by
    simp only [DRs, List.map_eq_nil_iff] at h; subst h; simp [D.vs, EsRel]
  | k :: ks, v :: vs, ms, h, h' => by
    simp only [DRs] at h h'
    obtain ⟨x, xs, hx, h1, h2⟩ := h
    obtain ⟨y, ys, hy, h3, h4⟩ := h'
    cases ms with
    | nil => simp at hx
    | cons m ms =>
      simp only [List.map_cons, List.cons.injEq] at hx hy
      obtain ⟨rfl, rfl⟩ := hx
      obtain ⟨rfl, rfl⟩ := hy
      simp only [D.vs, List.zip_cons_cons, EsRel]
      exact ⟨m, ms, rfl, DR.v _ _ h1, DR.v _ _ h3, EsRel_zip ks vs ms h2 h4⟩
  | [], _ :: _, ms, h, h' => by
    simp only [DRs, List.map_eq_nil_iff] at h; subst h; simp [DRs] at h'
  | _ :: _, [], ms, h, h' => by
    simp only [DRs, List.map_eq_nil_iff] at h'; subst h'; simp [DRs] at h
theorem look_run {P : Program} {T : TT} (hT : TOk P T) {t : TypeId} {c : Bool} {i : Id} {key : V} {es : List (V × V)} {v : V} (hL : Look P T t c key es v) {σ : Sig} {w : World} {m k : Value} (hm : VR σ (.map i) m) (hk : VR σ key k)
    (hb : ∀ e, σ i = some e → ∃ o, w.heap[e.rid]? = some o ∧ BlkRel σ e (.map es) o) : ∃ x, (Instr.lookup t m k c).run P w = .ok x w ∧ VR σ v x := by
  simp only [VR] at hm
  obtain ⟨e, he, rfl⟩ := hm
  obtain ⟨o, ho, ms, cl, rfl, hes⟩ := hb e he
  exact look_at hT hL hk ho hes
theorem look_run_fm {P : Program} {T : TT} (hT : TOk P T) {t : TypeId} {c : Bool} {ks vs : List D} {key : V} {v : V} (hL : Look P T t c key ((D.vs ks).zip (D.vs vs)) v) {σ : Sig} {w : World} {m k : Value} (hm : VR σ (.fm ks vs) m) (hk : VR σ key k)
    (hb : ∀ r o, σ.fz r = some o → w.heap[r]? = some o) : ∃ x, (Instr.lookup t m k c).run P w = .ok x w ∧ VR σ v x := by
  simp only [VR, DR] at hm
  obtain ⟨r, ms, cl, h1, rfl, h2, h3⟩ := hm
  exact look_at hT hL hk (hb _ _ h1) (EsRel_zip _ _ _ h2 h3)
theorem EsRel.push {σ : Sig} {k v : V} {m : MapEntry} (h1 : VR σ k m.key) (h2 : VR σ v m.val) : ∀ {es : List (V × V)} {ms : List MapEntry}, EsRel σ es ms → EsRel σ (es ++ [(k, v)]) (ms ++ [m])
  | [], ms, h => by simp only [EsRel] at h; subst h; exact ⟨m, [], rfl, h1, h2, by simp [EsRel]⟩
  | (k', v') :: es, ms, h => by
    simp only [EsRel] at h
    obtain ⟨m', ms', rfl, g1, g2, g3⟩ := h
    exact ⟨m', ms' ++ [m], rfl, g1, g2, EsRel.push h1 h2 g3⟩
theorem does_makeMap {P : Program} {t : TypeId} {h : Hp} : Does P (opMakeMap t) [] h (.map h.fresh) (h.push (.map [])) := by
  refine ⟨h.grows_push _, fun σ w xs hr _ => ?_⟩
  refine ⟨σ.put h.fresh ⟨w.heap.size, 0, 0⟩, _, w.alloc (.map #[] 0), run_valN (x := .map (some w.heap.size)) (by simp [Instr.makeMap]), ?_, hr.push ⟨#[], 0, rfl, by simp [EsRel]⟩, Ext.push hr rfl⟩
  simp only [NextRel, VR]
  exact ⟨_, Sig.put_same _ _ _, rfl⟩
theorem does_mapNew {P : Program} {T : TT} (hT : TOk P T) {t : TypeId} {ti : TI} {kt et : Nat} {zero : V} {sh : Sh} {i : Id} {key v : V} {es : List (V × V)} {h : Hp} {b : Bool} (h1 : T t = some ti) (h2 : ti.kind = .map kt et zero) (h3 : eqTop P kt = some sh)
    (h4 : veqSh sh key key = some b) (hf : Found sh key es none) (hb : h.get i = some (.map es)) : Does P (opMapUpdate t) [.map i, key, v] h .undef (h.set i (.map (es ++ [(key, v)]))) := by
  refine ⟨h.grows_set _ _, fun σ w xs hr hx => ?_⟩
  obtain ⟨hu, _⟩ := map_kind hT h1 h2
  simp only [VRs] at hx
  obtain ⟨m, _, rfl, hm, k, _, rfl, hk, x, _, rfl, hv, rfl⟩ := hx
  simp only [VR] at hm
  obtain ⟨e, he, rfl⟩ := hm
  obtain ⟨hlt, o, ho, ms, cl, rfl, hes⟩ := hr.blk i e _ he hb
  obtain ⟨r', hfk, hfr⟩ := findKey_ok (w := w) h3 hk hes hf
  simp only [FRes] at hfr
  subst hfr
  have hc : (Instr.checkKey false 10000 kt k).run P w = .ok () w := eqTop_check h3 hk h4
  have hg : (getObj e.rid).run P w = .ok (.map ms cl) w := by simp [getObj, Sem.run, ho]
  let o' : Obj := .map (ms.push { key := k, val := x, born := cl }) (cl + 1)
  have hrel : BlkRel σ e (.map (es ++ [(key, v)])) o' := ⟨_, _, rfl, by simpa using EsRel.push (m := { key := k, val := x, born := cl }) hk hv hes⟩
  have hsz : (w.putObj e.rid o').heap.size = w.heap.size := by simp [World.putObj]
  have hsame : ∀ r, r ≠ e.rid → (w.putObj e.rid o').heap[r]? = w.heap[r]? := fun r hne => World.putObj_heap_other hne
  refine ⟨σ, .skip, w.putObj e.rid o', run_skipN ?_, by simp [NextRel], hr.upd he hb rfl (fun _ => rfl) hsz hsame (World.putObj_heap_same hlt) hrel, Ext.upd he hb rfl (fun _ => rfl) hsz rfl rfl rfl hsame⟩
  show (Instr.mapUpdate t (.map (some e.rid)) k x).run P w = _
  unfold Instr.mapUpdate
  simp only [Sem.run_bind, run_underlying hu, Result.andThen_ok, hg, hc, hfk]
  have hset : (setObj e.rid o').run P w = .ok () (w.putObj e.rid o') := by simp [setObj, Sem.run, ho, World.putObj]
  exact hset
/-! ### A round of a range over a function -/

def VY (P : Program) (i : Id) (args : List V) (h : Hp) (r : V) (h' : Hp) : Prop :=
  h.grows h' ∧ ∀ σ w e xs, Rel σ h w → σ i = some e → VRs σ args xs → ∃ fn tmps assign body, (Instr.yield e.rid xs.toArray).run P w = .ok (.round e.rid fn tmps assign body) w ∧
    RoundIn Fence.wide 0 P e.rid fn tmps assign body w (fun en w' => ∃ σ' x, en = .returned x ∧ VR σ' r x ∧ Rel σ' h' w' ∧ ExtK allIds σ h w σ' h' w')
def frPar : List Nat → List V → Fr → Fr
  | t :: ts, v :: vs, fr => frPar ts vs (fr.set t v)
  | _, _, fr => fr
theorem FrRel.set1 {σ : Sig} {fr : Fr} {tmps : Array Value} (h : FrRel σ fr tmps) {t : Nat} {v : V} {x : Value} (ht : t < tmps.size) (hv : VR σ v x) : FrRel σ (fr.set t v) (tmps.setIfInBounds t x) := by
  intro i
  rw [Fr.at_set]
  by_cases e : i = t
  · subst e
    rw [if_pos rfl, Array.getD_eq_getD_getElem?, Array.getElem?_setIfInBounds_self_of_lt ht]; exact hv
  · rw [if_neg e, Array.getD_eq_getD_getElem?, Array.getElem?_setIfInBounds_ne (Ne.symm e), ← Array.getD_eq_getD_getElem?]
    exact h i
theorem FrRel.par {σ : Sig} {n : Nat} : ∀ (ts : List Nat) (vs : List V) (xs : List Value) (fr : Fr) (tmps : Array Value), (∀ t ∈ ts, t < n) → n ≤ tmps.size → FrRel σ fr tmps → VRs σ vs xs →
    FrRel σ (frPar ts vs fr) ((ts.zip xs).foldl (fun tmps p => tmps.setIfInBounds p.1 p.2) tmps) ∧ n ≤ ((ts.zip xs).foldl (fun tmps p => tmps.setIfInBounds p.1 p.2) tmps).size
  | [], vs, xs, fr, tmps, _, hn, hf, _ => by cases vs <;> exact ⟨hf, hn⟩
  | t :: ts, [], xs, fr, tmps, _, hn, hf, hv => by simp only [VRs] at hv; subst hv; exact ⟨hf, hn⟩
  | t :: ts, v :: vs, xs, fr, tmps, ht, hn, hf, hv => by
    simp only [VRs] at hv
    obtain ⟨x, ys, rfl, h1, h2⟩ := hv
    simp only [List.zip_cons_cons, List.foldl_cons, frPar]
    exact FrRel.par ts vs ys _ _ (fun t' h' => ht t' (List.mem_cons_of_mem _ h')) (by simpa using hn) (hf.set1 (Nat.lt_of_lt_of_le (ht t (by simp)) hn) h1) h2
def X.jump : X → Option Code
  | .normal => none
  | .ret => some .ret
  | .exit id => some (.exit id)
theorem Rel.loopSet {σ : Sig} {h : Hp} {w : World} (hr : Rel σ h w) {i : Id} {e : Ent} {lr : LoopV} (hi : σ i = some e) (hb : h.get i = some (.loop lr)) :
    ∃ R : Loop, w.heap[e.rid]? = some (.loop R) ∧ R.state = lr.state ∧ R.pending = lr.pending ∧ R.params = lr.params ∧ R.assign = lr.assign ∧ R.body = lr.body ∧ FrRel σ lr.fr R.tmps ∧ lr.n ≤ R.tmps.size ∧
      ∀ (st : LoopState) (pe : Option Code), Rel σ (h.set i (.loop { lr with state := st, pending := pe })) (w.putObj e.rid (.loop { R with state := st, pending := pe })) ∧
        ExtK allIds σ h w σ (h.set i (.loop { lr with state := st, pending := pe })) (w.putObj e.rid (.loop { R with state := st, pending := pe })) := by
  obtain ⟨hlt, o, ho, hrel⟩ := hr.blk i e _ hi hb
  obtain ⟨fn, tmps, em, rfl, hm, hf, hn⟩ := hrel
  refine ⟨_, ho, rfl, rfl, rfl, rfl, rfl, hf, hn, fun st pe => ?_⟩
  have hsame : ∀ (o : Obj) r, r ≠ e.rid → (w.putObj e.rid o).heap[r]? = w.heap[r]? := fun o r hne => World.putObj_heap_other hne
  have hsz : ∀ (o : Obj), (w.putObj e.rid o).heap.size = w.heap.size := fun o => by simp [World.putObj]
  exact ⟨hr.upd hi hb rfl (fun _ => rfl) (hsz _) (hsame _) (World.putObj_heap_same hlt) ⟨fn, tmps, em, rfl, hm, hf, hn⟩, (Ext.upd hi hb rfl (fun _ => rfl) (hsz _) rfl rfl rfl (hsame _)).toK⟩
theorem VWp.rangeFunc {P : Program} {K : Id → Prop} {g : Operand} {ps : Array Tmp} {assign body : Code} {n : Nat} {fr : Fr} {h : Hp} {marks : List Id} {Q : X → St → Prop} {f : FuncId} {first caps : List V} {r : V} {h2 : Hp} {lr : LoopV}
    (hg : ev fr g = .func (.func f) first caps)
    (hc : VC P f (first ++ [.yld (h.push .mark).fresh] ++ caps) ((h.push .mark).push (.loop { state := .ready, pending := none, n, fr, params := ps, assign, body, mark := h.fresh })) r h2)
    (hl : h2.get (h.push .mark).fresh = some (.loop lr)) (hs : lr.state ≠ .busy)
    (hq : match lr.pending with
      | none => Q .normal ⟨n, fr, h2.set (h.push .mark).fresh (.loop { lr with state := .exhausted }), h.fresh :: marks⟩
      | some .ret => Q .ret ⟨n, fr, h2.set (h.push .mark).fresh (.loop { lr with state := .exhausted }), h.fresh :: marks⟩
      | some (.exit id) => Q (.exit id) ⟨n, fr, h2.set (h.push .mark).fresh (.loop { lr with state := .exhausted }), h.fresh :: marks⟩
      | _ => False) : VWp P none K (.rangeFunc g ps assign body) ⟨n, fr, h, marks⟩ Q := by
  intro σ a w hst
  have hr : Rel σ h w := hst.rel
  -- the mark, and the record
  have r1 := hr.push (b := .mark) (o := .deferred (some [])) (base := 0) (tot := 0) rfl
  have x1 := Ext.push hr (b := .mark) (o := .deferred (some [])) (base := 0) (tot := 0) rfl
  have hle1 : σ.le (σ.put h.fresh ⟨w.heap.size, 0, 0⟩) := x1.le
  have hfr1 : FrRel (σ.put h.fresh ⟨w.heap.size, 0, 0⟩) fr a.tmps := hst.fr.mono hle1
  refine wpIn_rangeFunc fun fn _ => ?_
  let R0 : Loop := { state := .ready, pending := none, fn, tmps := a.tmps, params := ps, assign, body, defers := w.heap.size }
  have hle2 := Sig.le_put (e := ⟨(w.alloc (.deferred (some []))).heap.size, 0, 0⟩) r1.fresh_none
  have r2 := r1.push (b := .loop { state := .ready, pending := none, n, fr, params := ps, assign, body, mark := h.fresh }) (o := .loop R0) (base := 0) (tot := 0)
    ⟨fn, a.tmps, ⟨w.heap.size, 0, 0⟩, rfl, hle2 _ _ (Sig.put_same _ _ _), hfr1.mono hle2, hst.size⟩
  have x2 := Ext.push r1 (b := .loop { state := .ready, pending := none, n, fr, params := ps, assign, body, mark := h.fresh }) (o := .loop R0) (base := 0) (tot := 0) rfl
  have hv := ev_ok hst.fr g
  rw [hg] at hv
  simp only [VR] at hv
  obtain ⟨f', c', hfe, hf1, hf2⟩ := hv
  obtain ⟨hent, _, hV⟩ := hc
  have hyl : VRs ((σ.put h.fresh ⟨w.heap.size, 0, 0⟩).put (h.push .mark).fresh ⟨(w.alloc (.deferred (some []))).heap.size, 0, 0⟩) [.yld (h.push .mark).fresh] [.func (.yield (w.heap.size + 1)) #[] #[]] := by
    simp only [VRs, VR]
    exact ⟨_, _, rfl, ⟨_, Sig.put_same _ _ _, by simp⟩, rfl⟩
  have hargs := VRs.append (VRs.append (VRs.mono hle2 _ _ (VRs.mono hle1 _ _ hf1)) hyl) (VRs.mono hle2 _ _ (VRs.mono hle1 _ _ hf2))
  have hcall := hV _ _ _ r2 hargs
  have harr : (f'.toList ++ [Value.func (.yield (w.heap.size + 1)) #[] #[]] ++ c'.toList).toArray = f' ++ #[Value.func (.yield (w.heap.size + 1)) #[] #[]] ++ c' := by apply Array.ext'; simp
  rw [harr] at hcall
  refine ⟨w.heap.size + 1, [{ target := .collected w.heap.size, args := #[] }], (w.alloc (.deferred (some []))).alloc (.loop R0), { target := .fn (.func f) c', args := f' ++ #[Value.func (.yield (w.heap.size + 1)) #[] #[]] }, (w.alloc (.deferred (some []))).alloc (.loop R0), f, f' ++ #[Value.func (.yield (w.heap.size + 1)) #[] #[]] ++ c', (w.alloc (.deferred (some []))).alloc (.loop R0),
    run_enterLoop_outer _ _ _ _ _, ?_, fun _ _ => trivial, ?_, fun hx => by simp [Fl, Fence.wide] at hx, ?_⟩
  · simp only [resolve, rangeCall, hfe, Deferred.ofValue]
    simp [Act.eval]
  · simp only [invoke]; exact hent _ _
  · refine CallsIn.mono (F := Fl none) hcall ?_
    rintro en w3 ⟨σ3, y, rfl, _, hr3, hx3⟩
    have hle3 := hx3.leAll
    obtain ⟨R, hR, hRs, hRp, _, _, _, _, _, hset⟩ := hr3.loopSet (hle3 _ _ (Sig.put_same _ _ _)) hl
    obtain ⟨hr4, hx4⟩ := hset .exhausted lr.pending
    have hend : (Instr.endLoop (w.heap.size + 1)).run P w3 = .ok R.pending (w3.putObj (w.heap.size + 1) (.loop { R with state := .exhausted })) := run_endLoop (by simpa using hR) (by rw [hRs]; exact hs)
    refine ⟨R.pending, _, hend, ?_⟩
    have hw4 : w3.putObj (w.heap.size + 1) (.loop { R with state := .exhausted }) = w3.putObj (w.alloc (.deferred (some []))).heap.size (.loop { R with state := .exhausted, pending := lr.pending }) := by
      rw [← hRp]; simp
    rw [hw4, hRp]
    have hleT : σ.le σ3 := Sig.le_trans hle1 (Sig.le_trans hle2 hle3)
    have hxA : ExtK allIds σ h w σ3 (h2.set (h.push .mark).fresh (.loop { lr with state := .exhausted })) (w3.putObj (w.alloc (.deferred (some []))).heap.size (.loop { R with state := .exhausted, pending := lr.pending })) :=
      ((x1.toK.trans x2.toK).trans hx3).trans hx4
    have hmk := hst.marks.ext hxA
    have hmk' : MarksRel σ3 (h2.set (h.push .mark).fresh (.loop { lr with state := .exhausted })) (w3.putObj (w.alloc (.deferred (some []))).heap.size (.loop { R with state := .exhausted, pending := lr.pending })) (h.fresh :: marks) ([{ target := .collected w.heap.size, args := #[] }] ++ a.defers) := by
      refine ⟨List.nodup_cons.2 ⟨fun hmem => ?_, hmk.nodup⟩, hmk.lo, ?_⟩
      · obtain ⟨q, hq1, hq2⟩ := hst.marks.list.lt hr _ hmem
        cases hq1; omega
      · rw [List.singleton_append]
        simp only [MarkL]
        exact .inl ⟨_, _, ⟨w.heap.size, 0, 0⟩, rfl, rfl, hle3 _ _ (hle2 _ _ (Sig.put_same _ _ _)), by rw [hxA.lo]; exact hst.marks.lo, hmk.list⟩
    have hst' : StRel σ3 ⟨n, fr, h2.set (h.push .mark).fresh (.loop { lr with state := .exhausted }), h.fresh :: marks⟩ { a with defers := [{ target := .collected w.heap.size, args := #[] }] ++ a.defers } (w3.putObj (w.alloc (.deferred (some []))).heap.size (.loop { R with state := .exhausted, pending := lr.pending })) :=
      ⟨hr4, hst.fr.mono hleT, hst.size, hmk'⟩
    have hxT : ExtK K σ h w σ3 (h2.set (h.push .mark).fresh (.loop { lr with state := .exhausted })) (w3.putObj (w.alloc (.deferred (some []))).heap.size (.loop { R with state := .exhausted, pending := lr.pending })) :=
      hxA.weak fun _ _ => trivial
    cases hp : lr.pending with
    | none => rw [hp] at hq hst' hxT; exact ⟨.normal, _, _, rfl, hq, hst', hxT⟩
    | some c =>
      rw [hp] at hq hst' hxT
      cases c <;> first | exact hq.elim | skip
      · exact wpIn_exit ⟨.exit _, _, _, rfl, hq, hst', hxT⟩
      · exact wpIn_ret ⟨.ret, _, _, rfl, hq, hst', hxT⟩
end Go.Vm

namespace Go.Vm

/-! ### Places where a proof must say something -/

structure VMem (P : Program) (f : List Value → Sem Next) (args : List V) (h : Hp) (K : V → Hp → Prop) : Prop where
  ex : ∃ v h', Does P f args h v h' ∧ K v h'
structure VCall (P : Program) (f : FuncId) (args : List V) (h : Hp) (K : V → Hp → Prop) : Prop where
  ex : ∃ v h', VC P f args h v h' ∧ K v h'
structure VNeed (b : Bool) (K : Prop) : Prop where
  ex : b = true ∧ K
structure VAny (p : V → Prop) (K : V → Prop) : Prop where
  ex : ∃ v, p v ∧ K v
theorem VAny.intro {p : V → Prop} {K : V → Prop} {v : V} (h : p v) (k : K v) : VAny p K := ⟨v, h, k⟩
theorem VAny.elim' {p : V → Prop} {K : V → Prop} (h : VAny p K) : ∃ v, p v ∧ K v := h.ex
structure VArith (k : IntKind) (n : Int) (K : Int → Prop) : Prop where
  ex : K (k.wrap n)
def VIte (b : Bool) (A B : Prop) : Prop := match b with
  | true => A
  | false => B
def vload (T : TT) (t : TypeId) (v : V) (h : Hp) : Option V :=
  match v with
  | .ptr i off => match T t with
    | some ti => match ti.agg with
      | true => match h.rdN i off ti.size with
        | some l => some (.agg l)
        | none => none
      | false => h.at i off
    | none => none
  | .fp cs => match T t with
    | some ti => match ti.agg with
      | true => match Nat.ble ti.size cs.length with
        | true => some (.agg (D.vs (cs.take ti.size)))
        | false => none
      | false => match cs with
        | d :: _ => some d.v
        | [] => none
    | none => none
  | _ => none
structure VLd (T : TT) (t : TypeId) (a : V) (h : Hp) (K : V → Prop) : Prop where
  ex : ∃ v, vload T t a h = some v ∧ K v
structure VYield (P : Program) (i : Id) (args : List V) (h : Hp) (K : V → Hp → Prop) : Prop where
  ex : ∃ v h', VY P i args h v h' ∧ K v h'
structure VLookF (P : Program) (T : TT) (t : TypeId) (c : Bool) (ks vs : List D) (key : V) (K : V → Prop) : Prop where
  ex : ∃ v, Look P T t c key ((D.vs ks).zip (D.vs vs)) v ∧ K v
theorem VLookF.intro {P : Program} {T : TT} {t : TypeId} {c : Bool} {ks vs : List D} {key : V} {K : V → Prop} {v : V} (h2 : Look P T t c key ((D.vs ks).zip (D.vs vs)) v) (h3 : K v) : VLookF P T t c ks vs key K := ⟨v, h2, h3⟩
theorem VLookF.elim' {P : Program} {T : TT} {t : TypeId} {c : Bool} {ks vs : List D} {key : V} {K : V → Prop} (hk : VLookF P T t c ks vs key K) : ∃ v, Look P T t c key ((D.vs ks).zip (D.vs vs)) v ∧ K v := hk.ex
structure VLook (P : Program) (T : TT) (t : TypeId) (c : Bool) (i : Id) (key : V) (h : Hp) (K : V → Prop) : Prop where
  ex : ∃ es v, h.get i = some (.map es) ∧ Look P T t c key es v ∧ K v
structure VCode (P : Program) (ro : Option Nat) (K : Id → Prop) (c : Code) (st : St) (Q : X → St → Prop) : Prop where
  ex : VWp P ro K c st Q
theorem VMem.intro {P : Program} {f : List Value → Sem Next} {args : List V} {h h' : Hp} {v : V} {K : V → Hp → Prop} (h1 : Does P f args h v h') (h2 : K v h') : VMem P f args h K := ⟨v, h', h1, h2⟩
theorem VCall.intro {P : Program} {f : FuncId} {args : List V} {h h' : Hp} {v : V} {K : V → Hp → Prop} (h1 : VC P f args h v h') (h2 : K v h') : VCall P f args h K := ⟨v, h', h1, h2⟩
theorem VYield.intro {P : Program} {i : Id} {args : List V} {h h' : Hp} {v : V} {K : V → Hp → Prop} (h1 : VY P i args h v h') (h2 : K v h') : VYield P i args h K := ⟨v, h', h1, h2⟩
theorem VLook.intro {P : Program} {T : TT} {t : TypeId} {c : Bool} {i : Id} {key : V} {h : Hp} {K : V → Prop} {es : List (V × V)} {v : V} (h1 : h.get i = some (.map es)) (h2 : Look P T t c key es v) (h3 : K v) : VLook P T t c i key h K := ⟨es, v, h1, h2, h3⟩
theorem VLook.elim' {P : Program} {T : TT} {t : TypeId} {c : Bool} {i : Id} {key : V} {h : Hp} {K : V → Prop} (hk : VLook P T t c i key h K) : ∃ es v, h.get i = some (.map es) ∧ Look P T t c key es v ∧ K v := hk.ex
theorem VNeed.intro {b : Bool} {K : Prop} (h1 : b = true) (h2 : K) : VNeed b K := ⟨h1, h2⟩
theorem VArith.wr {k : IntKind} {n : Int} {K : Int → Prop} (h : K (k.wrap n)) : VArith k n K := ⟨h⟩
theorem wrap_i64 {n : Int} (h : -9223372036854775808 ≤ n ∧ n ≤ 9223372036854775807) : IntKind.i64.wrap n = n := by
  unfold IntKind.wrap; simp [IntKind.bits, IntKind.signed]; omega
theorem wrap_u32 {n : Int} (h : 0 ≤ n ∧ n < 4294967296) : IntKind.u32.wrap n = n := by
  unfold IntKind.wrap; simp [IntKind.bits, IntKind.signed]; omega
theorem VArith.i64 {n : Int} {K : Int → Prop} (h : -9223372036854775808 ≤ n ∧ n ≤ 9223372036854775807) (hk : K n) : VArith .i64 n K := ⟨by rw [wrap_i64 h]; exact hk⟩
theorem VArith.u32 {n : Int} {K : Int → Prop} (h : 0 ≤ n ∧ n < 4294967296) (hk : K n) : VArith .u32 n K := ⟨by rw [wrap_u32 h]; exact hk⟩
theorem VIte.intro {b : Bool} {A B : Prop} (h1 : b = true → A) (h2 : b = false → B) : VIte b A B := by
  cases b
  · exact h2 rfl
  · exact h1 rfl
theorem VIte.elim {b : Bool} {A B : Prop} (h : VIte b A B) : (b = true → A) ∧ (b = false → B) := ⟨fun e => by subst e; exact h, fun e => by subst e; exact h⟩
theorem VIte.yes {b : Bool} {A B : Prop} (hb : b = true) (h : A) : VIte b A B := by subst hb; exact h
theorem VIte.no {b : Bool} {A B : Prop} (hb : b = false) (h : B) : VIte b A B := by subst hb; exact h
theorem VIte.dec {p : Prop} [Decidable p] {A B : Prop} (h1 : p → A) (h2 : ¬ p → B) : VIte (decide p) A B := VIte.intro (fun e => h1 (of_decide_eq_true e)) (fun e => h2 (of_decide_eq_false e))
theorem VIte.beq {a b : Int} {A B : Prop} (h1 : a = b → A) (h2 : a ≠ b → B) : VIte (a == b) A B := VIte.intro (fun e => h1 (by simpa using e)) (fun e => h2 (by simpa using e))
theorem VIte.bne {a b : Int} {A B : Prop} (h1 : a ≠ b → A) (h2 : a = b → B) : VIte (a != b) A B := VIte.intro (fun e => h1 (by simpa using e)) (fun e => h2 (by simpa using e))
theorem VIte.ndec {p : Prop} [Decidable p] {A B : Prop} (h1 : ¬ p → A) (h2 : p → B) : VIte (!decide p) A B := VIte.intro (fun e => h1 (by simpa using e)) (fun e => h2 (by simpa using e))
theorem VIte.not {b : Bool} {A B : Prop} (h : VIte b B A) : VIte (!b) A B := by cases b <;> exact h
theorem VIte.and {a b : Bool} {A B : Prop} (h : VIte a (VIte b A B) B) : VIte (a && b) A B := by cases a <;> exact h
theorem VIte.or {a b : Bool} {A B : Prop} (h : VIte a A (VIte b A B)) : VIte (a || b) A B := by cases a <;> exact h
theorem VNeed.elim' {b : Bool} {K : Prop} (h : VNeed b K) : b = true ∧ K := h.ex
theorem VArith.elim' {k : IntKind} {n : Int} {K : Int → Prop} (h : VArith k n K) : K (k.wrap n) := h.ex
theorem VLd.elim' {T : TT} {t : TypeId} {a : V} {h : Hp} {K : V → Prop} (hk : VLd T t a h K) : ∃ v, vload T t a h = some v ∧ K v := hk.ex
theorem VLd.intro {T : TT} {t : TypeId} {a v : V} {h : Hp} {K : V → Prop} (h1 : vload T t a h = some v) (h2 : K v) : VLd T t a h K := ⟨v, h1, h2⟩
theorem does_load_fp1 {P : Program} {T : TT} (hT : TOk P T) {t : TypeId} {ti : TI} {d : D} {cs : List D} {h : Hp} (hTt : T t = some ti) (ha : ti.agg = false) :
    Does P (opLoad t) [.fp (d :: cs)] h d.v h := by
  refine ⟨h.grows_refl, ?_⟩
  intro σ w xs hr hx
  obtain ⟨x, rfl, hp⟩ := VRs_one hx
  simp only [VR, DR, DRs] at hp
  obtain ⟨r, o, cur, TT, f, ys, h1, rfl, ⟨y, ys', rfl, h3, h4⟩, h5⟩ := hp
  obtain ⟨dd, hu, hagg, _⟩ := kind_of hT hTt
  have : (isAgg t).run P w = .ok false w := by rw [ha] at hagg; cases dd <;> simp_all [isAgg, run_underlying hu, descAgg]
  have hy : w.cell? ⟨r, o, none⟩ = some y := by
    have := (h5 0 y rfl).1
    rw [Nat.add_zero] at this
    simp [World.cell?, (hr.fz _ _ h1).1, this]
  exact ⟨σ, _, w, run_valN (x := y) (by simp [Instr.loadAt, Instr.sureAddr, loadVar, this, hy]), DR.v _ _ h3, hr, Ext.refl _ _ _⟩
theorem does_load_fpN {P : Program} {T : TT} (hT : TOk P T) {t : TypeId} {ti : TI} {cs : List D} {h : Hp} (hTt : T t = some ti) (ha : ti.agg = true) (hl : ti.size ≤ cs.length) :
    Does P (opLoad t) [.fp cs] h (.agg (D.vs (cs.take ti.size))) h := by
  refine ⟨h.grows_refl, ?_⟩
  intro σ w xs hr hx
  obtain ⟨x, rfl, hp⟩ := VRs_one hx
  simp only [VR, DR] at hp
  obtain ⟨r, o, cur, TT, f, ys, h1, rfl, h3, h4⟩ := hp
  obtain ⟨d, info, z, hu, hinfo, hsize, hagg, _, _, _⟩ := hT.ok _ _ hTt
  have hag : (isAgg t).run P w = .ok true w := by rw [ha] at hagg; cases d <;> simp_all [isAgg, run_underlying hu, descAgg]
  have hrun := run_loadCells_list (P := P) w ⟨r, o, none⟩ (ys.take ti.size) (fun j y hj => by
    rw [add_at]
    simp [World.cell?, (hr.fz _ _ h1).1, (h4.take _ j y hj).1])
  have hn : (ys.take ti.size).length = ti.size := by have := DRs_len h3; simp; omega
  rw [hn] at hrun
  refine ⟨σ, _, w, run_valN (x := .agg (ys.take ti.size).toArray) ?_, ?_, hr, Ext.refl _ _ _⟩
  · simp [Instr.loadAt, Instr.sureAddr, loadVar, hag, sizeOf, typeInfo, hinfo, hsize, hrun]
  · simp only [NextRel, VR]; exact ⟨_, rfl, by simpa using DRs.v _ _ (DRs_take ti.size h3)⟩
theorem vload_ok {P : Program} {T : TT} (hT : TOk P T) {t : TypeId} {v u : V} {h : Hp} (hv : vload T t v h = some u) : Does P (opLoad t) [v] h u h := by
  unfold vload at hv
  split at hv
  · split at hv
    · rename_i ti hTt
      split at hv
      · rename_i ha
        split at hv
        · rename_i l hl
          simp at hv; subst hv
          exact does_loadN hT hTt ha hl
        · cases hv
      · rename_i ha
        exact does_load1 hT hTt ha hv
    · cases hv
  · split at hv
    · rename_i ti hTt
      split at hv
      · rename_i ha
        split at hv
        · rename_i hl
          simp at hv; subst hv
          exact does_load_fpN hT hTt ha (Nat.le_of_ble_eq_true hl)
        · cases hv
      · rename_i ha
        split at hv
        · simp at hv; subst hv
          exact does_load_fp1 hT hTt ha
        · cases hv
    · cases hv
  · cases hv
theorem VCode.elim {P : Program} {ro : Option Nat} {K : Id → Prop} {c : Code} {st : St} {Q : X → St → Prop} (h : VCode P ro K c st Q) : VWp P ro K c st Q := h.ex
theorem VCode.intro {P : Program} {ro : Option Nat} {K : Id → Prop} {c : Code} {st : St} {Q : X → St → Prop} (h : VWp P ro K c st Q) : VCode P ro K c st Q := ⟨h⟩
/-! ### Forcing what is computed -/

def S.forceK (x : S) (k : S → Prop) : Prop := match x with
  | .bool b => k (.bool b)
  | .int a n => k (.int a n)
def Id.forceK (i : Id) (k : Id → Prop) : Prop := match i with
  | .loc n => natLit n fun n => k (.loc n)
  | .out i => k (.out i)
theorem Id.forceK_eq (i : Id) (k : Id → Prop) : i.forceK k = k i := by cases i <;> simp only [Id.forceK, natLit_eq]
def V.force1 (v : V) (k : V → Prop) : Prop := match v with
  | .undef => k .undef
  | .s x => x.forceK fun x => k (.s x)
  | .lit v => k (.lit v)
  | .nilptr => k .nilptr
  | .ptr i off => i.forceK fun i => k (.ptr i off)
  | .nilslice => k .nilslice
  | .slice i off esz len lim => i.forceK fun i => k (.slice i off esz len lim)
  | .gl i esz len => i.forceK fun i => k (.gl i esz len)
  | .nilmap => k .nilmap
  | .map i => i.forceK fun i => k (.map i)
  | .func fn f c => k (.func fn f c)
  | .yld i => k (.yld i)
  | .nilfunc => k .nilfunc
  | .agg cs => k (.agg cs)
  | .tuple cs => k (.tuple cs)
  | .fs a b c => k (.fs a b c)
  | .fp c => k (.fp c)
  | .fm a b => k (.fm a b)
theorem V.force1_eq (v : V) (k : V → Prop) : v.force1 k = k v := by
  cases v <;> simp only [V.force1, Id.forceK_eq]
  rename_i x; cases x <;> rfl
def forceVs : List V → (List V → Prop) → Prop
  | [], k => k []
  | v :: l, k => v.force1 fun v => forceVs l fun l => k (v :: l)
theorem forceVs_eq : ∀ (l : List V) (k : List V → Prop), forceVs l k = k l
  | [], _ => rfl
  | v :: l, k => by simp only [forceVs, V.force1_eq, forceVs_eq l]
def V.forceK (v : V) (k : V → Prop) : Prop := match v with
  | .undef => k .undef
  | .s x => x.forceK fun x => k (.s x)
  | .lit v => k (.lit v)
  | .nilptr => k .nilptr
  | .ptr i off => i.forceK fun i => k (.ptr i off)
  | .nilslice => k .nilslice
  | .slice i off esz len lim => i.forceK fun i => k (.slice i off esz len lim)
  | .gl i esz len => i.forceK fun i => k (.gl i esz len)
  | .nilmap => k .nilmap
  | .map i => i.forceK fun i => k (.map i)
  | .func fn f c => k (.func fn f c)
  | .yld i => k (.yld i)
  | .nilfunc => k .nilfunc
  | .agg cs => forceVs cs fun cs => k (.agg cs)
  | .tuple cs => k (.tuple cs)
  | .fs a b c => k (.fs a b c)
  | .fp c => k (.fp c)
  | .fm a b => k (.fm a b)
theorem V.forceK_eq (v : V) (k : V → Prop) : v.forceK k = k v := by
  cases v <;> simp only [V.forceK, forceVs_eq, Id.forceK_eq]
  rename_i x; cases x <;> rfl
def Blk.forceK (b : Blk) (k : Blk → Prop) : Prop := match b with
  | .flat rw l => k (.flat rw l)
  | .cells rw l => k (.cells rw l)
  | .map es => k (.map es)
  | .loop r => k (.loop r)
  | .mark => k .mark
  | .dead => k .dead
theorem Blk.forceK_eq (b : Blk) (k : Blk → Prop) : b.forceK k = k b := by cases b <;> rfl
def forceL : List Blk → (List Blk → Prop) → Prop
  | [], k => k []
  | b :: l, k => b.forceK fun b => forceL l fun l => k (b :: l)
theorem forceL_eq : ∀ (l : List Blk) (k : List Blk → Prop), forceL l k = k l
  | [], _ => rfl
  | b :: l, k => by simp only [forceL, Blk.forceK_eq, forceL_eq l]
def Hp.forceK (h : Hp) (k : Hp → Prop) : Prop := match h with
  | ⟨o, l⟩ => forceL l fun l => k ⟨o, l⟩
theorem Hp.forceK_eq (h : Hp) (k : Hp → Prop) : h.forceK k = k h := by cases h; simp only [Hp.forceK, forceL_eq]
def PT.putK {α : Type} (d x : α) : Nat → PT α → Nat → (PT α → Prop) → Prop
  | 0, t, _, k => k t
  | f + 1, t, n, k => match t with
    | .leaf => match n with
      | 0 => k (.node .leaf x .leaf)
      | n + 1 => match Nat.beq (n % 2) 0 with
        | true => PT.putK d x f .leaf (n / 2) (fun l => k (.node l d .leaf))
        | false => PT.putK d x f .leaf (n / 2) (fun r => k (.node .leaf d r))
    | .node l v r => match n with
      | 0 => k (.node l x r)
      | n + 1 => match Nat.beq (n % 2) 0 with
        | true => PT.putK d x f l (n / 2) (fun l => k (.node l v r))
        | false => PT.putK d x f r (n / 2) (fun r => k (.node l v r))
theorem PT.putK_eq {α : Type} (d x : α) : ∀ (f : Nat) (t : PT α) (n : Nat) (k : PT α → Prop), PT.putK d x f t n k = k (PT.put d x f t n)
  | 0, t, n, k => by cases n <;> rfl
  | f + 1, .leaf, 0, k => rfl
  | f + 1, .leaf, n + 1, k => by
    simp only [PT.putK, PT.put]
    by_cases h : n % 2 = 0
    · rw [h]; simp only [Nat.beq, PT.putK_eq d x f, if_true]
    · rw [if_neg h]
      have : Nat.beq (n % 2) 0 = false := by rw [show n % 2 = 1 by omega]; rfl
      rw [this]; simp only [PT.putK_eq d x f]
  | f + 1, .node l v r, 0, k => rfl
  | f + 1, .node l v r, n + 1, k => by
    simp only [PT.putK, PT.put]
    by_cases h : n % 2 = 0
    · rw [h]; simp only [Nat.beq, PT.putK_eq d x f, if_true]
    · rw [if_neg h]
      have : Nat.beq (n % 2) 0 = false := by rw [show n % 2 = 1 by omega]; rfl
      rw [this]; simp only [PT.putK_eq d x f]
def Fr.setK (fr : Fr) (d : Nat) (v : V) (K : Fr → Prop) : Prop := PT.putK .undef v (d + 1) fr d K
theorem Fr.setK_eq (fr : Fr) (d : Nat) (v : V) (K : Fr → Prop) : fr.setK d v K = K (fr.set d v) := PT.putK_eq _ _ _ _ _ _
def vput (n : Nat) (fr : Fr) (dst : Option Nat) (v : V) (K : Fr → Prop) : Prop :=
  match dst with
  | none => K fr
  | some d => match Nat.blt d n with
    | true => v.forceK fun v => fr.setK d v K
    | false => False
theorem vput_elim {n : Nat} {fr : Fr} {dst : Option Nat} {v : V} {K : Fr → Prop} (h : vput n fr dst v K) : (dst = none ∧ K fr) ∨ ∃ d, dst = some d ∧ d < n ∧ K (fr.set d v) := by
  unfold vput at h
  split at h
  · exact .inl ⟨rfl, h⟩
  · rename_i d
    split at h
    · rename_i hd
      rw [V.forceK_eq, Fr.setK_eq] at h
      exact .inr ⟨d, rfl, by simpa [Nat.blt_eq] using hd, h⟩
    · exact h.elim
/-! ### One operation -/

inductive AK where
  | ptr
  | sl (esz len : Nat)
def AK.mk : AK → Id → V
  | .ptr, i => .ptr i 0
  | .sl esz len, i => .gl i esz len
def valloc (T : TT) (o : Oper) (ρ : Operand → V) : Option (AK × List V) :=
  match o.op with
  | .alloc e => match T e with
    | some ti => match ti.zero.parts with
      | some cs => match cs.all V.cell1 with
        | true => some (.ptr, cs)
        | false => none
      | none => none
    | none => none
  | .box _ x => match (ρ x).parts with
    | some cs => match cs.all V.cell1 with
      | true => some (.ptr, cs)
      | false => none
    | none => none
  | .buildSlice t len parts => match T t with
    | some ⟨.slice _ esz _ zero, _, _, _⟩ => match Nat.ble (len * esz) 16777216, vfill (fun i => some (i * esz, esz)) (zeroAt zero esz (len * esz)) (parts.toList.map fun p => (p.1, ρ p.2)) with
      | true, some cs => match cs.all V.cell1 with
        | true => some (.sl esz len, cs)
        | false => none
      | _, _ => none
    | _ => none
  | _ => none
def AllocOk (P : Program) (o : Oper) (ρv : Operand → V) (k : AK) (cs : List V) : Prop :=
  (∀ c, o.op ≠ .defer c) ∧ ∀ (σ : Sig) (w : World) (ρ : Operand → Value), (∀ x, VR σ (ρv x) (ρ x)) → ∃ (x : Value) (a : Array Value) (Ty : TypeId), (execOp ρ o).run P w = .ok (.value x) (w.alloc (.cells a Ty)) ∧ VRs σ cs a.toList ∧ (∀ y ∈ a.toList, y.oneCell' = true) ∧
    ∀ (σ1 : Sig) (id : Id), σ1 id = some ⟨w.heap.size, 0, a.size⟩ → VR σ1 (k.mk id) x
theorem valloc_ok {P : Program} {T : TT} (hT : TOk P T) {o : Oper} {ρv : Operand → V} {k : AK} {cs : List V} (h : valloc T o ρv = some (k, cs)) : AllocOk P o ρv k cs := by
  unfold valloc at h
  split at h
  · rename_i e ho
    split at h
    · rename_i ti hTe
      split at h
      · rename_i cs' hz
        split at h
        · rename_i h1
          simp at h; obtain ⟨rfl, rfl⟩ := h
          refine ⟨by rw [ho]; simp, fun σ w ρ _ => ?_⟩
          obtain ⟨d, info, z, hu, hinfo, hsize, _, hzero, hzv, _⟩ := hT.ok _ _ hTe
          have hp := VR.parts (hzv σ) hz
          refine ⟨.pointer (some ⟨w.heap.size, 0, none⟩), z.cells, e, ?_, hp, cell1_all hp h1, fun σ' id hid => by simp only [AK.mk, VR]; exact ⟨_, hid, rfl⟩⟩
          simp only [execOp, ho]
          simp [Instr.alloc, zeroValue, typeInfo, hinfo, hzero, newVar, newRow]
        · cases h
      · cases h
    · cases h
  · rename_i e x ho
    split at h
    · rename_i cs' hz
      split at h
      · rename_i h1
        simp at h; obtain ⟨rfl, rfl⟩ := h
        refine ⟨by rw [ho]; simp, fun σ w ρ hρ => ?_⟩
        have hp := VR.parts (hρ x) hz
        refine ⟨.pointer (some ⟨w.heap.size, 0, none⟩), (ρ x).cells, e, ?_, hp, cell1_all hp h1, fun σ' id hid => by simp only [AK.mk, VR]; exact ⟨_, hid, rfl⟩⟩
        simp only [execOp, ho]
        simp [Instr.box, newVar, newRow]
      · cases h
    · cases h
  · rename_i t len parts ho
    split at h
    · rename_i e esz bytes zero s_ a_ z_ hTt
      split at h
      · rename_i cs' hle hf
        split at h
        · rename_i h1
          simp at h; obtain ⟨rfl, rfl⟩ := h
          refine ⟨by rw [ho]; simp, fun σ w ρ hρ => ?_⟩
          have hle := Nat.le_of_ble_eq_true hle
          obtain ⟨hu, hp, info, z, hinfo, hsize, hbytes, hzero, hzc, hzl, hzsz⟩ := slice_kind hT hTt
          obtain ⟨hz1, _⟩ := zeroAt_ok (σ := σ) (n := len * esz) hzc hzl hp
          have hpr : PartsRel σ (parts.toList.map fun p => (p.1, ρv p.2)) (parts.map fun (i, x) => (i, ρ x)).toList := by simpa using PartsRel_map hρ parts.toList
          obtain ⟨b, hb, hbr⟩ := vfill_ok (σ := σ) (place' := fun i => some (i * esz, esz)) (fun i p h => h) _ _ _ _ _ hpr hz1 hf
          have hbl : b.size = len * esz := by
            have h3 := VRs.length hbr
            have h4 : ∀ (ps : List (Nat × V)) (l r : List V), vfill (fun i => some (i * esz, esz)) l ps = some r → r.length = l.length := by
              intro ps
              induction ps with
              | nil => intro l r hv; simp [vfill] at hv; subst hv; rfl
              | cons p ps ih =>
                intro l r hv
                obtain ⟨i, v⟩ := p
                simp only [vfill] at hv
                split at hv
                · cases hv
                · split at hv
                  · rw [ih _ _ hv, setMany_length]
                  · cases hv
            have := h4 _ _ _ hf
            simp [zeroAt] at this h3
            omega
          refine ⟨.slice (some ⟨w.heap.size, 0, none⟩) len len, b, e, ?_, hbr, cell1_all hbr h1, fun σ' id hid => by simp only [AK.mk, VR]; exact ⟨hp, .inr ⟨_, len, 0, hid, Nat.le_refl _, by simp [hbl], fun _ => rfl, rfl⟩⟩⟩
          have hno : ¬ (16777216 < len * esz) := by omega
          simp only [execOp, ho]
          generalize (parts.map fun (i, x) => (i, ρ x)) = ps at hb ⊢
          by_cases h0 : len * esz = 0
          · rw [h0] at hb
            have h00 : ∀ f : Nat → Value, (Array.map f (Array.range 0)) = (#[] : Array Value) := by intro f; simp
            rw [h00] at hb
            simp only [Instr.buildSlice, run_underlying hu, Sem.run_bind, Result.andThen_ok, sizeOf, typeInfo, hinfo, hsize, run_program, Sem.run_pure, h0]
            simp [newRow]
            rw [h00, hb]
            simp
          · simp only [Instr.buildSlice, run_underlying hu, Sem.run_bind, Result.andThen_ok, sizeOf, typeInfo, zeroValue, hinfo, hsize, run_program, Sem.run_pure, hzero]
            simp only [h0, if_false, hno]
            simp [hinfo, hzero, hb, newRow]
        · cases h
      · cases h
    · cases h
  · cases h
theorem AllocOk.does {P : Program} {ro : Option Nat} {o : Oper} {ρv : Operand → V} {k : AK} {cs : List V} (ha : AllocOk P o ρv k cs) (h : Hp) : OpDoes P ro o ρv h (k.mk h.fresh) (h.push (mkBlk cs)) := by
  refine opDoes_run ha.1 (h.grows_push _) fun σ w ρ hr hρ => ?_
  obtain ⟨x, a, Ty, hrun, hv, h1, hx⟩ := ha.2 σ w ρ hρ
  obtain ⟨r1, r2⟩ := new_row hr (T := Ty) hv h1
  exact ⟨_, _, _, hrun, hx _ _ (Sig.put_same _ _ _), r1, r2⟩
def vglob (P : Program) (o : Oper) (ρ : Operand → V) (h : Hp) (K : V → Hp → Prop) : Prop :=
  match o.op with
  | .store t a x => VMem P (opStore t) [ρ a, ρ x] h fun v h' => h'.forceK fun h' => K v h'
  | .makeSlice t l c => VMem P (opMakeSlice t) [ρ l, ρ c] h fun v h' => h'.forceK fun h' => K v h'
  | .slice t x none none none => VMem P (opSliceArr t) [ρ x] h K
  | .call c => match c.callee with
    | .builtin .append => forceVs (c.args.toList.map ρ) fun as0 => VMem P (opAppend c.argTypes o.type) as0 h fun v h' => h'.forceK fun h' => K v h'
    | .builtin .copy => forceVs (c.args.toList.map ρ) fun as0 => VMem P (opCopy c.argTypes o.type) as0 h fun v h' => h'.forceK fun h' => K v h'
    | .builtin .clear => VMem P (opClear c.argTypes o.type) (c.args.toList.map ρ) h fun v h' => h'.forceK fun h' => K v h'
    | .value f => match ρ f with
      | .func (.func g) first caps => forceVs (c.args.toList.map ρ) fun as0 => VCall P g (first ++ as0 ++ caps) h fun v h' => h'.forceK fun h' => K v h'
      | .yld i => VYield P i (c.args.toList.map ρ) h fun v h' => h'.forceK fun h' => K v h'
      | _ => False
    | _ => False
  | .makeMap _ none => (h.push (.map [])).forceK fun h' => K (.map h.fresh) h'
  | .mapUpdate t m k x => VMem P (opMapUpdate t) [ρ m, ρ k, ρ x] h fun v h' => h'.forceK fun h' => K v h'
  | _ => False
def vaggeq (P : Program) (op : BinOp) (t : TypeId) (x y : V) : Option V :=
  match op with
  | .eql => match eqTop P t with
    | some sh => match veqSh sh x y with
      | some b => some (.s (.bool b))
      | none => none
    | none => match eqTopA P t with
      | some sh => match veqSh sh x y with
        | some b => some (.s (.bool b))
        | none => none
      | none => none
  | .neq => match eqTop P t with
    | some sh => match veqSh sh x y with
      | some b => some (.s (.bool (!b)))
      | none => none
    | none => match eqTopA P t with
      | some sh => match veqSh sh x y with
        | some b => some (.s (.bool (!b)))
        | none => none
      | none => none
  | _ => none
structure VAgg (P : Program) (op : BinOp) (t : TypeId) (x y : V) (K : V → Prop) : Prop where
  ex : ∃ v, vaggeq P op t x y = some v ∧ K v
theorem VAgg.intro {P : Program} {op : BinOp} {t : TypeId} {x y v : V} {K : V → Prop} (h : vaggeq P op t x y = some v) (hK : K v) : VAgg P op t x y K := ⟨v, h, hK⟩
def vopK (P : Program) (T : TT) (o : Oper) (ρ : Operand → V) (h : Hp) (K : V → Hp → Prop) : Prop :=
  match vpure T o ρ with
  | .val v => K v h
  | .ite b x y => VIte b (K x h) (K y h)
  | .need b v => VNeed b (K v h)
  | .arith k n => VArith k n (fun m => K (.s (.int k m)) h)
  | .any p => VAny p (fun v => v.forceK fun v => K v h)
  | .no => match valloc T o ρ with
    | some (k, cs) => (h.push (mkBlk cs)).forceK fun h' => K (k.mk h.fresh) h'
    | none => match o.op with
      | .load t a => VLd T t (ρ a) h fun v => K v h
      | .lookup t m k c => match ρ m with
        | .map i => VLook P T t c i (ρ k) h fun v => K v h
        | .fm ks vs => VLookF P T t c ks vs (ρ k) fun v => K v h
        | _ => False
      | .binOp op t x y _ => match ρ x with
        | .agg xs => match ρ y with
          | .agg ys => VAgg P op t (.agg xs) (.agg ys) fun v => K v h
          | _ => False
        | _ => False
      | _ => vglob P o ρ h K
theorem Does.op {P : Program} {ro : Option Nat} {o : Oper} {ρv : Operand → V} {h h' : Hp} {v : V} {f : List Value → Sem Next} {xs : List Operand} (hd : ∀ c, o.op ≠ .defer c)
    (hD : Does P f (xs.map ρv) h v h') (he : ∀ ρ : Operand → Value, execOp ρ o = f (xs.map ρ)) : OpDoes P ro o ρv h v h' :=
  opDoes_run hd hD.1 fun σ w ρ hr hρ => by rw [he]; exact hD.2 σ w _ hr (VRs_map2 hρ xs)
theorem VRs_appendAll {σ : Sig} {a b c : List V} {a' b' c' : List Value} (h1 : VRs σ a a') (h2 : VRs σ b b') (h3 : VRs σ c c') : VRs σ (a ++ b ++ c) (a' ++ b' ++ c') := VRs.append (VRs.append h1 h2) h3
theorem vglob_ok {P : Program} {ro : Option Nat} {o : Oper} {ρv : Operand → V} {h : Hp} {K : V → Hp → Prop} (hk : vglob P o ρv h K) : ∃ v h', K v h' ∧ OpDoes P ro o ρv h v h' := by
  unfold vglob at hk
  split at hk
  · rename_i t a x ho
    obtain ⟨v, h', hD, hk⟩ := hk
    rw [Hp.forceK_eq] at hk
    exact ⟨v, h', hk, Does.op (xs := [a, x]) (by rw [ho]; simp) hD (fun ρ => by simp only [execOp, ho]; rfl)⟩
  · rename_i t l c ho
    obtain ⟨v, h', hD, hk⟩ := hk
    rw [Hp.forceK_eq] at hk
    exact ⟨v, h', hk, Does.op (xs := [l, c]) (by rw [ho]; simp) hD (fun ρ => by simp only [execOp, ho]; rfl)⟩
  · rename_i t x ho
    obtain ⟨v, h', hD, hk⟩ := hk
    exact ⟨v, h', hk, Does.op (xs := [x]) (by rw [ho]; simp) hD (fun ρ => by simp only [execOp, ho]; rfl)⟩
  · rename_i c ho
    have hd : ∀ c', o.op ≠ .defer c' := by rw [ho]; simp
    split at hk
    · rename_i hc
      rw [forceVs_eq] at hk
      obtain ⟨v, h', hD, hk⟩ := hk
      rw [Hp.forceK_eq] at hk
      refine ⟨v, h', hk, Does.op (xs := c.args.toList) hd hD (fun ρ => ?_)⟩
      simp only [execOp, ho, resolve, hc, pure_bind, invoke, builtin, opAppend, valN]
      congr 2
      rw [← Array.toList_map, Array.toArray_toList]
    · rename_i hc
      rw [forceVs_eq] at hk
      obtain ⟨v, h', hD, hk⟩ := hk
      rw [Hp.forceK_eq] at hk
      refine ⟨v, h', hk, Does.op (xs := c.args.toList) hd hD (fun ρ => ?_)⟩
      simp only [execOp, ho, resolve, hc, pure_bind, invoke, builtin, opCopy, valN]
      congr 2
      rw [← Array.toList_map, Array.toArray_toList]
    · rename_i hc
      obtain ⟨v, h', hD, hk⟩ := hk
      rw [Hp.forceK_eq] at hk
      refine ⟨v, h', hk, Does.op (xs := c.args.toList) hd hD (fun ρ => ?_)⟩
      simp only [execOp, ho, resolve, hc, pure_bind, invoke, builtin, opClear, valN]
      congr 2
      rw [← Array.toList_map, Array.toArray_toList]
    · rename_i f hc
      split at hk
      · rename_i g first caps hf
        rw [forceVs_eq] at hk
        obtain ⟨v, h', ⟨hent, hgr, hV⟩, hk⟩ := hk
        rw [Hp.forceK_eq] at hk
        refine ⟨v, h', hk, hgr, ?_⟩
        intro σ a w next Q hr hρ hn
        refine ⟨fun _ _ => trivial, ?_⟩
        rw [semAt_fl hd]
        have hfv := hρ f
        rw [hf] at hfv
        simp only [VR] at hfv
        obtain ⟨f', c', hfe, hf1, hf2⟩ := hfv
        have hargs := VRs_appendAll hf1 (VRs_map2 hρ c.args.toList) hf2
        have hrun : (execOp a.eval o).run P w = .ok (.enter g (f' ++ c.args.map a.eval ++ c')) w := by
          simp only [execOp, ho, resolve, hc, hfe, Deferred.ofValue, pure_bind, invoke]
          exact hent _ _
        rw [hrun]
        simp only [Oper.uponIn]
        refine ⟨fun hx => by simp [Fl, Fence.wide] at hx, ?_⟩
        have hcall := hV σ w _ hr hargs
        have harr : (f'.toList ++ c.args.toList.map a.eval ++ c'.toList).toArray = f' ++ c.args.map a.eval ++ c' := by
          apply Array.ext'; simp
        rw [harr] at hcall
        refine CallsIn.mono (F := Fl ro) hcall ?_
        rintro e w' ⟨σ', x, rfl, hx, hr', hext⟩
        exact hn σ' x w' hx hr' hext
      · rename_i i hf
        obtain ⟨v, h', ⟨hgr, hV⟩, hk⟩ := hk
        rw [Hp.forceK_eq] at hk
        refine ⟨v, h', hk, hgr, ?_⟩
        intro σ a w next Q hr hρ hn
        refine ⟨fun _ _ => trivial, ?_⟩
        rw [semAt_fl hd]
        have hfv := hρ f
        rw [hf] at hfv
        simp only [VR] at hfv
        obtain ⟨e, he, hfe⟩ := hfv
        have hargs := VRs_map2 hρ c.args.toList
        obtain ⟨fn, tmps, assign, body, hy, hround⟩ := hV σ w e _ hr he hargs
        have harr : (c.args.toList.map a.eval).toArray = c.args.map a.eval := by apply Array.ext'; simp
        rw [harr] at hy
        have hrun : (execOp a.eval o).run P w = .ok (.round e.rid fn tmps assign body) w := by
          simp only [execOp, ho, resolve, hc, hfe, Deferred.ofValue, pure_bind, invoke]
          simpa using hy
        rw [hrun]
        simp only [Oper.uponIn]
        refine ⟨fun hx => by simp [Fl, Fence.wide] at hx, ?_⟩
        refine RoundIn.mono (F := Fl ro) hround ?_
        rintro en w' ⟨σ', x, rfl, hx, hr', hext⟩
        exact hn σ' x w' hx hr' hext
      · exact hk.elim
    · exact hk.elim
  · rename_i t ho
    rw [Hp.forceK_eq] at hk
    exact ⟨_, _, hk, Does.op (xs := []) (by rw [ho]; simp) (does_makeMap (t := t)) (fun ρ => by simp only [execOp, ho]; rfl)⟩
  · rename_i t m k x ho
    obtain ⟨v, h', hD, hk⟩ := hk
    rw [Hp.forceK_eq] at hk
    exact ⟨v, h', hk, Does.op (xs := [m, k, x]) (by rw [ho]; simp) hD (fun ρ => by simp only [execOp, ho]; rfl)⟩
  · exact hk.elim
theorem run_eqGuard_agg {P : Program} {w : World} {op : BinOp} {t : TypeId} {xo yo : Operand} {a b : Array Value} {sh : Sh} (h : eqTop P t = some sh) : (eqGuard op t xo yo (.agg a) (.agg b)).run P w = .ok () w := by
  unfold eqGuard
  split <;> simp [eqTop_guard h]
theorem run_eqGuard_aggA {P : Program} {w : World} {op : BinOp} {t : TypeId} {xo yo : Operand} {a b : Array Value} {sh : Sh} (h : eqTopA P t = some sh) : (eqGuard op t xo yo (.agg a) (.agg b)).run P w = .ok () w := by
  unfold eqGuard
  split <;> simp [eqTopA_guard h]
theorem vaggeq_real {P : Program} {o : Oper} {op : BinOp} {t : TypeId} {x y : Operand} {yt : TypeId} {ρv : Operand → V} {xs ys : List V} {v : V} (ho : o.op = .binOp op t x y yt) (hx : ρv x = .agg xs) (hy : ρv y = .agg ys) (hv : vaggeq P op t (.agg xs) (.agg ys) = some v) :
    (∀ c, o.op ≠ .defer c) ∧ ∀ (σ : Sig) (w : World) (ρ : Operand → Value), (∀ x, VR σ (ρv x) (ρ x)) → ∃ x, (execOp ρ o).run P w = .ok (.value x) w ∧ VR σ v x := by
  refine ⟨by rw [ho]; simp, fun σ w ρ hρ => ?_⟩
  have h1 := hρ x
  have h2 := hρ y
  rw [hx] at h1
  rw [hy] at h2
  have h1' := h1
  have h2' := h2
  simp only [VR] at h1' h2'
  obtain ⟨a, hae, _⟩ := h1'
  obtain ⟨b, hbe, _⟩ := h2'
  unfold vaggeq at hv
  split at hv
  · split at hv
    · rename_i sh hsh
      split at hv
      · rename_i r hr
        simp at hv; subst hv
        have he := eqTop_ok (w := w) hsh h1 h2 hr
        rw [hae, hbe] at he
        refine ⟨.bool r, ?_, rfl⟩
        simp only [execOp, ho, hae, hbe, Sem.run_bind, run_eqGuard_agg hsh, Result.andThen_ok]
        have : (binOp .eql t (.agg a) (.agg b)).run P w = .ok (.bool r) w := by
          show (do pure (Value.bool (← Op.equal t (.agg a) (.agg b))) : Sem Value).run P w = _
          rw [Sem.run_bind, he]; rfl
        rw [this]; rfl
      · cases hv
    · split at hv
      · rename_i sh hsh
        split at hv
        · rename_i r hr
          simp at hv; subst hv
          have he := eqTopA_ok (w := w) hsh h1 h2 hr
          rw [hae, hbe] at he
          refine ⟨.bool r, ?_, rfl⟩
          simp only [execOp, ho, hae, hbe, Sem.run_bind, run_eqGuard_aggA hsh, Result.andThen_ok]
          have : (binOp .eql t (.agg a) (.agg b)).run P w = .ok (.bool r) w := by
            show (do pure (Value.bool (← Op.equal t (.agg a) (.agg b))) : Sem Value).run P w = _
            rw [Sem.run_bind, he]; rfl
          rw [this]; rfl
        · cases hv
      · cases hv
  · split at hv
    · rename_i sh hsh
      split at hv
      · rename_i r hr
        simp at hv; subst hv
        have he := eqTop_ok (w := w) hsh h1 h2 hr
        rw [hae, hbe] at he
        refine ⟨.bool (!r), ?_, rfl⟩
        simp only [execOp, ho, hae, hbe, Sem.run_bind, run_eqGuard_agg hsh, Result.andThen_ok]
        have : (binOp .neq t (.agg a) (.agg b)).run P w = .ok (.bool (!r)) w := by
          show (do pure (Value.bool (!(← Op.equal t (.agg a) (.agg b)))) : Sem Value).run P w = _
          rw [Sem.run_bind, he]; rfl
        rw [this]; rfl
      · cases hv
    · split at hv
      · rename_i sh hsh
        split at hv
        · rename_i r hr
          simp at hv; subst hv
          have he := eqTopA_ok (w := w) hsh h1 h2 hr
          rw [hae, hbe] at he
          refine ⟨.bool (!r), ?_, rfl⟩
          simp only [execOp, ho, hae, hbe, Sem.run_bind, run_eqGuard_aggA hsh, Result.andThen_ok]
          have : (binOp .neq t (.agg a) (.agg b)).run P w = .ok (.bool (!r)) w := by
            show (do pure (Value.bool (!(← Op.equal t (.agg a) (.agg b)))) : Sem Value).run P w = _
            rw [Sem.run_bind, he]; rfl
          rw [this]; rfl
        · cases hv
      · cases hv
  · cases hv
theorem look_real {P : Program} {T : TT} (hT : TOk P T) {o : Oper} {t : TypeId} {m k : Operand} {c : Bool} {ρv : Operand → V} {i : Id} {es : List (V × V)} {v : V} (ho : o.op = .lookup t m k c) (hm : ρv m = .map i) (hL : Look P T t c (ρv k) es v) :
    (∀ c, o.op ≠ .defer c) ∧ ∀ (σ : Sig) (w : World) (ρ : Operand → Value), (∀ e, σ i = some e → ∃ ob, w.heap[e.rid]? = some ob ∧ BlkRel σ e (.map es) ob) → (∀ x, VR σ (ρv x) (ρ x)) → ∃ x, (execOp ρ o).run P w = .ok (.value x) w ∧ VR σ v x := by
  refine ⟨by rw [ho]; simp, fun σ w ρ hb hρ => ?_⟩
  have h1 := hρ m
  rw [hm] at h1
  obtain ⟨x, hx, hv⟩ := look_run hT hL h1 (hρ k) hb
  exact ⟨x, by simp only [execOp, ho, Sem.run_bind, hx]; rfl, hv⟩
def FzIn (σ : Sig) (w : World) : Prop := ∀ r o, σ.fz r = some o → w.heap[r]? = some o
theorem Rel.fzIn {σ : Sig} {g : Id → Option Blk} {w : World} (hr : Rel σ g w) : FzIn σ w := fun r o h => (hr.fz r o h).1
theorem loadf_real {P : Program} {T : TT} (hT : TOk P T) {o : Oper} {t : TypeId} {a : Operand} {ρv : Operand → V} {cs : List D} {v : V} {h : Hp} (ho : o.op = .load t a) (ha : ρv a = .fp cs) (hv : vload T t (.fp cs) h = some v) :
    (∀ c, o.op ≠ .defer c) ∧ ∀ (σ : Sig) (w : World) (ρ : Operand → Value), FzIn σ w → (∀ x, VR σ (ρv x) (ρ x)) → ∃ x, (execOp ρ o).run P w = .ok (.value x) w ∧ VR σ v x := by
  refine ⟨by rw [ho]; simp, fun σ w ρ hfz hρ => ?_⟩
  have hx := hρ a
  rw [ha] at hx
  simp only [VR, DR] at hx
  obtain ⟨r, of, cur, TT, f, ys, h1, hpe, h3, h4⟩ := hx
  have hcell : ∀ (j : Nat) (y : Value), ys[j]? = some y → w.cell? ((⟨r, of, none⟩ : Addr).add j) = some y := fun j y hj => by
    rw [add_at]
    simp [World.cell?, hfz _ _ h1, (h4 j y hj).1]
  unfold vload at hv
  simp only at hv
  split at hv
  · rename_i ti hTt
    split at hv
    · rename_i hag0
      split at hv
      · rename_i hle
        simp at hv; subst hv
        obtain ⟨d, info, z, hu, hinfo, hsize, hagg, _, _, _⟩ := hT.ok _ _ hTt
        have hag : (isAgg t).run P w = .ok true w := by rw [hag0] at hagg; cases d <;> simp_all [isAgg, run_underlying hu, descAgg]
        have hrun := run_loadCells_list (P := P) w ⟨r, of, none⟩ (ys.take ti.size) (fun j y hj => hcell j y (by rw [List.getElem?_take] at hj; split at hj; exact hj; cases hj))
        have hn : (ys.take ti.size).length = ti.size := by have := DRs_len h3; have := Nat.le_of_ble_eq_true hle; simp; omega
        rw [hn] at hrun
        refine ⟨.agg (ys.take ti.size).toArray, ?_, by simp only [VR]; exact ⟨_, rfl, by simpa using DRs.v _ _ (DRs_take ti.size h3)⟩⟩
        simp only [execOp, ho]
        simp [Instr.loadAt, Instr.sureAddr, loadVar, hpe, hag, sizeOf, typeInfo, hinfo, hsize, hrun]
      · cases hv
    · rename_i hag0
      split at hv
      · rename_i dd cs'
        simp at hv; subst hv
        simp only [DRs] at h3
        obtain ⟨y, ys', rfl, h3, _⟩ := h3
        obtain ⟨d, hu, hagg, _⟩ := kind_of hT hTt
        have : (isAgg t).run P w = .ok false w := by rw [hag0] at hagg; cases d <;> simp_all [isAgg, run_underlying hu, descAgg]
        have hc := hcell 0 y rfl
        rw [add_at, Nat.add_zero] at hc
        refine ⟨y, ?_, DR.v _ _ h3⟩
        simp only [execOp, ho]
        simp [Instr.loadAt, Instr.sureAddr, loadVar, hpe, this, hc]
      · cases hv
  · cases hv
theorem lookf_real {P : Program} {T : TT} (hT : TOk P T) {o : Oper} {t : TypeId} {m k : Operand} {c : Bool} {ρv : Operand → V} {ks vs : List D} {v : V} (ho : o.op = .lookup t m k c) (hm : ρv m = .fm ks vs) (hL : Look P T t c (ρv k) ((D.vs ks).zip (D.vs vs)) v) :
    (∀ c, o.op ≠ .defer c) ∧ ∀ (σ : Sig) (w : World) (ρ : Operand → Value), FzIn σ w → (∀ x, VR σ (ρv x) (ρ x)) → ∃ x, (execOp ρ o).run P w = .ok (.value x) w ∧ VR σ v x := by
  refine ⟨by rw [ho]; simp, fun σ w ρ hb hρ => ?_⟩
  have h1 := hρ m
  rw [hm] at h1
  obtain ⟨x, hx, hv⟩ := look_run_fm hT hL h1 (hρ k) hb
  exact ⟨x, by simp only [execOp, ho, Sem.run_bind, hx]; rfl, hv⟩
def PRes.is (r : PRes) (v : V) : Prop := r = .val v ∨ (∃ b, r = .need b v ∧ b = true) ∨ (∃ k n, r = .arith k n ∧ v = .s (.int k (k.wrap n))) ∨ (∃ b x y, r = .ite b x y ∧ v = if b then x else y) ∨ (∃ p, r = .any p ∧ p v)
theorem pure_real {P : Program} {T : TT} (hT : TOk P T) {o : Oper} {ρv : Operand → V} {v : V} (hv : (vpure T o ρv).is v) :
    (∀ c, o.op ≠ .defer c) ∧ ∀ σ w (ρ : Operand → Value), (∀ x, VR σ (ρv x) (ρ x)) → ∃ x, (execOp ρ o).run P w = .ok (.value x) w ∧ VR σ v x := by
  refine ⟨?_, fun σ w ρ hρ => ?_⟩
  · intro c hc
    unfold vpure at hv
    rw [hc] at hv
    simp [PRes.is] at hv
  · have hp := vpure_ok hT (w := w) (o := o) hρ
    rcases hv with hv | ⟨b, hv, hb⟩ | ⟨k, n, hv, rfl⟩ | ⟨b, x, y, hv, rfl⟩ | ⟨p, hv, hb⟩
    · rw [hv] at hp; exact hp
    · rw [hv] at hp; exact hp hb
    · rw [hv] at hp; exact hp
    · rw [hv] at hp; exact hp
    · rw [hv] at hp; exact hp _ hb
theorem pure_does {P : Program} {T : TT} (hT : TOk P T) {ro : Option Nat} {o : Oper} {ρv : Operand → V} {v : V} (hv : (vpure T o ρv).is v) (h : Hp) : OpDoes P ro o ρv h v h := by
  obtain ⟨hd, hr⟩ := pure_real (P := P) hT hv
  refine opDoes_run hd h.grows_refl fun σ w ρ hrel hρ => ?_
  obtain ⟨x, hx, hxr⟩ := hr σ w ρ hρ
  exact ⟨σ, _, w, hx, hxr, hrel, Ext.refl _ _ _⟩
theorem vopK_ok {P : Program} {T : TT} (hT : TOk P T) {ro : Option Nat} {o : Oper} {ρv : Operand → V} {h : Hp} {K : V → Hp → Prop} (hk : vopK P T o ρv h K) : ∃ v h', K v h' ∧ OpDoes P ro o ρv h v h' := by
  unfold vopK at hk
  split at hk
  · rename_i v hv; exact ⟨v, h, hk, pure_does hT (.inl hv) h⟩
  · rename_i b x y hv
    have hk := hk.elim
    cases b with
    | true => exact ⟨x, h, hk.1 rfl, pure_does hT (.inr (.inr (.inr (.inl ⟨true, x, y, hv, rfl⟩)))) h⟩
    | false => exact ⟨y, h, hk.2 rfl, pure_does hT (.inr (.inr (.inr (.inl ⟨false, x, y, hv, rfl⟩)))) h⟩
  · rename_i b v hv; exact ⟨v, h, hk.ex.2, pure_does hT (.inr (.inl ⟨b, hv, hk.ex.1⟩)) h⟩
  · rename_i k n hv; exact ⟨_, h, hk.ex, pure_does hT (.inr (.inr (.inl ⟨k, n, hv, rfl⟩))) h⟩
  · rename_i p hv
    obtain ⟨v, hp, hk⟩ := hk
    rw [V.forceK_eq] at hk
    exact ⟨v, h, hk, pure_does hT (.inr (.inr (.inr (.inr ⟨p, hv, hp⟩)))) h⟩
  · split at hk
    · rename_i k cs ha
      rw [Hp.forceK_eq] at hk
      exact ⟨_, _, hk, (valloc_ok hT ha).does h⟩
    · split at hk
      · rename_i t a ho
        obtain ⟨v, hl, hk⟩ := hk
        exact ⟨v, h, hk, Does.op (xs := [a]) (by rw [ho]; simp) (vload_ok hT hl) (fun ρ => by simp only [execOp, ho]; rfl)⟩
      · rename_i t m k c ho
        split at hk
        · rename_i i hm
          obtain ⟨es, v, hb, hL, hk⟩ := hk
          obtain ⟨hd, hr⟩ := look_real hT ho hm hL
          refine ⟨v, h, hk, opDoes_run hd h.grows_refl fun σ w ρ hrel hρ => ?_⟩
          obtain ⟨x, hx, hxr⟩ := hr σ w ρ (fun e he => (hrel.blk i e _ he hb).2) hρ
          exact ⟨σ, _, w, hx, hxr, hrel, Ext.refl _ _ _⟩
        · rename_i ks vs hm
          obtain ⟨v, hL, hk⟩ := hk
          obtain ⟨hd, hr⟩ := lookf_real (P := P) hT ho hm hL
          refine ⟨v, h, hk, opDoes_run hd h.grows_refl fun σ w ρ hrel hρ => ?_⟩
          obtain ⟨x, hx, hxr⟩ := hr σ w ρ hrel.fzIn hρ
          exact ⟨σ, _, w, hx, hxr, hrel, Ext.refl _ _ _⟩
        · exact hk.elim
      · rename_i op t x y yt ho
        split at hk
        · rename_i xs hx
          split at hk
          · rename_i ys hy
            obtain ⟨v, hv, hk⟩ := hk
            obtain ⟨hd, hr⟩ := vaggeq_real (P := P) ho hx hy hv
            refine ⟨v, h, hk, opDoes_run hd h.grows_refl fun σ w ρ hrel hρ => ?_⟩
            obtain ⟨x, hx, hxr⟩ := hr σ w ρ hρ
            exact ⟨σ, _, w, hx, hxr, hrel, Ext.refl _ _ _⟩
          · exact hk.elim
        · exact hk.elim
      · exact vglob_ok hk
end Go.Vm

namespace Go.Vm

def gslot (all : List Oper) (j : Nat) : Option Nat := match all[j]? with
  | some o => o.dst
  | none => none
def vops1 (P : Program) (T : TT) (n : Nat) (all : List Oper) (o : Oper) (ih : Fr → Hp → (Fr → Hp → Prop) → Prop) (fr : Fr) (h : Hp) (K : Fr → Hp → Prop) : Prop :=
  match o.guard with
    | none => vopK P T o (ev fr) h fun v h' => vput n fr o.dst v fun fr' => ih fr' h' K
    | some (j, want) => match gslot all j with
      | some d => match fr.at d with
        | .s (.bool b) => VIte b
            (fr.setK d (.s (.bool true)) fun fr => match want with
              | true => vopK P T o (ev fr) h fun v h' => vput n fr o.dst v fun fr' => ih fr' h' K
              | false => vput n fr o.dst (.tuple []) fun fr' => ih fr' h K)
            (fr.setK d (.s (.bool false)) fun fr => match want with
              | false => vopK P T o (ev fr) h fun v h' => vput n fr o.dst v fun fr' => ih fr' h' K
              | true => vput n fr o.dst (.tuple []) fun fr' => ih fr' h K)
        | .tuple _ => vput n fr o.dst (.tuple []) fun fr' => ih fr' h K
        | _ => False
      | none => False
def vops (P : Program) (T : TT) (n : Nat) (all : List Oper) (os : List Oper) : Fr → Hp → (Fr → Hp → Prop) → Prop :=
  List.rec (motive := fun _ => Fr → Hp → (Fr → Hp → Prop) → Prop) (fun fr h K => K fr h) (fun o _ ih => vops1 P T n all o ih) os
theorem StRel.set_same {σ : Sig} {st : St} {a : Act} {w : World} (hs : StRel σ st a w) {d : Nat} {v : V} (hv : st.fr.at d = v) : StRel σ { st with fr := st.fr.set d v } a w :=
  ⟨hs.rel, fun i => by
    rw [Fr.at_set]
    by_cases e : i = d
    · subst e; rw [if_pos rfl, ← hv]; exact hs.fr _
    · rw [if_neg e]; exact hs.fr i, hs.size, hs.marks⟩
theorem yielded_of {ops : Array Oper} {σ : Sig} {st : St} {a : Act} {w : World} (hs : StRel σ st a w) {j d : Nat} {b : Bool} (hg : gslot ops.toList j = some d) (hv : st.fr.at d = .s (.bool b)) : yielded ops a.tmps j = some b := by
  unfold gslot at hg
  split at hg
  · rename_i o ho
    have ho' : ops[j]? = some o := by simpa using ho
    have h1 := hs.fr d
    rw [hv] at h1
    simp only [VR, S.val] at h1
    have h2 : a.tmps[d]? = some (.bool b) := by
      rw [Array.getD_eq_getD_getElem?] at h1
      cases hx : a.tmps[d]? with
      | none => rw [hx] at h1; simp [undef] at h1
      | some x => rw [hx] at h1; simp at h1; rw [h1]
    simp [yielded, ho', hg, h2]
  · cases hg
theorem yielded_no {ops : Array Oper} {tmps : Array Value} {d j : Nat} {σ : Sig} {l : List V} (hg : gslot ops.toList j = some d) (hv : VR σ (.tuple l) (tmps.getD d undef)) : yielded ops tmps j = none := by
  unfold gslot at hg
  split at hg
  · rename_i o ho
    have ho' : ops[j]? = some o := by simpa using ho
    simp only [VR] at hv
    obtain ⟨a, h1, _⟩ := hv
    rw [Array.getD_eq_getD_getElem?] at h1
    cases hx : tmps[d]? with
    | none => simp [yielded, ho', hg, hx]
    | some x =>
      rw [hx] at h1
      simp at h1
      simp [yielded, ho', hg, hx, h1]
  · cases hg
theorem StRel.putO {σ : Sig} {st : St} {a : Act} {w : World} (hs : StRel σ st a w) {dst : Option Nat} {v : V} {x : Value} (hv : VR σ v x) {K : Fr → Prop} (hk : vput st.n st.fr dst v K) :
    ∃ fr', K fr' ∧ StRel σ { st with fr := fr' } (a.put dst x) w := by
  rcases vput_elim hk with ⟨rfl, hk⟩ | ⟨d, rfl, hd, hk⟩
  · exact ⟨_, hk, hs⟩
  · exact ⟨_, hk, hs.put hd hv⟩
theorem vops_ok {P : Program} {T : TT} (hT : TOk P T) {ro : Option Nat} {ops : Array Oper} {n : Nat} {marks : List Id} {QQ : Exit → Act → World → Prop} {σ0 : Sig} {h0 : Hp} {w0 : World} {K : Fr → Hp → Prop}
    (hfin : ∀ σ fr h a w, K fr h → StRel σ ⟨n, fr, h, marks⟩ a w → ExtK allIds σ0 h0 w0 σ h w → QQ .normal a w) :
    ∀ (is : List Nat) (os : List Oper), is.map (fun i => ops[i]?) = os.map some → ∀ (fr : Fr) (h : Hp) (σ : Sig) (a : Act) (w : World), vops P T n ops.toList os fr h K → StRel σ ⟨n, fr, h, marks⟩ a w → ExtK allIds σ0 h0 w0 σ h w →
      wpOpsIn (Fl ro) 0 P ops QQ is a w
  | [], os, hio, fr, h, σ, a, w, hv, hs, hx => by
    have : os = [] := by cases os <;> simp at hio ⊢
    subst this
    exact hfin σ fr h a w hv hs hx
  | i :: is, [], hio, _, _, _, _, _, _, _, _ => by simp at hio
  | i :: is, o :: os, hio, fr, h, σ, a, w, hv, hs, hx => by
    simp only [List.map_cons, List.cons.injEq] at hio
    obtain ⟨hi, hio⟩ := hio
    have ih := vops_ok hT (ro := ro) hfin is os hio
    simp only [wpOpsIn, hi]
    have run : ∀ (fr : Fr), StRel σ ⟨n, fr, h, marks⟩ a w → vopK P T o (ev fr) h (fun v h' => vput n fr o.dst v fun fr' => vops P T n ops.toList os fr' h' K) → o.wpIn (Fl ro) 0 P a w (wpOpsIn (Fl ro) 0 P ops QQ is) QQ := by
      intro fr hs hk
      obtain ⟨v, h', hk, hD⟩ := vopK_ok hT (ro := ro) hk
      refine hD.2 σ a w _ _ hs.rel (fun x => ev_ok hs.fr x) ?_
      intro σ' x w' hvx hr' hext
      have hs' : StRel σ' ⟨n, fr, h', marks⟩ a w' := ⟨hr', hs.fr.mono hext.leAll, hs.size, hs.marks.ext hext⟩
      obtain ⟨fr', hk', hs2⟩ := hs'.putO hvx hk
      exact ih fr' h' σ' _ w' hk' hs2 (hx.trans hext)
    have skip : ∀ (fr : Fr), StRel σ ⟨n, fr, h, marks⟩ a w → vput n fr o.dst (.tuple []) (fun fr' => vops P T n ops.toList os fr' h K) → wpOpsIn (Fl ro) 0 P ops QQ is (a.put o.dst undef) w := by
      intro fr hs hk
      obtain ⟨fr', hk', hs2⟩ := hs.putO (x := undef) (v := .tuple []) (by simp only [VR]; exact ⟨#[], rfl, by simp [VRs]⟩) hk
      exact ih fr' h σ _ w hk' hs2 hx
    change vops1 P T n ops.toList o (vops P T n ops.toList os) fr h K at hv
    unfold vops1 at hv
    split at hv
    · rename_i hg
      have hw : Region.wanted o (yielded ops a.tmps) = true := by simp [Region.wanted, hg]
      rw [if_pos hw]
      exact run fr hs hv
    · rename_i j want hg
      split at hv
      · rename_i d hgs
        split at hv
        · rename_i b hb
          have hy := yielded_of hs hgs hb
          have hw : Region.wanted o (yielded ops a.tmps) = (b == want) := by simp [Region.wanted, hg, hy]
          rw [hw]
          have hs2 := hs.set_same hb
          cases b with
          | true =>
            have hv := hv.elim.1 rfl
            rw [Fr.setK_eq] at hv
            cases want with
            | true => rw [if_pos (by rfl)]; exact run _ hs2 hv
            | false => rw [if_neg (by simp)]; exact ⟨fun _ _ => trivial, skip _ hs2 hv⟩
          | false =>
            have hv := hv.elim.2 rfl
            rw [Fr.setK_eq] at hv
            cases want with
            | true => rw [if_neg (by simp)]; exact ⟨fun _ _ => trivial, skip _ hs2 hv⟩
            | false => rw [if_pos (by rfl)]; exact run _ hs2 hv
        · rename_i l hb
          have h1 := hs.fr d
          rw [hb] at h1
          have hy := yielded_no hgs h1
          have hw : Region.wanted o (yielded ops a.tmps) = false := by simp [Region.wanted, hg, hy]
          rw [hw, if_neg (by simp)]
          exact ⟨fun _ _ => trivial, skip _ hs hv⟩
        · exact hv.elim
      · exact hv.elim
theorem VWp.region {P : Program} {T : TT} (hT : TOk P T) {ro : Option Nat} {K : Id → Prop} {id : Nat} {ops : Array Oper} {st : St} {Q : X → St → Prop}
    (h : vops P T st.n ops.toList ops.toList st.fr st.h fun fr h => Q .normal { st with fr := fr, h := h }) : VWp P ro K (.region id ops false) st Q := by
  intro σ a w hs
  refine wpIn_region (vops_ok hT (marks := st.marks) (σ0 := σ) (h0 := st.h) (w0 := w) ?_ (List.range ops.size) ops.toList ?_ st.fr st.h σ a w h hs (ExtK.refl _ _ _ _))
  · intro σ' fr h' a' w' hq hs' hx
    exact ⟨.normal, σ', _, rfl, hq, hs', hx.weak fun _ _ => trivial⟩
  · apply List.ext_getElem?
    intro i
    simp only [List.getElem?_map]
    by_cases hi : i < ops.size
    · rw [List.getElem?_range hi]; simp [hi]
    · rw [List.getElem?_eq_none (by simp; omega), List.getElem?_eq_none (by simp; omega)]; rfl
structure VDraw (P : Program) (T : TT) (ro : Option Nat) (K : Id → Prop) (id : Nat) (ops : Array Oper) (st : St) (Q : X → St → Prop) : Prop where
  ex : VWp P ro K (.region id ops true) st Q
theorem VDraw.elim {P : Program} {T : TT} {ro : Option Nat} {K : Id → Prop} {id : Nat} {ops : Array Oper} {st : St} {Q : X → St → Prop} (h : VDraw P T ro K id ops st Q) : VWp P ro K (.region id ops true) st Q := h.ex
theorem VDraw.intro {P : Program} {T : TT} {ro : Option Nat} {K : Id → Prop} {id : Nat} {ops : Array Oper} {st : St} {Q : X → St → Prop} (h : VWp P ro K (.region id ops true) st Q) : VDraw P T ro K id ops st Q := ⟨h⟩
theorem stepR_scope {P : Program} {b : Frame} {a : Act} {k : List Item} {cs : List Frame} {w : World} {c : Code} : step P (lone (b.atR a (.code (.scope c) :: k)) cs w) = .next (lone (b.atR a (.code c :: .inScope c :: k)) cs w) :=
  step_lone_go (by simp [stepG, stepG.exec, Frame.atR])
theorem stepR_inScope {P : Program} {b : Frame} {a : Act} {k : List Item} {cs : List Frame} {w : World} {c : Code} : step P (lone (b.atR a (.inScope c :: k)) cs w) = .next (lone (b.atR a k) cs w) :=
  step_lone_go (by simp [stepG, stepG.exec, Frame.atR])
theorem wpIn_scope {F : Fence} {n : Nat} {P : Program} {Q : Exit → Act → World → Prop} {a : Act} {w : World} {c : Code} (h : c.wpIn F n P (fun e a w => (∀ l, e ≠ .goto l) ∧ Q e a w) a w) : (Code.scope c).wpIn F n P Q a w := by
  intro b k cs hro hb hr
  have h0 : (lone (b.atR a (.code (.scope c) :: k)) cs w).fenced P F := fenced_calm hb hr rfl
  obtain ⟨e, a₁, w₁, ⟨hg, hq⟩, harr⟩ := h b (.inScope c :: k) cs hro hb hr
  cases e with
  | normal => exact ⟨.normal, a₁, w₁, hq, .head h0 stepR_scope (StepsIn.trans harr (.one (fenced_calm hb hr rfl) stepR_inScope))⟩
  | exit id =>
    have hx : exitTo id (.inScope c :: k) = exitTo id k := by simp [exitTo]
    exact ⟨_, a₁, w₁, hq, fun k' hk => .head h0 stepR_scope (harr.1 k' (by rw [hx]; exact hk)),
      fun hr' hk => let ⟨k₁, h1, h2⟩ := harr.2 hr' (by rw [hx]; exact hk); ⟨k₁, h1, .head h0 stepR_scope h2⟩⟩
  | goto l => exact absurd rfl (hg l)
  | ret => exact ⟨_, a₁, w₁, hq, .of_steps (.one h0 stepR_scope) harr⟩
  | panic ch => exact ⟨_, a₁, w₁, hq, .of_steps (.one h0 stepR_scope) harr⟩
  | outgrown => exact ⟨_, a₁, w₁, hq, .of_steps (.one h0 stepR_scope) harr⟩
theorem VWp.scope {P : Program} {ro : Option Nat} {K : Id → Prop} {c : Code} {st : St} {Q : X → St → Prop} (h : VWp P ro K c st Q) : VWp P ro K (.scope c) st Q := by
  intro σ ac w hs
  refine wpIn_scope (wpIn_mono (h σ ac w hs) ?_)
  rintro e a' w' ⟨x, σ', st', rfl, hq, hs', hx⟩
  exact ⟨(by intro l hl; cases x <;> cases hl), x, σ', st', rfl, hq, hs', hx⟩
theorem VWp.label {P : Program} {ro : Option Nat} {K : Id → Prop} {l : Nat} {st : St} {Q : X → St → Prop} (h : Q .normal st) : VWp P ro K (.label l) st Q := fun σ _ w hs => wpIn_label ⟨.normal, σ, st, rfl, h, hs, ExtK.refl _ _ _ _⟩
def vregion (P : Program) (T : TT) (ro : Option Nat) (K : Id → Prop) (id : Nat) (ops : Array Oper) (d : Bool) (st : St) (Q : X → St → Prop) : Prop := match d with
  | false => match st with
    | ⟨n, fr, h, marks⟩ => vops P T n ops.toList ops.toList fr h fun fr h => Q .normal ⟨n, fr, h, marks⟩
  | true => VDraw P T ro K id ops st Q
def vseqQ (ihb : St → (X → St → Prop) → Prop) (Q : X → St → Prop) (x : X) (st' : St) : Prop := match x with
  | .normal => ihb st' Q
  | .exit i => Q (.exit i) st'
  | .ret => Q .ret st'
def vcond (c : Operand) (iha ihb : St → (X → St → Prop) → Prop) (st : St) (Q : X → St → Prop) : Prop := match ev st.fr c with
  | .s (.bool t) => VIte t (iha st Q) (ihb st Q)
  | _ => False
def vblockQ (id : Nat) (Q : X → St → Prop) (x : X) (st' : St) : Prop := match x with
  | .normal => Q .normal st'
  | .exit i => match Nat.beq i id with
    | true => Q .normal st'
    | false => Q (.exit i) st'
  | .ret => Q .ret st'
def vwp (P : Program) (T : TT) (ro : Option Nat) (K : Id → Prop) (c : Code) : St → (X → St → Prop) → Prop :=
  Code.rec (motive := fun _ => St → (X → St → Prop) → Prop)
    (fun st Q => Q .normal st)
    (fun id ops d => vregion P T ro K id ops d)
    (fun _ _ iha ihb st Q => iha st (vseqQ ihb Q))
    (fun c _ _ iha ihb => vcond c iha ihb)
    (fun id _ ih st Q => ih st (vblockQ id Q))
    (fun c _ st Q => VCode P ro K (.loop c) st Q)
    (fun g ps a b _ _ st Q => VCode P ro K (.rangeFunc g ps a b) st Q)
    (fun id st Q => Q (.exit id) st)
    (fun _ ih st Q => ih st Q)
    (fun _ st Q => Q .normal st)
    (fun _ _ _ => False)
    (fun st Q => Q .ret st)
    (fun _ _ _ => False) c
theorem vwp_ok {P : Program} {T : TT} (hT : TOk P T) {ro : Option Nat} {K : Id → Prop} : ∀ (c : Code) (st : St) (Q : X → St → Prop), vwp P T ro K c st Q → VWp P ro K c st Q
  | .skip, st, Q, h => VWp.skip h
  | .seq a b, st, Q, h => VWp.seq (VWp.mono (vwp_ok hT a st (vseqQ (vwp P T ro K b) Q) h) fun x st' hx => by
      cases x with
      | normal => exact vwp_ok hT b st' Q hx
      | exit i => exact hx
      | ret => exact hx)
  | .cond c a b, st, Q, h => by
    change vcond c (vwp P T ro K a) (vwp P T ro K b) st Q at h
    unfold vcond at h
    split at h
    · rename_i t ht
      exact VWp.cond ht (fun e => vwp_ok hT a st Q (h.elim.1 e)) (fun e => vwp_ok hT b st Q (h.elim.2 e))
    · exact h.elim
  | .block id c, st, Q, h => VWp.block (VWp.mono (vwp_ok hT c st (vblockQ id Q) h) fun x st' hx => by
      cases x with
      | normal => exact hx
      | exit i =>
        unfold vblockQ at hx
        simp only at hx
        simp only [X.inBlock]
        split at hx
        · rename_i hb; rw [if_pos (Nat.eq_of_beq_eq_true hb)]; exact hx
        · rename_i hb; rw [if_neg (Nat.ne_of_beq_eq_false hb)]; exact hx
      | ret => exact hx)
  | .exit id, st, Q, h => VWp.exit h
  | .ret, st, Q, h => VWp.ret h
  | .region id ops false, ⟨_, _, _, _⟩, Q, h => VWp.region hT h
  | .region id ops true, st, Q, h => h.elim
  | .loop c, st, Q, h => h.elim
  | .rangeFunc g ps a b, st, Q, h => h.elim
  | .scope c, st, Q, h => VWp.scope (vwp_ok hT c st Q h)
  | .label _, st, Q, h => VWp.label h
  | .goto _, _, _, h => h.elim
  | .refuse _, _, _, h => h.elim
/-! ### A function's contract from its body -/

def isOut : Id → Prop
  | .out _ => True
  | .loc _ => False
def Hp.enter (h : Hp) : Hp := ⟨fun i => (h.get i).map (Blk.ren .out), []⟩
def vres1 (T : TT) (fr : Fr) (h : Hp) : ResultVar → Option V
  | .tmp t => some (fr.at t)
  | .cell a t => vload T t (fr.at a) h
def vresL (T : TT) (fr : Fr) (h : Hp) : List ResultVar → Option (List V)
  | [] => some []
  | r :: rs => match vres1 T fr h r with
    | some v => match vresL T fr h rs with
      | some vs => some (v :: vs)
      | none => none
    | none => none
def vresults (T : TT) (rs : List ResultVar) (fr : Fr) (h : Hp) : Option V :=
  match vresL T fr h rs with
  | some [v] => some v
  | some vs => some (.tuple vs)
  | none => none
def killMarks (h : Hp) : List Id → Option Hp
  | [] => some h
  | i :: is => match h.get i with
    | some .mark => killMarks (h.set i .dead) is
    | _ => none
def resSem (tmps : Array Value) : ResultVar → Sem Value
  | .tmp t => pure (tmps.getD t undef)
  | .cell a t => do loadVar t (← asAddr (tmps.getD a undef))
theorem results_eq (fn : Func) (tmps : Array Value) : results fn tmps = (do let vs ← fn.results.mapM (resSem tmps); pure (if h : vs.size = 1 then vs[0] else .tuple vs)) := by
  unfold results
  congr 2
theorem load_real {P : Program} {T : TT} (hT : TOk P T) {σ : Sig} {h : Hp} {w : World} (hr : Rel σ h w) {t : TypeId} {v u : V} {x : Value} (hx : VR σ v x) (hv : vload T t v h = some u) :
    ∃ a y, x = .pointer (some a) ∧ (loadVar t a).run P w = .ok y w ∧ VR σ u y := by
  unfold vload at hv
  split at hv
  · rename_i i off
    simp only [VR] at hx
    obtain ⟨e, he, rfl⟩ := hx
    split at hv
    · rename_i ti hTt
      split at hv
      · rename_i ha
        obtain ⟨l, hl, rfl⟩ : ∃ l, h.rdN i off ti.size = some l ∧ u = .agg l := by
          split at hv
          · rename_i l hl; simp at hv; exact ⟨l, hl, hv.symm⟩
          · cases hv
        obtain ⟨d, info, z, hu, hinfo, hsize, hagg, _, _, _⟩ := hT.ok _ _ hTt
        obtain ⟨ys, hn, hyr, _, hcell⟩ := hr.cellsN he _ _ _ hl
        have hag : (isAgg t).run P w = .ok true w := by rw [ha] at hagg; cases d <;> simp_all [isAgg, run_underlying hu, descAgg]
        have hrun := run_loadCells_list (P := P) w ⟨e.rid, e.base + off, none⟩ ys (fun j y hj => by rw [add_at, Nat.add_assoc]; exact hcell j y hj)
        rw [hn] at hrun
        exact ⟨_, .agg ys.toArray, rfl, by simp [loadVar, hag, sizeOf, typeInfo, hinfo, hsize, hrun], by simp only [VR]; exact ⟨_, rfl, by simpa using hyr⟩⟩
      · rename_i ha
        obtain ⟨d, hu, hagg, _⟩ := kind_of hT hTt
        obtain ⟨y, hy, hyr, _⟩ := hr.cell he hv
        have : (isAgg t).run P w = .ok false w := by rw [ha] at hagg; cases d <;> simp_all [isAgg, run_underlying hu, descAgg]
        exact ⟨_, y, rfl, by simp [loadVar, this, hy], hyr⟩
    · cases hv
  · rename_i cs
    simp only [VR, DR] at hx
    obtain ⟨r, o, cur, TT, f, ys, h1, rfl, h3, h4⟩ := hx
    have hcell : ∀ (j : Nat) (y : Value), ys[j]? = some y → w.cell? ((⟨r, o, none⟩ : Addr).add j) = some y := fun j y hj => by
      rw [add_at]
      simp [World.cell?, (hr.fz _ _ h1).1, (h4 j y hj).1]
    split at hv
    · rename_i ti hTt
      split at hv
      · rename_i ha
        split at hv
        · rename_i hle
          simp at hv; subst hv
          obtain ⟨d, info, z, hu, hinfo, hsize, hagg, _, _, _⟩ := hT.ok _ _ hTt
          have hag : (isAgg t).run P w = .ok true w := by rw [ha] at hagg; cases d <;> simp_all [isAgg, run_underlying hu, descAgg]
          have hrun := run_loadCells_list (P := P) w ⟨r, o, none⟩ (ys.take ti.size) (fun j y hj => hcell j y (by rw [List.getElem?_take] at hj; split at hj; exact hj; cases hj))
          have hn : (ys.take ti.size).length = ti.size := by have := DRs_len h3; have := Nat.le_of_ble_eq_true hle; simp; omega
          rw [hn] at hrun
          exact ⟨_, .agg (ys.take ti.size).toArray, rfl, by simp [loadVar, hag, sizeOf, typeInfo, hinfo, hsize, hrun], by simp only [VR]; exact ⟨_, rfl, by simpa using DRs.v _ _ (DRs_take ti.size h3)⟩⟩
        · cases hv
      · rename_i ha
        split at hv
        · rename_i dd cs'
          simp at hv; subst hv
          simp only [DRs] at h3
          obtain ⟨y, ys', rfl, h3, _⟩ := h3
          obtain ⟨d, hu, hagg, _⟩ := kind_of hT hTt
          have : (isAgg t).run P w = .ok false w := by rw [ha] at hagg; cases d <;> simp_all [isAgg, run_underlying hu, descAgg]
          have hc := hcell 0 y rfl
          rw [add_at, Nat.add_zero] at hc
          exact ⟨_, y, rfl, by simp [loadVar, this, hc], DR.v _ _ h3⟩
        · cases hv
    · cases hv
  · cases hv
theorem vresL_ok {P : Program} {T : TT} (hT : TOk P T) {σ : Sig} {fr : Fr} {h : Hp} {tmps : Array Value} {w : World} (hr : Rel σ h w) (hf : FrRel σ fr tmps) : ∀ (rs : List ResultVar) (vs : List V), vresL T fr h rs = some vs →
    ∃ xs, (rs.mapM (resSem tmps)).run P w = .ok xs w ∧ VRs σ vs xs
  | [], vs, hv => by simp [vresL] at hv; subst hv; exact ⟨[], by simp, by simp [VRs]⟩
  | r :: rs, vs, hv => by
    simp only [vresL] at hv
    split at hv
    · rename_i v hv1
      split at hv
      · rename_i vs' hvs'
        simp at hv; subst hv
        obtain ⟨xs, hxs, hr2⟩ := vresL_ok hT hr hf rs vs' hvs'
        have h1 : ∃ x, (resSem tmps r).run P w = .ok x w ∧ VR σ v x := by
          cases r with
          | tmp t => simp only [vres1, Option.some.injEq] at hv1; subst hv1; exact ⟨_, rfl, hf t⟩
          | cell a t =>
            simp only [vres1] at hv1
            obtain ⟨ad, y, hpe, hl, hyr⟩ := load_real hT hr (hf a) hv1
            exact ⟨y, by simp [resSem, hpe, asAddr, hl], hyr⟩
        obtain ⟨x, hx, hxr⟩ := h1
        refine ⟨x :: xs, ?_, by simp only [VRs]; exact ⟨x, xs, rfl, hxr, hr2⟩⟩
        rw [List.mapM_cons, Sem.run_bind, hx, Result.andThen_ok, Sem.run_bind, hxs]
        rfl
      · cases hv
    · cases hv
theorem vresults_ok {P : Program} {T : TT} (hT : TOk P T) {σ : Sig} {fr : Fr} {h : Hp} {tmps : Array Value} {w : World} (hr : Rel σ h w) (hf : FrRel σ fr tmps) {fn : Func} {r : V} (hv : vresults T fn.results.toList fr h = some r) :
    ∃ x, (results fn tmps).run P w = .ok x w ∧ VR σ r x := by
  unfold vresults at hv
  have key : ∀ vs, vresL T fr h fn.results.toList = some vs → ∃ a : Array Value, (fn.results.mapM (resSem tmps)).run P w = .ok a w ∧ VRs σ vs a.toList := by
    intro vs hvs
    obtain ⟨xs, hxs, hxr⟩ := vresL_ok (P := P) hT hr hf _ _ hvs
    refine ⟨xs.toArray, ?_, by simpa using hxr⟩
    rw [← Array.toList_mapM] at hxs
    revert hxs
    generalize (fn.results.mapM (resSem tmps)) = s
    intro hxs
    rw [Sem.run_map] at hxs
    cases hs : s.run P w with
    | ok a w' => rw [hs] at hxs; simp at hxs; obtain ⟨h1, rfl⟩ := hxs; rw [← h1]
    | halt e w' => rw [hs] at hxs; simp at hxs
  split at hv
  · rename_i v hvs
    simp at hv; subst hv
    obtain ⟨a, ha, hr1⟩ := key _ hvs
    obtain ⟨x, hx, hvx⟩ := VRs_one hr1
    have hax : a = #[x] := by apply Array.ext'; simpa using hx
    subst hax
    refine ⟨x, ?_, hvx⟩
    rw [results_eq, Sem.run_bind, ha]
    rfl
  · rename_i vs hne hvs
    simp at hv; subst hv
    obtain ⟨a, ha, hr1⟩ := key _ hvs
    have hsz : ¬ a.size = 1 := by
      intro h1
      have hl := VRs.length hr1
      simp [h1] at hl
      cases vs with
      | nil => simp at hl
      | cons v vs => cases vs with
        | nil => exact hne v rfl
        | cons u us => simp at hl
    refine ⟨.tuple a, ?_, by simp only [VR]; exact ⟨a, rfl, hr1⟩⟩
    rw [results_eq, Sem.run_bind, ha]
    simp [hsz]
  · cases hv
structure Leaves (h h1 : Hp) (r1 r : V) (h' : Hp) (ρ : Id → Id) : Prop where
  old : ∀ i, h1.get (.out i) ≠ none → ρ i = .out i
  blk : ∀ i b, h'.get i = some b → h1.get (ρ i) = some (b.ren ρ) ∨ (ρ i = .out i ∧ h1.get (.out i) = some (b.ren .out)) ∨ h1.get (ρ i) = none
  res : (∀ (σ : Sig) (x : Value), VR σ r1 x → VR σ (r.ren ρ) x) ∨ r1 = r.ren .out
  inj : ∀ i j, h'.get i ≠ none → h'.get j ≠ none → h1.get (ρ i) ≠ none → ρ i = ρ j → i = j
  dom : ∀ i, h'.get i = none → h1.get (ρ i) = none
  grows : h.grows h'
theorem BlkRel_weak {σ σ' : Sig} {e : Ent} {b : Blk} {o : Obj} (h : BlkRel σ e b o) (hle : σ.le σ') : BlkRel σ' e b o := h.mono hle
def Sig.enter (σ : Sig) : Sig := ⟨fun | .out i => σ i | .loc _ => none, σ.fz, fun | .out i => σ.nm i | .loc _ => False, σ.lo⟩
theorem Sig.enter_loc (σ : Sig) (k : Nat) : σ.enter (.loc k) = none := rfl
theorem Rel.enter {σ : Sig} {h : Hp} {w : World} (hr : Rel σ h w) : Rel σ.enter h.enter w where
  blk := fun i e b hi hb => by
    cases i with
    | loc k => rw [Sig.enter_loc] at hi; cases hi
    | out i =>
      simp only [Hp.enter, Hp.get, Option.map_eq_some_iff] at hb
      obtain ⟨b0, hb0, rfl⟩ := hb
      obtain ⟨h1, o, h2, h3⟩ := hr.blk i e b0 hi hb0
      exact ⟨h1, o, h2, (BlkRel_ren _ _ _ _ _).2 h3⟩
  apart := fun i j ei ej bi bj hne hi hj hbi hbj hw hal => by
    cases i with
    | loc k => rw [Sig.enter_loc] at hi; cases hi
    | out i => cases j with
      | loc k => rw [Sig.enter_loc] at hj; cases hj
      | out j =>
        simp only [Hp.enter, Hp.get, Option.map_eq_some_iff] at hbi hbj
        obtain ⟨b0, hb0, rfl⟩ := hbi
        obtain ⟨b1, hb1, rfl⟩ := hbj
        exact hr.apart i j ei ej b0 b1 (fun e => hne (by rw [e])) hi hj hb0 hb1 (by simpa using hw) (by simpa using hal)
  dom := fun i hi => by
    cases i with
    | loc k => rfl
    | out i => simp only [Hp.enter, Hp.get, Option.map_eq_none_iff] at hi; exact hr.dom i hi
  nmd := fun i hi => by
    cases i with
    | loc k => exact absurd hi id
    | out i =>
      simp only [Hp.enter, Hp.get]
      intro h0
      rw [Option.map_eq_none_iff] at h0
      exact hr.nmd i hi h0
  fz := fun r o hro => by
    obtain ⟨h1, h2⟩ := hr.fz r o hro
    refine ⟨h1, fun i e b hi hb hw => ?_⟩
    cases i with
    | loc k => rw [Sig.enter_loc] at hi; cases hi
    | out i =>
      simp only [Hp.enter, Hp.get, Option.map_eq_some_iff] at hb
      obtain ⟨b0, hb0, rfl⟩ := hb
      exact h2 i e b0 hi hb0 (by simpa using hw)
theorem MarkL.stepNe {σ : Sig} {g : Id → Option Blk} {w w' : World} {r : Nat} : ∀ {ds : List Deferred} {is : List Id}, ({ target := .collected r, args := #[] } : Deferred) ∉ ds → (∀ q, q ≠ r → Ghost σ g w q → Ghost σ g w' q) → MarkL σ g w is ds → MarkL σ g w' is ds
  | [], _, _, _, h => by simpa only [MarkL] using h
  | d :: ds, is, hn, hg, h => by
    have hn2 : ({ target := .collected r, args := #[] } : Deferred) ∉ ds := fun h0 => hn (List.mem_cons_of_mem _ h0)
    simp only [MarkL] at h ⊢
    rcases h with ⟨i, is', e, h1, h2, h3, h4, h5⟩ | ⟨q, h1, h2, h3⟩
    · exact .inl ⟨i, is', e, h1, h2, h3, h4, h5.stepNe hn2 hg⟩
    · exact .inr ⟨q, h1, hg q (fun h0 => hn (by rw [h1, h0]; exact List.mem_cons_self)) h2, h3.stepNe hn2 hg⟩
theorem killMarks_ok {P : Program} {fn : Func} {tmps : Array Value} {R : Ending → World → Prop} {K : Id → Prop} {σ0 : Sig} {h0 : Hp} {w0 : World} : ∀ (ds : List Deferred) {marks : List Id} {h h1 : Hp} {σ : Sig} {w : World}, Rel σ h w → MarkL σ h w marks ds → ds.Nodup → ExtK K σ0 h0 w0 σ h w → w0.heap.size ≤ σ.lo → killMarks h marks = some h1 →
    (∀ w', Rel σ h1 w' → ExtK K σ0 h0 w0 σ h1 w' → ∃ v, (results fn tmps).run P w' = .ok v w' ∧ R (.returned v) w') → LeavesInM Fence.wide 0 P fn tmps R ds .returning w
  | [], marks, h, h1, σ, w, hr, hm, _, hx, _, hk, hR => by
    simp only [MarkL] at hm; subst hm
    simp [killMarks] at hk; subst hk
    exact hR w hr hx
  | d :: ds, marks, h, h1, σ, w, hr, hm, hnd, hx, hlo, hk, hR => by
    obtain ⟨hnd1, hnd2⟩ := List.nodup_cons.1 hnd
    simp only [MarkL] at hm
    have hsame : ∀ q r, r ≠ q → (w.putObj q (.deferred none)).heap[r]? = w.heap[r]? := fun q r hne => World.putObj_heap_other hne
    have hsz : ∀ q, (w.putObj q (.deferred none)).heap.size = w.heap.size := fun q => by simp [World.putObj]
    rcases hm with ⟨i, is, e, rfl, rfl, hi, _, hm⟩ | ⟨r, rfl, hgh, hm⟩
    · simp only [killMarks] at hk
      split at hk
      · rename_i hb
        obtain ⟨hlt, o, ho, hrel⟩ := hr.blk i e .mark hi hb
        simp only [BlkRel] at hrel
        subst hrel
        have hr' : Rel σ (h.set i .dead) (w.putObj e.rid (.deferred none)) := hr.upd hi hb rfl (fun _ => rfl) (hsz _) (hsame _) (World.putObj_heap_same hlt) trivial
        have hx1 : ExtK K σ h w σ (h.set i .dead) (w.putObj e.rid (.deferred none)) := (Ext.upd hi hb rfl (fun hd => by simp [Blk.alive] at hd) (hsz _) rfl rfl rfl (hsame _)).toK
        refine ⟨by simp, .inl ⟨e.rid, _, rfl, run_takeDeferred ho, ?_⟩⟩
        exact killMarks_ok ds hr' (hm.step (fun _ _ h => h) rfl fun _ h => hx1.ghost h) hnd2 (hx.trans hx1) hlo hk hR
      · cases hk
    · have hlt : r < w.heap.size := (Array.getElem?_eq_some_iff.1 hgh.here).1
      have hge : w0.heap.size ≤ r := Nat.le_trans hlo hgh.lo
      have hr' : Rel σ h (w.putObj r (.deferred none)) := by
        refine ⟨fun i e b hi hb => ?_, hr.apart, hr.dom, hr.nmd, fun r' o hro => ?_⟩
        · obtain ⟨g1, o, g2, g3⟩ := hr.blk i e b hi hb
          by_cases hal : b.alive = true
          · exact ⟨by rw [hsz]; exact g1, o, by rw [hsame r e.rid (hgh.un i e b hi hb hal)]; exact g2, g3⟩
          · have hlt2 : e.rid < (w.putObj r (.deferred none)).heap.size := by rw [hsz]; exact g1
            refine ⟨hlt2, (w.putObj r (.deferred none)).heap[e.rid], by simp [hlt2], ?_⟩
            cases b <;> first | trivial | (exfalso; exact hal rfl)
        · obtain ⟨g1, g2⟩ := hr.fz r' o hro
          refine ⟨?_, g2⟩
          rw [hsame r r' (fun h0 => by rw [h0, hgh.fz] at hro; cases hro)]; exact g1
      have hx' : ExtK K σ0 h0 w0 σ h (w.putObj r (.deferred none)) :=
        ⟨hx.le, hx.nm, hx.lo, hx.fz, hx.fzn, by rw [hsz]; exact hx.size, hx.os, hx.tape, hx.output, fun q hq hn => by rw [hsame r q (by omega)]; exact hx.frame q hq hn, hx.wr, hx.ro, hx.old, hx.oldn⟩
      refine ⟨by simp, .inl ⟨r, _, rfl, run_takeDeferred hgh.here, ?_⟩⟩
      refine killMarks_ok ds hr' ?_ hnd2 hx' hlo hk hR
      exact MarkL.stepNe (r := r) hnd1 (fun q hq h => ⟨h.lo, by rw [hsame r q hq]; exact h.here, h.fz, h.un⟩) hm
def Outs (h h1 : Hp) (r1 r : V) (h' : Hp) : Prop := ∀ (σ σ' : Sig) (w w' : World) (v : Value), Rel σ h w → Rel σ' h1 w' → ExtK isOut σ.enter h.enter w σ' h1 w' → VR σ' r1 v →
  ∃ σ2, VR σ2 r v ∧ Rel σ2 h' w' ∧ ExtK allIds σ h w σ2 h' w'
def VFin (T : TT) (rs : List ResultVar) (h : Hp) (r : V) (h' : Hp) (x : X) (st : St) : Prop :=
  (match x with | .exit _ => False | _ => True) ∧ ∃ h1, killMarks st.h st.marks = some h1 ∧ ∃ r1, vresults T rs st.fr h1 = some r1 ∧ Outs h h1 r1 r h'
theorem VFin.mk {T : TT} {rs : List ResultVar} {h : Hp} {r : V} {h' : Hp} {x : X} {st : St} (h0 : (match x with | .exit _ => False | _ => True) ∧ ∃ h1, killMarks st.h st.marks = some h1 ∧ ∃ r1, vresults T rs st.fr h1 = some r1 ∧ Outs h h1 r1 r h') : VFin T rs h r h' x st := h0
def frOf : Nat → List V → Fr → Fr
  | _, [], fr => fr
  | i, v :: l, fr => frOf (i + 1) l (fr.set i v)
theorem frOf_at : ∀ (l : List V) (i n : Nat) (fr : Fr), (frOf i l fr).at n = if n < i then fr.at n else match l[n - i]? with | some v => v | none => fr.at n
  | [], i, n, fr => by simp [frOf]
  | v :: l, i, n, fr => by
    rw [frOf, frOf_at l (i + 1) n]
    simp only [Fr.at_set]
    by_cases h1 : n < i
    · rw [if_pos (by omega), if_pos h1, if_neg (by omega)]
    · rw [if_neg h1]
      by_cases h2 : n = i
      · subst h2; rw [if_pos (by omega)]; simp
      · rw [if_neg (by omega), show n - i = (n - (i + 1)) + 1 by omega, List.getElem?_cons_succ]
        simp [h2]
theorem Leaves.out {h h1 : Hp} {r1 r : V} {h' : Hp} {ρ : Id → Id} (hL : Leaves h h1 r1 r h' ρ) {σ σc σ' : Sig} {w w' : World} {v : Value} (hσc : σc = σ.enter)
    (hr : Rel σ h w) (hr2 : Rel σ' h1 w') (hxt : ExtK isOut σc h.enter w σ' h1 w') (hvr : VR σ' r1 v) :
    ∃ σ2, VR σ2 r v ∧ Rel σ2 h' w' ∧ ExtK allIds σ h w σ2 h' w' := by
  subst hσc
  have hle : ∀ i x, σ' (.out i) = some x → σ' (ρ i) = some x := by
    intro i x hx
    have : h1.get (.out i) ≠ none := fun e0 => by rw [hr2.dom _ e0] at hx; cases hx
    rw [hL.old i this]; exact hx
  have hnm : ∀ i, σ'.nm (.out i) → σ'.nm (ρ i) := fun i hi => by rw [hL.old i (hr2.nmd _ hi)]; exact hi
  have hleS : (σ'.ren .out).le (σ'.ren ρ) := ⟨hle, fun _ _ h => h, hnm⟩
  refine ⟨σ'.ren ρ, ?_, ⟨?_, ?_, ?_, ?_, ?_⟩, ⟨?_, fun i _ h => hnm i (hxt.nm (.out i) trivial h), hxt.lo, hxt.fz, ?_, hxt.size, hxt.os, hxt.tape, hxt.output, ?_, ?_, ?_, ?_, ?_⟩⟩
  · rcases hL.res with he | he
    · exact (VR_ren _ _ _ _).1 (he _ _ hvr)
    · rw [he] at hvr; exact VR.mono (σ := σ'.ren .out) (σ' := σ'.ren ρ) hleS _ _ ((VR_ren _ _ _ _).1 hvr)
  · intro i e b hi hb
    have hi : σ' (ρ i) = some e := hi
    rcases hL.blk i b hb with h2 | ⟨h2, h3⟩ | h2
    · obtain ⟨g1, o, g2, g3⟩ := hr2.blk _ e _ hi h2
      exact ⟨g1, o, g2, (BlkRel_ren _ _ _ _ _).1 g3⟩
    · rw [h2] at hi
      obtain ⟨g1, o, g2, g3⟩ := hr2.blk _ e _ hi h3
      exact ⟨g1, o, g2, BlkRel_weak ((BlkRel_ren _ _ _ _ _).1 g3) hleS⟩
    · rw [hr2.dom _ h2] at hi; cases hi
  · intro i j ei ej bi bj hne hi hj hbi hbj hw1 hal1
    have hi : σ' (ρ i) = some ei := hi
    have hj : σ' (ρ j) = some ej := hj
    have gi : ∃ b1, h1.get (ρ i) = some b1 ∧ b1.rw = bi.rw ∧ b1.alive = bi.alive := by
      rcases hL.blk i bi hbi with h2 | ⟨h2, h3⟩ | h2
      · exact ⟨_, h2, by simp, by simp⟩
      · exact ⟨_, by rw [h2]; exact h3, by simp, by simp⟩
      · rw [hr2.dom _ h2] at hi; cases hi
    have gj : ∃ b1, h1.get (ρ j) = some b1 ∧ b1.rw = bj.rw ∧ b1.alive = bj.alive := by
      rcases hL.blk j bj hbj with h2 | ⟨h2, h3⟩ | h2
      · exact ⟨_, h2, by simp, by simp⟩
      · exact ⟨_, by rw [h2]; exact h3, by simp, by simp⟩
      · rw [hr2.dom _ h2] at hj; cases hj
    obtain ⟨b1, g1, g2, _⟩ := gi
    obtain ⟨b2, g3, _, g4⟩ := gj
    exact hr2.apart (ρ i) (ρ j) ei ej b1 b2 (fun e0 => hne (hL.inj i j (by rw [hbi]; simp) (by rw [hbj]; simp) (by rw [g1]; simp) e0)) hi hj g1 g3 (by rw [g2]; exact hw1) (by rw [g4]; exact hal1)
  · intro i hi
    exact hr2.dom _ (hL.dom i hi)
  · intro i hi h0
    exact hr2.nmd _ hi (hL.dom i h0)
  · intro rr o hro
    obtain ⟨f1, f2⟩ := hr2.fz rr o hro
    refine ⟨f1, fun i e b hi hb hbw => ?_⟩
    have hi : σ' (ρ i) = some e := hi
    rcases hL.blk i b hb with h2 | ⟨h2, h3⟩ | h2
    · exact f2 _ e _ hi h2 (by simpa using hbw)
    · rw [h2] at hi; exact f2 _ e _ hi h3 (by simpa using hbw)
    · rw [hr2.dom _ h2] at hi; cases hi
  · intro i e _ hi
    exact hle i e (hxt.le (.out i) e trivial hi)
  · intro rr o hro
    rcases hxt.fzn rr o hro with h2 | h2 | ⟨j, ej, bj, h2, h3, h4, h5⟩
    · exact .inl h2
    · exact .inr (.inl h2)
    · cases j with
      | loc k => rw [Sig.enter_loc] at h2; cases h2
      | out j =>
        simp only [Hp.enter, Hp.get, Option.map_eq_some_iff] at h3
        obtain ⟨b0, hb0, rfl⟩ := h3
        exact .inr (.inr ⟨j, ej, b0, h2, hb0, by simpa using h4, h5⟩)
  · intro r' hr' hnr
    refine hxt.frame r' hr' ?_
    intro i e b hi hb hbw
    cases i with
    | loc k => rw [Sig.enter_loc] at hi; cases hi
    | out i =>
      simp only [Hp.enter, Hp.get, Option.map_eq_some_iff] at hb
      obtain ⟨b0, hb0, rfl⟩ := hb
      exact hnr i e b0 hi hb0 (by simpa using hbw)
  · intro i e b hi hb hbw
    have hi : σ' (ρ i) = some e := hi
    have g : ∃ b1, h1.get (ρ i) = some b1 ∧ b1.rw = true := by
      rcases hL.blk i b hb with h2 | ⟨h2, h3⟩ | h2
      · exact ⟨_, h2, by simpa using hbw⟩
      · exact ⟨_, by rw [h2]; exact h3, by simpa using hbw⟩
      · rw [hr2.dom _ h2] at hi; cases hi
    obtain ⟨b1, g1, g2⟩ := g
    rcases hxt.wr (ρ i) e b1 hi g1 g2 with h2 | ⟨j, ej, bj, h2, h3, h4, h5⟩
    · exact .inl h2
    · cases j with
      | loc k => rw [Sig.enter_loc] at h2; cases h2
      | out j =>
        simp only [Hp.enter, Hp.get, Option.map_eq_some_iff] at h3
        obtain ⟨b0, hb0, rfl⟩ := h3
        exact .inr ⟨j, ej, b0, h2, hb0, by simpa using h4, h5⟩
  · intro i e b hi hb hbw hbal
    have hi : σ' (ρ i) = some e := hi
    have g : ∃ b1, h1.get (ρ i) = some b1 ∧ b1.rw = false ∧ b1.alive = true := by
      rcases hL.blk i b hb with h2 | ⟨h2, h3⟩ | h2
      · exact ⟨_, h2, by simpa using hbw, by simpa using hbal⟩
      · exact ⟨_, by rw [h2]; exact h3, by simpa using hbw, by simpa using hbal⟩
      · rw [hr2.dom _ h2] at hi; cases hi
    obtain ⟨b1, g1, g2, g3⟩ := g
    obtain ⟨j, bj, h2, h3, h4, h5⟩ := hxt.ro (ρ i) e b1 hi g1 g2 g3
    cases j with
    | loc k => rw [Sig.enter_loc] at h2; cases h2
    | out j =>
      simp only [Hp.enter, Hp.get, Option.map_eq_some_iff] at h3
      obtain ⟨b0, hb0, rfl⟩ := h3
      exact ⟨j, b0, h2, hb0, by simpa using h4, by simpa using h5⟩
  · intro i _ hi
    refine ⟨hL.grows i hi, fun hn => ?_⟩
    show σ' (ρ i) = none
    have ho := hxt.old (.out i) trivial (by simp only [Hp.enter, Hp.get]; intro h0; rw [Option.map_eq_none_iff] at h0; exact hi h0)
    rw [hL.old i ho.1]
    exact ho.2 hn
  · intro i _ hi hq
    have hq : σ'.nm (ρ i) := hq
    have hne : h.enter.get (.out i) ≠ none := by simp only [Hp.enter, Hp.get]; intro h0; rw [Option.map_eq_none_iff] at h0; exact hi h0
    have ho := hxt.old (.out i) trivial hne
    rw [hL.old i ho.1] at hq
    exact hxt.oldn (.out i) trivial hne hq
theorem Outs.of {h h1 : Hp} {r1 r : V} {h' : Hp} {ρ : Id → Id} (hL : Leaves h h1 r1 r h' ρ) : Outs h h1 r1 r h' := fun _ _ _ _ _ hr hr2 hx hv => hL.out rfl hr hr2 hx hv
theorem VC.intro {P : Program} {T : TT} (hT : TOk P T) {f : FuncId} {fn : Func} {c : Code} {args : List V} {h : Hp} {r : V} {h' : Hp} (hf : P.funcs[f]? = some fn) (hb : fn.body = some c)
    (hent : ∀ as0 w, (callFunc f as0).run P w = .ok (.enter f as0) w) (hgr : h.grows h') (hn : args.length ≤ fn.ntmps)
    (hw : VWp P none isOut c ⟨fn.ntmps, frOf 0 (args.map (V.ren .out)) .leaf, h.enter, []⟩ (VFin T fn.results.toList h r h')) : VC P f args h r h' := by
  refine ⟨hent, hgr, fun σ w xs hr hxs => ?_⟩
  let σc : Sig := σ.enter.at w.heap.size
  have hrc : Rel σc h.enter w := hr.enter.at _
  have hlen := VRs.length hxs
  have hargs : VRs σc (args.map (V.ren .out)) xs := VRs.mono (σ.enter.at_le w.heap.size) _ _ (by rw [← V.rens_eq]; exact (VRs_ren σ.enter .out args xs).2 hxs)
  have hs : StRel σc ⟨fn.ntmps, frOf 0 (args.map (V.ren .out)) .leaf, h.enter, []⟩ { tmps := xs.toArray ++ Array.replicate (fn.ntmps - xs.toArray.size) undef, defers := [] } w := by
    refine ⟨hrc, ?_, by simp; omega, MarksRel.nil (Nat.le_refl _)⟩
    intro i
    show VR σc (Fr.at (frOf 0 (args.map (V.ren .out)) .leaf) i) _
    rw [frOf_at]
    rw [if_neg (by omega), Nat.sub_zero]
    split
    · rename_i v hv
      obtain ⟨x, hx, hvr⟩ := VRs.get hargs hv
      have hlt : i < xs.length := (List.getElem?_eq_some_iff.1 hx).1
      rw [Array.getD_eq_getD_getElem?, Array.getElem?_append_left (by simpa using hlt)]
      simp [hx]; exact hvr
    · simp [Fr.at, PT.get, VR]
  have hbody := hw σc _ w hs
  refine callsIn_of_wp_marks hf hb trivial (wpIn_mono hbody ?_)
  rintro e a' w' ⟨x, σ', st', rfl, ⟨hxx, h1, hkm, r1, hres, hL⟩, hs', hext⟩
  have fin : LeavesInM Fence.wide 0 P fn a'.tmps (fun e w' => ∃ σ' x, e = .returned x ∧ VR σ' r x ∧ Rel σ' h' w' ∧ ExtK allIds σ h w σ' h' w') a'.defers .returning w' := by
    refine killMarks_ok (K := isOut) a'.defers hs'.rel hs'.marks.list hs'.marks.nodup hext (by rw [hext.lo]; exact Nat.le_refl _) hkm ?_
    intro w2 hr2 hxt
    obtain ⟨v, hv, hvr⟩ := vresults_ok (P := P) hT hr2 hs'.fr hres
    obtain ⟨σ2, g1, g2, g3⟩ := hL _ _ _ _ _ hr (hr2.at _) hxt.at (VR.mono (σ'.at_le σ.lo) _ _ hvr)
    exact ⟨v, hv, σ2, v, rfl, g1, g2, g3⟩
  cases x with
  | exit id => exact hxx.elim
  | normal => exact fin
  | ret => exact fin
attribute [irreducible] VFin
end Go.Vm

namespace Go.Vm

def fieldsOf (P : Program) : List Field → Option (List FI)
  | [] => some []
  | g :: gs => match (P.info? g.type).map (·.size), aggOf P g.type, fieldsOf P gs with
    | some (n + 1), some a, some l => some (⟨g.offset, n + 1, a⟩ :: l)
    | _, _, _ => none
def tkOf (P : Program) : TypeDesc → TK
  | .bool => .bool
  | .int k => .int k
  | .pointer _ => .ptr
  | .slice e => match P.info? e with
    | some info => match info.zero with
      | some z => match info.size, z.cells.toList.all (·.oneCell'), Nat.beq z.cells.toList.length info.size with
        | n + 1, true, true => .slice e (n + 1) info.bytes (z.cells.toList.map (ofValue 4))
        | _, _, _ => .other
      | none => .other
    | none => .other
  | .array n e => match (P.info? e).map (·.size), aggOf P e with
    | some s, some a => .array n s a
    | _, _ => .other
  | .struct gs => match fieldsOf P gs.toList with
    | some l => .struct l
    | none => .other
  | .map k e => match P.info? e with
    | some info => match info.zero with
      | some z => .map k e (ofValue 4 z)
      | none => .other
    | none => .other
  | .func _ _ _ => .func
  | .string => .str
  | _ => .other
def tiOf (P : Program) : TT := fun t =>
  match P.underlying t, P.info? t with
  | some d, some info => match info.zero with
    | some z => some ⟨tkOf P d, info.size, descAgg d, ofValue 4 z⟩
    | none => none
  | _, _ => none
theorem fieldsOf_ok {P : Program} : ∀ {gs : List Field} {l : List FI}, fieldsOf P gs = some l → FieldsOk P l gs
  | [], l, h => by simp [fieldsOf] at h; subst h; simp [FieldsOk]
  | g :: gs, l, h => by
    simp only [fieldsOf] at h
    split at h
    · rename_i n a l' h1 h2 h3
      simp at h; subst h
      simp only [FieldsOk]
      exact ⟨g, gs, rfl, rfl, h1, by simp, h2, fieldsOf_ok h3⟩
    · cases h
theorem tkOf_ok {P : Program} (d : TypeDesc) : KindOk P d (tkOf P d) := by
  cases d <;> simp only [tkOf]
  case pointer e => exact ⟨e, rfl⟩
  case slice e =>
    split
    · rename_i info hinfo
      split
      · rename_i z hz
        split
        · rename_i n h1 h2 h3
          show TypeDesc.slice e = .slice e ∧ 0 < n + 1 ∧ ∃ info_1 z_1, P.info? e = some info_1 ∧ info_1.size = n + 1 ∧ info_1.bytes = info.bytes ∧ info_1.zero = some z_1 ∧ ZeroCs (z.cells.toList.map (ofValue 4)) z_1 ∧ (z.cells.toList.map (ofValue 4)).length = n + 1
          refine ⟨rfl, by omega, info, z, hinfo, h1, rfl, hz, ?_, ?_⟩
          · intro σ
            refine ⟨VRs_map (VR_ofValue σ 4) _, ?_⟩
            intro x hx
            exact List.all_eq_true.1 h2 x hx
          · rw [List.length_map, Nat.eq_of_beq_eq_true h3]; exact h1
        · trivial
      · trivial
    · trivial
  case array n e =>
    split
    · rename_i s a h1 h2; exact ⟨e, rfl, h1, h2⟩
    · trivial
  case struct gs =>
    split
    · rename_i l hl; exact ⟨gs, rfl, fieldsOf_ok hl⟩
    · trivial
  case map k e =>
    split
    · rename_i info hinfo
      split
      · rename_i z hz; exact ⟨rfl, info, z, hinfo, hz, fun σ => VR_ofValue σ 4 z⟩
      · trivial
    · trivial
  case func ps rs v => exact ⟨ps, rs, v, rfl⟩
  all_goals first | rfl | trivial
theorem tiOf_ok (P : Program) : TOk P (tiOf P) where
  ok := fun t ti h => by
    unfold tiOf at h
    split at h
    · rename_i d info h1 h2
      split at h
      · rename_i z hz
        simp at h; subst h
        exact ⟨d, info, z, h1, h2, rfl, rfl, hz, fun σ => VR_ofValue σ 4 z, tkOf_ok d⟩
      · cases h
    · cases h
def frOfK : Nat → List V → Fr → (Fr → Prop) → Prop
  | _, [], fr, K => K fr
  | i, v :: l, fr, K => v.forceK fun v => fr.setK i v fun fr => frOfK (i + 1) l fr K
theorem frOfK_eq : ∀ (i : Nat) (l : List V) (fr : Fr) (K : Fr → Prop), frOfK i l fr K = K (frOf i l fr)
  | _, [], _, _ => rfl
  | i, v :: l, fr, K => by simp only [frOfK, V.forceK_eq, Fr.setK_eq, frOfK_eq (i + 1) l, frOf]
def Hp.lift (h : Hp) : Id → Option Blk := fun i => (h.get i).map (Blk.ren .out)
structure VOut (h h1 : Hp) (r1 r : V) (h' : Hp) : Prop where
  ex : Outs h h1 r1 r h'
def vresK1 (T : TT) (fr : Fr) (h : Hp) (r : ResultVar) (ih : List V → (List V → Prop) → Prop) (acc : List V) (K : List V → Prop) : Prop := match r with
    | .tmp t => (fr.at t).forceK fun v => ih (v :: acc) K
    | .cell a t => VLd T t (fr.at a) h fun v => v.forceK fun v => ih (v :: acc) K
def vresK (T : TT) (fr : Fr) (h : Hp) (rs : List ResultVar) : List V → (List V → Prop) → Prop :=
  List.rec (motive := fun _ => List V → (List V → Prop) → Prop) (fun acc K => K acc.reverse) (fun r _ ih => vresK1 T fr h r ih) rs
theorem vresK_ok {T : TT} {fr : Fr} {h : Hp} {K : List V → Prop} : ∀ (rs : List ResultVar) (acc : List V), vresK T fr h rs acc K → ∃ vs, vresL T fr h rs = some vs ∧ K (acc.reverse ++ vs)
  | [], acc, hk => ⟨[], rfl, by have hk : K acc.reverse := hk; simpa using hk⟩
  | r :: rs, acc, hk => by
    cases r with
    | tmp t =>
      have hk : vresK1 T fr h (.tmp t) (vresK T fr h rs) acc K := hk
      simp only [vresK1, V.forceK_eq] at hk
      obtain ⟨vs, h1, h2⟩ := vresK_ok rs _ hk
      exact ⟨fr.at t :: vs, by simp [vresL, vres1, h1], by simpa using h2⟩
    | cell a t =>
      have hk : vresK1 T fr h (.cell a t) (vresK T fr h rs) acc K := hk
      simp only [vresK1] at hk
      obtain ⟨v, hl, hk⟩ := hk.elim'
      rw [V.forceK_eq] at hk
      obtain ⟨vs, h1, h2⟩ := vresK_ok rs _ hk
      exact ⟨v :: vs, by simp [vresL, vres1, hl, h1], by simpa using h2⟩
def vfin (T : TT) (rs : List ResultVar) (h : Hp) (r : V) (h' : Hp) (x : X) (st : St) : Prop :=
  match x with
  | .exit _ => False
  | _ => match killMarks st.h st.marks with
    | some h1 => h1.forceK fun h1 => vresK T st.fr h1 rs [] fun vs => match vs with
      | [v] => VOut h h1 v r h'
      | vs => VOut h h1 (.tuple vs) r h'
    | none => False
theorem vfin_ok {T : TT} {rs : List ResultVar} {h : Hp} {r : V} {h' : Hp} {x : X} {st : St} (hk : vfin T rs h r h' x st) : VFin T rs h r h' x st := by
  have key : (match killMarks st.h st.marks with
    | some h1 => h1.forceK fun h1 => vresK T st.fr h1 rs [] fun vs => match vs with
      | [v] => VOut h h1 v r h'
      | vs => VOut h h1 (.tuple vs) r h'
    | none => False) → ∃ h1, killMarks st.h st.marks = some h1 ∧ ∃ r1, vresults T rs st.fr h1 = some r1 ∧ Outs h h1 r1 r h' := by
    intro hk
    split at hk
    · rename_i h1 hkm
      rw [Hp.forceK_eq] at hk
      obtain ⟨vs, h2, h3⟩ := vresK_ok rs _ hk
      refine ⟨h1, hkm, ?_⟩
      simp only [List.reverse_nil, List.nil_append] at h3
      split at h3
      · rename_i v; exact ⟨v, by simp [vresults, h2], h3.ex⟩
      · rename_i hne
        refine ⟨.tuple vs, ?_, h3.ex⟩
        unfold vresults
        rw [h2]
        split
        · rename_i v hv; cases hv; exact absurd rfl (hne v)
        · rename_i vs2 _ hv; cases hv; rfl
        · rename_i hv; cases hv
    · exact hk.elim
  unfold vfin at hk
  cases x with
  | exit id => exact hk.elim
  | normal => exact VFin.mk ⟨trivial, key hk⟩
  | ret => exact VFin.mk ⟨trivial, key hk⟩
def vbody (P : Program) (fn : Func) (c : Code) (n : Nat) (args : List V) (h : Hp) (r : V) (h' : Hp) : Prop :=
  frOfK 0 (args.map (V.ren .out)) .leaf fun fr => vwp P (tiOf P) none isOut c ⟨n, fr, ⟨h.lift, []⟩, []⟩ (vfin (tiOf P) fn.results.toList h r h')
theorem VC.body {P : Program} {f : FuncId} {fn : Func} {c : Code} {n : Nat} {args : List V} {h : Hp} {r : V} {h' : Hp} (hf : P.funcs[f]? = some fn) (hb : fn.body = some c) (hn : fn.ntmps = n)
    (hent : ∀ as0 w, (callFunc f as0).run P w = .ok (.enter f as0) w) (hgr : h.grows h') (hl : Nat.ble args.length n = true) (hw : vbody P fn c n args h r h') : VC P f args h r h' := by
  subst hn
  unfold vbody at hw
  rw [frOfK_eq] at hw
  exact VC.intro (tiOf_ok P) hf hb hent hgr (Nat.le_of_ble_eq_true hl) (VWp.mono (vwp_ok (tiOf_ok P) _ _ _ hw) fun _ _ => vfin_ok)
/-! ### Ways to leave -/

theorem get_lift (h : Hp) (loc : List Blk) (i : Id) : (⟨h.lift, loc⟩ : Hp).get (.out i) = (h.get i).map (Blk.ren .out) := rfl
theorem VOut.same {h : Hp} {r r1 : V} {loc : List Blk} (hr : r1 = r.ren .out) : VOut h ⟨h.lift, loc⟩ r1 r h :=
  ⟨Outs.of (ρ := .out) ⟨fun _ _ => rfl, fun i b hb => .inl (by rw [get_lift, hb]; rfl), .inr hr, fun i j _ _ _ e => by cases e; rfl, (fun i hi => by rw [get_lift, hi]; rfl), h.grows_refl⟩⟩
theorem VOut.new {h : Hp} {r r1 : V} {p : Nat} {loc : List Blk} {b b1 : Blk} (hb : loc[p]? = some b1 ∧ b1 = b.ren (fun i => if i = h.fresh then .loc p else .out i) ∨ loc[p]? = none)
    (hr : ∀ (σ : Sig) (x : Value), VR σ r1 x → VR σ (r.ren (fun i => if i = h.fresh then .loc p else .out i)) x) : VOut h ⟨h.lift, loc⟩ r1 r (h.push b) :=
  ⟨Outs.of (ρ := fun i => if i = h.fresh then .loc p else .out i) ⟨
    fun i hi => by
      have : i ≠ h.fresh := fun e => hi (by rw [e, get_lift, h.get_fresh]; rfl)
      rw [if_neg this],
    fun i b' hi => by
      rw [Hp.get_push] at hi
      by_cases e : i = h.fresh
      · rw [if_pos e] at hi; cases hi
        rcases hb with ⟨hb, hb1⟩ | hb
        · left; rw [if_pos e]; show loc[p]? = _; rw [hb, hb1]
        · right; right; rw [if_pos e]; exact hb
      · rw [if_neg e] at hi
        right; left; exact ⟨by rw [if_neg e], by rw [get_lift, hi]; rfl⟩,
    .inl hr,
    fun i j hi hj _ e => by
      by_cases e1 : i = h.fresh
      · by_cases e2 : j = h.fresh
        · rw [e1, e2]
        · simp [e1, e2] at e
      · by_cases e2 : j = h.fresh
        · simp [e1, e2] at e
        · simpa [e1, e2] using e,
    (fun i hi => by
      rw [Hp.get_push] at hi
      by_cases e : i = h.fresh
      · rw [if_pos e] at hi; cases hi
      · rw [if_neg e] at hi ⊢; rw [get_lift, hi]; rfl), h.grows_push _⟩⟩
attribute [irreducible] Hp.lift
end Go.Vm


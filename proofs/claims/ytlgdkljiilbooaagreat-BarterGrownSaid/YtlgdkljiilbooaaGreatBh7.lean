/- Part 7 of the proof that what a river gave and took is exchanged back as the given statement says. No condition. -/
import Derived.Test.YtlgdkljiilbooaaGreatBh6
import Derived.Shelf.Sort.AssemblyIn
import Derived.Sort.EveryDepth
set_option linter.unusedVariables false
set_option linter.unusedSimpArgs false
namespace Go.Vm
open Go.Sort (grow putRow putCells Holds onCells mapBlock)

theorem Rel.growS {σ : Sig} {h : Hp} {w : World} (hr : Rel σ h w) (os : Array Obj) : Rel σ h (grow w os) where
  blk := fun i e b hi hb => by
    obtain ⟨h1, o, h2, h3⟩ := hr.blk i e b hi hb
    refine ⟨by show e.rid < (w.heap ++ os).size; rw [Array.size_append]; omega, o, ?_, h3⟩
    show (w.heap ++ os)[e.rid]? = some o
    rw [Array.getElem?_append_left h1]; exact h2
  apart := hr.apart
  dom := hr.dom
  nmd := hr.nmd
  fz := fun r o hro => by
    obtain ⟨h1, h2⟩ := hr.fz r o hro
    refine ⟨?_, h2⟩
    show (w.heap ++ os)[r]? = some o
    rw [Array.getElem?_append_left (Array.getElem?_eq_some_iff.1 h1).1]; exact h1
theorem Ext.growS {σ : Sig} {h : Hp} {w : World} (os : Array Obj) : Ext σ h w σ h (grow w os) where
  le := Sig.le_refl σ
  lo := rfl
  fzn := fun _ _ h => h
  size := by show w.heap.size ≤ (w.heap ++ os).size; rw [Array.size_append]; omega
  os := rfl
  tape := rfl
  output := rfl
  frame := fun r hr _ => by show (w.heap ++ os)[r]? = w.heap[r]?; rw [Array.getElem?_append_left hr]
  new := fun j ej hj hn => by rw [hj] at hn; cases hn
  down := fun j ej bj _ hbj hwj => ⟨bj, hbj, hwj⟩
  ro := fun j ej bj hj hbj hwj hal => ⟨hj, bj, hbj, hal, hwj⟩
  old := fun j hj => ⟨hj, fun x => x⟩
  oldn := fun j _ hx => hx
theorem flatI_get {l : List Int} {j : Nat} : (l.flatMap encI)[j]? = (l[j]?).map DI := by
  induction l generalizing j with
  | nil => rfl
  | cons a l ih =>
    cases j with
    | zero => rfl
    | succ j => rw [List.flatMap_cons]; exact ih
def srtI (n : Nat) (l : List Int) : List Int := ((l.take n).mergeSort fun x y => decide (x ≤ y)) ++ l.drop n
theorem VC.sortI {P : Program} {f : FuncId} {h : Hp} {i : Id} {n : Nat} {l : List Int} (hent : ∀ as0 w, (callFunc f as0).run P w = .ok (.enter f as0) w) (hb : h.get i = some (.flat true (l.flatMap encI))) (hn : n ≤ l.length) (h0 : 0 < n) (hl : l.length ≤ 4000000) (R : List Int) (hR : R <+: srtI n l)
    (hc : ∀ (blk off cap : Nat) (zs : List Int) (w : World), Holds (Value.int .i64) w blk off zs.toArray → blk < w.heap.size → zs.length < 4611686018427387904 → Calls P f #[.slice (some ⟨blk, off, none⟩) zs.length cap] w fun e w' => e = .returned (.tuple #[]) ∧ ∃ n os, w' = grow (putRow (Value.int .i64) (Sort.ahead w n) blk off (zs.mergeSort fun x y => decide (x ≤ y)).toArray) os) :
    VC P f [.gl i 1 n] h (.tuple []) (h.set i (.flat true (R.flatMap encI))) := by
  refine ⟨hent, Hp.grows_set h i _, fun σ w xs hr hxs => ?_⟩
  rw [callsIn_wide]
  obtain ⟨x, rfl, hx⟩ := VRs_one hxs
  simp only [VR] at hx
  obtain ⟨_, hx⟩ := hx
  rcases hx with ⟨hz, _⟩ | ⟨e, cap, o, hi, h1, h2, h3, rfl⟩
  · omega
  obtain ⟨hlt, ob, hob, hrel⟩ := hr.blk i e _ hi hb
  simp only [BlkRel] at hrel
  obtain ⟨cur, TT, fz, rfl, hs1, hs2, hfz, hcell⟩ := hrel
  have hfz := hfz rfl
  subst hfz
  rw [Nat.mul_one] at h2
  have h3 := h3 (by omega)
  subst h3
  have hcur : ∀ j x, l[j]? = some x → cur[e.base + j]? = some (.int .i64 x) := fun j x hj => by
    obtain ⟨y, hy, hv, _⟩ := hcell j (.s (.int .i64 x)) (by simp only [flatI_get, hj, Option.map_some]; rfl)
    simp only [VR, S.val] at hv
    rw [hy, hv]
  rw [flat_len encI_len, Nat.mul_one] at hs2
  have hlen : (l.take n).length = n := by rw [List.length_take]; omega
  have hH : Holds (Value.int .i64) w e.rid e.base (l.take n).toArray := by
    intro j hj
    have hj' : j < n := by simpa [hlen] using hj
    have hg : l[j]? = some (l[j]'(by omega)) := List.getElem?_eq_getElem _
    refine ⟨?_, by simp [World.frozen?, hob]⟩
    have := hcur j _ hg
    simp only [World.cell?, hob]
    simp only [Option.isSome_none, Bool.false_eq_true, if_false]
    rw [this]
    have hj2 : j < (l.take n).toArray.size := hj
    rw [getElem!_pos _ j hj2]
    simp
  have hcall := hc e.rid e.base cap (l.take n) w hH hlt (by omega)
  rw [hlen] at hcall
  refine Calls.mono hcall ?_
  rintro en w' ⟨rfl, q, os, rfl⟩
  obtain ⟨T, hT⟩ : ∃ T, T = (l.take n).mergeSort (fun x y => decide (x ≤ y)) := ⟨_, rfl⟩
  have hTl : T.length = n := by rw [hT, List.length_mergeSort, hlen]
  rw [← hT]
  have hcs : e.base + n ≤ cur.size := by omega
  obtain ⟨w1, hw1⟩ : ∃ w1, w1 = putRow (Value.int .i64) (Sort.ahead w q) e.rid e.base T.toArray := ⟨_, rfl⟩
  rw [← hw1]
  have hheap : w1.heap = w.heap.modify e.rid (onCells (putCells (Value.int .i64) e.base T.toArray)) := by rw [hw1]; rfl
  have hsz : w1.heap.size = w.heap.size := by rw [hheap, Array.size_modify]
  have hsame : ∀ r, r ≠ e.rid → w1.heap[r]? = w.heap[r]? := fun r hne => by rw [hheap, Array.getElem?_modify, if_neg (Ne.symm hne)]
  have hnew : w1.heap[e.rid]? = some (.cells (putCells (Value.int .i64) e.base T.toArray cur) TT (0, 0)) := by rw [hheap, Array.getElem?_modify, if_pos rfl, hob]; rfl
  have hput : ∀ k, (putCells (Value.int .i64) e.base T.toArray cur)[k]? = (cur[k]?).map fun x => if e.base ≤ k ∧ k < e.base + T.length then Value.int .i64 (T.getD (k - e.base) 0) else x := fun k => by
    unfold putCells
    rw [Array.getElem?_mapIdx]
    cases hk : cur[k]? with
    | none => rfl
    | some x =>
      simp only [Option.map_some, Option.some.injEq, List.size_toArray]
      split
      · rename_i hh
        congr 1
        rw [getElem!_pos _ (k - e.base) (by simp; omega)]
        simp [List.getD_eq_getElem?_getD, List.getElem?_eq_getElem (show k - e.base < T.length by omega)]
      · rfl
  have hrel' : BlkRel σ e (.flat true (R.flatMap encI)) (.cells (putCells (Value.int .i64) e.base T.toArray cur) TT (0, 0)) := by
    have hsl : (srtI n l).length = l.length := by unfold srtI; rw [List.length_append, List.length_mergeSort, hlen, List.length_drop]; omega
    refine ⟨_, TT, (0, 0), rfl, by simp [putCells]; exact hs1, by rw [flat_len encI_len, Nat.mul_one]; have := hR.length_le; omega, fun _ => rfl, ?_⟩
    intro j v hv
    dsimp only at hv
    rw [flatI_get] at hv
    have hjR : j < R.length := by
      rcases Nat.lt_or_ge j R.length with h | h
      · exact h
      · rw [List.getElem?_eq_none h] at hv; cases hv
    have hjl : j < (srtI n l).length := by have := hR.length_le; omega
    rw [show R[j]? = (srtI n l)[j]? by
      obtain ⟨t, ht⟩ := hR
      rw [← ht, List.getElem?_append_left hjR]] at hv
    have hcj : cur[e.base + j]? = some (.int .i64 (l[j]'(by omega))) := hcur j _ (List.getElem?_eq_getElem _)
    rw [hput, hcj, Option.map_some]
    refine ⟨_, rfl, ?_, ?_⟩
    · have hsr : (srtI n l)[j]? = some (if j < n then T.getD j 0 else l[j]'(by omega)) := by
        unfold srtI
        rw [← hT]
        by_cases hjn : j < n
        · rw [if_pos hjn, List.getElem?_append_left (by omega), List.getElem?_eq_getElem (by omega)]
          simp [List.getD_eq_getElem?_getD, List.getElem?_eq_getElem (show j < T.length by omega)]
        · rw [if_neg hjn, List.getElem?_append_right (by omega), hTl, List.getElem?_drop, show n + (j - n) = j by omega, List.getElem?_eq_getElem]
      rw [hsr] at hv
      cases hv
      simp only [VR, S.val, D.v]
      by_cases hjn : j < n
      · rw [if_pos (by omega), if_pos hjn, show e.base + j - e.base = j by omega]
      · rw [if_neg (by omega), if_neg hjn]
    · split <;> rfl
  have hrel2 := hr.upd hi hb rfl (fun _ => rfl) hsz hsame hnew hrel'
  have hext := Ext.upd (h := h) (b' := .flat true (R.flatMap encI)) hi hb rfl (fun _ => rfl) hsz (by rw [hw1]; rfl) (by rw [hw1]; rfl) (by rw [hw1]; rfl) hsame
  exact ⟨σ, .tuple #[], rfl, by simp only [VR]; exact ⟨#[], rfl, rfl⟩, hrel2.growS os, (hext.trans (Ext.growS os)).toK⟩
end Go.Vm

namespace Go.Proofs.YtlgdkljiilbooaaGreat
open Go.Shelf
def srtRen : Ren := ⟨fun | 125 => 89 | 128 => 100 | 129 => 101 | 189 => 81 | 215 => 56 | 216 => 97 | 257 => 88 | 294 => 91 | 295 => 92 | 296 => 93 | 297 => 94 | 298 => 95 | 299 => 96 | 300 => 98 | 301 => 99 | 328 => 102 | 329 => 103 | 330 => 104 | 331 => 105 | 332 => 106 | 343 => 107 | n => n, fun | 0 => 0 | 3 => 3 | 4 => 4 | 5 => 5 | 9 => 9 | 28 => 24 | 46 => 134 | 51 => 50 | 53 => 143 | 131 => 155 | 182 => 149 | 183 => 150 | 218 => 159 | 222 => 163 | 228 => 165 | 229 => 166 | n => n, fun n => n⟩
theorem srtLays : Lays.n189 Tryz.prog srtRen := {
  mixed := by kernel_rfl
  f125 := by kernel_rfl
  f128 := by kernel_rfl
  f129 := by kernel_rfl
  f189 := by kernel_rfl
  f215 := by kernel_rfl
  f216 := by kernel_rfl
  f257 := by kernel_rfl
  f294 := by kernel_rfl
  f295 := by kernel_rfl
  f296 := by kernel_rfl
  f297 := by kernel_rfl
  f298 := by kernel_rfl
  f299 := by kernel_rfl
  f300 := by kernel_rfl
  f301 := by kernel_rfl
  f328 := by kernel_rfl
  f329 := by kernel_rfl
  f330 := by kernel_rfl
  f331 := by kernel_rfl
  f332 := by kernel_rfl
  f343 := by kernel_rfl
  t0 := by kernel_rfl
  a0 := fun _ => by kernel_rfl
  z0 := fun _ => by kernel_rfl
  v0 := fun _ => by kernel_rfl
  t3 := by kernel_rfl
  a3 := fun _ => by kernel_rfl
  z3 := fun _ => by kernel_rfl
  v3 := fun _ => by kernel_rfl
  t4 := by kernel_rfl
  a4 := fun _ => by kernel_rfl
  z4 := fun _ => by kernel_rfl
  v4 := fun _ => by kernel_rfl
  t5 := by kernel_rfl
  a5 := fun _ => by kernel_rfl
  z5 := fun _ => by kernel_rfl
  v5 := fun _ => by kernel_rfl
  t9 := by kernel_rfl
  a9 := fun _ => by kernel_rfl
  z9 := fun _ => by kernel_rfl
  v9 := fun _ => by kernel_rfl
  t28 := by kernel_rfl
  a28 := fun _ => by kernel_rfl
  z28 := fun _ => by kernel_rfl
  v28 := fun _ => by kernel_rfl
  t46 := by kernel_rfl
  a46 := fun _ => by kernel_rfl
  z46 := fun _ => by kernel_rfl
  v46 := fun _ => by kernel_rfl
  t51 := by kernel_rfl
  a51 := fun _ => by kernel_rfl
  z51 := fun _ => by kernel_rfl
  v51 := fun _ => by kernel_rfl
  t53 := by kernel_rfl
  a53 := fun _ => by kernel_rfl
  z53 := fun _ => by kernel_rfl
  v53 := fun _ => by kernel_rfl
  t131 := by kernel_rfl
  a131 := fun _ => by kernel_rfl
  z131 := fun _ => by kernel_rfl
  v131 := fun _ => by kernel_rfl
  t182 := by kernel_rfl
  a182 := fun _ => by kernel_rfl
  z182 := fun _ => by kernel_rfl
  v182 := fun _ => by kernel_rfl
  t183 := by kernel_rfl
  a183 := fun _ => by kernel_rfl
  z183 := fun _ => by kernel_rfl
  v183 := fun _ => by kernel_rfl
  t218 := by kernel_rfl
  a218 := fun _ => by kernel_rfl
  z218 := fun _ => by kernel_rfl
  v218 := fun _ => by kernel_rfl
  t222 := by kernel_rfl
  a222 := fun _ => by kernel_rfl
  z222 := fun _ => by kernel_rfl
  v222 := fun _ => by kernel_rfl
  t228 := by kernel_rfl
  a228 := fun _ => by kernel_rfl
  z228 := fun _ => by kernel_rfl
  v228 := fun _ => by kernel_rfl
  t229 := by kernel_rfl
  a229 := fun _ => by kernel_rfl
  z229 := fun _ => by kernel_rfl
  v229 := fun _ => by kernel_rfl
}
theorem vc_Sort (n : Nat) (l : List Int) (i : Go.Vm.Id) (h : Go.Vm.Hp) (hb : h.get i = some (.flat true (l.flatMap Go.Vm.encI))) (hn : n ≤ l.length) (h0 : 0 < n) (hl : l.length ≤ 4000000) (R : List Int) (hR : R <+: Go.Vm.srtI n l) : Go.Vm.VC Tryz.prog 81 [.gl i 1 n] h (.tuple []) (h.set i (.flat true (R.flatMap Go.Vm.encI))) :=
  Go.Vm.VC.sortI Tryz.call81 hb hn h0 hl R hR fun blk off cap zs w h1 h2 h3 => calls_of_every_depth fun D => AnyS.slices_Sort_int_in srtLays D blk off cap zs w h1 h2 h3
end Go.Proofs.YtlgdkljiilbooaaGreat

open Go.Vm
open Riv
namespace Go.Vm
theorem hid_new {outer : Id → Option Blk} {loc : List Blk} {fz : List (Nat × List D)} (n : Nat) (hl : Nat.beq loc.length n = true) : ∀ i, (⟨outer, loc⟩ : Hp).get i ≠ none → (⟨List.range n ++ [n], n, fz, []⟩ : TCtx).ρ i = i := by
  intro i hi
  have hl : loc.length = n := Nat.eq_of_beq_eq_true hl
  cases i with
  | out i => rfl
  | loc k =>
    have hlt : k < n := by
      rcases Nat.lt_or_ge k n with h1 | h1
      · exact h1
      · exact absurd (List.getElem?_eq_none (show loc.length ≤ k by omega)) hi
    have : (List.range n ++ [n])[k]? = some k := by rw [List.getElem?_append_left (by simpa using hlt)]; exact rangeLt hlt
    simp [TCtx.ρ, this]
end Go.Vm
namespace Go.Proofs.YtlgdkljiilbooaaGreat
set_option maxRecDepth 20000
set_option maxHeartbeats 4000000

def natLL (l : List (List Nat)) : List (List Int) := l.map natI
theorem natI_srt (l : List Nat) : natI (srtN l) = (natI l).mergeSort fun x y => decide (x ≤ y) := by
  unfold natI srtN
  rw [List.map_mergeSort]
  intro a _ b _
  rw [Bool.eq_iff_iff, decide_eq_true_eq, decide_eq_true_eq]
  exact Int.ofNat_le.symm
def pfK (mk : List Bool) (W k : Nat) : List Nat × List (List Nat) := (List.range k).foldl (pstep mk W) ([], [])
theorem pfK_step (mk : List Bool) (W k : Nat) : pfK mk W (k + 1) = pstep mk W (pfK mk W k) k := by unfold pfK; rw [List.range_succ, List.foldl_append]; rfl
theorem pfK_ok {mk : List Bool} {W H : Nat} (hW : 2 ≤ W) (hL : mk.length = W * H) : ∀ k, (pfK mk W k).1.Nodup ∧ (∀ x ∈ (pfK mk W k).1, x < mk.length) ∧ (pfK mk W k).2.length ≤ k
  | 0 => ⟨List.nodup_nil, fun x hx => (by cases hx), Nat.le_refl _⟩
  | k + 1 => by
    obtain ⟨h1, h2, h3⟩ := pfK_ok hW hL k
    rw [pfK_step]
    generalize pfK mk W k = x at h1 h2 h3
    unfold pstep
    split
    · rename_i hc
      have h := (folW_mi (N := mk.length) hW hL hc.2 hc.1 h1 h2 (by omega)).1
      refine ⟨h.nd, h.lt, ?_⟩
      dsimp only
      rw [List.length_append, List.length_singleton]; omega
    · exact ⟨h1, h2, by omega⟩
end Go.Proofs.YtlgdkljiilbooaaGreat

open Go.Vm
open Riv
namespace Go.Proofs.YtlgdkljiilbooaaGreat
set_option maxRecDepth 20000
set_option maxHeartbeats 4000000

theorem vc_partsI {W H : Nat} (m : Mp) (h : Hp) (o : MOk W H m.c) (hw : m.w = W) : VC Tryz.prog 64 [vM m, ints m.c, .func (.func 65) [] []] h (intss (natLL (parts (marks m.c) W))) h := by
  have hWb := o.w
  have hHb := o.h
  have hL := o.len
  have hm144 := MOk.le o
  have hmkl := marks_len m.c
  have hLm : (marks m.c).length = W * H := by rw [hmkl]; exact hL
  have hok := fun k => pfK_ok (mk := (marks m.c)) (W := W) (H := H) (by omega) hLm k
  have hst := fun k => pfK_step (marks m.c) W k
  have hfin : parts (marks m.c) W = (pfK (marks m.c) W (marks m.c).length).2 := rfl
  have cF := fun n M h h1 h2 h3 h4 hM hO => vc_folI m o hw (marks m.c).length n M [] (.loc 0) (.loc 1) (.loc 2) (.loc 4) h h1 h2 h3 h4 (by rw [hmkl]; omega) (Nat.zero_le _) hM hO ⟨by decide, by decide, by decide, by decide, by decide⟩
  obtain ⟨R, hR⟩ : ∃ R, R = parts (marks m.c) W := ⟨_, rfl⟩
  rw [← hR] at hfin ⊢
  obtain ⟨mw, mh, c⟩ := m
  dsimp only at *
  subst hw
  show VC Tryz.prog 64 [.agg [I W, I mh, ints c], ints c, .func (.func 65) [] []] h _ h
  refine VC.bodyC 2 Tryz.func64 rfl Tryz.ntmps64 Tryz.call64 (h.grows_refl) rfl ?_
  conv => whnf
  repeat' (first | ((first | refine zs1 ?_ | refine zs2 ?_ | refine zs3 ?_ | refine zs4 ?_ | refine zs5 ?_); conv => whnf) | ((first | apply zi1 | apply zi2 | apply zi3 | apply zi4 | apply zi5) <;> intro _ <;> conv => whnf) | (refine VMem.make false encB_len rfl rfl rfl rfl rfl rfl (by omega) ?_; conv => whnf))
  refine VCut.at' (outer := h.lift) (marks := []) 99 [(3, .fp [DI W, DI mh, dints c]), (4, .fp [dints c]), (5, .fp [.func (.func 65) [] []]), (7, .ptr (.loc 0) 0)] [.cells true [.gl (.loc 1) 1 c.length], .flat true ((metB c.length []).flatMap encB)] ?_ ?_
  · rw [metB_nil]
    conv => whnf
    refine Retell.turn ⟨[4,3], 5, [(0, [DI W, DI mh, dints c]), (1, [dints c]), (2, [.func (.func 65) [] []])], []⟩ (TurnOk.mk' _ _ [(0, [DI W, DI mh, dints c]), (1, [dints c]), (2, [.func (.func 65) [] []])] [] (OutOk.lift _) rfl (by decide) zb zf trivial rfl) zw zm
  conv => whnf
  repeat' (first | ((first | refine zs1 ?_ | refine zs2 ?_ | refine zs3 ?_ | refine zs4 ?_ | refine zs5 ?_); conv => whnf) | ((first | apply zi1 | apply zi2 | apply zi3 | apply zi4 | apply zi5) <;> intro _ <;> conv => whnf))
  refine VCode.lpC (outer := h.lift) (marks := []) 99 (fun k : Nat => [(3, .fp [DI W, DI mh, dints c]), (4, .fp [dints c]), (5, .fp [.func (.func 65) [] []]), (7, .ptr (.loc 0) 0), (8, .gl (.loc 3) 1 (pfK (marks c) W k).2.length), (9, .ptr (.loc 2) 0), (17, ints c), (18, I c.length), (19, I k)]) (fun k => [.cells true [.gl (.loc 1) 1 c.length], .flat true ((metB c.length (pfK (marks c) W k).1).flatMap encB), .cells true [vFolI W mh c (.loc 0) (.loc 2)], .flat true ((natLL (pfK (marks c) W k).2).flatMap encL)]) (fun k => k ≤ c.length) (fun k => c.length - k) 0 (Nat.zero_le _) ?_ ?_
  · rw [show pfK (marks c) W 0 = ([], []) from rfl]
    conv => whnf
    refine Retell.turn ⟨[0,1,2,3], 3, [], []⟩ (TurnOk.mk' _ _ [] [] (OutOk.lift _) rfl (by decide) zb trivial trivial rfl) zw zm
  · rintro k hk
    rcases Nat.lt_or_ge k c.length with hkl | hkl
    · obtain ⟨a1, a2, a3⟩ := hok k
      have hstk := hst k
      generalize pfK (marks c) W k = x at a1 a2 a3 hstk
      obtain ⟨M, outs⟩ := x
      dsimp only at a1 a2 a3 ⊢
      have hx := at0_get hkl
      have hqm := metB_at M hkl
      have cSq := fun h => vc_isl1 (at0 c k) h
      rw [← bat_marks] at cSq
      by_cases hgo : k ∉ M ∧ bat (marks c) k = true
      · unfold pstep at hstk
        dsimp only at hstk
        rw [if_pos hgo] at hstk
        have hmi := folW_mi (N := (marks c).length) (by omega) hLm hgo.2 hgo.1 a1 a2 (by omega)
        have cFk := fun H hM hO => cF k M H hgo.2 hgo.1 a1 (fun x hx => by have := a2 x hx; omega) hM hO
        have hol := ownF_len [] hmi.1.pre.length_le
        have hol1 := hmi.1.len
        have hne : M.length < (folW (marks c) W (marks c).length k M).length := by
          have h1 := hmi.1.pre.length_le
          refine Nat.lt_of_le_of_ne h1 fun e => hgo.1 ?_
          rw [hmi.1.pre.eq_of_length e]
          exact hmi.2
        have hown : ownF [] M (folW (marks c) W (marks c).length k M) = natI ((folW (marks c) W (marks c).length k M).drop M.length) := List.nil_append _
        rw [decide_eq_false hgo.1] at hqm
        rw [hgo.2] at cSq
        have hsrt := natI_srt ((folW (marks c) W (marks c).length k M).drop M.length)
        rw [← hown] at hsrt
        generalize (folW (marks c) W (marks c).length k M).drop M.length = own at hown hsrt hstk
        generalize folW (marks c) W (marks c).length k M = S at cFk hol hol1 hne hown hsrt hstk
        generalize ownF [] M S = l at cFk hol hown hsrt
        have hll : 0 < l.length := by rw [hol, List.length_nil]; omega
        have cSrt := fun h hb => vc_Sort l.length l (.loc 5) h hb (Nat.le_refl _) hll (by rw [hol, List.length_nil]; omega) (natI (srtN own)) (by rw [hsrt]; unfold Go.Vm.srtI; rw [List.take_length]; exact List.prefix_append _ _)
        have hsl : (natI (srtN own)).length = l.length := by rw [hsrt, List.length_mergeSort]
        conv => whnf
        repeat' (first | ((first | refine zs1 ?_ | refine zs2 ?_ | refine zs3 ?_ | refine zs4 ?_ | refine zs5 ?_); conv => whnf) | ((first | apply zi1 | apply zi2 | apply zi3 | apply zi4 | apply zi5) <;> intro _ <;> first | (exfalso; omega) | contradiction | (conv => whnf)) | (refine VAny.ix encI_len k (by omega) (by first | rfl | omega) hx ?_; conv => whnf) | (refine VLd.recc encB_len k 0 rfl rfl rfl hqm (by decide) rfl (ofs _) ?_; conv => whnf) | (refine VCall.intro (cSq _) ?_; conv => whnf))
        refine VCall.intro (VC.turn ⟨[0, 1, 2, 3, 4], 4, [], []⟩ (args' := [I k, .gl (.loc 4) 1 0, .ptr (.loc 0) 0, .fp [DI W, DI mh, dints c], .fp [.func (.func 65) [] []], .fp [dints c], .ptr (.loc 2) 0]) (loc' := [.cells true [.gl (.loc 1) 1 c.length], .flat true ((metB c.length M).flatMap encB), .cells true [vFolI W mh c (.loc 0) (.loc 2)], .flat true ((natLL outs).flatMap encL), .flat true []]) (TurnOk.mk' _ _ [] [] (OutOk.lift _) rfl (by decide) zb trivial trivial rfl) (hid_new 4 rfl) zv (cFk _ ⟨rfl, rfl, rfl⟩ rfl)) ?_
        conv => whnf
        repeat' (first | ((first | refine zs1 ?_ | refine zs2 ?_ | refine zs3 ?_ | refine zs4 ?_ | refine zs5 ?_); conv => whnf) | ((first | apply zi1 | apply zi2 | apply zi3 | apply zi4 | apply zi5) <;> intro _ <;> conv => whnf))
        refine VCall.intro (cSrt _ rfl) ?_
        conv => whnf
        repeat' (first | ((first | refine zs1 ?_ | refine zs2 ?_ | refine zs3 ?_ | refine zs4 ?_ | refine zs5 ?_); conv => whnf) | ((first | apply zi1 | apply zi2 | apply zi3 | apply zi4 | apply zi5) <;> intro _ <;> conv => whnf))
        refine VMem.appCell (l := ((natLL outs).flatMap encL).map D.v) (v := .gl (.loc 5) 1 l.length) rfl rfl rfl rfl (by simp [flat_len encL_len, natLL]) rfl (by simp [flat_len encL_len, natLL]; omega) ?_
        conv => whnf
        repeat' (first | ((first | refine zs1 ?_ | refine zs2 ?_ | refine zs3 ?_ | refine zs4 ?_ | refine zs5 ?_); conv => whnf) | ((first | apply zi1 | apply zi2 | apply zi3 | apply zi4 | apply zi5) <;> intro _ <;> conv => whnf))
        refine LEnd.intro (k + 1) (by omega) (by omega) ?_
        rw [hstk]
        dsimp only
        have hnl : natLL (outs ++ [srtN own]) = natLL outs ++ [natI (srtN own)] := by unfold natLL; simp
        have hnn : (outs ++ [srtN own]).length = outs.length + 1 := by simp
        rw [hnl, hnn]
        generalize natI (srtN own) = srt at hsl ⊢
        rw [← hsl]
        conv => whnf
        refine Retell.turn ⟨[0,1,2,7], 8, [(5, srt.flatMap Vm.encI)], []⟩ (TurnOk.mk' _ _ [(5, srt.flatMap Vm.encI)] [] (OutOk.lift _) rfl (by decide) zb zf trivial rfl) zw zm
      · unfold pstep at hstk
        dsimp only at hstk
        rw [if_neg hgo] at hstk
        have hgo2 : k ∈ M ∨ bat (marks c) k = false := by
          by_cases hqM : k ∈ M
          · exact .inl hqM
          · right
            cases hb : bat (marks c) k with
            | false => rfl
            | true => exact absurd ⟨hqM, hb⟩ hgo
        rcases hgo2 with hb | hb
        all_goals (
          first | rw [decide_eq_true hb] at hqm | rw [hb] at cSq
          conv => whnf
          repeat' (first | ((first | refine zs1 ?_ | refine zs2 ?_ | refine zs3 ?_ | refine zs4 ?_ | refine zs5 ?_); conv => whnf) | ((first | apply zi1 | apply zi2 | apply zi3 | apply zi4 | apply zi5) <;> intro _ <;> first | (exfalso; omega) | contradiction | (conv => whnf)) | (refine VAny.ix encI_len k (by omega) (by first | rfl | omega) hx ?_; conv => whnf) | (refine VLd.recc encB_len k 0 rfl rfl rfl hqm (by decide) rfl (ofs _) ?_; conv => whnf) | (refine VCall.intro (cSq _) ?_; conv => whnf))
          all_goals first
            | contradiction
            | (refine LEnd.intro (k + 1) (by omega) (by omega) ?_
               rw [hstk]
               dsimp only
               conv => whnf
               refine Retell.turn ⟨[0,1,2,3], 4, [], []⟩ (TurnOk.mk' _ _ [] [] (OutOk.lift _) rfl (by decide) zb trivial trivial rfl) zw zm))
    · obtain rfl : k = c.length := by omega
      have hx2 : (pfK (marks c) W c.length).2 = R := by rw [hfin, hmkl]
      rw [hx2]
      generalize (pfK (marks c) W c.length).1 = M
      have hRl : (natLL R).length = R.length := by unfold natLL; rw [List.length_map]
      rw [show intss (natLL R) = .fs 1 R.length ((natLL R).flatMap encL) by unfold intss; rw [hRl]]
      have hRf : ((natLL R).flatMap encL).length = R.length * 1 := by rw [flat_len encL_len, hRl]
      conv => whnf
      repeat' (first | ((first | refine zs1 ?_ | refine zs2 ?_ | refine zs3 ?_ | refine zs4 ?_ | refine zs5 ?_); conv => whnf) | ((first | apply zi1 | apply zi2 | apply zi3 | apply zi4 | apply zi5) <;> intro _ <;> first | (exfalso; omega) | contradiction | (conv => whnf)))
      refine VOut.data 4 [(3, (natLL R).flatMap encL)] [] rfl zf (by exact FmAll.nil) zw
end Go.Proofs.YtlgdkljiilbooaaGreat

open Go.Vm
open Riv
namespace Go.Proofs.YtlgdkljiilbooaaGreat
set_option maxRecDepth 20000
set_option maxHeartbeats 4000000

theorem vc_partsB {W H : Nat} (m : Mp) (mk : List Bool) (h : Hp) (o : MOk W H m.c) (hw : m.w = W) (hmk : mk.length = m.c.length) : VC Tryz.prog 76 [vM m, bools mk, .func (.func 77) [] []] h (intss (natLL (parts mk W))) h := by
  have hWb := o.w
  have hHb := o.h
  have hL := o.len
  have hm144 := MOk.le o
  
  have hLm : mk.length = W * H := by rw [hmk]; exact hL
  have hok := fun k => pfK_ok (mk := mk) (W := W) (H := H) (by omega) hLm k
  have hst := fun k => pfK_step mk W k
  have hfin : parts mk W = (pfK mk W mk.length).2 := rfl
  have cF := fun n M h h1 h2 h3 h4 hM hO => vc_folB m mk o hw hmk mk.length n M [] (.loc 0) (.loc 1) (.loc 2) (.loc 4) h h1 h2 h3 h4 (by rw [hmk]; omega) (Nat.zero_le _) hM hO ⟨by decide, by decide, by decide, by decide, by decide⟩
  obtain ⟨R, hR⟩ : ∃ R, R = parts mk W := ⟨_, rfl⟩
  rw [← hR] at hfin ⊢
  obtain ⟨mw, mh, c⟩ := m
  dsimp only at *
  subst hw
  show VC Tryz.prog 76 [.agg [I W, I mh, ints c], bools mk, .func (.func 77) [] []] h _ h
  refine VC.bodyC 2 Tryz.func76 rfl Tryz.ntmps76 Tryz.call76 (h.grows_refl) rfl ?_
  conv => whnf
  repeat' (first | ((first | refine zs1 ?_ | refine zs2 ?_ | refine zs3 ?_ | refine zs4 ?_ | refine zs5 ?_); conv => whnf) | ((first | apply zi1 | apply zi2 | apply zi3 | apply zi4 | apply zi5) <;> intro _ <;> conv => whnf) | (refine VMem.make false encB_len rfl rfl rfl rfl rfl rfl (by omega) ?_; conv => whnf))
  refine VCut.at' (outer := h.lift) (marks := []) 99 [(3, .fp [DI W, DI mh, dints c]), (4, .fp [dbools mk]), (5, .fp [.func (.func 77) [] []]), (7, .ptr (.loc 0) 0)] [.cells true [.gl (.loc 1) 1 mk.length], .flat true ((metB mk.length []).flatMap encB)] ?_ ?_
  · rw [metB_nil]
    conv => whnf
    refine Retell.turn ⟨[4,3], 5, [(0, [DI W, DI mh, dints c]), (1, [dbools mk]), (2, [.func (.func 77) [] []])], []⟩ (TurnOk.mk' _ _ [(0, [DI W, DI mh, dints c]), (1, [dbools mk]), (2, [.func (.func 77) [] []])] [] (OutOk.lift _) rfl (by decide) zb zf trivial rfl) zw zm
  conv => whnf
  repeat' (first | ((first | refine zs1 ?_ | refine zs2 ?_ | refine zs3 ?_ | refine zs4 ?_ | refine zs5 ?_); conv => whnf) | ((first | apply zi1 | apply zi2 | apply zi3 | apply zi4 | apply zi5) <;> intro _ <;> conv => whnf))
  refine VCode.lpC (outer := h.lift) (marks := []) 99 (fun k : Nat => [(3, .fp [DI W, DI mh, dints c]), (4, .fp [dbools mk]), (5, .fp [.func (.func 77) [] []]), (7, .ptr (.loc 0) 0), (8, .gl (.loc 3) 1 (pfK mk W k).2.length), (9, .ptr (.loc 2) 0), (17, bools mk), (18, I mk.length), (19, I k)]) (fun k => [.cells true [.gl (.loc 1) 1 mk.length], .flat true ((metB mk.length (pfK mk W k).1).flatMap encB), .cells true [vFolB W mh c mk (.loc 0) (.loc 2)], .flat true ((natLL (pfK mk W k).2).flatMap encL)]) (fun k => k ≤ mk.length) (fun k => mk.length - k) 0 (Nat.zero_le _) ?_ ?_
  · rw [show pfK mk W 0 = ([], []) from rfl]
    conv => whnf
    refine Retell.turn ⟨[0,1,2,3], 3, [], []⟩ (TurnOk.mk' _ _ [] [] (OutOk.lift _) rfl (by decide) zb trivial trivial rfl) zw zm
  · rintro k hk
    rcases Nat.lt_or_ge k mk.length with hkl | hkl
    · obtain ⟨a1, a2, a3⟩ := hok k
      have hstk := hst k
      generalize pfK mk W k = x at a1 a2 a3 hstk
      obtain ⟨M, outs⟩ := x
      dsimp only at a1 a2 a3 ⊢
      have hx := bat_get hkl
      have hqm := metB_at M hkl
      have cSq := fun h => vc_chg1 (bat mk k) h
      by_cases hgo : k ∉ M ∧ bat mk k = true
      · unfold pstep at hstk
        dsimp only at hstk
        rw [if_pos hgo] at hstk
        have hmi := folW_mi (N := mk.length) (by omega) hLm hgo.2 hgo.1 a1 a2 (by omega)
        have cFk := fun H hM hO => cF k M H hgo.2 hgo.1 a1 (fun x hx => by have := a2 x hx; omega) hM hO
        have hol := ownF_len [] hmi.1.pre.length_le
        have hol1 := hmi.1.len
        have hne : M.length < (folW mk W mk.length k M).length := by
          have h1 := hmi.1.pre.length_le
          refine Nat.lt_of_le_of_ne h1 fun e => hgo.1 ?_
          rw [hmi.1.pre.eq_of_length e]
          exact hmi.2
        have hown : ownF [] M (folW mk W mk.length k M) = natI ((folW mk W mk.length k M).drop M.length) := List.nil_append _
        rw [decide_eq_false hgo.1] at hqm
        rw [hgo.2] at hx cSq
        have hsrt := natI_srt ((folW mk W mk.length k M).drop M.length)
        rw [← hown] at hsrt
        generalize (folW mk W mk.length k M).drop M.length = own at hown hsrt hstk
        generalize folW mk W mk.length k M = S at cFk hol hol1 hne hown hsrt hstk
        generalize ownF [] M S = l at cFk hol hown hsrt
        have hll : 0 < l.length := by rw [hol, List.length_nil]; omega
        have cSrt := fun h hb => vc_Sort l.length l (.loc 5) h hb (Nat.le_refl _) hll (by rw [hol, List.length_nil]; omega) (natI (srtN own)) (by rw [hsrt]; unfold Go.Vm.srtI; rw [List.take_length]; exact List.prefix_append _ _)
        have hsl : (natI (srtN own)).length = l.length := by rw [hsrt, List.length_mergeSort]
        conv => whnf
        repeat' (first | ((first | refine zs1 ?_ | refine zs2 ?_ | refine zs3 ?_ | refine zs4 ?_ | refine zs5 ?_); conv => whnf) | ((first | apply zi1 | apply zi2 | apply zi3 | apply zi4 | apply zi5) <;> intro _ <;> first | (exfalso; omega) | contradiction | (conv => whnf)) | (refine VAny.ix encB_len k (by omega) (by first | rfl | omega) hx ?_; conv => whnf) | (refine VLd.recc encB_len k 0 rfl rfl rfl hqm (by decide) rfl (ofs _) ?_; conv => whnf) | (refine VCall.intro (cSq _) ?_; conv => whnf))
        refine VCall.intro (VC.turn ⟨[0, 1, 2, 3, 4], 4, [], []⟩ (args' := [I k, .gl (.loc 4) 1 0, .ptr (.loc 0) 0, .fp [DI W, DI mh, dints c], .fp [.func (.func 77) [] []], .fp [dbools mk], .ptr (.loc 2) 0]) (loc' := [.cells true [.gl (.loc 1) 1 mk.length], .flat true ((metB mk.length M).flatMap encB), .cells true [vFolB W mh c mk (.loc 0) (.loc 2)], .flat true ((natLL outs).flatMap encL), .flat true []]) (TurnOk.mk' _ _ [] [] (OutOk.lift _) rfl (by decide) zb trivial trivial rfl) (hid_new 4 rfl) zv (cFk _ ⟨rfl, rfl, rfl⟩ rfl)) ?_
        conv => whnf
        repeat' (first | ((first | refine zs1 ?_ | refine zs2 ?_ | refine zs3 ?_ | refine zs4 ?_ | refine zs5 ?_); conv => whnf) | ((first | apply zi1 | apply zi2 | apply zi3 | apply zi4 | apply zi5) <;> intro _ <;> conv => whnf))
        refine VCall.intro (cSrt _ rfl) ?_
        conv => whnf
        repeat' (first | ((first | refine zs1 ?_ | refine zs2 ?_ | refine zs3 ?_ | refine zs4 ?_ | refine zs5 ?_); conv => whnf) | ((first | apply zi1 | apply zi2 | apply zi3 | apply zi4 | apply zi5) <;> intro _ <;> conv => whnf))
        refine VMem.appCell (l := ((natLL outs).flatMap encL).map D.v) (v := .gl (.loc 5) 1 l.length) rfl rfl rfl rfl (by simp [flat_len encL_len, natLL]) rfl (by simp [flat_len encL_len, natLL]; omega) ?_
        conv => whnf
        repeat' (first | ((first | refine zs1 ?_ | refine zs2 ?_ | refine zs3 ?_ | refine zs4 ?_ | refine zs5 ?_); conv => whnf) | ((first | apply zi1 | apply zi2 | apply zi3 | apply zi4 | apply zi5) <;> intro _ <;> conv => whnf))
        refine LEnd.intro (k + 1) (by omega) (by omega) ?_
        rw [hstk]
        dsimp only
        have hnl : natLL (outs ++ [srtN own]) = natLL outs ++ [natI (srtN own)] := by unfold natLL; simp
        have hnn : (outs ++ [srtN own]).length = outs.length + 1 := by simp
        rw [hnl, hnn]
        generalize natI (srtN own) = srt at hsl ⊢
        rw [← hsl]
        conv => whnf
        refine Retell.turn ⟨[0,1,2,7], 8, [(5, srt.flatMap Vm.encI)], []⟩ (TurnOk.mk' _ _ [(5, srt.flatMap Vm.encI)] [] (OutOk.lift _) rfl (by decide) zb zf trivial rfl) zw zm
      · unfold pstep at hstk
        dsimp only at hstk
        rw [if_neg hgo] at hstk
        have hgo2 : k ∈ M ∨ bat mk k = false := by
          by_cases hqM : k ∈ M
          · exact .inl hqM
          · right
            cases hb : bat mk k with
            | false => rfl
            | true => exact absurd ⟨hqM, hb⟩ hgo
        rcases hgo2 with hb | hb
        all_goals (
          first | rw [decide_eq_true hb] at hqm | rw [hb] at hx cSq
          conv => whnf
          repeat' (first | ((first | refine zs1 ?_ | refine zs2 ?_ | refine zs3 ?_ | refine zs4 ?_ | refine zs5 ?_); conv => whnf) | ((first | apply zi1 | apply zi2 | apply zi3 | apply zi4 | apply zi5) <;> intro _ <;> first | (exfalso; omega) | contradiction | (conv => whnf)) | (refine VAny.ix encB_len k (by omega) (by first | rfl | omega) hx ?_; conv => whnf) | (refine VLd.recc encB_len k 0 rfl rfl rfl hqm (by decide) rfl (ofs _) ?_; conv => whnf) | (refine VCall.intro (cSq _) ?_; conv => whnf))
          all_goals first
            | contradiction
            | (refine LEnd.intro (k + 1) (by omega) (by omega) ?_
               rw [hstk]
               dsimp only
               conv => whnf
               refine Retell.turn ⟨[0,1,2,3], 4, [], []⟩ (TurnOk.mk' _ _ [] [] (OutOk.lift _) rfl (by decide) zb trivial trivial rfl) zw zm))
    · obtain rfl : k = mk.length := by omega
      have hx2 : (pfK mk W mk.length).2 = R := by rw [hfin]
      rw [hx2]
      generalize (pfK mk W mk.length).1 = M
      have hRl : (natLL R).length = R.length := by unfold natLL; rw [List.length_map]
      rw [show intss (natLL R) = .fs 1 R.length ((natLL R).flatMap encL) by unfold intss; rw [hRl]]
      have hRf : ((natLL R).flatMap encL).length = R.length * 1 := by rw [flat_len encL_len, hRl]
      conv => whnf
      repeat' (first | ((first | refine zs1 ?_ | refine zs2 ?_ | refine zs3 ?_ | refine zs4 ?_ | refine zs5 ?_); conv => whnf) | ((first | apply zi1 | apply zi2 | apply zi3 | apply zi4 | apply zi5) <;> intro _ <;> first | (exfalso; omega) | contradiction | (conv => whnf)))
      refine VOut.data 4 [(3, (natLL R).flatMap encL)] [] rfl zf (by exact FmAll.nil) zw
end Go.Proofs.YtlgdkljiilbooaaGreat

open Go.Vm
open Riv
namespace Riv
def mgt (a : List (Int × Int)) (k : Int) : Option Int := (a.find? fun x => decide (x.1 = k)).map (·.2)
def mget (a : List (Int × Int)) (k : Int) : Int := (mgt a k).getD 0
def mput : List (Int × Int) → Int → Int → List (Int × Int)
  | [], k, v => [(k, v)]
  | x :: a, k, v => if x.1 = k then (k, v) :: a else x :: mput a k v
theorem mget_put : ∀ (a : List (Int × Int)) (k v j : Int), mget (mput a k v) j = if j = k then v else mget a j
  | [], k, v, j => by
    unfold mget mgt mput
    by_cases h : j = k
    · subst h; simp
    · rw [if_neg h]
      have h2 : ¬ k = j := fun e => h e.symm
      simp [h2]
  | x :: a, k, v, j => by
    rw [mput]
    by_cases h : x.1 = k
    · rw [if_pos h]
      by_cases h2 : j = k
      · subst h2; rw [if_pos rfl]; simp [mget, mgt]
      · rw [if_neg h2]
        have h4 : ¬ k = j := fun e => h2 e.symm
        have h5 : ¬ x.1 = j := fun e => h2 (e.symm.trans h)
        simp [mget, mgt, List.find?_cons, h4, h5]
    · rw [if_neg h]
      by_cases h3 : x.1 = j
      · have : ¬ j = k := fun e => h (h3.trans e)
        rw [if_neg this]
        simp [mget, mgt, List.find?_cons, h3]
      · have ih := mget_put a k v j
        unfold mget mgt at ih ⊢
        rw [List.find?_cons, List.find?_cons]
        simp only [h3, decide_false]
        exact ih
theorem mput_none : ∀ {a : List (Int × Int)} {k : Int} (v : Int), mgt a k = none → mput a k v = a ++ [(k, v)]
  | [], _, _, _ => rfl
  | x :: a, k, v, h => by
    have hx : ¬ x.1 = k := fun e => by simp [mgt, List.find?_cons, e] at h
    have h' : mgt a k = none := by simpa [mgt, List.find?_cons, hx] using h
    rw [mput, if_neg hx, mput_none v h']; rfl
def shL (L : List (List Nat)) (O own : List Int) : List Sh := (L.zip (O.zip own)).map fun x => ⟨((x.1.headD 0 : Nat) : Int), x.2.2, decide (x.2.1 = 1 ∨ x.2.1 = 2)⟩
theorem shr_shL (c : List Int) (W : Nat) : shr c W = shL (isl c W) (own0 c W) (ownI c W) := rfl
theorem shL_at {L : List (List Nat)} {O own : List Int} {i : Nat} (hO : O.length = L.length) (hw : own.length = L.length) (hi : i < L.length) : (shL L O own)[i]? = some ⟨(((L.getD i []).headD 0 : Nat) : Int), at0 own i, decide (at0 O i = 1 ∨ at0 O i = 2)⟩ := by
  have e1 : at0 O i = O[i] := by unfold at0; rw [List.getD_eq_getElem?_getD, List.getElem?_eq_getElem (by omega)]; rfl
  have e2 : at0 own i = own[i] := by unfold at0; rw [List.getD_eq_getElem?_getD, List.getElem?_eq_getElem (by omega)]; rfl
  have e3 : L.getD i [] = L[i] := by rw [List.getD_eq_getElem?_getD, List.getElem?_eq_getElem hi]; rfl
  unfold shL
  rw [List.getElem?_map, List.zip, List.getElem?_zipWith, List.getElem?_eq_getElem hi, List.zip, List.getElem?_zipWith, List.getElem?_eq_getElem (show i < O.length by omega), List.getElem?_eq_getElem (show i < own.length by omega), e1, e2, e3]
  rfl
theorem shL_len {L : List (List Nat)} {O own : List Int} (hO : O.length = L.length) (hw : own.length = L.length) : (shL L O own).length = L.length := by
  unfold shL
  rw [List.length_map, List.length_zip, List.length_zip]; omega
theorem shL_set {L : List (List Nat)} {O own : List Int} {i : Nat} {x : Sh} (v : Int) (hO : O.length = L.length) (hw : own.length = L.length) (hx : (shL L O own)[i]? = some x) : shL L O (own.set i v) = (shL L O own).set i ⟨x.f, v, x.nr⟩ := by
  have hi : i < L.length := by
    have := (List.getElem?_eq_some_iff.1 hx).1
    rw [shL_len hO hw] at this; exact this
  apply List.ext_getElem?
  intro j
  rcases Nat.lt_or_ge j L.length with hj | hj
  · rw [shL_at hO (by rw [List.length_set]; exact hw) hj, at0_set (by omega)]
    by_cases e : j = i
    · subst e
      rw [if_pos rfl, List.getElem?_set_self (by rw [shL_len hO hw]; exact hj)]
      rw [shL_at hO hw hi, Option.some.injEq] at hx
      rw [← hx]
    · rw [if_neg e, List.getElem?_set_ne (fun e2 => e e2.symm), shL_at hO hw hj]
  · rw [List.getElem?_eq_none (by rw [shL_len hO (by rw [List.length_set]; exact hw)]; exact hj), List.getElem?_eq_none (by rw [List.length_set, shL_len hO hw]; exact hj)]
def rgK (O : List Int) (i : Nat) : List Int := (List.range i).foldl rg1 O
theorem rgK_step (O : List Int) (i : Nat) : rgK O (i + 1) = rg1 (rgK O i) i := by unfold rgK; rw [List.range_succ, List.foldl_append]; rfl
theorem rgK_len (O : List Int) : ∀ i, (rgK O i).length = O.length
  | 0 => rfl
  | i + 1 => by
    rw [rgK_step]
    have := rgK_len O i
    unfold rg1
    split
    · rw [List.length_set]; exact this
    · exact this
theorem many_set {l : List Int} {i : Nat} {k v : Int} (hi : i < l.length) (h3 : at0 l i = 3) (hk : k ≠ 3) : many k (l.set i v) = many k l + (if v = k then 1 else 0) := by
  have e : l[i] = 3 := by
    rw [← h3]; unfold at0; rw [List.getD_eq_getElem?_getD, List.getElem?_eq_getElem hi]; rfl
  have h1 : l = l.take i ++ 3 :: l.drop (i + 1) := by
    rw [← e, ← List.drop_eq_getElem_cons hi, List.take_append_drop]
  have h2 : l.set i v = l.take i ++ v :: l.drop (i + 1) := by
    rw [List.set_eq_take_append_cons_drop, if_pos hi]
  rw [h2]
  conv => rhs; rw [h1]
  have h3k : ¬ (3 : Int) = k := fun e => hk e.symm
  rw [many_app, many_app, many_cons, many_cons, if_neg h3k]
  omega
theorem many_bd (k : Int) (l : List Int) : 0 ≤ many k l ∧ many k l ≤ l.length := by
  unfold many
  have := List.countP_le_length (p := fun o => decide (o = k)) (l := l)
  omega
theorem many_snoc (k : Int) (l : List Int) (o : Int) : many k (l ++ [o]) = many k l + (if o = k then 1 else 0) := by
  rw [many_app, many_cons]
  have : many k [] = 0 := rfl
  omega
end Riv
namespace Go.Vm
def esM (a : List (Int × Int)) : List (V × V) := a.map fun x => (I x.1, I x.2)
theorem esM_fst (a : List (Int × Int)) : (esM a).map (·.1) = (a.map fun x => DI x.1).map D.v := by simp only [esM, List.map_map]; rfl
theorem esM_snd (a : List (Int × Int)) : (esM a).map (·.2) = (a.map fun x => DI x.2).map D.v := by simp only [esM, List.map_map]; rfl
theorem esM_ren (a : List (Int × Int)) (ρ : Vm.Id → Vm.Id) : (Blk.map (esM a)).ren ρ = .map (esM a) := by
  unfold Blk.ren
  congr 1
  simp only [esM, List.map_map]
  rfl
theorem BTos.esE {c : TCtx} {loc : List Blk} {pm : List Nat} {bs : List Blk} {j : Nat} {a : List (Int × Int)} (hj : Nat.blt j c.L = true) (hl : loc[j]? = some (.map (esM a))) (r : BTos c loc pm bs) : BTos c loc (j :: pm) (.map (esM a) :: bs) :=
  BTos.map hj hl (by rw [esM_fst]; exact RowTo.dv c _) (by rw [esM_snd]; exact RowTo.dv c _) r
theorem veqI3 (x y : Int) : veqSh Sh.int (I x) (I y) = some (decide (x = y)) := by
  have : (x == y) = decide (x = y) := by rw [Bool.eq_iff_iff]; simp
  rw [← this]; rfl
theorem foundM_none {a : List (Int × Int)} {e : Int} (h : Riv.mgt a e = none) : Vm.Found Sh.int (I e) (esM a) none := by
  intro j p hp
  simp only [esM, List.getElem?_map, Option.map_eq_some_iff] at hp
  obtain ⟨x, hx, rfl⟩ := hp
  simp only [veqI3]
  have hm : x ∈ a := List.mem_of_getElem? hx
  unfold Riv.mgt at h
  rw [Option.map_eq_none_iff, List.find?_eq_none] at h
  have := h x hm
  simp only [decide_eq_true_eq] at this
  rw [decide_eq_false (fun e1 => this e1.symm)]
theorem foundM_some : ∀ {a : List (Int × Int)} {e v : Int}, Riv.mgt a e = some v → ∃ i, Vm.Found Sh.int (I e) (esM a) (some (i, I v)) ∧ a[i]? = some (e, v) ∧ ∀ u, Riv.mput a e u = a.set i (e, u)
  | [], e, v, h => by simp [Riv.mgt] at h
  | x :: a, e, v, h => by
    by_cases hx : x.1 = e
    · have hv : x.2 = v := by simpa [Riv.mgt, List.find?_cons, hx] using h
      refine ⟨0, ⟨I x.1, by simp [esM, hv], by rw [veqI3]; simp [hx], fun j p hj => by omega⟩, ?_, fun u => ?_⟩
      · simp [← hx, ← hv]
      · rw [Riv.mput, if_pos hx]; rfl
    · have h' : Riv.mgt a e = some v := by simpa [Riv.mgt, List.find?_cons, hx] using h
      obtain ⟨i, ⟨k0, h1, h2, h3⟩, h4, h5⟩ := foundM_some h'
      refine ⟨i + 1, ⟨k0, by simpa [esM] using h1, h2, fun j p hj hp => ?_⟩, by simpa using h4, fun u => by rw [Riv.mput, if_neg hx, h5 u]; rfl⟩
      cases j with
      | zero =>
        simp only [esM, List.map_cons, List.getElem?_cons_zero, Option.some.injEq] at hp
        subst hp
        rw [veqI3, decide_eq_false (fun e1 => hx e1.symm)]
      | succ j => exact h3 j p (by omega) (by simpa [esM] using hp)
end Go.Vm
namespace Go.Proofs.YtlgdkljiilbooaaGreat
set_option maxRecDepth 20000
set_option maxHeartbeats 4000000
theorem top3 : eqTop Tryz.prog 3 = some Sh.int := by kernel_rfl
theorem VMem.putM {a : List (Int × Int)} {e v : Int} {h : Hp} {i : Vm.Id} {K : V → Hp → Prop} (hb : h.get i = some (.map (esM a))) (hK : K .undef (h.set i (.map (esM (mput a e v))))) : VMem Tryz.prog (opMapUpdate 122) [.map i, I e, I v] h K := by
  cases hl : mgt a e with
  | none =>
    have : esM (mput a e v) = esM a ++ [(I e, I v)] := by rw [mput_none v hl]; simp [esM]
    rw [this] at hK
    exact VMem.intro (does_mapNew (tiOf_ok _) (t := 122) rfl rfl top3 (by rw [veqI3]) (foundM_none hl) hb) hK
  | some u =>
    obtain ⟨j, h1, h2, h3⟩ := foundM_some hl
    have : esM (mput a e v) = (esM a).set j (I e, I v) := by rw [h3]; simp [esM]
    rw [this] at hK
    exact VMem.intro (does_mapSetI (tiOf_ok _) (t := 122) (l := e) rfl rfl top3 (by rw [veqI3]) h1 (by simp only [esM, List.getElem?_map, h2]; rfl) hb) hK
theorem look_esM (a : List (Int × Int)) (e : Int) : Look Tryz.prog (tiOf Tryz.prog) 122 false (I e) (esM a) (I (mget a e)) := by
  unfold mget
  cases hl : mgt a e with
  | none => exact ⟨_, 3, 3, _, Sh.int, true, none, rfl, rfl, top3, by rw [veqI3]; simp, foundM_none hl, rfl⟩
  | some u =>
    obtain ⟨j, h1, _⟩ := foundM_some hl
    exact ⟨_, 3, 3, _, Sh.int, true, some (j, I u), rfl, rfl, top3, by rw [veqI3]; simp, h1, rfl⟩
def encSh (x : Riv.Sh) : List D := [DI x.f, DI x.o, DB x.nr]
theorem encSh_len (x : Riv.Sh) : (encSh x).length = 3 := rfl
def shs (l : List Riv.Sh) : V := .fs 3 l.length (l.flatMap encSh)
theorem vc_given (a : List (Int × Int)) (cI mI : Vm.Id) (h : Hp) (h1 : h.get cI = some (.cells true [.map mI])) (h2 : h.get mI = some (.map (esM a))) : VC Tryz.prog 66 [.ptr cI 0] h (I (if mget a 2 < mget a 1 then 2 else 1)) h := by
  obtain ⟨E, hE⟩ : ∃ E, E = (if mget a 2 < mget a 1 then (2 : Int) else 1) := ⟨_, rfl⟩
  rw [← hE]
  have l1 := look_esM a 1
  have l2 := look_esM a 2
  have g1 := fun loc => get_out h1 loc
  have g2 : ∀ loc, (⟨h.lift, loc⟩ : Hp).get (.out mI) = some (.map (esM a)) := fun loc => by rw [get_out h2 loc, esM_ren]
  generalize mget a 1 = x at l1 hE
  generalize mget a 2 = y at l2 hE
  refine VC.body Tryz.func66 rfl Tryz.ntmps66 Tryz.call66 (h.grows_refl) rfl ?_; conv => whnf
  repeat' (first | ((first | refine zs1 ?_ | refine zs2 ?_ | refine zs3 ?_ | refine zs4 ?_ | refine zs5 ?_); conv => whnf) | ((first | apply zi1 | apply zi2 | apply zi3 | apply zi4 | apply zi5) <;> intro _ <;> conv => whnf) | (refine VLd.cell rfl rfl (g1 _) rfl ?_; conv => whnf) | (refine VLook.intro (g2 _) l1 ?_; conv => whnf) | (refine VLook.intro (g2 _) l2 ?_; conv => whnf))
  all_goals first
    | (rw [if_pos (by omega)] at hE; rw [hE]; exact VOut.same rfl)
    | (rw [if_neg (by omega)] at hE; rw [hE]; exact VOut.same rfl)
end Go.Proofs.YtlgdkljiilbooaaGreat

open Go.Vm
open Riv
namespace Go.Proofs.YtlgdkljiilbooaaGreat
set_option maxRecDepth 20000
set_option maxHeartbeats 4000000

theorem isl_ne {c : List Int} {W H : Nat} (hW : 2 ≤ W) (hL : c.length = W * H) (h1 : c.length ≤ 160) {l : List Nat} (h : l ∈ isl c W) : 0 < l.length ∧ l.length ≤ c.length := by
  unfold isl at h
  rw [parts_eq hW (by rw [marks_len]; exact hL) (rnm_ok hW h1).1] at h
  unfold canon at h
  obtain ⟨i, hi, rfl⟩ := List.mem_map.1 h
  obtain ⟨hi1, hi2⟩ := List.mem_filter.1 hi
  have hi1 := List.mem_range.1 hi1
  have hi2 := of_decide_eq_true hi2
  constructor
  · exact List.length_pos_of_mem (List.mem_filter.2 ⟨List.mem_range.2 hi1, decide_eq_true hi2⟩)
  · have := List.length_filter_le (fun k => decide (at0 (rnm c W) k = (i : Int))) (List.range (marks c).length)
    rw [List.length_range] at this
    rw [marks_len] at this ⊢
    exact this
theorem isl_len {c : List Int} {W H : Nat} (hW : 2 ≤ W) (hL : c.length = W * H) : (isl c W).length ≤ c.length := by
  have := (pfK_ok (mk := marks c) (W := W) (H := H) hW (by rw [marks_len]; exact hL) (marks c).length).2.2
  rw [marks_len] at this
  have e : isl c W = (pfK (marks c) W c.length).2 := by unfold isl parts pfK; rw [marks_len]
  rw [e]; exact this
theorem lowT_step (T : List Int) (l : List Nat) (n : Nat) : lowT T (l ++ [n]) = ls1 (lowT T l) (at0 T n) := by unfold lowT; rw [List.foldl_append]; rfl
theorem vneSh (a b c d : Int) (x y : Bool) : vaggeq Tryz.prog .neq 103 (.agg [I a, I b, B x]) (.agg [I c, I d, B y]) = some (B (decide (¬ (a = c ∧ b = d ∧ x = y)))) := by
  have : (!((a == c) && ((b == d) && ((x == y) && true)))) = decide (¬ (a = c ∧ b = d ∧ x = y)) := by
    rw [Bool.eq_iff_iff, decide_eq_true_eq]; simp [-not_and]; cases x <;> cases y <;> simp <;> omega
  rw [← this]
  unfold vaggeq
  rw [show eqTop Tryz.prog 103 = some (Sh.cons 0 1 false Sh.int (Sh.cons 1 1 false Sh.int (Sh.cons 2 1 false Sh.bool Sh.nil))) by kernel_rfl]
  rfl
theorem vc_islands {W H : Nat} (m : Mp) (h : Hp) (o : MOk W H m.c) (hw : m.w = W) : VC Tryz.prog 52 [vM m] h (.tuple [shs (shr m.c W), intss (natLL (isl m.c W))]) h := by
  have hWb := o.w
  have hHb := o.h
  have hL := o.len
  have hm144 := MOk.le o
  have cT1 := fun h => vc_table m 1 h o hw (.inl rfl)
  have cT2 := fun h => vc_table m 2 h o hw (.inr rfl)
  have cP := fun h => vc_partsI m h o hw
  have hb1 : (bfs m.c W 1).length = m.c.length := bfsK_len _ _ _ _
  have hb2 : (bfs m.c W 2).length = m.c.length := bfsK_len _ _ _ _
  have hin := isl_in (c := m.c) (W := W) (by omega) hL (by omega)
  have hne := fun l hl => isl_ne (c := m.c) (W := W) (l := l) (by omega) hL (by omega) hl
  have hil := isl_len (c := m.c) (W := W) (by omega) hL
  rw [shr_shL]
  have hO : own0 m.c W = (isl m.c W).map fun l => ownr (lowT (bfs m.c W 1) l) (lowT (bfs m.c W 2) l) := rfl
  have hrg : ownI m.c W = rgK (own0 m.c W) (own0 m.c W).length := (rg_eq (own0 m.c W)).symm
  rw [hrg]
  rw [show parts (marks m.c) W = isl m.c W from rfl] at cP
  generalize own0 m.c W = O at hO hrg
  generalize bfs m.c W 1 = F1 at cT1 hb1 hO
  generalize bfs m.c W 2 = F2 at cT2 hb2 hO
  generalize isl m.c W = L at hO hin hne hil cP
  clear hrg
  obtain ⟨mw, mh, c⟩ := m
  dsimp only at *
  subst hw
  show VC Tryz.prog 52 [.agg [I W, I mh, ints c]] h _ h
  refine VC.bodyC 4 Tryz.func52 rfl Tryz.ntmps52 Tryz.call52 (h.grows_refl) rfl ?_
  conv => whnf
  repeat' (first | ((first | refine zs1 ?_ | refine zs2 ?_ | refine zs3 ?_ | refine zs4 ?_ | refine zs5 ?_); conv => whnf) | ((first | apply zi1 | apply zi2 | apply zi3 | apply zi4 | apply zi5) <;> intro _ <;> conv => whnf))
  refine zs6 [(2, 3)] ?_
  conv => whnf
  repeat' (first | ((first | refine zs1 ?_ | refine zs2 ?_ | refine zs3 ?_ | refine zs4 ?_ | refine zs5 ?_); conv => whnf) | ((first | apply zi1 | apply zi2 | apply zi3 | apply zi4 | apply zi5) <;> intro _ <;> conv => whnf) | (refine VCall.intro (cT1 _) ?_; conv => whnf) | (refine VCall.intro (cT2 _) ?_; conv => whnf) | (refine VCall.intro (cP _) ?_; conv => whnf))
  refine VCut.at' (outer := h.lift) (marks := []) 99 [(4, ints F1), (5, ints F2), (6, intss (natLL L)), (7, .nilslice)] [] ?_ ?_
  · conv => whnf
    refine Retell.turn ⟨[], 1, [(0, [DI W, DI mh, dints c])], []⟩ (TurnOk.mk' _ _ [(0, [DI W, DI mh, dints c])] [] (OutOk.lift _) rfl (by decide) zb zf trivial rfl) zw zm
  conv => whnf
  repeat' (first | ((first | refine zs1 ?_ | refine zs2 ?_ | refine zs3 ?_ | refine zs4 ?_ | refine zs5 ?_); conv => whnf) | ((first | apply zi1 | apply zi2 | apply zi3 | apply zi4 | apply zi5) <;> intro _ <;> conv => whnf))
  have hOl : O.length = L.length := by rw [hO, List.length_map]
  have hSl : (shL L O O).length = L.length := shL_len hOl hOl
  have hSat := fun i hi => shL_at (L := L) (O := O) (own := O) (i := i) hOl hOl hi
  have hLl : (natLL L).length = L.length := by unfold natLL; rw [List.length_map]
  refine VCode.lpC (outer := h.lift) (marks := []) 99 (fun y : Nat × List (Int × Int) => [(4, ints F1), (5, ints F2), (6, intss (natLL L)), (7, .gl (.loc 2) 3 y.1), (8, .ptr (.loc 0) 0), (29, intss (natLL L)), (30, I L.length), (31, I y.1)]) (fun y => [.cells true [.map (.loc 1)], .map (esM y.2), .flat true (((shL L O O).take y.1).flatMap encSh)]) (fun y => y.1 ≤ L.length ∧ ∀ j, mget y.2 j = many j (O.take y.1)) (fun y => L.length - y.1) (0, []) ⟨Nat.zero_le _, fun j => rfl⟩ ?_ ?_
  · rw [← hLl]
    conv => whnf
    refine Retell.turn ⟨[1,0,2], 2, [], []⟩ (TurnOk.mk' _ _ [] [] (OutOk.lift _) rfl (by decide) zb trivial trivial rfl) zw zm
  · rintro ⟨k, a⟩ ⟨y1, y2⟩
    dsimp only at y1 y2
    rcases Nat.lt_or_ge k L.length with hk | hk
    · have hlk : L[k]? = some (L.getD k []) := by rw [List.getD_eq_getElem?_getD, List.getElem?_eq_getElem hk]; rfl
      have hmem : L.getD k [] ∈ L := List.mem_of_getElem? hlk
      have hSk := hSat k hk
      have hok : at0 O k = ownr (lowT F1 (L.getD k [])) (lowT F2 (L.getD k [])) := by
        rw [hO]
        unfold at0
        rw [List.getD_eq_getElem?_getD, List.getElem?_map, hlk]; rfl
      have hnk : (natLL L)[k]? = some (natI (L.getD k [])) := by unfold natLL; rw [List.getElem?_map, hlk]; rfl
      have hin := hin _ hmem
      have hne := hne _ hmem
      have hsnoc : (shL L O O).take (k + 1) = (shL L O O).take k ++ [⟨(((L.getD k []).headD 0 : Nat) : Int), at0 O k, decide (at0 O k = 1 ∨ at0 O k = 2)⟩] := by rw [List.take_add_one, hSk]; rfl
      have hmsnoc : ∀ j, many j (O.take (k + 1)) = many j (O.take k) + (if at0 O k = j then 1 else 0) := fun j => by
        rw [List.take_add_one, at0_get (l := O) (n := k) (by omega)]
        exact many_snoc j _ _
      have hnat := fun i hi => natI_at (ks := L.getD k []) (i := i) hi
      have hnl := natI_len (L.getD k [])
      have hhead : (L.getD k []).headD 0 = (L.getD k []).getD 0 0 := by cases L.getD k [] <;> rfl
      rw [hhead] at hsnoc
      clear hlk hmem hSk
      generalize L.getD k [] = l at *
      generalize natI l = nl at *
      have hmb := many_bd (at0 O k) (O.take k)
      rw [List.length_take] at hmb
      conv => whnf
      repeat' (first | ((first | refine zs1 ?_ | refine zs2 ?_ | refine zs3 ?_ | refine zs4 ?_ | refine zs5 ?_); conv => whnf) | ((first | apply zi1 | apply zi2 | apply zi3 | apply zi4 | apply zi5) <;> intro _ <;> first | (exfalso; omega) | contradiction | (conv => whnf)) | (refine VAny.ix encL_len k (by omega) (by omega) hnk ?_; conv => whnf))
      refine VCode.lpC (outer := h.lift) (marks := []) 99 (fun j : Nat => [(4, ints F1), (5, ints F2), (6, intss (natLL L)), (7, .gl (.loc 2) 3 k), (8, .ptr (.loc 0) 0), (29, intss (natLL L)), (30, I L.length), (31, I k), (10, ints nl), (11, I (lowT F1 (l.take j))), (12, I (lowT F2 (l.take j))), (35, ints nl), (36, I l.length), (37, I j)]) (fun j => [.cells true [.map (.loc 1)], .map (esM a), .flat true (((shL L O O).take k).flatMap encSh)]) (fun j => j ≤ l.length) (fun j => l.length - j) 0 (Nat.zero_le _) ?_ ?_
      · rw [← hnl]
        conv => whnf
        refine Retell.turn ⟨[0,1,2], 3, [], []⟩ (TurnOk.mk' _ _ [] [] (OutOk.lift _) rfl (by decide) zb trivial trivial rfl) zw zm
      · rintro j hj
        rcases Nat.lt_or_ge j l.length with hjl | hjl
        · have hn := hnat j hjl
          have hnc : l.getD j 0 < c.length := by
            refine hin _ ?_
            rw [List.getD_eq_getElem?_getD, List.getElem?_eq_getElem hjl]
            exact List.getElem_mem hjl
          have htk : l.take (j + 1) = l.take j ++ [l.getD j 0] := by
            rw [List.take_add_one, List.getD_eq_getElem?_getD, List.getElem?_eq_getElem hjl]; rfl
          have hl1 := lowT_step F1 (l.take j) (l.getD j 0)
          have hl2 := lowT_step F2 (l.take j) (l.getD j 0)
          rw [← htk] at hl1 hl2
          have hf1 := at0_get (l := F1) (n := l.getD j 0) (by omega)
          have hf2 := at0_get (l := F2) (n := l.getD j 0) (by omega)
          generalize l.getD j 0 = n at *
          generalize at0 F1 n = u at *
          generalize at0 F2 n = v at *
          generalize lowT F1 (l.take j) = p at *
          generalize lowT F2 (l.take j) = q at *
          have cL1 := fun h => vc_least [p, u] h (by simp)
          have cL2 := fun h => vc_least [q, v] h (by simp)
          rw [ls1_least] at cL1 cL2
          rw [← hl1] at cL1
          rw [← hl2] at cL2
          conv => whnf
          repeat' (first | ((first | refine zs1 ?_ | refine zs2 ?_ | refine zs3 ?_ | refine zs4 ?_ | refine zs5 ?_); conv => whnf) | ((first | apply zi1 | apply zi2 | apply zi3 | apply zi4 | apply zi5) <;> intro _ <;> conv => whnf) | (refine VAny.ix encI_len j rfl (by omega) hn ?_; conv => whnf))
          all_goals try (exfalso; omega)
          refine zs6 [(6, 11)] ?_
          conv => whnf
          repeat' (first | ((first | refine zs1 ?_ | refine zs2 ?_ | refine zs3 ?_ | refine zs4 ?_ | refine zs5 ?_); conv => whnf) | ((first | apply zi1 | apply zi2 | apply zi3 | apply zi4 | apply zi5) <;> intro _ <;> conv => whnf) | (refine VAny.ix encI_len n rfl (by omega) hf1 ?_; conv => whnf))
          refine VCall.intro (VC.give (args' := [ints [p, u]]) (loc' := [.cells true [.map (.loc 1)], .map (esM a), .flat true (((shL L O O).take k).flatMap encSh), .dead]) [(3, [p, u].flatMap Vm.encI)] [] (OutOk.lift _) zb zf (by exact FmAll.nil) rfl zw (cL1 _)) ?_
          conv => whnf
          repeat' (first | ((first | refine zs1 ?_ | refine zs2 ?_ | refine zs3 ?_ | refine zs4 ?_ | refine zs5 ?_); conv => whnf) | ((first | apply zi1 | apply zi2 | apply zi3 | apply zi4 | apply zi5) <;> intro _ <;> conv => whnf) | (refine VAny.ix encI_len n rfl (by omega) hf2 ?_; conv => whnf))
          refine VCall.intro (VC.give (args' := [ints [q, v]]) (loc' := [.cells true [.map (.loc 1)], .map (esM a), .flat true (((shL L O O).take k).flatMap encSh), .dead, .dead]) [(4, [q, v].flatMap Vm.encI)] [] (OutOk.lift _) zb zf (by exact FmAll.nil) rfl zw (cL2 _)) ?_
          conv => whnf
          repeat' (first | ((first | refine zs1 ?_ | refine zs2 ?_ | refine zs3 ?_ | refine zs4 ?_ | refine zs5 ?_); conv => whnf) | ((first | apply zi1 | apply zi2 | apply zi3 | apply zi4 | apply zi5) <;> intro _ <;> conv => whnf))
          refine LEnd.intro (j + 1) (by omega) (by omega) ?_
          generalize lowT F1 (l.take (j + 1)) = p2
          generalize lowT F2 (l.take (j + 1)) = q2
          conv => whnf
          refine Retell.turn ⟨[0,1,2], 5, [], []⟩ (TurnOk.mk' _ _ [] [] (OutOk.lift _) rfl (by decide) zb trivial trivial rfl) zw zm
        · obtain rfl : j = l.length := by omega
          rw [List.take_of_length_le (Nat.le_refl _)]
          have hn := hnat 0 hne.1
          have cN := fun h => vc_nearer (lowT F1 l) (lowT F2 l) h
          rw [← hok] at cN
          have hbd := ownr_bd (lowT F1 l) (lowT F2 l)
          rw [← hok] at hbd
          generalize lowT F1 l = p at *
          generalize lowT F2 l = q at *
          generalize at0 O k = w at *
          generalize l.getD 0 0 = n0 at *
          have hlk := look_esM a w
          rw [y2] at hlk
          have hmp := mget_put a w (many w (O.take k) + 1)
          obtain ⟨cw, hcw⟩ : ∃ cw, cw = many w (O.take k) := ⟨_, rfl⟩
          rw [← hcw] at hlk hmp hmb
          have hst : ((shL L O O).take k).length = k := by rw [List.length_take]; omega
          conv => whnf
          repeat' (first | ((first | refine zs1 ?_ | refine zs2 ?_ | refine zs3 ?_ | refine zs4 ?_ | refine zs5 ?_); conv => whnf) | ((first | apply zi1 | apply zi2 | apply zi3 | apply zi4 | apply zi5) <;> intro _ <;> conv => whnf))
          all_goals try (exfalso; omega)
          refine zs6 [(2, 5)] ?_
          conv => whnf
          repeat' (first | ((first | refine zs1 ?_ | refine zs2 ?_ | refine zs3 ?_ | refine zs4 ?_ | refine zs5 ?_); conv => whnf) | ((first | apply zi1 | apply zi2 | apply zi3 | apply zi4 | apply zi5) <;> intro _ <;> conv => whnf) | (refine VAny.ix encI_len 0 rfl (by omega) hn ?_; conv => whnf) | (refine VCall.intro (cN _) ?_; conv => whnf))
          refine zs6 [] ?_
          conv => whnf
          repeat' (first | ((first | refine zs1 ?_ | refine zs2 ?_ | refine zs3 ?_ | refine zs4 ?_ | refine zs5 ?_); conv => whnf) | ((first | apply zi1 | apply zi2 | apply zi3 | apply zi4 | apply zi5) <;> intro _ <;> conv => whnf) | (refine VAny.ix encI_len 0 rfl (by omega) hn ?_; conv => whnf) | (refine VAgg.intro (vneSh _ _ _ _ _ _) ?_; conv => whnf))
          · have hnr : decide (w = 1 ∨ w = 2) = (w != 3) := by
              rename_i hh
              rw [Bool.eq_iff_iff]
              simp at hh ⊢
              omega
            rw [hnr] at hsnoc
            refine VLook.intro rfl hlk ?_
            conv => whnf
            repeat' (first | ((first | refine zs1 ?_ | refine zs2 ?_ | refine zs3 ?_ | refine zs4 ?_ | refine zs5 ?_); conv => whnf) | ((first | apply zi1 | apply zi2 | apply zi3 | apply zi4 | apply zi5) <;> intro _ <;> conv => whnf))
            refine VMem.putM rfl ?_
            conv => whnf
            repeat' (first | ((first | refine zs1 ?_ | refine zs2 ?_ | refine zs3 ?_ | refine zs4 ?_ | refine zs5 ?_); conv => whnf) | ((first | apply zi1 | apply zi2 | apply zi3 | apply zi4 | apply zi5) <;> intro _ <;> conv => whnf))
            refine VMem.app1 (l := (shL L O O).take k) ⟨(n0 : Int), w, (w != 3)⟩ encSh_len rfl rfl rfl hst.symm rfl (by omega) ?_
            rw [← hsnoc]
            conv => whnf
            repeat' (first | ((first | refine zs1 ?_ | refine zs2 ?_ | refine zs3 ?_ | refine zs4 ?_ | refine zs5 ?_); conv => whnf) | ((first | apply zi1 | apply zi2 | apply zi3 | apply zi4 | apply zi5) <;> intro _ <;> conv => whnf))
            refine LEnd.intro (k + 1, mput a w (cw + 1)) ⟨by dsimp only; omega, fun j => ?_⟩ (by dsimp only; omega) ?_
            · dsimp only
              rw [hmp, y2, hmsnoc]
              by_cases hjw : j = w
              · subst hjw; rw [if_pos rfl, if_pos rfl, hcw]
              · have hjw2 : ¬ w = j := fun e => hjw e.symm
                rw [if_neg hjw, if_neg hjw2]; omega
            · generalize mput a w (cw + 1) = a2
              generalize (shL L O O).take (k + 1) = S2
              conv => whnf
              refine Retell.turn ⟨[0,1,5], 6, [], []⟩ (TurnOk.mk' _ _ [] [] (OutOk.lift _) rfl (by decide) zb trivial trivial rfl) zw zm
          · have hnr : decide (w = 1 ∨ w = 2) = false := by
              rename_i hh
              rw [Bool.eq_iff_iff]
              simp at hh ⊢
              omega
            rw [hnr] at hsnoc
            refine VLook.intro rfl hlk ?_
            conv => whnf
            repeat' (first | ((first | refine zs1 ?_ | refine zs2 ?_ | refine zs3 ?_ | refine zs4 ?_ | refine zs5 ?_); conv => whnf) | ((first | apply zi1 | apply zi2 | apply zi3 | apply zi4 | apply zi5) <;> intro _ <;> conv => whnf))
            refine VMem.putM rfl ?_
            conv => whnf
            repeat' (first | ((first | refine zs1 ?_ | refine zs2 ?_ | refine zs3 ?_ | refine zs4 ?_ | refine zs5 ?_); conv => whnf) | ((first | apply zi1 | apply zi2 | apply zi3 | apply zi4 | apply zi5) <;> intro _ <;> conv => whnf))
            refine VMem.app1 (l := (shL L O O).take k) ⟨(n0 : Int), w, false⟩ encSh_len rfl rfl rfl hst.symm rfl (by omega) ?_
            rw [← hsnoc]
            conv => whnf
            repeat' (first | ((first | refine zs1 ?_ | refine zs2 ?_ | refine zs3 ?_ | refine zs4 ?_ | refine zs5 ?_); conv => whnf) | ((first | apply zi1 | apply zi2 | apply zi3 | apply zi4 | apply zi5) <;> intro _ <;> conv => whnf))
            refine LEnd.intro (k + 1, mput a w (cw + 1)) ⟨by dsimp only; omega, fun j => ?_⟩ (by dsimp only; omega) ?_
            · dsimp only
              rw [hmp, y2, hmsnoc]
              by_cases hjw : j = w
              · subst hjw; rw [if_pos rfl, if_pos rfl, hcw]
              · have hjw2 : ¬ w = j := fun e => hjw e.symm
                rw [if_neg hjw, if_neg hjw2]; omega
            · generalize mput a w (cw + 1) = a2
              generalize (shL L O O).take (k + 1) = S2
              conv => whnf
              refine Retell.turn ⟨[0,1,5], 6, [], []⟩ (TurnOk.mk' _ _ [] [] (OutOk.lift _) rfl (by decide) zb trivial trivial rfl) zw zm
    · obtain rfl : k = L.length := by omega
      rw [List.take_of_length_le (by omega)] at y2
      have hOb : ∀ i, 0 ≤ at0 O i + 1 := fun i => by
        rcases Nat.lt_or_ge i L.length with hi | hi
        · have hok : at0 O i = ownr (lowT F1 (L.getD i [])) (lowT F2 (L.getD i [])) := by
            rw [hO]
            unfold at0
            rw [List.getD_eq_getElem?_getD, List.getElem?_map, List.getD_eq_getElem?_getD, List.getElem?_eq_getElem hi]; rfl
          have := ownr_bd (lowT F1 (L.getD i [])) (lowT F2 (L.getD i []))
          omega
        · rw [at0_out (by omega)]; omega
      have hrl := rgK_len O
      have hrs := rgK_step O
      rw [hOl] at hrl ⊢
      conv => whnf
      repeat' (first | ((first | refine zs1 ?_ | refine zs2 ?_ | refine zs3 ?_ | refine zs4 ?_ | refine zs5 ?_); conv => whnf) | ((first | apply zi1 | apply zi2 | apply zi3 | apply zi4 | apply zi5) <;> intro _ <;> first | (exfalso; omega) | contradiction | (conv => whnf)))
      refine VCode.lpC (outer := h.lift) (marks := []) 99 (fun y : Nat × List (Int × Int) => [(6, intss (natLL L)), (7, .gl (.loc 2) 3 L.length), (8, .ptr (.loc 0) 0), (16, .ptr (.loc 3) 0), (88, I L.length), (89, I y.1)]) (fun y => [.cells true [.map (.loc 1)], .map (esM y.2), .flat true ((shL L O (rgK O y.1)).flatMap encSh), .cells true [.func (.func 66) [] [.ptr (.loc 0) 0]]]) (fun y => y.1 ≤ L.length ∧ (mget y.2 1 = many 1 (rgK O y.1) ∧ mget y.2 2 = many 2 (rgK O y.1))) (fun y => L.length - y.1) (0, a) ⟨Nat.zero_le _, y2 1, y2 2⟩ ?_ ?_
      · rw [show rgK O 0 = O from rfl, List.take_of_length_le (by omega)]
        conv => whnf
        refine Retell.turn ⟨[0,1,2,3], 4, [], []⟩ (TurnOk.mk' _ _ [] [] (OutOk.lift _) rfl (by decide) zb trivial trivial rfl) zw zm
      · rintro ⟨i, a⟩ ⟨z1, z2, z3⟩
        dsimp only at z1 z2 z3
        rcases Nat.lt_or_ge i L.length with hi | hi
        · have hri := hrl i
          have hSi := shL_at (L := L) (O := O) (own := rgK O i) (i := i) hOl hri hi
          have hset := fun v => shL_set (L := L) (O := O) (own := rgK O i) (i := i) v hOl hri hSi
          have hms := fun k v h3 hk => many_set (l := rgK O i) (i := i) (k := k) (v := v) (by omega) h3 hk
          have hb1 := many_bd 1 (rgK O i)
          have hb2 := many_bd 2 (rgK O i)
          have hrs := hrs i
          unfold rg1 at hrs
          have hgv := fun h => vc_given a (.loc 0) (.loc 1) h
          rw [z2, z3] at hgv
          generalize rgK O i = U at *
          obtain ⟨r, hr⟩ : ∃ r, r = at0 U i := ⟨_, rfl⟩
          rw [← hr] at hSi hrs hms hset
          generalize (((L.getD i []).headD 0 : Nat) : Int) = f at hSi hset
          generalize decide (at0 O i = 1 ∨ at0 O i = 2) = nr at hSi hset
          by_cases hr3 : r = 3
          · rw [if_pos hr3] at hrs
            obtain ⟨v, hv⟩ : ∃ v : Int, v = (if many 2 U < many 1 U then 2 else 1) := ⟨_, rfl⟩
            rw [← hv] at hrs hgv
            have hv12 : v = 1 ∨ v = 2 := by rw [hv]; split <;> omega
            have hset := hset v
            rw [← hrs] at hset
            have hm1 := hms 1 v hr3 (by decide)
            have hm2 := hms 2 v hr3 (by decide)
            rw [← hrs] at hm1 hm2
            have hlk := look_esM a v
            have hmp := mget_put a v (mget a v + 1)
            have hmv : mget a v = many v U := by rcases hv12 with h | h <;> rw [h] <;> assumption
            have hmb : 0 ≤ mget a v ∧ mget a v ≤ U.length := by rw [hmv]; exact many_bd v U
            have hl2 : ((shL L O U).set i ⟨f, v, nr⟩)[i]? = some ⟨f, v, nr⟩ := List.getElem?_set_self (List.getElem?_eq_some_iff.1 hSi).1
            clear hms hv
            obtain ⟨cv, hcv⟩ : ∃ cv, cv = mget a v := ⟨_, rfl⟩
            rw [← hcv] at hlk hmp hmb hmv
            obtain ⟨S2, hS2⟩ : ∃ S, S = shL L O (rgK O (i + 1)) := ⟨_, rfl⟩
            rw [← hS2] at hset
            generalize shL L O U = S1 at *
            conv => whnf
            repeat' (first | ((first | refine zs1 ?_ | refine zs2 ?_ | refine zs3 ?_ | refine zs4 ?_ | refine zs5 ?_); conv => whnf) | ((first | apply zi1 | apply zi2 | apply zi3 | apply zi4 | apply zi5) <;> intro _ <;> conv => whnf) | (refine VLd.recc (d := DI r) encSh_len i 1 rfl rfl rfl hSi (by decide) rfl (by simp) ?_; conv => whnf) | (refine VCall.intro (hgv _ rfl rfl) ?_; conv => whnf))
            all_goals try (exfalso; omega)
            refine VMem.setRec encSh_len i 1 ⟨f, v, nr⟩ rfl rfl rfl hSi (by decide) rfl (by simp) ?_
            conv => whnf
            repeat' (first | ((first | refine zs1 ?_ | refine zs2 ?_ | refine zs3 ?_ | refine zs4 ?_ | refine zs5 ?_); conv => whnf) | ((first | apply zi1 | apply zi2 | apply zi3 | apply zi4 | apply zi5) <;> intro _ <;> conv => whnf))
            refine zs6 [] ?_
            conv => whnf
            repeat' (first | ((first | refine zs1 ?_ | refine zs2 ?_ | refine zs3 ?_ | refine zs4 ?_ | refine zs5 ?_); conv => whnf) | ((first | apply zi1 | apply zi2 | apply zi3 | apply zi4 | apply zi5) <;> intro _ <;> conv => whnf) | (refine VLd.recc (d := DI v) encSh_len i 1 rfl rfl rfl hl2 (by decide) rfl (by simp) ?_; conv => whnf) | (refine VLook.intro rfl hlk ?_; conv => whnf))
            refine VMem.putM rfl ?_
            rw [← hset]
            conv => whnf
            repeat' (first | ((first | refine zs1 ?_ | refine zs2 ?_ | refine zs3 ?_ | refine zs4 ?_ | refine zs5 ?_); conv => whnf) | ((first | apply zi1 | apply zi2 | apply zi3 | apply zi4 | apply zi5) <;> intro _ <;> conv => whnf))
            refine LEnd.intro (i + 1, mput a v (cv + 1)) ⟨by dsimp only; omega, ?_, ?_⟩ (by dsimp only; omega) ?_
            · dsimp only
              rw [hmp, hm1]
              rcases hv12 with hv1 | hv1
              · rw [hv1] at hmv ⊢
                rw [if_pos rfl, if_pos rfl, hmv]
              · rw [hv1]
                rw [if_neg (by decide), if_neg (by decide), z2]; omega
            · dsimp only
              rw [hmp, hm2]
              rcases hv12 with hv1 | hv1
              · rw [hv1]
                rw [if_neg (by decide), if_neg (by decide), z3]; omega
              · rw [hv1] at hmv ⊢
                rw [if_pos rfl, if_pos rfl, hmv]
            · generalize mput a v (cv + 1) = a2
              dsimp only
              rw [hS2]
              conv => whnf
              refine Retell.turn ⟨[0,1,2,3], 4, [], []⟩ (TurnOk.mk' _ _ [] [] (OutOk.lift _) rfl (by decide) zb trivial trivial rfl) zw zm
          · rw [if_neg hr3] at hrs
            conv => whnf
            repeat' (first | ((first | refine zs1 ?_ | refine zs2 ?_ | refine zs3 ?_ | refine zs4 ?_ | refine zs5 ?_); conv => whnf) | ((first | apply zi1 | apply zi2 | apply zi3 | apply zi4 | apply zi5) <;> intro _ <;> first | (exfalso; omega) | contradiction | (conv => whnf)) | (refine VLd.recc (d := DI r) encSh_len i 1 rfl rfl rfl hSi (by decide) rfl (by simp) ?_; conv => whnf))
            refine LEnd.intro (i + 1, a) ⟨by dsimp only; omega, by dsimp only; rw [hrs]; exact z2, by dsimp only; rw [hrs]; exact z3⟩ (by dsimp only; omega) ?_
            dsimp only
            rw [hrs]
            conv => whnf
            refine Retell.turn ⟨[0,1,2,3], 4, [], []⟩ (TurnOk.mk' _ _ [] [] (OutOk.lift _) rfl (by decide) zb trivial trivial rfl) zw zm
        · obtain rfl : i = L.length := by omega
          have hRl : (shL L O (rgK O L.length)).length = L.length := shL_len hOl (hrl _)
          generalize shL L O (rgK O L.length) = S at *
          rw [show shs S = .fs 3 L.length (S.flatMap encSh) by unfold shs; rw [hRl]]
          have hRf : (S.flatMap encSh).length = L.length * 3 := by rw [flat_len encSh_len, hRl]
          conv => whnf
          repeat' (first | ((first | refine zs1 ?_ | refine zs2 ?_ | refine zs3 ?_ | refine zs4 ?_ | refine zs5 ?_); conv => whnf) | ((first | apply zi1 | apply zi2 | apply zi3 | apply zi4 | apply zi5) <;> intro _ <;> first | (exfalso; omega) | contradiction | (conv => whnf)))
          refine VOut.data 4 [(2, S.flatMap encSh)] [] rfl zf (by exact FmAll.nil) zw
end Go.Proofs.YtlgdkljiilbooaaGreat

open Go.Vm
open Riv
namespace Go.Proofs.YtlgdkljiilbooaaGreat
set_option maxRecDepth 20000
set_option maxHeartbeats 4000000

def owS (c F1 F2 : List Int) (out : List Int) (n : Nat) : List Int := if at0 c n = 0 then out.set n (ownr (at0 F1 n) (at0 F2 n)) else out
def owK (c F1 F2 : List Int) (k : Nat) : List Int := (List.range k).foldl (owS c F1 F2) c
theorem owK_step (c F1 F2 : List Int) (k : Nat) : owK c F1 F2 (k + 1) = owS c F1 F2 (owK c F1 F2 k) k := by unfold owK; rw [List.range_succ, List.foldl_append]; rfl
theorem owK_len (c F1 F2 : List Int) (k : Nat) : (owK c F1 F2 k).length = c.length := fold_len (fun T n => by unfold owS; split <;> simp) _ _
theorem owK_at (c F1 F2 : List Int) : ∀ k j, j < c.length → at0 (owK c F1 F2 k) j = if j < k ∧ at0 c j = 0 then ownr (at0 F1 j) (at0 F2 j) else at0 c j
  | 0, j, _ => by rw [if_neg (by omega)]; rfl
  | k + 1, j, hj => by
    have ih := owK_at c F1 F2 k j hj
    have hl := owK_len c F1 F2 k
    rw [owK_step]
    generalize owK c F1 F2 k = U at *
    unfold owS
    by_cases h0 : at0 c k = 0
    · rw [if_pos h0]
      by_cases hk : k < c.length
      · rw [at0_set (by omega)]
        by_cases e : j = k
        · subst e; rw [if_pos rfl, if_pos ⟨by omega, h0⟩]
        · rw [if_neg e, ih]
          have : (j < k ∧ at0 c j = 0) ↔ (j < k + 1 ∧ at0 c j = 0) := by omega
          simp only [this]
      · rw [List.set_eq_of_length_le (by omega), ih]
        have : (j < k ∧ at0 c j = 0) ↔ (j < k + 1 ∧ at0 c j = 0) := by omega
        simp only [this]
    · rw [if_neg h0, ih]
      have : (j < k ∧ at0 c j = 0) ↔ (j < k + 1 ∧ at0 c j = 0) := by
        constructor
        · intro h; exact ⟨by omega, h.2⟩
        · intro h
          refine ⟨?_, h.2⟩
          rcases Nat.lt_or_ge j k with h1 | h1
          · exact h1
          · have : j = k := by omega
            subst this; exact absurd h.2 h0
      simp only [this]
theorem owK_all (c : List Int) (W : Nat) : owK c (bfs c W 1) (bfs c W 2) c.length = ownW c W := by
  have hl := owK_len c (bfs c W 1) (bfs c W 2) c.length
  refine ext0 (by rw [hl, ownW_len]) fun n hn => ?_
  rw [hl] at hn
  rw [owK_at c _ _ _ n hn, at0_ownW hn]
  by_cases h0 : at0 c n = 0
  · rw [if_pos ⟨hn, h0⟩, if_pos h0]
  · rw [if_neg (fun h => h0 h.2), if_neg h0]
def ostK (L : List (List Nat)) (G base : List Int) (i : Nat) : List Int := ((L.zip G).take i).foldl (fun out x => setAll out x.1 x.2) base
theorem ostK_step {L : List (List Nat)} {G base : List Int} {i : Nat} (hG : G.length = L.length) (hi : i < L.length) : ostK L G base (i + 1) = setAll (ostK L G base i) (L.getD i []) (at0 G i) := by
  have h1 : (L.zip G)[i]? = some (L.getD i [], at0 G i) := by
    unfold at0
    rw [List.zip, List.getElem?_zipWith, List.getElem?_eq_getElem hi, List.getElem?_eq_getElem (show i < G.length by omega), List.getD_eq_getElem?_getD, List.getElem?_eq_getElem hi, List.getD_eq_getElem?_getD, List.getElem?_eq_getElem (show i < G.length by omega)]
    rfl
  unfold ostK
  rw [List.take_add_one, h1, List.foldl_append]; rfl
theorem ostK_len (L : List (List Nat)) (G base : List Int) (i : Nat) : (ostK L G base i).length = base.length := fold_set_len _ _
theorem ostK_all {c : List Int} {W : Nat} (hG : (ownI c W).length = (isl c W).length) : ostK (isl c W) (ownI c W) (ownW c W) (isl c W).length = owns c W := by
  unfold ostK owns
  rw [List.take_of_length_le (by rw [List.length_zip]; omega)]
theorem setAll_step (out : List Int) (l : List Nat) (o : Int) (n : Nat) : setAll out (l ++ [n]) o = (setAll out l o).set n o := by unfold setAll; rw [List.foldl_append]; rfl
theorem vc_cloneI (l : List Int) (h : Hp) (h0 : 0 < l.length) (hl : l.length ≤ 4000000) : VC Tryz.prog 28 [ints l] h (.gl h.fresh 1 l.length) (h.push (.flat true (l.flatMap Vm.encI))) := by
  refine VC.body Tryz.func28 rfl Tryz.ntmps28 Tryz.call28 (h.grows_push _) rfl ?_; conv => whnf
  repeat' (first | ((first | refine zs1 ?_ | refine zs2 ?_ | refine zs3 ?_ | refine zs4 ?_ | refine zs5 ?_); conv => whnf) | ((first | apply zi1 | apply zi2 | apply zi3 | apply zi4 | apply zi5) <;> intro _ <;> conv => whnf))
  refine VMem.appN (l := ([] : List Int)) Vm.encI_len rfl rfl rfl rfl rfl (by show 0 + l.length ≤ _; omega) ?_
  conv => whnf
  repeat' (first | ((first | refine zs1 ?_ | refine zs2 ?_ | refine zs3 ?_ | refine zs4 ?_ | refine zs5 ?_); conv => whnf) | ((first | apply zi1 | apply zi2 | apply zi3 | apply zi4 | apply zi5) <;> intro _ <;> conv => whnf))
  show VOut h _ (.gl (.loc 1) 1 (0 + l.length)) _ _
  rw [Nat.zero_add]
  exact VOut.own1 (h := h) (loc := [.dead, .flat true (l.flatMap Vm.encI)]) (ds := l.flatMap Vm.encI) 1 2 rfl rfl
theorem vc_owners {W H : Nat} (m : Mp) (h : Hp) (o : MOk W H m.c) (hw : m.w = W) : VC Tryz.prog 31 [vM m] h (ints (owns m.c W)) h := by
  have hWb := o.w
  have hHb := o.h
  have hL := o.len
  have hm144 := MOk.le o
  have hpos : 0 < m.c.length := by rw [hL]; exact Nat.mul_pos (by omega) (by omega)
  have cT1 := fun h => vc_table m 1 h o hw (.inl rfl)
  have cT2 := fun h => vc_table m 2 h o hw (.inr rfl)
  have cI := fun h => vc_islands m h o hw
  have hb1 : (bfs m.c W 1).length = m.c.length := bfsK_len _ _ _ _
  have hb2 : (bfs m.c W 2).length = m.c.length := bfsK_len _ _ _ _
  have hin := isl_in (c := m.c) (W := W) (by omega) hL (by omega)
  have hne := fun l hl => isl_ne (c := m.c) (W := W) (l := l) (by omega) hL (by omega) hl
  have hol := ownI_len (c := m.c) (W := W) (by omega) hL (by omega)
  have hGl : (ownI m.c W).length = (isl m.c W).length ∧ (own0 m.c W).length = (isl m.c W).length := by
    have : (own0 m.c W).length = (isl m.c W).length := by unfold own0; rw [List.length_map]
    omega
  have hE := ostK_all (c := m.c) (W := W) hGl.1
  have hW1 := owK_all m.c W
  rw [← hE]
  have hSh : ∀ i, i < (isl m.c W).length → (shr m.c W)[i]? = some ⟨((((isl m.c W).getD i []).headD 0 : Nat) : Int), at0 (ownI m.c W) i, decide (at0 (own0 m.c W) i = 1 ∨ at0 (own0 m.c W) i = 2)⟩ := fun i hi => by rw [shr_shL]; exact shL_at hGl.2 hGl.1 hi
  have hShl : (shr m.c W).length = (isl m.c W).length := by rw [shr_shL]; exact shL_len hGl.2 hGl.1
  have hil := isl_len (c := m.c) (W := W) (by omega) hL
  have hos := fun i hi => ostK_step (L := isl m.c W) (G := ownI m.c W) (base := ownW m.c W) (i := i) hGl.1 hi
  have hot := ostK_len (isl m.c W) (ownI m.c W) (ownW m.c W)
  have h0s : ostK (isl m.c W) (ownI m.c W) (ownW m.c W) 0 = ownW m.c W := rfl
  rw [ownW_len] at hot
  rw [← hW1] at hot hos h0s ⊢
  generalize shr m.c W = S at *
  generalize ownI m.c W = G at *
  generalize own0 m.c W = O at *
  generalize isl m.c W = L at *
  have hks := owK_step m.c (bfs m.c W 1) (bfs m.c W 2)
  have hkl := owK_len m.c (bfs m.c W 1) (bfs m.c W 2)
  clear hE hW1
  generalize bfs m.c W 1 = F1 at *
  generalize bfs m.c W 2 = F2 at *
  obtain ⟨mw, mh, c⟩ := m
  dsimp only at *
  subst hw
  have hLl : (natLL L).length = L.length := by unfold natLL; rw [List.length_map]
  have cC := fun h => vc_cloneI c h hpos (by omega)
  show VC Tryz.prog 31 [.agg [I W, I mh, ints c]] h _ h
  refine VC.bodyC 2 Tryz.func31 rfl Tryz.ntmps31 Tryz.call31 (h.grows_refl) rfl ?_
  conv => whnf
  repeat' (first | ((first | refine zs1 ?_ | refine zs2 ?_ | refine zs3 ?_ | refine zs4 ?_ | refine zs5 ?_); conv => whnf) | ((first | apply zi1 | apply zi2 | apply zi3 | apply zi4 | apply zi5) <;> intro _ <;> conv => whnf))
  refine zs6 [(2, 3)] ?_
  conv => whnf
  repeat' (first | ((first | refine zs1 ?_ | refine zs2 ?_ | refine zs3 ?_ | refine zs4 ?_ | refine zs5 ?_); conv => whnf) | ((first | apply zi1 | apply zi2 | apply zi3 | apply zi4 | apply zi5) <;> intro _ <;> conv => whnf) | (refine VCall.intro (cT1 _) ?_; conv => whnf) | (refine VCall.intro (cT2 _) ?_; conv => whnf))
  refine VCut.at' (outer := h.lift) (marks := []) 99 [(1, .fp [DI W, DI mh, dints c]), (3, ints F1), (4, ints F2)] [] ?_ ?_
  · conv => whnf
    refine Retell.turn ⟨[], 1, [(0, [DI W, DI mh, dints c])], []⟩ (TurnOk.mk' _ _ [(0, [DI W, DI mh, dints c])] [] (OutOk.lift _) rfl (by decide) zb zf trivial rfl) zw zm
  conv => whnf
  repeat' (first | ((first | refine zs1 ?_ | refine zs2 ?_ | refine zs3 ?_ | refine zs4 ?_ | refine zs5 ?_); conv => whnf) | ((first | apply zi1 | apply zi2 | apply zi3 | apply zi4 | apply zi5) <;> intro _ <;> conv => whnf) | (refine VCall.intro (cC _) ?_; conv => whnf))
  refine VCode.lpC (outer := h.lift) (marks := []) 99 (fun k : Nat => [(1, .fp [DI W, DI mh, dints c]), (3, ints F1), (4, ints F2), (5, .gl (.loc 0) 1 c.length), (24, ints c), (25, I c.length), (26, I k)]) (fun k => [.flat true ((owK c F1 F2 k).flatMap Vm.encI)]) (fun k => k ≤ c.length) (fun k => c.length - k) 0 (Nat.zero_le _) ?_ ?_
  · rw [show owK c F1 F2 0 = c from rfl]
    conv => whnf
    refine Retell.turn ⟨[0], 1, [], []⟩ (TurnOk.mk' _ _ [] [] (OutOk.lift _) rfl (by decide) zb trivial trivial rfl) zw zm
  · rintro k hk
    rcases Nat.lt_or_ge k c.length with h3 | h3
    · have hx := at0_get h3
      have hf1 := at0_get (l := F1) (n := k) (by omega)
      have hf2 := at0_get (l := F2) (n := k) (by omega)
      have hks := hks k
      have hkl := hkl k
      generalize owK c F1 F2 k = U at *
      have hu := at0_get (l := U) (n := k) (by omega)
      unfold owS at hks
      have cN := fun h => vc_nearer (at0 F1 k) (at0 F2 k) h
      generalize at0 c k = x at *
      generalize at0 F1 k = u at *
      generalize at0 F2 k = v at *
      by_cases hx0 : x = 0
      · rw [if_pos hx0] at hks
        conv => whnf
        repeat' (first | ((first | refine zs1 ?_ | refine zs2 ?_ | refine zs3 ?_ | refine zs4 ?_ | refine zs5 ?_); conv => whnf) | ((first | apply zi1 | apply zi2 | apply zi3 | apply zi4 | apply zi5) <;> intro _ <;> conv => whnf) | (refine VAny.ix encI_len k rfl rfl hx ?_; conv => whnf))
        all_goals try (exfalso; omega)
        refine zs6 [] ?_
        conv => whnf
        repeat' (first | ((first | refine zs1 ?_ | refine zs2 ?_ | refine zs3 ?_ | refine zs4 ?_ | refine zs5 ?_); conv => whnf) | ((first | apply zi1 | apply zi2 | apply zi3 | apply zi4 | apply zi5) <;> intro _ <;> conv => whnf) | (refine VAny.ix encI_len k rfl (by omega) hf1 ?_; conv => whnf) | (refine VAny.ix encI_len k rfl (by omega) hf2 ?_; conv => whnf) | (refine VCall.intro (cN _) ?_; conv => whnf) | (refine VMem.setRec encI_len k 0 (ownr u v) rfl rfl rfl hu (by decide) rfl (ofs _) ?_; conv => whnf))
        refine LEnd.intro (k + 1) (by omega) (by omega) ?_
        rw [hks]
        conv => whnf
        refine Retell.turn ⟨[0], 1, [], []⟩ (TurnOk.mk' _ _ [] [] (OutOk.lift _) rfl (by decide) zb trivial trivial rfl) zw zm
      · rw [if_neg hx0] at hks
        conv => whnf
        repeat' (first | ((first | refine zs1 ?_ | refine zs2 ?_ | refine zs3 ?_ | refine zs4 ?_ | refine zs5 ?_); conv => whnf) | ((first | apply zi1 | apply zi2 | apply zi3 | apply zi4 | apply zi5) <;> intro _ <;> first | (exfalso; omega) | contradiction | (conv => whnf)) | (refine VAny.ix encI_len k rfl rfl hx ?_; conv => whnf))
        refine LEnd.intro (k + 1) (by omega) (by omega) ?_
        rw [hks]
        conv => whnf
        refine Retell.turn ⟨[0], 1, [], []⟩ (TurnOk.mk' _ _ [] [] (OutOk.lift _) rfl (by decide) zb trivial trivial rfl) zw zm
    · obtain rfl : k = c.length := by omega
      generalize owK c F1 F2 c.length = B0 at *
      conv => whnf
      repeat' (first | ((first | refine zs1 ?_ | refine zs2 ?_ | refine zs3 ?_ | refine zs4 ?_ | refine zs5 ?_); conv => whnf) | ((first | apply zi1 | apply zi2 | apply zi3 | apply zi4 | apply zi5) <;> intro _ <;> first | (exfalso; omega) | contradiction | (conv => whnf)) | (refine VCall.intro (cI _) ?_; conv => whnf))
      refine VCode.lpC (outer := h.lift) (marks := []) 99 (fun i : Nat => [(5, .gl (.loc 0) 1 c.length), (8, shs S), (9, intss (natLL L)), (51, intss (natLL L)), (52, I L.length), (53, I i)]) (fun i => [.flat true ((ostK L G B0 i).flatMap Vm.encI)]) (fun i => i ≤ L.length) (fun i => L.length - i) 0 (Nat.zero_le _) ?_ ?_
      · rw [← hLl, show ostK L G B0 0 = B0 from rfl]
        conv => whnf
        refine Retell.turn ⟨[0], 1, [], []⟩ (TurnOk.mk' _ _ [] [] (OutOk.lift _) rfl (by decide) zb trivial trivial rfl) zw zm
      · rintro i hi
        rcases Nat.lt_or_ge i L.length with h4 | h4
        · have hlk : L[i]? = some (L.getD i []) := by rw [List.getD_eq_getElem?_getD, List.getElem?_eq_getElem h4]; rfl
          have hmem : L.getD i [] ∈ L := List.mem_of_getElem? hlk
          have hnk : (natLL L)[i]? = some (natI (L.getD i [])) := by unfold natLL; rw [List.getElem?_map, hlk]; rfl
          have hin := hin _ hmem
          have hne := hne _ hmem
          have hos := hos i h4
          have hSi := hSh i h4
          have hot := hot i
          have hnat := fun j hj => natI_at (ks := L.getD i []) (i := j) hj
          have hnl := natI_len (L.getD i [])
          clear hlk hmem
          generalize L.getD i [] = l at *
          generalize natI l = nl at *
          generalize at0 G i = g at *
          generalize decide (at0 O i = 1 ∨ at0 O i = 2) = nr at *
          generalize ((l.headD 0 : Nat) : Int) = f at *
          generalize ostK L G B0 i = U at *
          conv => whnf
          repeat' (first | ((first | refine zs1 ?_ | refine zs2 ?_ | refine zs3 ?_ | refine zs4 ?_ | refine zs5 ?_); conv => whnf) | ((first | apply zi1 | apply zi2 | apply zi3 | apply zi4 | apply zi5) <;> intro _ <;> first | (exfalso; omega) | contradiction | (conv => whnf)) | (refine VAny.ix encL_len i (by omega) (by omega) hnk ?_; conv => whnf))
          refine VCode.lpC (outer := h.lift) (marks := []) 99 (fun j : Nat => [(5, .gl (.loc 0) 1 c.length), (8, shs S), (9, intss (natLL L)), (51, intss (natLL L)), (52, I L.length), (53, I i), (10, I i), (58, ints nl), (59, I l.length), (60, I j)]) (fun j => [.flat true ((setAll U (l.take j) g).flatMap Vm.encI)]) (fun j => j ≤ l.length) (fun j => l.length - j) 0 (Nat.zero_le _) ?_ ?_
          · rw [← hnl, show setAll U (l.take 0) g = U from rfl]
            conv => whnf
            refine Retell.turn ⟨[0], 1, [], []⟩ (TurnOk.mk' _ _ [] [] (OutOk.lift _) rfl (by decide) zb trivial trivial rfl) zw zm
          · rintro j hj
            rcases Nat.lt_or_ge j l.length with h5 | h5
            · have hn := hnat j h5
              have hnc : l.getD j 0 < c.length := by
                refine hin _ ?_
                rw [List.getD_eq_getElem?_getD, List.getElem?_eq_getElem h5]
                exact List.getElem_mem h5
              have htk : l.take (j + 1) = l.take j ++ [l.getD j 0] := by
                rw [List.take_add_one, List.getD_eq_getElem?_getD, List.getElem?_eq_getElem h5]; rfl
              have hst := setAll_step U (l.take j) g (l.getD j 0)
              rw [← htk] at hst
              have hul := setAll_len (l.take j) U g
              generalize setAll U (l.take j) g = V1 at *
              generalize l.getD j 0 = n at *
              have hu := at0_get (l := V1) (n := n) (by omega)
              conv => whnf
              repeat' (first | ((first | refine zs1 ?_ | refine zs2 ?_ | refine zs3 ?_ | refine zs4 ?_ | refine zs5 ?_); conv => whnf) | ((first | apply zi1 | apply zi2 | apply zi3 | apply zi4 | apply zi5) <;> intro _ <;> first | (exfalso; omega) | contradiction | (conv => whnf)) | (refine VAny.ix encI_len j rfl (by omega) hn ?_; conv => whnf) | (refine VAny.ix encSh_len i rfl (by omega) hSi ?_; conv => whnf) | (refine VMem.setRec encI_len n 0 g rfl rfl rfl hu (by decide) rfl (ofs _) ?_; conv => whnf))
              refine LEnd.intro (j + 1) (by omega) (by omega) ?_
              rw [hst]
              conv => whnf
              refine Retell.turn ⟨[0], 1, [], []⟩ (TurnOk.mk' _ _ [] [] (OutOk.lift _) rfl (by decide) zb trivial trivial rfl) zw zm
            · obtain rfl : j = l.length := by omega
              rw [List.take_of_length_le (Nat.le_refl _), ← hos]
              conv => whnf
              repeat' (first | ((first | refine zs1 ?_ | refine zs2 ?_ | refine zs3 ?_ | refine zs4 ?_ | refine zs5 ?_); conv => whnf) | ((first | apply zi1 | apply zi2 | apply zi3 | apply zi4 | apply zi5) <;> intro _ <;> first | (exfalso; omega) | contradiction | (conv => whnf)))
              refine LEnd.intro (i + 1) (by omega) (by omega) ?_
              generalize ostK L G B0 (i + 1) = V1
              conv => whnf
              refine Retell.turn ⟨[0], 1, [], []⟩ (TurnOk.mk' _ _ [] [] (OutOk.lift _) rfl (by decide) zb trivial trivial rfl) zw zm
        · obtain rfl : i = L.length := by omega
          have hRl := hot L.length
          generalize ostK L G B0 L.length = R at *
          rw [show ints R = .fs 1 c.length (R.flatMap Vm.encI) by unfold ints; rw [hRl]]
          have hRf : (R.flatMap Vm.encI).length = c.length * 1 := by rw [flat_len encI_len, hRl]
          conv => whnf
          repeat' (first | ((first | refine zs1 ?_ | refine zs2 ?_ | refine zs3 ?_ | refine zs4 ?_ | refine zs5 ?_); conv => whnf) | ((first | apply zi1 | apply zi2 | apply zi3 | apply zi4 | apply zi5) <;> intro _ <;> first | (exfalso; omega) | contradiction | (conv => whnf)))
          refine VOut.data 1 [(0, R.flatMap Vm.encI)] [] rfl zf (by exact FmAll.nil) zw
end Go.Proofs.YtlgdkljiilbooaaGreat

open Go.Vm
open Riv
namespace Go.Proofs.YtlgdkljiilbooaaGreat
set_option maxRecDepth 20000
set_option maxHeartbeats 4000000

/-! ### Lists that are filled from the left -/
def fill {α : Type} (f : Nat → α) (z : α) (L k : Nat) : List α := (List.range k).map f ++ List.replicate (L - k) z
theorem fill_zero {α : Type} (f : Nat → α) (z : α) (L : Nat) : fill f z L 0 = List.replicate L z := rfl
theorem fill_all {α : Type} (f : Nat → α) (z : α) (L : Nat) : fill f z L L = (List.range L).map f := by unfold fill; rw [Nat.sub_self]; simp
theorem fill_at {α : Type} (f : Nat → α) (z : α) {L k : Nat} (h : k < L) : (fill f z L k)[k]? = some z := by
  unfold fill
  rw [List.getElem?_append_right (by simp)]
  simp only [List.length_map, List.length_range, Nat.sub_self]
  rw [List.getElem?_replicate, if_pos (by omega)]
theorem fill_step {α : Type} (f : Nat → α) (z : α) {L k : Nat} (h : k < L) : fill f z L (k + 1) = (fill f z L k).set k (f k) := by
  have e : List.replicate (L - k) z = z :: List.replicate (L - (k + 1)) z := by
    rw [show L - k = (L - (k + 1)) + 1 by omega]; rfl
  unfold fill
  rw [e, List.set_append_right _ _ (by simp)]
  simp only [List.length_map, List.length_range, Nat.sub_self, List.set_cons_zero]
  rw [List.range_succ, List.map_append]; simp
end Go.Proofs.YtlgdkljiilbooaaGreat

open Go.Vm
open Riv
namespace Go.Proofs.YtlgdkljiilbooaaGreat
set_option maxRecDepth 20000
set_option maxHeartbeats 4000000

/-! ### Years -/
def yrs (l : List Mp) : V := .fs 3 l.length (l.flatMap encM)
theorem chkL_at {l : List Mp} {k : Nat} {m : Mp} (h : l[k]? = some m) : chkL (l.drop k) = if chkM m = 0 then chkL (l.drop (k + 1)) else chkM m := by
  obtain ⟨hlt, rfl⟩ := List.getElem?_eq_some_iff.1 h
  rw [List.drop_eq_getElem_cons hlt, chkL]
theorem sameB_at {l : List Mp} {k : Nat} {m x : Mp} (h : l[k]? = some m) : sameB x (l.drop k) = (decide (m.w = x.w ∧ m.h = x.h) && sameB x (l.drop (k + 1))) := by
  obtain ⟨hlt, rfl⟩ := List.getElem?_eq_some_iff.1 h
  rw [List.drop_eq_getElem_cons hlt]; rfl
theorem vc_CheckYears (l : List Mp) (h : Hp) (hl : l.length ≤ 4000000) (hc : ∀ m ∈ l, m.c.length ≤ 4000000) : VC Tryz.prog 47 [yrs l] h (I (chkY l)) h := by
  obtain ⟨E, hE⟩ : ∃ E, E = chkY l := ⟨_, rfl⟩
  rw [← hE]
  unfold chkY at hE
  by_cases h0 : 1 ≤ l.length ∧ l.length ≤ 10
  · rw [if_pos h0] at hE
    have h0s : l[0]? = some (l.headD ⟨0, 0, []⟩) := by
      cases l with
      | nil => simp at h0
      | cons a l => rfl
    refine VC.bodyC 2 Tryz.func47 rfl Tryz.ntmps47 Tryz.call47 (h.grows_refl) rfl ?_
    conv => whnf
    repeat' (first | ((first | refine zs1 ?_ | refine zs2 ?_ | refine zs3 ?_ | refine zs4 ?_ | refine zs5 ?_); conv => whnf) | ((first | apply zi1 | apply zi2 | apply zi3 | apply zi4 | apply zi5) <;> intro _ <;> first | (exfalso; omega) | contradiction | (conv => whnf)) | (refine VCall.intro (vc_from _ _ _ _) ?_; conv => whnf))
    refine VCut.at' (outer := h.lift) (marks := []) 99 [(0, yrs l)] [] ?_ ?_
    · conv => whnf
      refine Retell.turn ⟨[], 0, [], []⟩ (TurnOk.mk' _ _ [] [] (OutOk.lift _) rfl (by decide) zb trivial trivial rfl) zw zm
    conv => whnf
    repeat' (first | ((first | refine zs1 ?_ | refine zs2 ?_ | refine zs3 ?_ | refine zs4 ?_ | refine zs5 ?_); conv => whnf) | ((first | apply zi1 | apply zi2 | apply zi3 | apply zi4 | apply zi5) <;> intro _ <;> first | (exfalso; omega) | contradiction | (conv => whnf)))
    refine VCode.lpC (outer := h.lift) (marks := []) 99 (fun k : Nat => [(0, yrs l), (12, yrs l), (13, I l.length), (14, I k)]) (fun _ => []) (fun k => k ≤ l.length ∧ chkL l = chkL (l.drop k)) (fun k => l.length - k) 0 ⟨Nat.zero_le _, rfl⟩ ?_ ?_
    · conv => whnf
      refine Retell.turn ⟨[], 0, [], []⟩ (TurnOk.mk' _ _ [] [] (OutOk.lift _) rfl (by decide) zb trivial trivial rfl) zw zm
    · rintro k ⟨k1, k2⟩
      rcases Nat.lt_or_ge k l.length with k3 | k3
      · have hm : l[k]? = some l[k] := List.getElem?_eq_getElem k3
        have hmc := hc l[k] (List.getElem_mem k3)
        have hd := chkL_at hm
        generalize l[k] = m at *
        have cC := fun h => vc_check m h hmc
        generalize chkM m = e at *
        obtain ⟨mw, mh, mc⟩ := m
        by_cases he : e = 0
        · rw [if_pos he] at hd
          conv => whnf
          repeat' (first | ((first | refine zs1 ?_ | refine zs2 ?_ | refine zs3 ?_ | refine zs4 ?_ | refine zs5 ?_); conv => whnf) | ((first | apply zi1 | apply zi2 | apply zi3 | apply zi4 | apply zi5) <;> intro _ <;> first | (exfalso; omega) | contradiction | (conv => whnf)) | (refine VAny.ix encM_len k rfl rfl hm ?_; conv => whnf) | (refine VCall.intro (cC _) ?_; conv => whnf))
          refine LEnd.intro (k + 1) ⟨by omega, by rw [k2, hd]⟩ (by omega) ?_
          conv => whnf
          refine Retell.turn ⟨[], 1, [], []⟩ (TurnOk.mk' _ _ [] [] (OutOk.lift _) rfl (by decide) zb trivial trivial rfl) zw zm
        · rw [if_neg he] at hd
          have hE0 : E = e := by rw [hE, k2, hd, if_neg he]
          conv => whnf
          repeat' (first | ((first | refine zs1 ?_ | refine zs2 ?_ | refine zs3 ?_ | refine zs4 ?_ | refine zs5 ?_); conv => whnf) | ((first | apply zi1 | apply zi2 | apply zi3 | apply zi4 | apply zi5) <;> intro _ <;> first | (exfalso; omega) | contradiction | (conv => whnf)) | (refine VAny.ix encM_len k rfl rfl hm ?_; conv => whnf) | (refine VCall.intro (cC _) ?_; conv => whnf))
          rw [hE0]
          exact VOut.same rfl
      · rw [List.drop_of_length_le k3, show chkL [] = 0 from rfl] at k2
        rw [k2, if_pos rfl] at hE
        generalize l.headD ⟨0, 0, []⟩ = x at *
        conv => whnf
        repeat' (first | ((first | refine zs1 ?_ | refine zs2 ?_ | refine zs3 ?_ | refine zs4 ?_ | refine zs5 ?_); conv => whnf) | ((first | apply zi1 | apply zi2 | apply zi3 | apply zi4 | apply zi5) <;> intro _ <;> first | (exfalso; omega) | contradiction | (conv => whnf)))
        refine VCode.lpC (outer := h.lift) (marks := []) 99 (fun k : Nat => [(0, yrs l), (24, yrs l), (25, I l.length), (26, I k)]) (fun _ => []) (fun k => k ≤ l.length ∧ sameB x l = sameB x (l.drop k)) (fun k => l.length - k) 0 ⟨Nat.zero_le _, rfl⟩ ?_ ?_
        · conv => whnf
          refine Retell.turn ⟨[], 0, [], []⟩ (TurnOk.mk' _ _ [] [] (OutOk.lift _) rfl (by decide) zb trivial trivial rfl) zw zm
        · rintro k ⟨j1, j2⟩
          rcases Nat.lt_or_ge k l.length with j3 | j3
          · have hm : l[k]? = some l[k] := List.getElem?_eq_getElem j3
            have hd := sameB_at (x := x) hm
            generalize l[k] = m at *
            obtain ⟨mw, mh, mc⟩ := m
            obtain ⟨xw, xh, xc⟩ := x
            dsimp only at hd
            by_cases he : mw = xw ∧ mh = xh
            · rw [decide_eq_true he, Bool.true_and] at hd
              conv => whnf
              repeat' (first | ((first | refine zs1 ?_ | refine zs2 ?_ | refine zs3 ?_ | refine zs4 ?_ | refine zs5 ?_); conv => whnf) | ((first | apply zi1 | apply zi2 | apply zi3 | apply zi4 | apply zi5) <;> intro _ <;> conv => whnf) | (refine VAny.ix encM_len k rfl rfl hm ?_; conv => whnf))
              all_goals try (exfalso; omega)
              refine zs6 [] ?_
              conv => whnf
              repeat' (first | ((first | refine zs1 ?_ | refine zs2 ?_ | refine zs3 ?_ | refine zs4 ?_ | refine zs5 ?_); conv => whnf) | ((first | apply zi1 | apply zi2 | apply zi3 | apply zi4 | apply zi5) <;> intro _ <;> conv => whnf) | (refine VAny.ix encM_len 0 rfl rfl h0s ?_; conv => whnf))
              all_goals first
                | (exfalso; dsimp only at *; omega)
                | (refine LEnd.intro (k + 1) ⟨by omega, by rw [j2, hd]⟩ (by omega) ?_
                   conv => whnf
                   refine Retell.turn ⟨[], 1, [], []⟩ (TurnOk.mk' _ _ [] [] (OutOk.lift _) rfl (by decide) zb trivial trivial rfl) zw zm)
            · rw [decide_eq_false he, Bool.false_and] at hd
              have hE0 : E = 2 := by rw [hE, j2, hd]; rfl
              conv => whnf
              repeat' (first | ((first | refine zs1 ?_ | refine zs2 ?_ | refine zs3 ?_ | refine zs4 ?_ | refine zs5 ?_); conv => whnf) | ((first | apply zi1 | apply zi2 | apply zi3 | apply zi4 | apply zi5) <;> intro _ <;> conv => whnf) | (refine VAny.ix encM_len k rfl rfl hm ?_; conv => whnf))
              all_goals try (exfalso; omega)
              refine zs6 [] ?_
              conv => whnf
              repeat' (first | ((first | refine zs1 ?_ | refine zs2 ?_ | refine zs3 ?_ | refine zs4 ?_ | refine zs5 ?_); conv => whnf) | ((first | apply zi1 | apply zi2 | apply zi3 | apply zi4 | apply zi5) <;> intro _ <;> conv => whnf) | (refine VAny.ix encM_len 0 rfl rfl h0s ?_; conv => whnf))
              all_goals first
                | (exfalso; dsimp only at *; omega)
                | (rw [hE0]; exact VOut.same rfl)
          · rw [List.drop_of_length_le j3, show sameB x [] = true from rfl] at j2
            rw [j2, cond_true] at hE
            subst hE
            conv => whnf
            repeat' (first | ((first | refine zs1 ?_ | refine zs2 ?_ | refine zs3 ?_ | refine zs4 ?_ | refine zs5 ?_); conv => whnf) | ((first | apply zi1 | apply zi2 | apply zi3 | apply zi4 | apply zi5) <;> intro _ <;> first | (exfalso; omega) | contradiction | (conv => whnf)))
            exact VOut.same rfl
  · rw [if_neg h0] at hE
    subst hE
    refine VC.body Tryz.func47 rfl Tryz.ntmps47 Tryz.call47 (h.grows_refl) rfl ?_; conv => whnf
    repeat' (first | ((first | refine zs1 ?_ | refine zs2 ?_ | refine zs3 ?_ | refine zs4 ?_ | refine zs5 ?_); conv => whnf) | ((first | apply zi1 | apply zi2 | apply zi3 | apply zi4 | apply zi5) <;> intro _ <;> first | (exfalso; omega) | contradiction | (conv => whnf)) | (refine VCall.intro (vc_from _ _ _ _) ?_; conv => whnf))
    exact VOut.same rfl
/-! ### Changes -/
theorem vc_changes {W H : Nat} (a b : Mp) (h : Hp) (o : MOk W H a.c) (hw : a.w = W) (hl : b.c.length = a.c.length) : VC Tryz.prog 59 [vM a, vM b] h (intss (natLL (chg a.c b.c W))) h := by
  have hm144 := MOk.le o
  have hdl : (diffs a.c b.c).length = a.c.length := by unfold diffs; simp
  have cP := fun h => vc_partsB a (diffs a.c b.c) h o hw hdl
  have hdf : diffs a.c b.c = (List.range a.c.length).map fun n => decide (at0 a.c n ≠ at0 b.c n) := rfl
  rw [show parts (diffs a.c b.c) W = chg a.c b.c W from rfl] at cP
  obtain ⟨f, hf⟩ : ∃ f, f = fun n : Nat => decide (at0 a.c n ≠ at0 b.c n) := ⟨_, rfl⟩
  rw [← hf] at hdf
  generalize diffs a.c b.c = mk at *
  generalize chg a.c b.c W = R at *
  obtain ⟨aw, ah, ac⟩ := a
  obtain ⟨bw, bh, bc⟩ := b
  dsimp only at *
  show VC Tryz.prog 59 [.agg [I aw, I ah, ints ac], .agg [I bw, I bh, ints bc]] h _ h
  refine VC.bodyC 1 Tryz.func59 rfl Tryz.ntmps59 Tryz.call59 (h.grows_refl) rfl ?_
  conv => whnf
  repeat' (first | ((first | refine zs1 ?_ | refine zs2 ?_ | refine zs3 ?_ | refine zs4 ?_ | refine zs5 ?_); conv => whnf) | ((first | apply zi1 | apply zi2 | apply zi3 | apply zi4 | apply zi5) <;> intro _ <;> conv => whnf))
  refine VCut.at' (outer := h.lift) (marks := []) 99 [(2, .fp [DI aw, DI ah, dints ac]), (3, .fp [DI bw, DI bh, dints bc])] [] ?_ ?_
  · conv => whnf
    refine Retell.turn ⟨[], 2, [(0, [DI aw, DI ah, dints ac]), (1, [DI bw, DI bh, dints bc])], []⟩ (TurnOk.mk' _ _ [(0, [DI aw, DI ah, dints ac]), (1, [DI bw, DI bh, dints bc])] [] (OutOk.lift _) rfl (by decide) zb zf trivial rfl) zw zm
  conv => whnf
  repeat' (first | ((first | refine zs1 ?_ | refine zs2 ?_ | refine zs3 ?_ | refine zs4 ?_ | refine zs5 ?_); conv => whnf) | ((first | apply zi1 | apply zi2 | apply zi3 | apply zi4 | apply zi5) <;> intro _ <;> conv => whnf) | (refine VMem.make false encB_len rfl rfl rfl rfl rfl rfl (by omega) ?_; conv => whnf))
  refine VCode.lpC (outer := h.lift) (marks := []) 99 (fun k : Nat => [(2, .fp [DI aw, DI ah, dints ac]), (3, .fp [DI bw, DI bh, dints bc]), (5, .gl (.loc 0) 1 ac.length), (12, I ac.length), (13, I k)]) (fun k => [.flat true ((fill f false ac.length k).flatMap encB)]) (fun k => k ≤ ac.length) (fun k => ac.length - k) 0 (Nat.zero_le _) ?_ ?_
  · rw [fill_zero]
    conv => whnf
    refine Retell.turn ⟨[0], 1, [], []⟩ (TurnOk.mk' _ _ [] [] (OutOk.lift _) rfl (by decide) zb trivial trivial rfl) zw zm
  · rintro k hk
    rcases Nat.lt_or_ge k ac.length with h3 | h3
    · have hx := at0_get h3
      have hy := at0_get (l := bc) (n := k) (by omega)
      have hst := fill_step f false h3
      have hkl := fill_at f false h3
      have hfk : f k = decide (at0 ac k ≠ at0 bc k) := by rw [hf]
      generalize at0 ac k = x at *
      generalize at0 bc k = y at *
      generalize fill f false ac.length k = T at *
      have hdx : decide (x ≠ y) = (x != y) := by rw [Bool.eq_iff_iff, decide_eq_true_eq, bne_iff_ne]
      rw [hfk, hdx] at hst
      conv => whnf
      repeat' (first | ((first | refine zs1 ?_ | refine zs2 ?_ | refine zs3 ?_ | refine zs4 ?_ | refine zs5 ?_); conv => whnf) | ((first | apply zi1 | apply zi2 | apply zi3 | apply zi4 | apply zi5) <;> intro _ <;> conv => whnf))
      all_goals try (exfalso; omega)
      refine zs6 [] ?_
      conv => whnf
      repeat' (first | ((first | refine zs1 ?_ | refine zs2 ?_ | refine zs3 ?_ | refine zs4 ?_ | refine zs5 ?_); conv => whnf) | ((first | apply zi1 | apply zi2 | apply zi3 | apply zi4 | apply zi5) <;> intro _ <;> conv => whnf) | (refine VAny.ix encI_len k rfl rfl hx ?_; conv => whnf) | (refine VAny.ix encI_len k rfl (by omega) hy ?_; conv => whnf) | (refine VMem.setRec encB_len k 0 (x != y) rfl rfl rfl hkl (by decide) rfl (ofs _) ?_; conv => whnf))
      refine LEnd.intro (k + 1) (by omega) (by omega) ?_
      rw [hst]
      conv => whnf
      refine Retell.turn ⟨[0], 1, [], []⟩ (TurnOk.mk' _ _ [] [] (OutOk.lift _) rfl (by decide) zb trivial trivial rfl) zw zm
    · obtain rfl : k = ac.length := by omega
      rw [fill_all, ← hdf]
      have hmf : (mk.flatMap encB).length = ac.length * 1 := by rw [flat_len encB_len, hdl]
      have hbm : bools mk = .fs 1 ac.length (mk.flatMap encB) := by unfold bools; rw [hdl]
      rw [hbm] at cP
      conv => whnf
      repeat' (first | ((first | refine zs1 ?_ | refine zs2 ?_ | refine zs3 ?_ | refine zs4 ?_ | refine zs5 ?_); conv => whnf) | ((first | apply zi1 | apply zi2 | apply zi3 | apply zi4 | apply zi5) <;> intro _ <;> first | (exfalso; omega) | contradiction | (conv => whnf)))
      refine VCall.intro (VC.give (args' := [.agg [I aw, I ah, ints ac], .fs 1 ac.length (mk.flatMap encB), .func (.func 77) [] []]) (loc' := [.dead]) [(0, mk.flatMap encB)] [] (OutOk.lift _) zb zf (by exact FmAll.nil) rfl zw (cP _)) ?_
      conv => whnf
      repeat' (first | ((first | refine zs1 ?_ | refine zs2 ?_ | refine zs3 ?_ | refine zs4 ?_ | refine zs5 ?_); conv => whnf) | ((first | apply zi1 | apply zi2 | apply zi3 | apply zi4 | apply zi5) <;> intro _ <;> conv => whnf))
      exact VOut.same rfl
end Go.Proofs.YtlgdkljiilbooaaGreat

open Go.Vm
open Riv
namespace Go.Vm
theorem VMem.appRow {P : Program} {t ty : TypeId} {e esz bytes : Nat} {zero : List V} {s_ : Nat} {a_ : Bool} {z_ : V} {h : Hp} {i j : Id} {n : Nat} {b : Blk} {l news : List V} {rw : Bool} {K : V → Hp → Prop} (hTt : tiOf P t = some ⟨.slice e esz bytes zero, s_, a_, z_⟩)
    (hb : h.get i = some b) (hrow : b.row = some (true, l)) (hj : h.get j = some (.cells rw news)) (hnl : news.length = esz) (hn : l.length = n * esz) (hby : Nat.ble bytes 1048576 = true) (h63 : n ≤ 67108864)
    (hK : K (.gl h.fresh esz (n + 1)) ((h.set i .dead).push (.cells true (l ++ news)))) : VMem P (opAppend #[t, t] ty) [.gl i esz n, .gl j esz 1] h K := by
  have hbd := mul_bd (n := n + 1) hby (by omega)
  refine VMem.intro (does_append_gl (b := b) (l := l) (news := news) (tiOf_ok P) hTt hb hrow ?_ ?_ ?_ hbd (by omega)) hK
  · simp only [SegOf]
    exact ⟨trivial, trivial, _, rw, news, hj, rfl, by omega, by rw [List.take_of_length_le (by omega)]⟩
  · omega
  · have : List.take (n * esz) l = l := List.take_of_length_le (by omega)
    simp [Blk.row, this]
end Go.Vm
namespace Go.Proofs.YtlgdkljiilbooaaGreat
set_option maxRecDepth 20000
set_option maxHeartbeats 4000000

def mp0 : Mp := ⟨0, 0, []⟩
def lawY (W : Nat) (l : List Mp) (slow : Int) : List Mp := (List.range l.length).map fun y => ⟨(l.getD y mp0).w, (l.getD y mp0).h, lawAt W (cellsY l) slow y⟩
theorem lawY_len (W : Nat) (l : List Mp) (slow : Int) : (lawY W l slow).length = l.length := by simp [lawY]
theorem lawY_at {W : Nat} {l : List Mp} {slow : Int} {y : Nat} (hy : y < l.length) : (lawY W l slow)[y]? = some ⟨(l.getD y mp0).w, (l.getD y mp0).h, lawAt W (cellsY l) slow y⟩ := by
  unfold lawY; rw [List.getElem?_map, List.getElem?_range hy]; rfl
structure YOk (W H : Nat) (l : List Mp) : Prop where
  n : 1 ≤ l.length ∧ l.length ≤ 10
  all : ∀ m ∈ l, m.w = W ∧ m.h = H ∧ MOk W H m.c
theorem YOk.get {W H : Nat} {l : List Mp} (o : YOk W H l) {y : Nat} (hy : y < l.length) : l[y]? = some (l.getD y mp0) ∧ (l.getD y mp0).w = W ∧ (l.getD y mp0).h = H ∧ MOk W H (l.getD y mp0).c := by
  have h1 : l[y]? = some (l.getD y mp0) := by rw [List.getD_eq_getElem?_getD, List.getElem?_eq_getElem hy]; rfl
  exact ⟨h1, o.all _ (List.mem_of_getElem? h1)⟩
theorem cellsY_at {l : List Mp} {y : Nat} (hy : y < l.length) : (cellsY l).getD y [] = (l.getD y mp0).c := by
  unfold cellsY
  rw [List.getD_eq_getElem?_getD, List.getElem?_map, List.getElem?_eq_getElem hy, List.getD_eq_getElem?_getD, List.getElem?_eq_getElem hy]; rfl
theorem cellsY_len (l : List Mp) : (cellsY l).length = l.length := by simp [cellsY]
theorem YOk.yrs {W H : Nat} {l : List Mp} (o : YOk W H l) : Yrs W H (cellsY l) := by
  have h0 := (o.get (y := 0) (by have := o.n; omega)).2.2.2
  refine ⟨by have := h0.w; omega, ?_, fun y hy => ?_⟩
  · have := MOk.le h0
    rw [h0.len] at this; omega
  · rw [cellsY_len] at hy
    rw [cellsY_at hy]
    exact (o.get hy).2.2.2.len
theorem chkY_YOk {l : List Mp} (h : chkY l = 0) : ∃ W H : Nat, YOk W H l := by
  obtain ⟨W, H, h1, h2⟩ := chkY_ok h
  exact ⟨W, H, h1, h2⟩
def lyK (W : Nat) (slow : Int) (a b now : List Int) (i : Nat) : List Int := ((chg a b W).take i).foldl (lstep slow b) now
theorem lyK_step {W : Nat} {slow : Int} {a b now : List Int} {i : Nat} {cs : List Nat} (h : (chg a b W)[i]? = some cs) : lyK W slow a b now (i + 1) = lstep slow b (lyK W slow a b now i) cs := by
  unfold lyK
  rw [List.take_add_one, h, List.foldl_append]; rfl
theorem lyK_len (W : Nat) (slow : Int) (a b now : List Int) (i : Nat) : (lyK W slow a b now i).length = now.length := lyear_go_len _ _ _ _
theorem lset_step (b out : List Int) (cs : List Nat) (n : Nat) : lset b out (cs ++ [n]) = (lset b out cs).set n (at0 b n) := by unfold lset; rw [List.foldl_append]; rfl
theorem chg_cnt {a b : List Int} {W H : Nat} (hW : 2 ≤ W) (hL : a.length = W * H) : (chg a b W).length ≤ a.length := by
  have := (pfK_ok (mk := diffs a b) (W := W) (H := H) hW (by rw [diffs_len]; exact hL) (diffs a b).length).2.2
  rw [diffs_len] at this
  have e : chg a b W = (pfK (diffs a b) W a.length).2 := by unfold chg parts pfK; rw [diffs_len]
  rw [e]; exact this
theorem ofsY (Y : Nat) : (((Y + 1 : Nat) : Int) - 1).toNat * (2 + 1) + 2 = Y * 3 + 2 := by
  have : (((Y + 1 : Nat) : Int) - 1).toNat = Y := by omega
  rw [this]
theorem vc_law {W H : Nat} (l : List Mp) (slow : Int) (h : Hp) (o : YOk W H l) : VC Tryz.prog 49 [yrs l, I slow] h (yrs (lawY W l slow)) h := by
  have hn := o.n
  have hAl := lawY_len W l slow
  have hAt := fun y hy => lawY_at (W := W) (l := l) (slow := slow) (y := y) hy
  have hget := fun y hy => o.get (y := y) hy
  have hlen := fun y hy => lawAt_len o.yrs slow y (by rw [cellsY_len]; exact hy)
  have hstep : ∀ y, y + 1 < l.length → lawAt W (cellsY l) slow (y + 1) = lyear W slow (l.getD y mp0).c (l.getD (y + 1) mp0).c (lawAt W (cellsY l) slow y) := fun y hy => by
    rw [lawAt, cellsY_at (by omega), cellsY_at hy]
  have hzero : lawAt W (cellsY l) slow 0 = (l.getD 0 mp0).c := by rw [lawAt, cellsY_at (by omega)]
  generalize lawY W l slow = A at *
  generalize lawAt W (cellsY l) slow = q at *
  have hsn : ∀ y, y < l.length → A.take (y + 1) = A.take y ++ [⟨(l.getD y mp0).w, (l.getD y mp0).h, q y⟩] := fun y hy => by rw [List.take_add_one, hAt y hy]; rfl
  refine VC.bodyC 1 Tryz.func49 rfl Tryz.ntmps49 Tryz.call49 (h.grows_refl) rfl ?_
  conv => whnf
  repeat' (first | ((first | refine zs1 ?_ | refine zs2 ?_ | refine zs3 ?_ | refine zs4 ?_ | refine zs5 ?_); conv => whnf) | ((first | apply zi1 | apply zi2 | apply zi3 | apply zi4 | apply zi5) <;> intro _ <;> conv => whnf))
  refine VCut.at' (outer := h.lift) (marks := []) 99 [(0, yrs l), (1, I slow)] [] ?_ ?_
  · conv => whnf
    refine Retell.turn ⟨[], 0, [], []⟩ (TurnOk.mk' _ _ [] [] (OutOk.lift _) rfl (by decide) zb trivial trivial rfl) zw zm
  conv => whnf
  repeat' (first | ((first | refine zs1 ?_ | refine zs2 ?_ | refine zs3 ?_ | refine zs4 ?_ | refine zs5 ?_); conv => whnf) | ((first | apply zi1 | apply zi2 | apply zi3 | apply zi4 | apply zi5) <;> intro _ <;> conv => whnf))
  refine VCode.lpC (outer := h.lift) (marks := []) 99 (fun y : Nat => [(0, yrs l), (1, I slow), (5, .gl (.loc 0) 3 y), (13, yrs l), (14, I l.length), (15, I y)]) (fun y => [.flat true ((A.take y).flatMap encM)]) (fun y => y ≤ l.length) (fun y => l.length - y) 0 (Nat.zero_le _) ?_ ?_
  · conv => whnf
    refine Retell.turn ⟨[0], 0, [], []⟩ (TurnOk.mk' _ _ [] [] (OutOk.lift _) rfl (by decide) zb trivial trivial rfl) zw zm
  · rintro y hy
    rcases Nat.lt_or_ge y l.length with h3 | h3
    · obtain ⟨hm, hmw, hmh, hmo⟩ := hget y h3
      have hsn := hsn y h3
      have hqy := hlen y h3
      have hm144 := MOk.le hmo
      have hmL := hmo.len
      have hst : (A.take y).length = y := by rw [List.length_take]; omega
      rcases Nat.eq_zero_or_pos y with hy0 | hy0
      · subst hy0
        rw [hzero] at hsn
        generalize l.getD 0 mp0 = m at *
        obtain ⟨mw, mh, mc⟩ := m
        dsimp only at *
        conv => whnf
        repeat' (first | ((first | refine zs1 ?_ | refine zs2 ?_ | refine zs3 ?_ | refine zs4 ?_ | refine zs5 ?_); conv => whnf) | ((first | apply zi1 | apply zi2 | apply zi3 | apply zi4 | apply zi5) <;> intro _ <;> conv => whnf) | (refine VAny.ix encM_len 0 rfl rfl hm ?_; conv => whnf))
        all_goals try (exfalso; omega)
        refine zs6 [] ?_
        conv => whnf
        repeat' (first | ((first | refine zs1 ?_ | refine zs2 ?_ | refine zs3 ?_ | refine zs4 ?_ | refine zs5 ?_); conv => whnf) | ((first | apply zi1 | apply zi2 | apply zi3 | apply zi4 | apply zi5) <;> intro _ <;> conv => whnf) | (refine VMkD.makeI mc.length rfl rfl rfl rfl rfl (by decide) (by omega) ?_; conv => whnf))
        refine VMem.copyFs (l := List.replicate mc.length (0 : Int)) (l2 := mc) encI_len rfl rfl (by simp) rfl rfl ?_
        conv => whnf
        repeat' (first | ((first | refine zs1 ?_ | refine zs2 ?_ | refine zs3 ?_ | refine zs4 ?_ | refine zs5 ?_); conv => whnf) | ((first | apply zi1 | apply zi2 | apply zi3 | apply zi4 | apply zi5) <;> intro _ <;> conv => whnf))
        refine VMem.appRow (l := ((A.take 0).flatMap encM).map D.v) (news := [I mw, I mh, .gl (.loc 2) 1 mc.length]) rfl rfl rfl rfl rfl (by simp) rfl (by omega) ?_
        conv => whnf
        repeat' (first | ((first | refine zs1 ?_ | refine zs2 ?_ | refine zs3 ?_ | refine zs4 ?_ | refine zs5 ?_); conv => whnf) | ((first | apply zi1 | apply zi2 | apply zi3 | apply zi4 | apply zi5) <;> intro _ <;> conv => whnf))
        refine LEnd.intro 1 (by omega) (by omega) ?_
        rw [hsn]
        conv => whnf
        refine Retell.turn ⟨[5], 6, [(2, mc.flatMap Vm.encI)], []⟩ (TurnOk.mk' _ _ [(2, mc.flatMap Vm.encI)] [] (OutOk.lift _) rfl (by decide) (BTos.row rfl rfl rfl (RowTo.snoc (RowTo.vtos zv)) BTos.nil) zf trivial rfl) zw zm
      · obtain ⟨Y, rfl⟩ : ∃ Y, y = Y + 1 := ⟨y - 1, by omega⟩
        obtain ⟨ha, haw, hah, hao⟩ := hget Y (by omega)
        have hAp := hAt Y (by omega)
        have hAp2 : (A.take (Y + 1))[Y]? = some ⟨(l.getD Y mp0).w, (l.getD Y mp0).h, q Y⟩ := by rw [List.getElem?_take, if_pos (by omega)]; exact hAp
        have hqp := hlen Y (by omega)
        have hst2 := hstep Y h3
        have haL := hao.len
        have hWb := hao.w
        have cC := fun h => vc_changes (l.getD Y mp0) (l.getD (Y + 1) mp0) h hao haw (by omega)
        have hly : lyear W slow (l.getD Y mp0).c (l.getD (Y + 1) mp0).c (q Y) = lyK W slow (l.getD Y mp0).c (l.getD (Y + 1) mp0).c (q Y) (chg (l.getD Y mp0).c (l.getD (Y + 1) mp0).c W).length := by
          unfold lyear lyK; rw [List.take_of_length_le (Nat.le_refl _)]
        rw [hly] at hst2
        have hks := fun i cs hcs => lyK_step (W := W) (slow := slow) (a := (l.getD Y mp0).c) (b := (l.getD (Y + 1) mp0).c) (now := q Y) (i := i) (cs := cs) hcs
        have hkl := fun i => lyK_len W slow (l.getD Y mp0).c (l.getD (Y + 1) mp0).c (q Y) i
        have hk0 : lyK W slow (l.getD Y mp0).c (l.getD (Y + 1) mp0).c (q Y) 0 = q Y := rfl
        have hcm := fun cs hcs => chg_mem (a := (l.getD Y mp0).c) (b := (l.getD (Y + 1) mp0).c) (W := W) (H := H) (cs := cs) (by omega) haL (by have := MOk.le hao; omega) hcs
        have hcl := chg_cnt (a := (l.getD Y mp0).c) (b := (l.getD (Y + 1) mp0).c) (W := W) (H := H) (by omega) haL
        generalize lyK W slow (l.getD Y mp0).c (l.getD (Y + 1) mp0).c (q Y) = uk at *
        generalize chg (l.getD Y mp0).c (l.getD (Y + 1) mp0).c W = R at *
        have hRl : (natLL R).length = R.length := by unfold natLL; rw [List.length_map]
        generalize l.getD Y mp0 = am at *
        generalize l.getD (Y + 1) mp0 = m at *
        generalize q Y = qp at *
        rw [hst2] at hsn
        obtain ⟨aw, ah, ac⟩ := am
        obtain ⟨mw, mh, mc⟩ := m
        dsimp only at *
        have hm2 := MOk.le hao
        conv => whnf
        repeat' (first | ((first | refine zs1 ?_ | refine zs2 ?_ | refine zs3 ?_ | refine zs4 ?_ | refine zs5 ?_); conv => whnf) | ((first | apply zi1 | apply zi2 | apply zi3 | apply zi4 | apply zi5) <;> intro _ <;> conv => whnf) | (refine VAny.ix encM_len (Y + 1) rfl rfl hm ?_; conv => whnf))
        all_goals try (exfalso; omega)
        refine zs6 [] ?_
        conv => whnf
        repeat' (first | ((first | refine zs1 ?_ | refine zs2 ?_ | refine zs3 ?_ | refine zs4 ?_ | refine zs5 ?_); conv => whnf) | ((first | apply zi1 | apply zi2 | apply zi3 | apply zi4 | apply zi5) <;> intro _ <;> conv => whnf) | (refine VMkD.makeI mc.length rfl rfl rfl rfl rfl (by decide) (by omega) ?_; conv => whnf))
        all_goals try (exfalso; omega)
        refine zs6 [] ?_
        conv => whnf
        repeat' (first | ((first | refine zs1 ?_ | refine zs2 ?_ | refine zs3 ?_ | refine zs4 ?_ | refine zs5 ?_); conv => whnf) | ((first | apply zi1 | apply zi2 | apply zi3 | apply zi4 | apply zi5) <;> intro _ <;> conv => whnf) | (refine VLd.recc (d := .sl 1 qp.length (qp.flatMap Vm.encI)) encM_len Y 2 rfl rfl rfl hAp2 (by decide) rfl (ofsY Y) ?_; conv => whnf))
        refine VMem.copyFs (l := List.replicate mc.length (0 : Int)) (l2 := qp) encI_len rfl rfl (by simp) rfl (by omega) ?_
        conv => whnf
        repeat' (first | ((first | refine zs1 ?_ | refine zs2 ?_ | refine zs3 ?_ | refine zs4 ?_ | refine zs5 ?_); conv => whnf) | ((first | apply zi1 | apply zi2 | apply zi3 | apply zi4 | apply zi5) <;> intro _ <;> conv => whnf))
        refine zs6 [] ?_
        conv => whnf
        repeat' (first | ((first | refine zs1 ?_ | refine zs2 ?_ | refine zs3 ?_ | refine zs4 ?_ | refine zs5 ?_); conv => whnf) | ((first | apply zi1 | apply zi2 | apply zi3 | apply zi4 | apply zi5) <;> intro _ <;> conv => whnf) | (refine VAny.ix encM_len Y (by omega) rfl ha ?_; conv => whnf) | (refine VCall.intro (cC _) ?_; conv => whnf))
        refine VCode.lpC (outer := h.lift) (marks := []) 99 (fun i : Nat => [(0, yrs l), (1, I slow), (5, .gl (.loc 0) 3 (Y + 1)), (13, yrs l), (14, I l.length), (15, I (Y + 1 : Nat)), (7, .fp [DI mw, DI mh, dints mc]), (8, .ptr (.loc 1) 0), (51, intss (natLL R)), (52, I R.length), (53, I i)]) (fun i => [.flat true ((A.take (Y + 1)).flatMap encM), .cells true [I mw, I mh, .gl (.loc 2) 1 mc.length], .flat true ((uk i).flatMap Vm.encI)]) (fun i => i ≤ R.length) (fun i => R.length - i) 0 (Nat.zero_le _) ?_ ?_
        · rw [hk0, ← hRl]
          conv => whnf
          refine Retell.turn ⟨[0,3,2], 4, [(1, [DI mw, DI mh, dints mc])], []⟩ (TurnOk.mk' _ _ [(1, [DI mw, DI mh, dints mc])] [] (OutOk.lift _) rfl (by decide) zb zf trivial rfl) zw zm
        · rintro i hi
          rcases Nat.lt_or_ge i R.length with h4 | h4
          · obtain ⟨cs, hlk⟩ : ∃ cs, R[i]? = some cs := ⟨_, List.getElem?_eq_getElem h4⟩
            have hcm := hcm cs (List.mem_of_getElem? hlk)
            have hks := hks i cs hlk
            have hnk : (natLL R)[i]? = some (natI cs) := by unfold natLL; rw [List.getElem?_map, hlk]; rfl
            have hnat := fun j hj => natI_at (ks := cs) (i := j) hj
            have hnl := natI_len cs
            have hkl := hkl i
            clear hlk
            generalize natI cs = nl at *
            generalize uk i = U at *
            unfold lstep at hks
            obtain ⟨hc1, hc2, hc3, hc4⟩ := hcm
            conv => whnf
            repeat' (first | ((first | refine zs1 ?_ | refine zs2 ?_ | refine zs3 ?_ | refine zs4 ?_ | refine zs5 ?_); conv => whnf) | ((first | apply zi1 | apply zi2 | apply zi3 | apply zi4 | apply zi5) <;> intro _ <;> first | (exfalso; omega) | contradiction | (conv => whnf)) | (refine VAny.ix encL_len i (by omega) (by omega) hnk ?_; conv => whnf))
            by_cases hsl : (cs.length : Int) ≤ slow
            · rw [if_pos hsl] at hks
              refine VCode.lpC (outer := h.lift) (marks := []) 99 (fun j : Nat => [(0, yrs l), (1, I slow), (5, .gl (.loc 0) 3 (Y + 1)), (13, yrs l), (14, I l.length), (15, I (Y + 1 : Nat)), (7, .fp [DI mw, DI mh, dints mc]), (8, .ptr (.loc 1) 0), (51, intss (natLL R)), (52, I R.length), (53, I i), (10, ints nl), (57, ints nl), (58, I cs.length), (59, I j)]) (fun j => [.flat true ((A.take (Y + 1)).flatMap encM), .cells true [I mw, I mh, .gl (.loc 2) 1 mc.length], .flat true ((lset mc U (cs.take j)).flatMap Vm.encI)]) (fun j => j ≤ cs.length) (fun j => cs.length - j) 0 (Nat.zero_le _) ?_ ?_
              · rw [← hnl, show lset mc U (cs.take 0) = U from rfl]
                conv => whnf
                refine Retell.turn ⟨[0,1,2], 3, [], []⟩ (TurnOk.mk' _ _ [] [] (OutOk.lift _) rfl (by decide) zb trivial trivial rfl) zw zm
              · rintro j hj
                rcases Nat.lt_or_ge j cs.length with h5 | h5
                · have hn := hnat j h5
                  have hnc : cs.getD j 0 < ac.length := by
                    refine (hc4 _ ?_).1
                    rw [List.getD_eq_getElem?_getD, List.getElem?_eq_getElem h5]
                    exact List.getElem_mem h5
                  have htk : cs.take (j + 1) = cs.take j ++ [cs.getD j 0] := by
                    rw [List.take_add_one, List.getD_eq_getElem?_getD, List.getElem?_eq_getElem h5]; rfl
                  have hst3 := lset_step mc U (cs.take j) (cs.getD j 0)
                  rw [← htk] at hst3
                  have hul := lset_len mc U (cs.take j)
                  generalize lset mc U (cs.take j) = V1 at *
                  generalize cs.getD j 0 = n at *
                  have hu := at0_get (l := V1) (n := n) (by omega)
                  have hy := at0_get (l := mc) (n := n) (by omega)
                  generalize at0 mc n = v at *
                  conv => whnf
                  repeat' (first | ((first | refine zs1 ?_ | refine zs2 ?_ | refine zs3 ?_ | refine zs4 ?_ | refine zs5 ?_); conv => whnf) | ((first | apply zi1 | apply zi2 | apply zi3 | apply zi4 | apply zi5) <;> intro _ <;> conv => whnf) | (refine VAny.ix encI_len j rfl (by omega) hn ?_; conv => whnf))
                  all_goals try (exfalso; omega)
                  refine zs6 [] ?_
                  conv => whnf
                  repeat' (first | ((first | refine zs1 ?_ | refine zs2 ?_ | refine zs3 ?_ | refine zs4 ?_ | refine zs5 ?_); conv => whnf) | ((first | apply zi1 | apply zi2 | apply zi3 | apply zi4 | apply zi5) <;> intro _ <;> conv => whnf) | (refine VAny.ix encI_len n rfl rfl hy ?_; conv => whnf) | (refine VMem.setRec encI_len n 0 v rfl rfl rfl hu (by decide) rfl (ofs _) ?_; conv => whnf))
                  refine LEnd.intro (j + 1) (by omega) (by omega) ?_
                  rw [hst3]
                  conv => whnf
                  refine Retell.turn ⟨[0,1,2], 3, [], []⟩ (TurnOk.mk' _ _ [] [] (OutOk.lift _) rfl (by decide) zb trivial trivial rfl) zw zm
                · obtain rfl : j = cs.length := by omega
                  rw [List.take_of_length_le (Nat.le_refl _), ← hks]
                  conv => whnf
                  repeat' (first | ((first | refine zs1 ?_ | refine zs2 ?_ | refine zs3 ?_ | refine zs4 ?_ | refine zs5 ?_); conv => whnf) | ((first | apply zi1 | apply zi2 | apply zi3 | apply zi4 | apply zi5) <;> intro _ <;> first | (exfalso; omega) | contradiction | (conv => whnf)))
                  refine LEnd.intro (i + 1) (by omega) (by omega) ?_
                  generalize uk (i + 1) = V1
                  conv => whnf
                  refine Retell.turn ⟨[0,1,2], 3, [], []⟩ (TurnOk.mk' _ _ [] [] (OutOk.lift _) rfl (by decide) zb trivial trivial rfl) zw zm
            · rw [if_neg hsl] at hks
              refine VCode.lpC (outer := h.lift) (marks := []) 99 (fun j : Nat => [(0, yrs l), (1, I slow), (5, .gl (.loc 0) 3 (Y + 1)), (13, yrs l), (14, I l.length), (15, I (Y + 1 : Nat)), (7, .fp [DI mw, DI mh, dints mc]), (8, .ptr (.loc 1) 0), (51, intss (natLL R)), (52, I R.length), (53, I i), (10, ints nl), (57, ints nl), (58, I cs.length), (59, I j)]) (fun j => [.flat true ((A.take (Y + 1)).flatMap encM), .cells true [I mw, I mh, .gl (.loc 2) 1 mc.length], .flat true (U.flatMap Vm.encI)]) (fun j => j ≤ cs.length) (fun j => cs.length - j) 0 (Nat.zero_le _) ?_ ?_
              · rw [← hnl]
                conv => whnf
                refine Retell.turn ⟨[0,1,2], 3, [], []⟩ (TurnOk.mk' _ _ [] [] (OutOk.lift _) rfl (by decide) zb trivial trivial rfl) zw zm
              · rintro j hj
                rcases Nat.lt_or_ge j cs.length with h5 | h5
                · have hn := hnat j h5
                  conv => whnf
                  repeat' (first | ((first | refine zs1 ?_ | refine zs2 ?_ | refine zs3 ?_ | refine zs4 ?_ | refine zs5 ?_); conv => whnf) | ((first | apply zi1 | apply zi2 | apply zi3 | apply zi4 | apply zi5) <;> intro _ <;> first | (exfalso; omega) | contradiction | (conv => whnf)) | (refine VAny.ix encI_len j rfl (by omega) hn ?_; conv => whnf))
                  refine LEnd.intro (j + 1) (by omega) (by omega) ?_
                  conv => whnf
                  refine Retell.turn ⟨[0,1,2], 3, [], []⟩ (TurnOk.mk' _ _ [] [] (OutOk.lift _) rfl (by decide) zb trivial trivial rfl) zw zm
                · obtain rfl : j = cs.length := by omega
                  conv => whnf
                  repeat' (first | ((first | refine zs1 ?_ | refine zs2 ?_ | refine zs3 ?_ | refine zs4 ?_ | refine zs5 ?_); conv => whnf) | ((first | apply zi1 | apply zi2 | apply zi3 | apply zi4 | apply zi5) <;> intro _ <;> first | (exfalso; omega) | contradiction | (conv => whnf)))
                  refine LEnd.intro (i + 1) (by omega) (by omega) ?_
                  rw [hks]
                  conv => whnf
                  refine Retell.turn ⟨[0,1,2], 3, [], []⟩ (TurnOk.mk' _ _ [] [] (OutOk.lift _) rfl (by decide) zb trivial trivial rfl) zw zm
          · obtain rfl : i = R.length := by omega
            have hkl := hkl R.length
            generalize uk R.length = V1 at *
            conv => whnf
            repeat' (first | ((first | refine zs1 ?_ | refine zs2 ?_ | refine zs3 ?_ | refine zs4 ?_ | refine zs5 ?_); conv => whnf) | ((first | apply zi1 | apply zi2 | apply zi3 | apply zi4 | apply zi5) <;> intro _ <;> first | (exfalso; omega) | contradiction | (conv => whnf)))
            refine VMem.appRow (l := ((A.take (Y + 1)).flatMap encM).map D.v) (news := [I mw, I mh, .gl (.loc 2) 1 mc.length]) rfl rfl rfl rfl rfl (by rw [List.length_map, flat_len encM_len, hst]) rfl (by omega) ?_
            conv => whnf
            repeat' (first | ((first | refine zs1 ?_ | refine zs2 ?_ | refine zs3 ?_ | refine zs4 ?_ | refine zs5 ?_); conv => whnf) | ((first | apply zi1 | apply zi2 | apply zi3 | apply zi4 | apply zi5) <;> intro _ <;> conv => whnf))
            refine LEnd.intro (Y + 1 + 1) (by omega) (by omega) ?_
            rw [hsn]
            have e : mc.length = V1.length := by omega
            rw [e]
            conv => whnf
            refine Retell.turn ⟨[4], 5, [(2, V1.flatMap Vm.encI)], []⟩ (TurnOk.mk' _ _ [(2, V1.flatMap Vm.encI)] [] (OutOk.lift _) rfl (by decide) (BTos.row rfl rfl rfl (RowTo.snoc (RowTo.vtos zv)) BTos.nil) zf trivial rfl) zw zm
    · obtain rfl : y = l.length := by omega
      rw [List.take_of_length_le (by omega)]
      rw [show yrs A = .fs 3 l.length (A.flatMap encM) by unfold yrs; rw [hAl]]
      have hRf : (A.flatMap encM).length = l.length * 3 := by rw [flat_len encM_len, hAl]
      conv => whnf
      repeat' (first | ((first | refine zs1 ?_ | refine zs2 ?_ | refine zs3 ?_ | refine zs4 ?_ | refine zs5 ?_); conv => whnf) | ((first | apply zi1 | apply zi2 | apply zi3 | apply zi4 | apply zi5) <;> intro _ <;> first | (exfalso; omega) | contradiction | (conv => whnf)))
      refine VOut.data 1 [(0, A.flatMap encM)] [] rfl zf (by exact FmAll.nil) zw
end Go.Proofs.YtlgdkljiilbooaaGreat

open Go.Vm
open Riv
namespace Go.Proofs.YtlgdkljiilbooaaGreat
set_option maxRecDepth 20000
set_option maxHeartbeats 4000000

def wOf (l : List Mp) : Nat := (l.headD mp0).w.toNat
theorem wOf_ok {W H : Nat} {l : List Mp} (o : YOk W H l) : wOf l = W := by
  have h := o.get (y := 0) (by have := o.n; omega)
  have e : l.headD mp0 = l.getD 0 mp0 := by cases l <;> rfl
  unfold wOf
  rw [e, h.2.1, Int.toNat_natCast]
def rlE (l : List Mp) (slow : Int) : Int := if chkY l = 0 then (if 0 ≤ slow ∧ slow ≤ 144 then 0 else 4) else chkY l
def lwA (l : List Mp) (slow : Int) : List Mp := if rlE l slow = 0 then lawY (wOf l) l slow else []
theorem vc_ruled (l : List Mp) (slow : Int) (h : Hp) (hl : l.length ≤ 4000000) (hc : ∀ m ∈ l, m.c.length ≤ 4000000) : VC Tryz.prog 30 [yrs l, I slow] h (.tuple [yrs (lwA l slow), I (rlE l slow)]) h := by
  have c := fun h => vc_CheckYears l h hl hc
  obtain ⟨E, hE⟩ : ∃ E, E = rlE l slow := ⟨_, rfl⟩
  obtain ⟨R, hR⟩ : ∃ R, R = lwA l slow := ⟨_, rfl⟩
  rw [← hE, ← hR]
  unfold lwA at hR
  rw [← hE] at hR
  unfold rlE at hE
  by_cases h0 : chkY l = 0
  · rw [if_pos h0] at hE
    rw [h0] at c
    obtain ⟨W, H, o⟩ := chkY_YOk h0
    by_cases h1 : 0 ≤ slow ∧ slow ≤ 144
    · rw [if_pos h1] at hE
      subst hE
      rw [if_pos rfl, wOf_ok o] at hR
      have cL := fun h => vc_law l slow h o
      rw [← hR] at cL
      refine VC.body Tryz.func30 rfl Tryz.ntmps30 Tryz.call30 (h.grows_refl) rfl ?_; conv => whnf
      repeat' (first | ((first | refine zs1 ?_ | refine zs2 ?_ | refine zs3 ?_ | refine zs4 ?_ | refine zs5 ?_); conv => whnf) | ((first | apply zi1 | apply zi2 | apply zi3 | apply zi4 | apply zi5) <;> intro _ <;> first | (exfalso; omega) | contradiction | (conv => whnf)) | (refine VCall.intro (c _) ?_; conv => whnf) | (refine VCall.intro (vc_from _ _ _ _) ?_; conv => whnf) | (refine VCall.intro (cL _) ?_; conv => whnf))
      exact VOut.same rfl
    · rw [if_neg h1] at hE
      subst hE
      rw [if_neg (by simp)] at hR
      subst hR
      refine VC.body Tryz.func30 rfl Tryz.ntmps30 Tryz.call30 (h.grows_refl) rfl ?_; conv => whnf
      repeat' (first | ((first | refine zs1 ?_ | refine zs2 ?_ | refine zs3 ?_ | refine zs4 ?_ | refine zs5 ?_); conv => whnf) | ((first | apply zi1 | apply zi2 | apply zi3 | apply zi4 | apply zi5) <;> intro _ <;> first | (exfalso; omega) | contradiction | (conv => whnf)) | (refine VCall.intro (c _) ?_; conv => whnf) | (refine VCall.intro (vc_from _ _ _ _) ?_; conv => whnf))
      refine VOut.data 0 [] [] rfl zf (by exact FmAll.nil) zw
  · rw [if_neg h0] at hE
    rw [← hE] at c h0
    rw [if_neg h0] at hR
    subst hR
    clear hE
    refine VC.body Tryz.func30 rfl Tryz.ntmps30 Tryz.call30 (h.grows_refl) rfl ?_; conv => whnf
    repeat' (first | ((first | refine zs1 ?_ | refine zs2 ?_ | refine zs3 ?_ | refine zs4 ?_ | refine zs5 ?_); conv => whnf) | ((first | apply zi1 | apply zi2 | apply zi3 | apply zi4 | apply zi5) <;> intro _ <;> first | (exfalso; omega) | contradiction | (conv => whnf)) | (refine VCall.intro (c _) ?_; conv => whnf))
    refine VOut.data 0 [] [] rfl zf (by exact FmAll.nil) zw
end Go.Proofs.YtlgdkljiilbooaaGreat

open Go.Vm
open Riv
namespace Go.Vm
theorem VLd.wholeI {T : TT} {t : TypeId} {i : Id} {h : Hp} {rw : Bool} {G : List Int} {ti : TI} {K : V → Prop} (hT : T t = some ti) (ha : ti.agg = true) (hs : ti.size = G.length) (hb : h.get i = some (.flat rw (G.flatMap encI))) (hK : K (.agg (G.map I))) : VLd T t (.ptr i 0) h K := by
  refine VLd.intro (v := .agg (G.map I)) ?_ hK
  have hl : (G.flatMap encI).length = G.length := by rw [flat_len encI_len, Nat.mul_one]
  unfold vload
  simp only [hT, ha, rdN_flat hb ti.size 0 (by omega)]
  rw [List.drop_zero, List.take_of_length_le (by omega), D.vs_eq, flatI, List.map_map]
  rfl
theorem wrN_ints {i : Id} : ∀ (G : List Int) (h : Hp) (off : Nat) (l : List D), h.get i ≠ none → off + G.length ≤ l.length → (h.set i (.flat true l)).wrN i off (G.map I) = some (h.set i (.flat true (l.take off ++ G.map DI ++ l.drop (off + G.length))))
  | [], h, off, l, _, hl => by simp [Hp.wrN, List.take_append_drop]
  | g :: G, h, off, l, hn, hl => by
    rw [List.length_cons] at hl
    have hlt : off < l.length := by omega
    have hg : (h.set i (.flat true l)).get i = some (.flat true l) := (Hp.get_set h i _ _ hn).trans (if_pos rfl)
    have h1 : (h.set i (.flat true l)).wr1 i off (I g) = some (h.set i (.flat true (l.set off (DI g)))) := by
      unfold Hp.wr1
      rw [hg]
      simp only [Blk.wr1, hlt, if_true, Hp.set_set]
    rw [List.map_cons, Hp.wrN, h1]
    dsimp only
    rw [wrN_ints G h (off + 1) (l.set off (DI g)) hn (by rw [List.length_set]; omega)]
    congr 3
    rw [List.length_cons, List.map_cons, List.set_eq_take_append_cons_drop, if_pos hlt]
    have e1 : (l.take off ++ DI g :: l.drop (off + 1)).take (off + 1) = l.take off ++ [DI g] := by
      rw [List.take_append, List.take_of_length_le (by rw [List.length_take]; omega), List.length_take, Nat.min_eq_left (by omega), show off + 1 - off = 1 by omega]; rfl
    have e2 : (l.take off ++ DI g :: l.drop (off + 1)).drop (off + 1 + G.length) = l.drop (off + (G.length + 1)) := by
      rw [List.drop_append, List.drop_of_length_le (by rw [List.length_take]; omega), List.nil_append, List.length_take, Nat.min_eq_left (by omega), show off + 1 + G.length - off = G.length + 1 by omega, List.drop_succ_cons, List.drop_drop]
      congr 1; omega
    rw [e1, e2]; simp
theorem VMem.wholeI {P : Program} {t : TypeId} {i : Id} {G Z : List Int} {ti : TI} {h : Hp} {K : V → Hp → Prop} (hTt : tiOf P t = some ti) (hs : ti.size = G.length) (hb : h.get i = some (.flat true (Z.flatMap encI))) (hz : Z.length = G.length) (hK : K .undef (h.set i (.flat true (G.flatMap encI)))) : VMem P (opStore t) [.ptr i 0, .agg (G.map I)] h K := by
  have hn : h.get i ≠ none := by rw [hb]; simp
  have hZ : (Z.flatMap encI).length = G.length := by rw [flat_len encI_len, Nat.mul_one]; exact hz
  have hw := wrN_ints (i := i) G h 0 (Z.flatMap encI) hn (by omega)
  have hself : h.set i (.flat true (Z.flatMap encI)) = h := by
    cases i with
    | out i =>
      obtain ⟨o, l⟩ := h
      simp only [Hp.set, Hp.get] at hb ⊢
      congr 1
      funext j
      split
      · rename_i e; rw [e, hb]
      · rfl
    | loc k =>
      obtain ⟨o, l⟩ := h
      simp only [Hp.set, Hp.get] at hb ⊢
      congr 1
      obtain ⟨hlt, e⟩ := List.getElem?_eq_some_iff.1 hb
      rw [← e]; exact List.set_getElem_self hlt
  rw [hself, List.take_zero, List.nil_append, List.drop_of_length_le (by omega), List.append_nil, ← flatI] at hw
  exact VMem.intro (does_store (cs := G.map I) (tiOf_ok P) hTt rfl (by rw [List.length_map]; exact hs.symm) hw) hK
end Go.Vm
namespace Go.Proofs.YtlgdkljiilbooaaGreat
set_option maxRecDepth 20000
set_option maxHeartbeats 4000000

def gix (x y : Int) : Nat := x.toNat * 4 + y.toNat
def gnS (G : List Int) (x y : Int) : List Int := if x ≠ y then G.set (gix x y) (at0 G (gix x y) + 1) else G
def gnK (A B : List Int) (k : Nat) : List Int := (List.range k).foldl (fun G n => gnS G (at0 A n) (at0 B n)) (List.replicate 16 0)
theorem gnK_step (A B : List Int) (k : Nat) : gnK A B (k + 1) = gnS (gnK A B k) (at0 A k) (at0 B k) := by unfold gnK; rw [List.range_succ, List.foldl_append]; rfl
theorem gnK_len (A B : List Int) : ∀ k, (gnK A B k).length = 16
  | 0 => rfl
  | k + 1 => by
    rw [gnK_step]
    have := gnK_len A B k
    unfold gnS
    split
    · rw [List.length_set]; exact this
    · exact this
theorem gnK_bd (A B : List Int) : ∀ k p, p < 16 → 0 ≤ at0 (gnK A B k) p ∧ at0 (gnK A B k) p ≤ k
  | 0, p, hp => by
    have : at0 (gnK A B 0) p = 0 := by
      unfold at0 gnK
      rw [List.getD_eq_getElem?_getD, List.range_zero, List.foldl_nil, List.getElem?_replicate, if_pos hp]; rfl
    omega
  | k + 1, p, hp => by
    have ih := gnK_bd A B k p hp
    have hl := gnK_len A B k
    rw [gnK_step]
    generalize gnK A B k = G at *
    unfold gnS
    split
    · by_cases hg : gix (at0 A k) (at0 B k) < 16
      · rw [at0_set (by omega)]
        split
        · rename_i e; subst e; omega
        · omega
      · rw [List.set_eq_of_length_le (by omega)]; omega
    · omega
def vGn (G : List Int) : V := .agg (G.map I)
def gnA (l : List Mp) (slow : Int) : List Int := if rlE l slow = 0 then gnK (owns ((lwA l slow).getD 0 mp0).c (wOf l)) (owns ((lwA l slow).getD (l.length - 1) mp0).c (wOf l)) (owns ((lwA l slow).getD 0 mp0).c (wOf l)).length else List.replicate 16 0
theorem YOk.law {W H : Nat} {l : List Mp} (o : YOk W H l) (slow : Int) {y : Nat} (hy : y < l.length) : (lawY W l slow)[y]? = some ((lawY W l slow).getD y mp0) ∧ ((lawY W l slow).getD y mp0).w = W ∧ ((lawY W l slow).getD y mp0).h = H ∧ MOk W H ((lawY W l slow).getD y mp0).c ∧ ((lawY W l slow).getD y mp0).c = lawAt W (cellsY l) slow y := by
  have h1 := lawY_at (W := W) (slow := slow) hy
  have h2 : (lawY W l slow).getD y mp0 = ⟨(l.getD y mp0).w, (l.getD y mp0).h, lawAt W (cellsY l) slow y⟩ := by rw [List.getD_eq_getElem?_getD, h1]; rfl
  obtain ⟨_, g2, g3, _⟩ := o.get hy
  refine ⟨by rw [h1, h2], by rw [h2]; exact g2, by rw [h2]; exact g3, ?_, by rw [h2]⟩
  rw [h2]
  exact lawAt_mok (cellsY_ok o.all) slow (by rw [cellsY_len]; exact hy)
theorem ren_vGn (ρ : Vm.Id → Vm.Id) (G : List Int) : (vGn G).ren ρ = vGn G := by
  show V.agg (V.rens ρ (G.map I)) = _
  rw [V.rens_eq, List.map_map]; rfl
theorem ownB {c : List Int} {W H : Nat} (o : MOk W H c) {k : Nat} (hk : k < c.length) : 0 ≤ at0 (owns c W) k ∧ at0 (owns c W) k ≤ 3 := by
  have h1 := o.w
  have h2 := MOk.le o
  exact owns_bd o.kind (isl_in (by omega) o.len (by omega)) hk
theorem vc_Gains (l : List Mp) (slow : Int) (h : Hp) (hl : l.length ≤ 4000000) (hc : ∀ m ∈ l, m.c.length ≤ 4000000) : VC Tryz.prog 12 [yrs l, I slow] h (.tuple [vGn (gnA l slow), I (rlE l slow)]) h := by
  have cR := fun h => vc_ruled l slow h hl hc
  by_cases h0 : rlE l slow = 0
  · have hchk : chkY l = 0 := by
      unfold rlE at h0
      refine Decidable.byContradiction fun e => ?_
      rw [if_neg e] at h0; exact e h0
    obtain ⟨W, H, o⟩ := chkY_YOk hchk
    have hn := o.n
    have hlw : lwA l slow = lawY W l slow := by unfold lwA; rw [if_pos h0, wOf_ok o]
    unfold gnA
    rw [if_pos h0, wOf_ok o]
    rw [hlw] at cR ⊢
    rw [h0] at cR ⊢
    obtain ⟨ha, haw, hah, hao, _⟩ := o.law slow (y := 0) (by omega)
    obtain ⟨hb, hbw, hbh, hbo, _⟩ := o.law slow (y := l.length - 1) (by omega)
    have hAl := lawY_len W l slow
    generalize lawY W l slow = Y at *
    generalize Y.getD 0 mp0 = a at *
    generalize Y.getD (l.length - 1) mp0 = b at *
    have c1 := fun h => vc_owners a h hao haw
    have c2 := fun h => vc_owners b h hbo hbw
    have l1 : (owns a.c W).length = a.c.length := owns_len _ _
    have l2 : (owns b.c W).length = b.c.length := owns_len _ _
    have b1 := fun k hk => ownB hao (k := k) hk
    have b2 := fun k hk => ownB hbo (k := k) hk
    have e1 := hao.len
    have e2 := hbo.len
    have hm144 := MOk.le hao
    generalize owns a.c W = A at *
    generalize owns b.c W = B at *
    obtain ⟨aw, ah, ac⟩ := a
    obtain ⟨bw, bh, bc⟩ := b
    dsimp only at *
    have hgl := gnK_len A B
    have hgs := gnK_step A B
    have hgb := gnK_bd A B
    refine VC.bodyC 4 Tryz.func12 rfl Tryz.ntmps12 Tryz.call12 (h.grows_refl) rfl ?_
    conv => whnf
    repeat' (first | ((first | refine zs1 ?_ | refine zs2 ?_ | refine zs3 ?_ | refine zs4 ?_ | refine zs5 ?_); conv => whnf) | ((first | apply zi1 | apply zi2 | apply zi3 | apply zi4 | apply zi5) <;> intro _ <;> first | (exfalso; omega) | contradiction | (conv => whnf)) | (refine VCall.intro (cR _) ?_; conv => whnf))
    refine VCut.at' (outer := h.lift) (marks := []) 99 [(4, .ptr (.loc 0) 0), (6, .ptr (.loc 1) 0), (7, yrs Y)] [.flat true ((List.replicate 16 (0 : Int)).flatMap Vm.encI), .flat true ((gnK A B 0).flatMap Vm.encI)] ?_ ?_
    · conv => whnf
      refine Retell.turn ⟨[0,1], 2, [], []⟩ (TurnOk.mk' _ _ [] [] (OutOk.lift _) rfl (by decide) zb trivial trivial rfl) zw zm
    conv => whnf
    refine zs6 [(3, 9)] ?_
    conv => whnf
    repeat' (first | ((first | refine zs1 ?_ | refine zs2 ?_ | refine zs3 ?_ | refine zs4 ?_ | refine zs5 ?_); conv => whnf) | ((first | apply zi1 | apply zi2 | apply zi3 | apply zi4 | apply zi5) <;> intro _ <;> conv => whnf) | (refine VAny.ix encM_len 0 rfl rfl ha ?_; conv => whnf) | (refine VAny.ix encM_len (l.length - 1) (by omega) rfl hb ?_; conv => whnf) | (refine VCall.intro (c1 _) ?_; conv => whnf) | (refine VCall.intro (c2 _) ?_; conv => whnf))
    refine VCode.lpC (outer := h.lift) (marks := []) 99 (fun k : Nat => [(4, .ptr (.loc 0) 0), (6, .ptr (.loc 1) 0), (9, ints A), (10, ints B), (34, I A.length), (35, I k)]) (fun k => [.flat true ((List.replicate 16 (0 : Int)).flatMap Vm.encI), .flat true ((gnK A B k).flatMap Vm.encI)]) (fun k => k ≤ A.length) (fun k => A.length - k) 0 (Nat.zero_le _) ?_ ?_
    · generalize gnK A B 0 = G
      generalize List.replicate 16 (0 : Int) = Z
      conv => whnf
      refine Retell.turn ⟨[0,1], 2, [], []⟩ (TurnOk.mk' _ _ [] [] (OutOk.lift _) rfl (by decide) zb trivial trivial rfl) zw zm
    · rintro k hk
      rcases Nat.lt_or_ge k A.length with h3 | h3
      · have hx := at0_get (l := A) (n := k) (by omega)
        have hy := at0_get (l := B) (n := k) (by omega)
        have hgs := hgs k
        have hgl := hgl k
        have hgb := hgb k
        have b1 := b1 k (by omega)
        have b2 := b2 k (by omega)
        generalize at0 A k = x at *
        generalize at0 B k = y at *
        generalize gnK A B k = G at *
        generalize List.replicate 16 (0 : Int) = Z at *
        unfold gnS at hgs
        have hg16 : gix x y < 16 := by unfold gix; omega
        have hgv := at0_get (l := G) (n := gix x y) (by omega)
        have hgb := hgb (gix x y) hg16
        by_cases hxy : x = y
        · rw [if_neg (fun e => e hxy)] at hgs
          conv => whnf
          repeat' (first | ((first | refine zs1 ?_ | refine zs2 ?_ | refine zs3 ?_ | refine zs4 ?_ | refine zs5 ?_); conv => whnf) | ((first | apply zi1 | apply zi2 | apply zi3 | apply zi4 | apply zi5) <;> intro _ <;> conv => whnf))
          all_goals try (exfalso; omega)
          refine zs6 [] ?_
          conv => whnf
          repeat' (first | ((first | refine zs1 ?_ | refine zs2 ?_ | refine zs3 ?_ | refine zs4 ?_ | refine zs5 ?_); conv => whnf) | ((first | apply zi1 | apply zi2 | apply zi3 | apply zi4 | apply zi5) <;> intro _ <;> first | (exfalso; omega) | contradiction | (conv => whnf)) | (refine VAny.ix encI_len k rfl rfl hx ?_; conv => whnf) | (refine VAny.ix encI_len k rfl (by omega) hy ?_; conv => whnf))
          refine LEnd.intro (k + 1) (by omega) (by omega) ?_
          rw [hgs]
          conv => whnf
          refine Retell.turn ⟨[0,1], 2, [], []⟩ (TurnOk.mk' _ _ [] [] (OutOk.lift _) rfl (by decide) zb trivial trivial rfl) zw zm
        · rw [if_pos hxy] at hgs
          conv => whnf
          repeat' (first | ((first | refine zs1 ?_ | refine zs2 ?_ | refine zs3 ?_ | refine zs4 ?_ | refine zs5 ?_); conv => whnf) | ((first | apply zi1 | apply zi2 | apply zi3 | apply zi4 | apply zi5) <;> intro _ <;> conv => whnf))
          all_goals try (exfalso; omega)
          refine zs6 [] ?_
          conv => whnf
          repeat' (first | ((first | refine zs1 ?_ | refine zs2 ?_ | refine zs3 ?_ | refine zs4 ?_ | refine zs5 ?_); conv => whnf) | ((first | apply zi1 | apply zi2 | apply zi3 | apply zi4 | apply zi5) <;> intro _ <;> first | (exfalso; omega) | contradiction | (conv => whnf)) | (refine VAny.ix encI_len k rfl rfl hx ?_; conv => whnf) | (refine VAny.ix encI_len k rfl (by omega) hy ?_; conv => whnf))
          refine zs6 [] ?_
          conv => whnf
          repeat' (first | ((first | refine zs1 ?_ | refine zs2 ?_ | refine zs3 ?_ | refine zs4 ?_ | refine zs5 ?_); conv => whnf) | ((first | apply zi1 | apply zi2 | apply zi3 | apply zi4 | apply zi5) <;> intro _ <;> first | (exfalso; omega) | contradiction | (conv => whnf)) | (refine VAny.ix encI_len k rfl rfl hx ?_; conv => whnf) | (refine VAny.ix encI_len k rfl (by omega) hy ?_; conv => whnf))
          have hofs : 0 + x.toNat * 4 + y.toNat * 1 = gix x y * 1 + 0 := by unfold gix; omega
          repeat' (first | ((first | refine zs1 ?_ | refine zs2 ?_ | refine zs3 ?_ | refine zs4 ?_ | refine zs5 ?_); conv => whnf) | ((first | apply zi1 | apply zi2 | apply zi3 | apply zi4 | apply zi5) <;> intro _ <;> conv => whnf) | (refine VLd.recc encI_len (gix x y) 0 rfl rfl rfl hgv (by decide) rfl (by exact hofs) ?_; conv => whnf) | (refine VMem.setRec encI_len (gix x y) 0 (at0 G (gix x y) + 1) rfl rfl rfl hgv (by decide) rfl (by exact hofs) ?_; conv => whnf))
          refine LEnd.intro (k + 1) (by omega) (by omega) ?_
          rw [hgs]
          conv => whnf
          refine Retell.turn ⟨[0,1], 2, [], []⟩ (TurnOk.mk' _ _ [] [] (OutOk.lift _) rfl (by decide) zb trivial trivial rfl) zw zm
      · obtain rfl : k = A.length := by omega
        have hgl := hgl A.length
        generalize gnK A B A.length = G at *
        unfold vGn
        have hZl : (List.replicate 16 (0 : Int)).length = G.length := by rw [hgl]; rfl
        generalize List.replicate 16 (0 : Int) = Z at *
        conv => whnf
        repeat' (first | ((first | refine zs1 ?_ | refine zs2 ?_ | refine zs3 ?_ | refine zs4 ?_ | refine zs5 ?_); conv => whnf) | ((first | apply zi1 | apply zi2 | apply zi3 | apply zi4 | apply zi5) <;> intro _ <;> first | (exfalso; omega) | contradiction | (conv => whnf)) | (refine VLd.wholeI (G := G) rfl rfl hgl.symm rfl ?_; conv => whnf))
        rw [forceVs_eq]
        conv => whnf
        refine VMem.wholeI (G := G) (Z := Z) rfl hgl.symm rfl hZl ?_
        conv => whnf
        refine VLd.wholeI (G := G) rfl rfl hgl.symm rfl ?_
        conv => whnf
        rw [forceVs_eq]
        conv => whnf
        refine VOut.same ?_
        show _ = V.tuple [(vGn G).ren .out, I 0]
        rw [ren_vGn]; rfl
  · have e : gnA l slow = List.replicate 16 0 := if_neg h0
    rw [e]
    generalize lwA l slow = R at *
    generalize rlE l slow = E at *
    refine VC.body Tryz.func12 rfl Tryz.ntmps12 Tryz.call12 (h.grows_refl) rfl ?_; conv => whnf
    repeat' (first | ((first | refine zs1 ?_ | refine zs2 ?_ | refine zs3 ?_ | refine zs4 ?_ | refine zs5 ?_); conv => whnf) | ((first | apply zi1 | apply zi2 | apply zi3 | apply zi4 | apply zi5) <;> intro _ <;> first | (exfalso; omega) | contradiction | (conv => whnf)) | (refine VCall.intro (cR _) ?_; conv => whnf))
    exact VOut.same rfl
end Go.Proofs.YtlgdkljiilbooaaGreat

open Go.Vm
namespace Go.Proofs.YtlgdkljiilbooaaGreat
set_option maxRecDepth 20000
set_option maxHeartbeats 4000000

abbrev DU (n : Int) : D := .s (.int .u32 n)
def encU (n : Int) : List D := [.s (.int .u8 n)]
theorem encU_len (n : Int) : (encU n).length = 1 := rfl
def bytes (l : List Int) : V := .fs 1 l.length (l.flatMap encU)
def deckD (bs : List Int) (n s : Int) : List D := [.sl 1 bs.length (bs.flatMap encU), DI n, DU s]
theorem VOut.setS {h : Hp} {loc : List Blk} {i : Vm.Id} {b0 : Blk} {l : List D} {rw : Bool} {x : S} {L : Nat} (hL : Nat.ble loc.length L = true) (hb : h.get i = some b0) : VOut h ⟨outW h.lift i (.flat rw l), loc⟩ (.s x) (.s x) (h.set i (.flat rw l)) := by
  have hd : ∀ p ∈ [(i, Blk.flat rw l)], h.get p.1 ≠ none := by
    intro p hp
    simp only [List.mem_cons, List.not_mem_nil, or_false] at hp
    subst hp; simp only; rw [hb]; simp
  have := VOut.upd (loc := loc) (r1 := .s x) (r := .s x) [(i, .flat rw l)] [] [] L hL hd (by simp) rfl (by intro k b hk; simp at hk) (fun σ x hx => hx) (outer := outW h.lift i (.flat rw l)) rfl
  have he : (h.sets [(i, Blk.flat rw l)]).pushes [] = h.set i (.flat rw l) := by simp [Hp.sets, Hp.pushes]
  rw [he] at this
  exact this
theorem set_same {h : Hp} {i : Vm.Id} {b : Blk} (hb : h.get i = some b) : h.set i b = h := by
  cases i with
  | out i =>
    have hb : h.outer i = some b := hb
    obtain ⟨o, l⟩ := h
    simp only [Hp.set]
    congr 1
    funext j
    split
    · rename_i e; rw [e]; exact hb.symm
    · rfl
  | loc k =>
    have hb : h.loc[k]? = some b := hb
    obtain ⟨o, l⟩ := h
    simp only [Hp.set]
    congr 1
    obtain ⟨h1, h2⟩ := List.getElem?_eq_some_iff.1 hb
    rw [← h2]; exact List.set_getElem_self h1
theorem VOut.set2 {h : Hp} {loc : List Blk} {i : Vm.Id} {b0 b1 : Blk} {l : List D} {rw : Bool} {x : S} (hb : h.get i = some b0) : VOut h ⟨outW (outW h.lift i b1) i (.flat rw l), loc⟩ (.s x) (.s x) (h.set i (.flat rw l)) := by
  rw [outW_same]
  exact VOut.setS (L := loc.length) (by simp) hb
theorem vc_Draw0 (bs : List Int) (n s k : Int) (i : Vm.Id) (h : Hp) (hb : h.get i = some (.flat true (deckD bs n s))) (hk : k ≤ 1 ∨ bs = []) : VC Tryz.prog 29 [.ptr i 0, I k] h (I 0) (h.set i (.flat true (deckD bs n s))) := by
  rw [set_same hb]
  have hl : k ≤ 1 ∨ bs.length = 0 := by rcases hk with h1 | h1; exact .inl h1; exact .inr (by rw [h1]; rfl)
  refine VC.body Tryz.func29 rfl Tryz.ntmps29 Tryz.call29 (h.grows_refl) rfl ?_; conv => whnf
  repeat' (first | ((first | refine zs1 ?_ | refine zs2 ?_ | refine zs3 ?_ | refine zs4 ?_ | refine zs5 ?_); conv => whnf) | ((first | apply zi1 | apply zi2 | apply zi3 | apply zi4 | apply zi5) <;> intro _ <;> conv => whnf) | (refine VLd.flat rfl rfl (get_out hb _) rfl ?_; conv => whnf))
  · exact VOut.same rfl
  · exact VOut.same rfl
  · exfalso; omega
def dRd (bs : List Int) (N : Nat) : Int := IntKind.u32.wrap (IntKind.i64.wrap ((N : Int).tdiv (bs.length : Int)))
def dkS (bs : List Int) (N : Nat) (s c : Int) : Int := (IntKind.u32.wrap (IntKind.u32.wrap (IntKind.u32.wrap (s * 37) + IntKind.u32.wrap c) + IntKind.u32.wrap (101 * dRd bs N))).tmod 65521
def dR (bs : List Int) (N : Nat) (s k c : Int) : Int := if k ≤ 256 ∧ dRd bs N = 0 then (IntKind.i64.wrap (IntKind.u32.wrap c)).tmod k else (IntKind.i64.wrap (IntKind.u32.wrap (IntKind.u32.wrap (dkS bs N s c * 256) + IntKind.u32.wrap c))).tmod k
theorem u32_bd (n : Int) : 0 ≤ IntKind.u32.wrap n ∧ IntKind.u32.wrap n < 4294967296 := by
  unfold IntKind.wrap; simp [IntKind.bits, IntKind.signed]; omega
theorem tmod_bd {a k : Int} (ha : 0 ≤ a) (hk : 0 < k) : 0 ≤ a.tmod k ∧ a.tmod k < k := by
  rw [Int.tmod_eq_emod_of_nonneg ha]
  exact ⟨Int.emod_nonneg _ (by omega), Int.emod_lt_of_pos _ hk⟩
theorem dR_bd (bs : List Int) (N : Nat) (s c : Int) {k : Int} (hk : 0 < k) : 0 ≤ dR bs N s k c ∧ dR bs N s k c < k := by
  unfold dR
  split
  · have := u32_bd c
    rw [wrap_i64 (by omega)]
    exact tmod_bd this.1 hk
  · have := u32_bd (IntKind.u32.wrap (dkS bs N s c * 256) + IntKind.u32.wrap c)
    rw [wrap_i64 (by omega)]
    exact tmod_bd this.1 hk
theorem vc_Draw1 (bs : List Int) (N : Nat) (s k c : Int) (i : Vm.Id) (h : Hp) (hb : h.get i = some (.flat true (deckD bs N s))) (hk : 1 < k) (hc : bs[N % bs.length]? = some c) (hN : N ≤ 4000000000) :
    VC Tryz.prog 29 [.ptr i 0, I k] h (I (dR bs N s k c)) (h.set i (.flat true (deckD bs ((N : Int) + 1) (dkS bs N s c)))) := by
  have hlen : 0 < bs.length := by
    have := (List.getElem?_eq_some_iff.1 hc).1
    omega
  have hneB : ((bs.length : Int) != 0) = true := by rw [bne_iff_ne]; omega
  obtain ⟨R, hR⟩ : ∃ R, R = dR bs N s k c := ⟨_, rfl⟩
  rw [← hR]
  unfold dR at hR
  refine VC.body Tryz.func29 rfl Tryz.ntmps29 Tryz.call29 (h.grows_set _ _) rfl ?_
  conv => whnf
  repeat' (first | ((first | refine zs1 ?_ | refine zs2 ?_ | refine zs3 ?_ | refine zs4 ?_ | refine zs5 ?_ | refine zs6 [] ?_); conv => whnf) | ((first | apply zi1 | apply zi2 | apply zi3 | apply zi4 | apply zi5) <;> intro _ <;> conv => whnf) | (refine VLd.flat rfl rfl (get_out hb _) rfl ?_; conv => whnf) | (refine VAny.ix encU_len (N % bs.length) (by rfl) rfl hc ?_; conv => whnf) | (refine VLd.flat rfl rfl (outW_get _ _ _ _) rfl ?_; conv => whnf) | (refine VMem.st1 rfl rfl rfl (get_out hb _) rfl ?_; conv => whnf) | (refine VMem.st1 rfl rfl rfl (outW_get _ _ _ _) rfl ?_; conv => whnf) | (refine VArith.wr ?_; conv => whnf) | (refine VNeed.intro hneB ?_; conv => whnf))
  · exfalso; omega
  · exfalso; omega
  · rename_i h1 h2
    have h2 : dRd bs N = 0 := h2
    rw [if_pos ⟨h1, h2⟩] at hR
    subst hR
    refine VOut.set2 hb
  · rename_i h1 h2
    have h2 : ¬ dRd bs N = 0 := h2
    rw [if_neg (fun h => h2 h.2)] at hR
    subst hR
    refine VOut.set2 hb
  · rename_i h1
    rw [if_neg (fun h => h1 h.1)] at hR
    subst hR
    refine VOut.set2 hb
def dNx (bs : List Int) (d : Nat × Int) (k : Int) : Int × (Nat × Int) :=
  if k ≤ 1 ∨ bs = [] then (0, d) else (dR bs d.1 d.2 k (bs.getD (d.1 % bs.length) 0), (d.1 + 1, dkS bs d.1 d.2 (bs.getD (d.1 % bs.length) 0)))
def deckB (bs : List Int) (d : Nat × Int) : Blk := .flat true (deckD bs d.1 d.2)
theorem dNx_bd (bs : List Int) (d : Nat × Int) (k : Int) : 0 ≤ (dNx bs d k).1 ∧ ((dNx bs d k).1 = 0 ∨ (dNx bs d k).1 < k) ∧ (dNx bs d k).2.1 ≤ d.1 + 1 := by
  unfold dNx
  split
  · exact ⟨Int.le_refl _, .inl rfl, by simp only; omega⟩
  · rename_i h
    obtain ⟨q1, q2⟩ := dR_bd bs d.1 d.2 (bs.getD (d.1 % bs.length) 0) (k := k) (by omega)
    exact ⟨q1, .inr q2, Nat.le_refl _⟩
theorem vc_draw (bs : List Int) (d : Nat × Int) (k : Int) (i : Vm.Id) (h : Hp) (hN : d.1 ≤ 4000000000) (hb : h.get i = some (deckB bs d)) : VC Tryz.prog 29 [.ptr i 0, I k] h (I (dNx bs d k).1) (h.set i (deckB bs (dNx bs d k).2)) := by
  unfold dNx deckB at *
  split
  · rename_i hk; exact vc_Draw0 bs d.1 d.2 k i h hb hk
  · rename_i hk
    have hlen := List.length_pos_iff.2 (fun h => hk (.inr h))
    have hc : bs[d.1 % bs.length]? = some (bs.getD (d.1 % bs.length) 0) := by simp [List.getElem?_eq_getElem (Nat.mod_lt d.1 hlen)]
    exact vc_Draw1 bs d.1 d.2 k _ i h hb (by omega) hc hN
theorem vc_between (bs : List Int) (d : Nat × Int) (a b : Int) (i : Vm.Id) (h : Hp) (hN : d.1 ≤ 4000000000) (ha : -1000000 ≤ a ∧ a ≤ 1000000) (hb : -1000000 ≤ b ∧ b ≤ 1000000) (hd : h.get i = some (deckB bs d)) : VC Tryz.prog 27 [.ptr i 0, I a, I b] h (I (a + (dNx bs d (b - a + 1)).1)) (h.set i (deckB bs (dNx bs d (b - a + 1)).2)) := by
  have hbd := dNx_bd bs d (b - a + 1)
  have hD := fun i h hh => vc_draw bs d (b - a + 1) i h hN hh
  generalize dNx bs d (b - a + 1) = x at hbd hD
  refine VC.body Tryz.func27 rfl Tryz.ntmps27 Tryz.call27 (h.grows_set _ _) rfl ?_
  conv => whnf
  repeat' (first | ((first | refine zs1 ?_ | refine zs2 ?_ | refine zs3 ?_ | refine zs4 ?_ | refine zs5 ?_ | refine zs6 [] ?_); conv => whnf) | ((first | apply zi1 | apply zi2 | apply zi3 | apply zi4 | apply zi5) <;> intro _ <;> conv => whnf) | (refine VCall.intro (hD (.out i) _ (get_out hd _)) ?_; conv => whnf))
  exact VOut.setS (L := 0) rfl hd
theorem VOut.ownP {h : Hp} {loc : List Blk} {ds : List D} (j L : Nat) (hL : Nat.ble loc.length L = true) (hj : loc[j]? = some (.flat true ds)) : VOut h ⟨h.lift, loc⟩ (.ptr (.loc j) 0) (.ptr h.fresh 0) (h.push (.flat true ds)) := by
  refine VOut.upd [] [.flat true ds] [j] L hL (by intro p hp; cases hp) (by simp) rfl ?_ ?_ rfl
  · intro k b hk
    cases k with
    | zero => rw [List.getElem?_cons_zero, Option.some.injEq] at hk; subst hk; exact ⟨j, rfl, hj⟩
    | succ k => simp at hk
  · intro σ x hx
    have : (V.ptr h.fresh 0).ren (backR h.loc.length [j] L) = .ptr (.loc j) 0 := by simp [V.ren, backR, Hp.fresh]
    rw [this]; exact hx
theorem vc_Of (bs : List Int) (h : Hp) : VC Tryz.prog 5 [bytes bs] h (.ptr h.fresh 0) (h.push (deckB bs (0, 9))) := by
  refine VC.body Tryz.func5 rfl Tryz.ntmps5 Tryz.call5 (h.grows_push _) rfl ?_
  conv => whnf
  repeat (first | ((first | refine zs1 ?_ | refine zs2 ?_ | refine zs3 ?_ | refine zs4 ?_ | refine zs5 ?_ | refine zs6 [] ?_); conv => whnf))
  exact VOut.ownP 0 1 rfl rfl
end Go.Proofs.YtlgdkljiilbooaaGreat

open Go.Vm
open Riv
namespace Go.Proofs.YtlgdkljiilbooaaGreat
open Go.ChangeShapes Go.WideShapes Go.ChangeAt Go.RowKit

theorem open3 : Opens Tryz.prog 3 (fun n : Int => [DI n]) := Opens.int Tryz.underlying3
theorem open22 : Opens Tryz.prog 24 (fun l : List Int => [dints l]) := Opens.slice Tryz.underlying24 Vm.encI_len (by kernel_rfl) (by decide) open3
theorem open24 : Opens Tryz.prog 76 encM := (Opens.struct3 1 1 1 Tryz.underlying76 (by kernel_rfl) rfl rfl rfl (by kernel_rfl) (by kernel_rfl) (by kernel_rfl) open3 open3 open22).as (fun x => ⟨x.1, x.2.1, x.2.2⟩) encM fun _ => rfl
def dM (m : Mp) : D := .agg (encM m)
def dYs (l : List Mp) : D := .sl 3 l.length (l.flatMap encM)
theorem openM : OpenV Tryz.prog 76 dM := OpenV.struct Tryz.underlying76 open24
theorem openI : OpenV Tryz.prog 3 (fun n : Int => DI n) := OpenV.int Tryz.underlying3
theorem openL : OpenV Tryz.prog 24 dints := OpenV.slice Tryz.underlying24 (Opens.slice Tryz.underlying24 Vm.encI_len (by kernel_rfl) (by decide) open3)
theorem openYs : OpenV Tryz.prog 42 dYs := OpenV.slice Tryz.underlying42 (Opens.slice Tryz.underlying42 encM_len (by kernel_rfl) (by decide) open24)
def dU (l : List Int) : D := .sl 1 l.length (l.flatMap encU)
theorem openU : OpenV Tryz.prog 22 dU := OpenV.slice Tryz.underlying22 (Opens.slice Tryz.underlying22 encU_len (by kernel_rfl) (by decide) (Opens.int Tryz.underlying5))
def d8b (n : {n : Int // 0 ≤ n ∧ n ≤ 255}) : D := .s (.int .u8 n.1)
theorem openV_u8 {P : Program} {t : TypeId} (ht : P.underlying t = some (.int .u8)) : OpenV P t d8b := by
  intro W base H en v dd ps hok ⟨fuel, ht2⟩
  obtain ⟨n, h2, _, hw⟩ := DataW.trod_int ht ht2
  have hb : 0 ≤ n ∧ n ≤ 255 := by
    have hw2 : (decide ((0 : Int) ≤ n) && decide (n ≤ (255 : Int))) = true := hw
    simpa using hw2
  unfold Value.okWide at hok
  rw [ht] at hok
  simp only [Cell.okWide, ht] at hok
  refine ⟨⟨n, hb⟩, ?_⟩
  cases v <;> simp [Cell.ok, ht] at hok
  simp [Value.cells] at h2
  simp only [d8b, DR, S.val]
  rw [h2.1, h2.2]
theorem open8b : OpenV Tryz.prog 5 d8b := openV_u8 Tryz.underlying5
theorem ownKn : ownKnob Tryz.prog.godebug = none := by kernel_rfl
theorem laidOut : laidOutB Tryz.prog = true := by kernel_rfl
end Go.Proofs.YtlgdkljiilbooaaGreat

open Go.Vm
open Riv
namespace Go.Vm
theorem VCode.lpoH {P : Program} {ro : Option Nat} {c : Code} {n : Nat} {fr : Fr} {outer0 : Id → Option Blk} {loc0 : List Blk} {marks marks0 : List Id} {Q : X → St → Prop} {Y : Type} (m : Nat) (slots : Y → List (Nat × V)) (outer : Y → Id → Option Blk) (loc : Y → List Blk) (Inv : Y → Prop) (μ : Y → Nat) (x0 : Y)
    (h0 : Inv x0) (ho : outer0 = outer x0) (hst : frSK (slots x0) .leaf fun fr' => Retell isOut ⟨n, fr, ⟨outer x0, loc0⟩, marks0⟩ ⟨n, fr', ⟨outer x0, loc x0⟩, marks⟩)
    (hb : ∀ x, Inv x → frSK (slots x) .leaf fun fr' => vcut P ro isOut m c ⟨n, fr', ⟨outer x, loc x⟩, marks⟩ (fun e st' => match e with
      | .normal => LEndO n marks slots outer loc Inv μ x st'
      | .exit i => Q (.exit i) st'
      | .ret => Q .ret st')) : VCode P ro isOut (.loop c) ⟨n, fr, ⟨outer0, loc0⟩, marks0⟩ Q := by
  subst ho
  exact VCode.lpoC m slots outer loc Inv μ x0 h0 hst hb
end Go.Vm
namespace Go.Proofs.YtlgdkljiilbooaaGreat
set_option maxRecDepth 20000
set_option maxHeartbeats 4000000

theorem dealt (bs : List Int) : Dealt (dNx bs) :=
  ⟨fun d k => (dNx_bd bs d k).1, fun d k hk => by have := (dNx_bd bs d k).2.1; omega, fun d k => (dNx_bd bs d k).2.2⟩
end Go.Proofs.YtlgdkljiilbooaaGreat

open Go.Vm
open Riv
namespace Go.Proofs.YtlgdkljiilbooaaGreat
set_option maxRecDepth 20000
set_option maxHeartbeats 4000000
section
variable {W H : Nat} {c : List Int}
abbrev mp (W H : Nat) (c : List Int) : Mp := ⟨W, H, c⟩
end
end Go.Proofs.YtlgdkljiilbooaaGreat

open Go.Vm
open Riv
namespace Go.Proofs.YtlgdkljiilbooaaGreat
set_option maxRecDepth 20000
set_option maxHeartbeats 4000000

abbrev mpl (W H : Nat) (L : List (List Int)) : List Mp := L.map (mp W H)
theorem getLast_at {L : List (List Int)} {k : Nat} (h : L.length = k + 1) : L[k]? = some (L.getLastD []) := by
  rw [List.getLastD_eq_getLast?, List.getLast?_eq_getElem?, h, Nat.add_sub_cancel, List.getElem?_eq_getElem (by omega)]; rfl
end Go.Proofs.YtlgdkljiilbooaaGreat

open Go.Vm
open Riv
namespace Go.Proofs.YtlgdkljiilbooaaGreat
set_option maxRecDepth 20000
set_option maxHeartbeats 4000000
section
variable {W H : Nat} {L : List (List Int)}
theorem mpl_len : (mpl W H L).length = L.length := List.length_map _
theorem mpl_at {y : Nat} (hy : y < L.length) : (mpl W H L)[y]? = some (mp W H (L.getD y [])) := by
  rw [List.getElem?_map, List.getD_eq_getElem?_getD, List.getElem?_eq_getElem hy]; rfl
theorem mpl_getD {y : Nat} (hy : y < L.length) : (mpl W H L).getD y mp0 = mp W H (L.getD y []) := by
  rw [List.getD_eq_getElem?_getD, mpl_at hy]; rfl
theorem mpl_ok (hL : ∀ c ∈ L, MOk W H c) : ∀ m ∈ mpl W H L, m.w = W ∧ m.h = H ∧ MOk W H m.c := fun m hm => by
  obtain ⟨c, hc, rfl⟩ := List.mem_map.1 hm
  exact ⟨rfl, rfl, hL c hc⟩
theorem mpl_few (hL : ∀ c ∈ L, MOk W H c) : ∀ m ∈ mpl W H L, m.c.length ≤ 4000000 := fun m hm => by
  have := MOk.le (mpl_ok hL m hm).2.2
  omega
theorem mpl_chk (hL : ∀ c ∈ L, MOk W H c) (hn : 1 ≤ L.length ∧ L.length ≤ 10) : chkY (mpl W H L) = 0 := chkY_of (by rw [mpl_len]; exact hn) (mpl_ok hL)
theorem cells_mpl : cellsY (mpl W H L) = L := by
  unfold cellsY
  rw [List.map_map]
  exact List.map_id' _
theorem wOf_mpl (hn : 1 ≤ L.length) : wOf (mpl W H L) = W := by
  cases L with
  | nil => simp at hn
  | cons c l => rfl
theorem lawL_at {y : Nat} {slow : Int} (hy : y < L.length) : (lawL W L slow)[y]? = some (lawAt W L slow y) := by
  unfold lawL; rw [List.getElem?_map, List.getElem?_range hy]; rfl
theorem lawL_len (slow : Int) : (lawL W L slow).length = L.length := by unfold lawL; rw [List.length_map, List.length_range]
theorem lawY_mpl (slow : Int) : lawY W (mpl W H L) slow = mpl W H (lawL W L slow) := by
  apply List.ext_getElem?
  intro y
  rcases Nat.lt_or_ge y L.length with h | h
  · rw [lawY_at (by rw [mpl_len]; exact h), mpl_getD h, cells_mpl, List.getElem?_map, lawL_at h]; rfl
  · rw [List.getElem?_eq_none (by rw [lawY_len, mpl_len]; exact h), List.getElem?_eq_none (by rw [mpl_len, lawL_len]; exact h)]
end
end Go.Proofs.YtlgdkljiilbooaaGreat

open Go.Vm
open Riv
namespace Go.Proofs.YtlgdkljiilbooaaGreat
set_option maxRecDepth 20000
set_option maxHeartbeats 4000000
section
variable {W H : Nat} {L : List (List Int)}
theorem law_getD {slow : Int} {y : Nat} (hy : y < L.length) : (mpl W H (lawL W L slow)).getD y mp0 = mp W H (lawAt W L slow y) := by
  rw [List.getD_eq_getElem?_getD, List.getElem?_map, lawL_at hy]; rfl
theorem rlE0 (hL : ∀ c ∈ L, MOk W H c) (hn : 1 ≤ L.length ∧ L.length ≤ 10) {slow : Int} (hs : 0 ≤ slow ∧ slow ≤ 144) : rlE (mpl W H L) slow = 0 := by
  unfold rlE; rw [if_pos (mpl_chk hL hn), if_pos hs]
theorem lwA0 (hL : ∀ c ∈ L, MOk W H c) (hn : 1 ≤ L.length ∧ L.length ≤ 10) {slow : Int} (hs : 0 ≤ slow ∧ slow ≤ 144) : lwA (mpl W H L) slow = mpl W H (lawL W L slow) := by
  unfold lwA; rw [if_pos (rlE0 hL hn hs), wOf_mpl hn.1, lawY_mpl]
theorem kG (hL : ∀ c ∈ L, MOk W H c) (hn : 1 ≤ L.length ∧ L.length ≤ 10) {slow : Int} (hs : 0 ≤ slow ∧ slow ≤ 144) (h : Hp) : VC Tryz.prog 12 [yrs (mpl W H L), I slow] h (.tuple [vGn (gnK (owns (lawAt W L slow 0) W) (owns (lawAt W L slow (L.length - 1)) W) (W * H)), I 0]) h := by
  have := vc_Gains (mpl W H L) slow h (by rw [mpl_len]; omega) (mpl_few hL)
  have o0 := lawAt_mok hL slow (y := 0) (by omega)
  unfold gnA at this
  rw [rlE0 hL hn hs, if_pos rfl, lwA0 hL hn hs, mpl_len, law_getD (by omega), law_getD (by omega), wOf_mpl hn.1, owns_len] at this
  dsimp only at this
  rw [o0.len] at this
  exact this
end
end Go.Proofs.YtlgdkljiilbooaaGreat


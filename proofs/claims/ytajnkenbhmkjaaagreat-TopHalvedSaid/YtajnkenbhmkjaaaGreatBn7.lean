/- Part 7 of the proof that two base points leave no enclaves. No condition. -/
import Derived.Test.YtajnkenbhmkjaaaGreatBn6
import Derived.Shelf.Sort.AssemblyIn
import Derived.Sort.EveryDepth
import Derived.Shelf.Small.Strs
set_option linter.unusedVariables false
set_option linter.unusedSimpArgs false
namespace Go.Vm
open Go.Sort (grow putRow putCells Holds onCells mapBlock)

theorem Rel.growS {σ : Sig} {h : Hp} {w : World} (hr : Rel σ h w) (os : Array Obj) : Rel σ h (grow w os) where
  blk := fun i e b hi hb => by
    obtain ⟨h1, o, h2, h3⟩ := hr.blk i e b hi hb
    refine ⟨by show e.rid < (w.heap ++ os).size; rw [Array.size_append]; omega, o, ?_, h3⟩
    show (w.heap ++ os)[e.rid]? = some o
    rw [Array.getElem?_append_left h1]; exact h2
  apart := hr.apart
  dom := hr.dom
  nmd := hr.nmd
  fz := fun r o hro => by
    obtain ⟨h1, h2⟩ := hr.fz r o hro
    refine ⟨?_, h2⟩
    show (w.heap ++ os)[r]? = some o
    rw [Array.getElem?_append_left (Array.getElem?_eq_some_iff.1 h1).1]; exact h1
theorem Ext.growS {σ : Sig} {h : Hp} {w : World} (os : Array Obj) : Ext σ h w σ h (grow w os) where
  le := Sig.le_refl σ
  lo := rfl
  fzn := fun _ _ h => h
  size := by show w.heap.size ≤ (w.heap ++ os).size; rw [Array.size_append]; omega
  os := rfl
  tape := rfl
  output := rfl
  frame := fun r hr _ => by show (w.heap ++ os)[r]? = w.heap[r]?; rw [Array.getElem?_append_left hr]
  new := fun j ej hj hn => by rw [hj] at hn; cases hn
  down := fun j ej bj _ hbj hwj => ⟨bj, hbj, hwj⟩
  ro := fun j ej bj hj hbj hwj hal => ⟨hj, bj, hbj, hal, hwj⟩
  old := fun j hj => ⟨hj, fun x => x⟩
  oldn := fun j _ hx => hx
theorem flatI_get {l : List Int} {j : Nat} : (l.flatMap encI)[j]? = (l[j]?).map DI := by
  induction l generalizing j with
  | nil => rfl
  | cons a l ih =>
    cases j with
    | zero => rfl
    | succ j => rw [List.flatMap_cons]; exact ih
def srtI (n : Nat) (l : List Int) : List Int := ((l.take n).mergeSort fun x y => decide (x ≤ y)) ++ l.drop n
theorem VC.sortI {P : Program} {f : FuncId} {h : Hp} {i : Id} {n : Nat} {l : List Int} (hent : ∀ as0 w, (callFunc f as0).run P w = .ok (.enter f as0) w) (hb : h.get i = some (.flat true (l.flatMap encI))) (hn : n ≤ l.length) (h0 : 0 < n) (hl : l.length ≤ 4000000) (R : List Int) (hR : R <+: srtI n l)
    (hc : ∀ (blk off cap : Nat) (zs : List Int) (w : World), Holds (Value.int .i64) w blk off zs.toArray → blk < w.heap.size → zs.length < 4611686018427387904 → Calls P f #[.slice (some ⟨blk, off, none⟩) zs.length cap] w fun e w' => e = .returned (.tuple #[]) ∧ ∃ n os, w' = grow (putRow (Value.int .i64) (Sort.ahead w n) blk off (zs.mergeSort fun x y => decide (x ≤ y)).toArray) os) :
    VC P f [.gl i 1 n] h (.tuple []) (h.set i (.flat true (R.flatMap encI))) := by
  refine ⟨hent, Hp.grows_set h i _, fun σ w xs hr hxs => ?_⟩
  rw [callsIn_wide]
  obtain ⟨x, rfl, hx⟩ := VRs_one hxs
  simp only [VR] at hx
  obtain ⟨_, hx⟩ := hx
  rcases hx with ⟨hz, _⟩ | ⟨e, cap, o, hi, h1, h2, h3, rfl⟩
  · omega
  obtain ⟨hlt, ob, hob, hrel⟩ := hr.blk i e _ hi hb
  simp only [BlkRel] at hrel
  obtain ⟨cur, TT, fz, rfl, hs1, hs2, hfz, hcell⟩ := hrel
  have hfz := hfz rfl
  subst hfz
  rw [Nat.mul_one] at h2
  have h3 := h3 (by omega)
  subst h3
  have hcur : ∀ j x, l[j]? = some x → cur[e.base + j]? = some (.int .i64 x) := fun j x hj => by
    obtain ⟨y, hy, hv, _⟩ := hcell j (.s (.int .i64 x)) (by simp only [flatI_get, hj, Option.map_some]; rfl)
    simp only [VR, S.val] at hv
    rw [hy, hv]
  rw [flat_len encI_len, Nat.mul_one] at hs2
  have hlen : (l.take n).length = n := by rw [List.length_take]; omega
  have hH : Holds (Value.int .i64) w e.rid e.base (l.take n).toArray := by
    intro j hj
    have hj' : j < n := by simpa [hlen] using hj
    have hg : l[j]? = some (l[j]'(by omega)) := List.getElem?_eq_getElem _
    refine ⟨?_, by simp [World.frozen?, hob]⟩
    have := hcur j _ hg
    simp only [World.cell?, hob]
    simp only [Option.isSome_none, Bool.false_eq_true, if_false]
    rw [this]
    have hj2 : j < (l.take n).toArray.size := hj
    rw [getElem!_pos _ j hj2]
    simp
  have hcall := hc e.rid e.base cap (l.take n) w hH hlt (by omega)
  rw [hlen] at hcall
  refine Calls.mono hcall ?_
  rintro en w' ⟨rfl, q, os, rfl⟩
  obtain ⟨T, hT⟩ : ∃ T, T = (l.take n).mergeSort (fun x y => decide (x ≤ y)) := ⟨_, rfl⟩
  have hTl : T.length = n := by rw [hT, List.length_mergeSort, hlen]
  rw [← hT]
  have hcs : e.base + n ≤ cur.size := by omega
  obtain ⟨w1, hw1⟩ : ∃ w1, w1 = putRow (Value.int .i64) (Sort.ahead w q) e.rid e.base T.toArray := ⟨_, rfl⟩
  rw [← hw1]
  have hheap : w1.heap = w.heap.modify e.rid (onCells (putCells (Value.int .i64) e.base T.toArray)) := by rw [hw1]; rfl
  have hsz : w1.heap.size = w.heap.size := by rw [hheap, Array.size_modify]
  have hsame : ∀ r, r ≠ e.rid → w1.heap[r]? = w.heap[r]? := fun r hne => by rw [hheap, Array.getElem?_modify, if_neg (Ne.symm hne)]
  have hnew : w1.heap[e.rid]? = some (.cells (putCells (Value.int .i64) e.base T.toArray cur) TT (0, 0)) := by rw [hheap, Array.getElem?_modify, if_pos rfl, hob]; rfl
  have hput : ∀ k, (putCells (Value.int .i64) e.base T.toArray cur)[k]? = (cur[k]?).map fun x => if e.base ≤ k ∧ k < e.base + T.length then Value.int .i64 (T.getD (k - e.base) 0) else x := fun k => by
    unfold putCells
    rw [Array.getElem?_mapIdx]
    cases hk : cur[k]? with
    | none => rfl
    | some x =>
      simp only [Option.map_some, Option.some.injEq, List.size_toArray]
      split
      · rename_i hh
        congr 1
        rw [getElem!_pos _ (k - e.base) (by simp; omega)]
        simp [List.getD_eq_getElem?_getD, List.getElem?_eq_getElem (show k - e.base < T.length by omega)]
      · rfl
  have hrel' : BlkRel σ e (.flat true (R.flatMap encI)) (.cells (putCells (Value.int .i64) e.base T.toArray cur) TT (0, 0)) := by
    have hsl : (srtI n l).length = l.length := by unfold srtI; rw [List.length_append, List.length_mergeSort, hlen, List.length_drop]; omega
    refine ⟨_, TT, (0, 0), rfl, by simp [putCells]; exact hs1, by rw [flat_len encI_len, Nat.mul_one]; have := hR.length_le; omega, fun _ => rfl, ?_⟩
    intro j v hv
    dsimp only at hv
    rw [flatI_get] at hv
    have hjR : j < R.length := by
      rcases Nat.lt_or_ge j R.length with h | h
      · exact h
      · rw [List.getElem?_eq_none h] at hv; cases hv
    have hjl : j < (srtI n l).length := by have := hR.length_le; omega
    rw [show R[j]? = (srtI n l)[j]? by
      obtain ⟨t, ht⟩ := hR
      rw [← ht, List.getElem?_append_left hjR]] at hv
    have hcj : cur[e.base + j]? = some (.int .i64 (l[j]'(by omega))) := hcur j _ (List.getElem?_eq_getElem _)
    rw [hput, hcj, Option.map_some]
    refine ⟨_, rfl, ?_, ?_⟩
    · have hsr : (srtI n l)[j]? = some (if j < n then T.getD j 0 else l[j]'(by omega)) := by
        unfold srtI
        rw [← hT]
        by_cases hjn : j < n
        · rw [if_pos hjn, List.getElem?_append_left (by omega), List.getElem?_eq_getElem (by omega)]
          simp [List.getD_eq_getElem?_getD, List.getElem?_eq_getElem (show j < T.length by omega)]
        · rw [if_neg hjn, List.getElem?_append_right (by omega), hTl, List.getElem?_drop, show n + (j - n) = j by omega, List.getElem?_eq_getElem]
      rw [hsr] at hv
      cases hv
      simp only [VR, S.val, D.v]
      by_cases hjn : j < n
      · rw [if_pos (by omega), if_pos hjn, show e.base + j - e.base = j by omega]
      · rw [if_neg (by omega), if_neg hjn]
    · split <;> rfl
  have hrel2 := hr.upd hi hb rfl (fun _ => rfl) hsz hsame hnew hrel'
  have hext := Ext.upd (h := h) (b' := .flat true (R.flatMap encI)) hi hb rfl (fun _ => rfl) hsz (by rw [hw1]; rfl) (by rw [hw1]; rfl) (by rw [hw1]; rfl) hsame
  exact ⟨σ, .tuple #[], rfl, by simp only [VR]; exact ⟨#[], rfl, rfl⟩, hrel2.growS os, (hext.trans (Ext.growS os)).toK⟩
end Go.Vm

namespace Go.Proofs.YtajnkenbhmkjaaaGreat
open Go.Shelf
def srtRen : Ren := ⟨fun | 125 => 92 | 128 => 102 | 129 => 103 | 189 => 90 | 215 => 109 | 216 => 99 | 257 => 91 | 294 => 93 | 295 => 94 | 296 => 95 | 297 => 96 | 298 => 97 | 299 => 98 | 300 => 100 | 301 => 101 | 328 => 104 | 329 => 105 | 330 => 106 | 331 => 107 | 332 => 108 | 343 => 110 | n => n, fun | 0 => 0 | 3 => 3 | 4 => 4 | 5 => 5 | 9 => 9 | 28 => 39 | 46 => 120 | 51 => 52 | 53 => 143 | 131 => 165 | 182 => 160 | 183 => 161 | 218 => 169 | 222 => 173 | 228 => 175 | 229 => 176 | n => n, fun n => n⟩
theorem srtLays : Lays.n189 Tryz.prog srtRen := {
  mixed := by kernel_rfl
  f125 := by kernel_rfl
  f128 := by kernel_rfl
  f129 := by kernel_rfl
  f189 := by kernel_rfl
  f215 := by kernel_rfl
  f216 := by kernel_rfl
  f257 := by kernel_rfl
  f294 := by kernel_rfl
  f295 := by kernel_rfl
  f296 := by kernel_rfl
  f297 := by kernel_rfl
  f298 := by kernel_rfl
  f299 := by kernel_rfl
  f300 := by kernel_rfl
  f301 := by kernel_rfl
  f328 := by kernel_rfl
  f329 := by kernel_rfl
  f330 := by kernel_rfl
  f331 := by kernel_rfl
  f332 := by kernel_rfl
  f343 := by kernel_rfl
  t0 := by kernel_rfl
  a0 := fun _ => by kernel_rfl
  z0 := fun _ => by kernel_rfl
  v0 := fun _ => by kernel_rfl
  t3 := by kernel_rfl
  a3 := fun _ => by kernel_rfl
  z3 := fun _ => by kernel_rfl
  v3 := fun _ => by kernel_rfl
  t4 := by kernel_rfl
  a4 := fun _ => by kernel_rfl
  z4 := fun _ => by kernel_rfl
  v4 := fun _ => by kernel_rfl
  t5 := by kernel_rfl
  a5 := fun _ => by kernel_rfl
  z5 := fun _ => by kernel_rfl
  v5 := fun _ => by kernel_rfl
  t9 := by kernel_rfl
  a9 := fun _ => by kernel_rfl
  z9 := fun _ => by kernel_rfl
  v9 := fun _ => by kernel_rfl
  t28 := by kernel_rfl
  a28 := fun _ => by kernel_rfl
  z28 := fun _ => by kernel_rfl
  v28 := fun _ => by kernel_rfl
  t46 := by kernel_rfl
  a46 := fun _ => by kernel_rfl
  z46 := fun _ => by kernel_rfl
  v46 := fun _ => by kernel_rfl
  t51 := by kernel_rfl
  a51 := fun _ => by kernel_rfl
  z51 := fun _ => by kernel_rfl
  v51 := fun _ => by kernel_rfl
  t53 := by kernel_rfl
  a53 := fun _ => by kernel_rfl
  z53 := fun _ => by kernel_rfl
  v53 := fun _ => by kernel_rfl
  t131 := by kernel_rfl
  a131 := fun _ => by kernel_rfl
  z131 := fun _ => by kernel_rfl
  v131 := fun _ => by kernel_rfl
  t182 := by kernel_rfl
  a182 := fun _ => by kernel_rfl
  z182 := fun _ => by kernel_rfl
  v182 := fun _ => by kernel_rfl
  t183 := by kernel_rfl
  a183 := fun _ => by kernel_rfl
  z183 := fun _ => by kernel_rfl
  v183 := fun _ => by kernel_rfl
  t218 := by kernel_rfl
  a218 := fun _ => by kernel_rfl
  z218 := fun _ => by kernel_rfl
  v218 := fun _ => by kernel_rfl
  t222 := by kernel_rfl
  a222 := fun _ => by kernel_rfl
  z222 := fun _ => by kernel_rfl
  v222 := fun _ => by kernel_rfl
  t228 := by kernel_rfl
  a228 := fun _ => by kernel_rfl
  z228 := fun _ => by kernel_rfl
  v228 := fun _ => by kernel_rfl
  t229 := by kernel_rfl
  a229 := fun _ => by kernel_rfl
  z229 := fun _ => by kernel_rfl
  v229 := fun _ => by kernel_rfl
}
theorem vc_Sort (n : Nat) (l : List Int) (i : Go.Vm.Id) (h : Go.Vm.Hp) (hb : h.get i = some (.flat true (l.flatMap Go.Vm.encI))) (hn : n ≤ l.length) (h0 : 0 < n) (hl : l.length ≤ 4000000) (R : List Int) (hR : R <+: Go.Vm.srtI n l) : Go.Vm.VC Tryz.prog 90 [.gl i 1 n] h (.tuple []) (h.set i (.flat true (R.flatMap Go.Vm.encI))) :=
  Go.Vm.VC.sortI Tryz.call90 hb hn h0 hl R hR fun blk off cap zs w h1 h2 h3 => calls_of_every_depth fun D => AnyS.slices_Sort_int_in srtLays D blk off cap zs w h1 h2 h3
end Go.Proofs.YtajnkenbhmkjaaaGreat

open Go.Vm
open Riv
namespace Go.Vm
theorem hid_new {outer : Id → Option Blk} {loc : List Blk} {fz : List (Nat × List D)} (n : Nat) (hl : Nat.beq loc.length n = true) : ∀ i, (⟨outer, loc⟩ : Hp).get i ≠ none → (⟨List.range n ++ [n], n, fz, []⟩ : TCtx).ρ i = i := by
  intro i hi
  have hl : loc.length = n := Nat.eq_of_beq_eq_true hl
  cases i with
  | out i => rfl
  | loc k =>
    have hlt : k < n := by
      rcases Nat.lt_or_ge k n with h1 | h1
      · exact h1
      · exact absurd (List.getElem?_eq_none (show loc.length ≤ k by omega)) hi
    have : (List.range n ++ [n])[k]? = some k := by rw [List.getElem?_append_left (by simpa using hlt)]; exact rangeLt hlt
    simp [TCtx.ρ, this]
end Go.Vm
namespace Go.Proofs.YtajnkenbhmkjaaaGreat
set_option maxRecDepth 20000
set_option maxHeartbeats 4000000

def natLL (l : List (List Nat)) : List (List Int) := l.map natI
theorem natI_srt (l : List Nat) : natI (srtN l) = (natI l).mergeSort fun x y => decide (x ≤ y) := by
  unfold natI srtN
  rw [List.map_mergeSort]
  intro a _ b _
  rw [Bool.eq_iff_iff, decide_eq_true_eq, decide_eq_true_eq]
  exact Int.ofNat_le.symm
def pfK (mk : List Bool) (W k : Nat) : List Nat × List (List Nat) := (List.range k).foldl (pstep mk W) ([], [])
theorem pfK_step (mk : List Bool) (W k : Nat) : pfK mk W (k + 1) = pstep mk W (pfK mk W k) k := by unfold pfK; rw [List.range_succ, List.foldl_append]; rfl
theorem pfK_ok {mk : List Bool} {W H : Nat} (hW : 2 ≤ W) (hL : mk.length = W * H) : ∀ k, (pfK mk W k).1.Nodup ∧ (∀ x ∈ (pfK mk W k).1, x < mk.length) ∧ (pfK mk W k).2.length ≤ k
  | 0 => ⟨List.nodup_nil, fun x hx => (by cases hx), Nat.le_refl _⟩
  | k + 1 => by
    obtain ⟨h1, h2, h3⟩ := pfK_ok hW hL k
    rw [pfK_step]
    generalize pfK mk W k = x at h1 h2 h3
    unfold pstep
    split
    · rename_i hc
      have h := (folW_mi (N := mk.length) hW hL hc.2 hc.1 h1 h2 (by omega)).1
      refine ⟨h.nd, h.lt, ?_⟩
      dsimp only
      rw [List.length_append, List.length_singleton]; omega
    · exact ⟨h1, h2, by omega⟩
end Go.Proofs.YtajnkenbhmkjaaaGreat

open Go.Vm
open Riv
namespace Go.Proofs.YtajnkenbhmkjaaaGreat
set_option maxRecDepth 20000
set_option maxHeartbeats 4000000

theorem vc_partsI {W H : Nat} (m : Mp) (h : Hp) (o : MOk W H m.c) (hw : m.w = W) : VC Tryz.prog 82 [vM m, ints m.c, .func (.func 83) [] []] h (intss (natLL (parts (marks m.c) W))) h := by
  have hWb := o.w
  have hHb := o.h
  have hL := o.len
  have hm144 := MOk.le o
  have hmkl := marks_len m.c
  have hLm : (marks m.c).length = W * H := by rw [hmkl]; exact hL
  have hok := fun k => pfK_ok (mk := (marks m.c)) (W := W) (H := H) (by omega) hLm k
  have hst := fun k => pfK_step (marks m.c) W k
  have hfin : parts (marks m.c) W = (pfK (marks m.c) W (marks m.c).length).2 := rfl
  have cF := fun n M h h1 h2 h3 h4 hM hO => vc_folI m o hw (marks m.c).length n M [] (.loc 0) (.loc 1) (.loc 2) (.loc 4) h h1 h2 h3 h4 (by rw [hmkl]; omega) (Nat.zero_le _) hM hO ⟨by decide, by decide, by decide, by decide, by decide⟩
  obtain ⟨R, hR⟩ : ∃ R, R = parts (marks m.c) W := ⟨_, rfl⟩
  rw [← hR] at hfin ⊢
  obtain ⟨mw, mh, c⟩ := m
  dsimp only at *
  subst hw
  show VC Tryz.prog 82 [.agg [I W, I mh, ints c], ints c, .func (.func 83) [] []] h _ h
  refine VC.bodyC 2 Tryz.func82 rfl Tryz.ntmps82 Tryz.call82 (h.grows_refl) rfl ?_
  conv => whnf
  repeat' (first | ((first | refine zs1 ?_ | refine zs2 ?_ | refine zs3 ?_ | refine zs4 ?_ | refine zs5 ?_); conv => whnf) | ((first | apply zi1 | apply zi2 | apply zi3 | apply zi4 | apply zi5) <;> intro _ <;> conv => whnf) | (refine VMem.make false encB_len rfl rfl rfl rfl rfl rfl (by omega) ?_; conv => whnf))
  refine VCut.at' (outer := h.lift) (marks := []) 99 [(3, .fp [DI W, DI mh, dints c]), (4, .fp [dints c]), (5, .fp [.func (.func 83) [] []]), (7, .ptr (.loc 0) 0)] [.cells true [.gl (.loc 1) 1 c.length], .flat true ((metB c.length []).flatMap encB)] ?_ ?_
  · rw [metB_nil]
    conv => whnf
    refine Retell.turn ⟨[4,3], 5, [(0, [DI W, DI mh, dints c]), (1, [dints c]), (2, [.func (.func 83) [] []])], []⟩ (TurnOk.mk' _ _ [(0, [DI W, DI mh, dints c]), (1, [dints c]), (2, [.func (.func 83) [] []])] [] (OutOk.lift _) rfl (by decide) zb zf trivial rfl) zw zm
  conv => whnf
  repeat' (first | ((first | refine zs1 ?_ | refine zs2 ?_ | refine zs3 ?_ | refine zs4 ?_ | refine zs5 ?_); conv => whnf) | ((first | apply zi1 | apply zi2 | apply zi3 | apply zi4 | apply zi5) <;> intro _ <;> conv => whnf))
  refine VCode.lpC (outer := h.lift) (marks := []) 99 (fun k : Nat => [(3, .fp [DI W, DI mh, dints c]), (4, .fp [dints c]), (5, .fp [.func (.func 83) [] []]), (7, .ptr (.loc 0) 0), (8, .gl (.loc 3) 1 (pfK (marks c) W k).2.length), (9, .ptr (.loc 2) 0), (17, ints c), (18, I c.length), (19, I k)]) (fun k => [.cells true [.gl (.loc 1) 1 c.length], .flat true ((metB c.length (pfK (marks c) W k).1).flatMap encB), .cells true [vFolI W mh c (.loc 0) (.loc 2)], .flat true ((natLL (pfK (marks c) W k).2).flatMap encL)]) (fun k => k ≤ c.length) (fun k => c.length - k) 0 (Nat.zero_le _) ?_ ?_
  · rw [show pfK (marks c) W 0 = ([], []) from rfl]
    conv => whnf
    refine Retell.turn ⟨[0,1,2,3], 3, [], []⟩ (TurnOk.mk' _ _ [] [] (OutOk.lift _) rfl (by decide) zb trivial trivial rfl) zw zm
  · rintro k hk
    rcases Nat.lt_or_ge k c.length with hkl | hkl
    · obtain ⟨a1, a2, a3⟩ := hok k
      have hstk := hst k
      generalize pfK (marks c) W k = x at a1 a2 a3 hstk
      obtain ⟨M, outs⟩ := x
      dsimp only at a1 a2 a3 ⊢
      have hx := at0_get hkl
      have hqm := metB_at M hkl
      have cSq := fun h => vc_isl1 (at0 c k) h
      rw [← bat_marks] at cSq
      by_cases hgo : k ∉ M ∧ bat (marks c) k = true
      · unfold pstep at hstk
        dsimp only at hstk
        rw [if_pos hgo] at hstk
        have hmi := folW_mi (N := (marks c).length) (by omega) hLm hgo.2 hgo.1 a1 a2 (by omega)
        have cFk := fun H hM hO => cF k M H hgo.2 hgo.1 a1 (fun x hx => by have := a2 x hx; omega) hM hO
        have hol := ownF_len [] hmi.1.pre.length_le
        have hol1 := hmi.1.len
        have hne : M.length < (folW (marks c) W (marks c).length k M).length := by
          have h1 := hmi.1.pre.length_le
          refine Nat.lt_of_le_of_ne h1 fun e => hgo.1 ?_
          rw [hmi.1.pre.eq_of_length e]
          exact hmi.2
        have hown : ownF [] M (folW (marks c) W (marks c).length k M) = natI ((folW (marks c) W (marks c).length k M).drop M.length) := List.nil_append _
        rw [decide_eq_false hgo.1] at hqm
        rw [hgo.2] at cSq
        have hsrt := natI_srt ((folW (marks c) W (marks c).length k M).drop M.length)
        rw [← hown] at hsrt
        generalize (folW (marks c) W (marks c).length k M).drop M.length = own at hown hsrt hstk
        generalize folW (marks c) W (marks c).length k M = S at cFk hol hol1 hne hown hsrt hstk
        generalize ownF [] M S = l at cFk hol hown hsrt
        have hll : 0 < l.length := by rw [hol, List.length_nil]; omega
        have cSrt := fun h hb => vc_Sort l.length l (.loc 5) h hb (Nat.le_refl _) hll (by rw [hol, List.length_nil]; omega) (natI (srtN own)) (by rw [hsrt]; unfold Go.Vm.srtI; rw [List.take_length]; exact List.prefix_append _ _)
        have hsl : (natI (srtN own)).length = l.length := by rw [hsrt, List.length_mergeSort]
        conv => whnf
        repeat' (first | ((first | refine zs1 ?_ | refine zs2 ?_ | refine zs3 ?_ | refine zs4 ?_ | refine zs5 ?_); conv => whnf) | ((first | apply zi1 | apply zi2 | apply zi3 | apply zi4 | apply zi5) <;> intro _ <;> first | (exfalso; omega) | contradiction | (conv => whnf)) | (refine VAny.ix encI_len k (by omega) (by first | rfl | omega) hx ?_; conv => whnf) | (refine VLd.recc encB_len k 0 rfl rfl rfl hqm (by decide) rfl (ofs _) ?_; conv => whnf) | (refine VCall.intro (cSq _) ?_; conv => whnf))
        refine VCall.intro (VC.turn ⟨[0, 1, 2, 3, 4], 4, [], []⟩ (args' := [I k, .gl (.loc 4) 1 0, .ptr (.loc 0) 0, .fp [DI W, DI mh, dints c], .fp [.func (.func 83) [] []], .fp [dints c], .ptr (.loc 2) 0]) (loc' := [.cells true [.gl (.loc 1) 1 c.length], .flat true ((metB c.length M).flatMap encB), .cells true [vFolI W mh c (.loc 0) (.loc 2)], .flat true ((natLL outs).flatMap encL), .flat true []]) (TurnOk.mk' _ _ [] [] (OutOk.lift _) rfl (by decide) zb trivial trivial rfl) (hid_new 4 rfl) zv (cFk _ ⟨rfl, rfl, rfl⟩ rfl)) ?_
        conv => whnf
        repeat' (first | ((first | refine zs1 ?_ | refine zs2 ?_ | refine zs3 ?_ | refine zs4 ?_ | refine zs5 ?_); conv => whnf) | ((first | apply zi1 | apply zi2 | apply zi3 | apply zi4 | apply zi5) <;> intro _ <;> conv => whnf))
        refine VCall.intro (cSrt _ rfl) ?_
        conv => whnf
        repeat' (first | ((first | refine zs1 ?_ | refine zs2 ?_ | refine zs3 ?_ | refine zs4 ?_ | refine zs5 ?_); conv => whnf) | ((first | apply zi1 | apply zi2 | apply zi3 | apply zi4 | apply zi5) <;> intro _ <;> conv => whnf))
        refine VMem.appCell (l := ((natLL outs).flatMap encL).map D.v) (v := .gl (.loc 5) 1 l.length) rfl rfl rfl rfl (by simp [flat_len encL_len, natLL]) rfl (by simp [flat_len encL_len, natLL]; omega) ?_
        conv => whnf
        repeat' (first | ((first | refine zs1 ?_ | refine zs2 ?_ | refine zs3 ?_ | refine zs4 ?_ | refine zs5 ?_); conv => whnf) | ((first | apply zi1 | apply zi2 | apply zi3 | apply zi4 | apply zi5) <;> intro _ <;> conv => whnf))
        refine LEnd.intro (k + 1) (by omega) (by omega) ?_
        rw [hstk]
        dsimp only
        have hnl : natLL (outs ++ [srtN own]) = natLL outs ++ [natI (srtN own)] := by unfold natLL; simp
        have hnn : (outs ++ [srtN own]).length = outs.length + 1 := by simp
        rw [hnl, hnn]
        generalize natI (srtN own) = srt at hsl ⊢
        rw [← hsl]
        conv => whnf
        refine Retell.turn ⟨[0,1,2,7], 8, [(5, srt.flatMap Vm.encI)], []⟩ (TurnOk.mk' _ _ [(5, srt.flatMap Vm.encI)] [] (OutOk.lift _) rfl (by decide) zb zf trivial rfl) zw zm
      · unfold pstep at hstk
        dsimp only at hstk
        rw [if_neg hgo] at hstk
        have hgo2 : k ∈ M ∨ bat (marks c) k = false := by
          by_cases hqM : k ∈ M
          · exact .inl hqM
          · right
            cases hb : bat (marks c) k with
            | false => rfl
            | true => exact absurd ⟨hqM, hb⟩ hgo
        rcases hgo2 with hb | hb
        all_goals (
          first | rw [decide_eq_true hb] at hqm | rw [hb] at cSq
          conv => whnf
          repeat' (first | ((first | refine zs1 ?_ | refine zs2 ?_ | refine zs3 ?_ | refine zs4 ?_ | refine zs5 ?_); conv => whnf) | ((first | apply zi1 | apply zi2 | apply zi3 | apply zi4 | apply zi5) <;> intro _ <;> first | (exfalso; omega) | contradiction | (conv => whnf)) | (refine VAny.ix encI_len k (by omega) (by first | rfl | omega) hx ?_; conv => whnf) | (refine VLd.recc encB_len k 0 rfl rfl rfl hqm (by decide) rfl (ofs _) ?_; conv => whnf) | (refine VCall.intro (cSq _) ?_; conv => whnf))
          all_goals first
            | contradiction
            | (refine LEnd.intro (k + 1) (by omega) (by omega) ?_
               rw [hstk]
               dsimp only
               conv => whnf
               refine Retell.turn ⟨[0,1,2,3], 4, [], []⟩ (TurnOk.mk' _ _ [] [] (OutOk.lift _) rfl (by decide) zb trivial trivial rfl) zw zm))
    · obtain rfl : k = c.length := by omega
      have hx2 : (pfK (marks c) W c.length).2 = R := by rw [hfin, hmkl]
      rw [hx2]
      generalize (pfK (marks c) W c.length).1 = M
      have hRl : (natLL R).length = R.length := by unfold natLL; rw [List.length_map]
      rw [show intss (natLL R) = .fs 1 R.length ((natLL R).flatMap encL) by unfold intss; rw [hRl]]
      have hRf : ((natLL R).flatMap encL).length = R.length * 1 := by rw [flat_len encL_len, hRl]
      conv => whnf
      repeat' (first | ((first | refine zs1 ?_ | refine zs2 ?_ | refine zs3 ?_ | refine zs4 ?_ | refine zs5 ?_); conv => whnf) | ((first | apply zi1 | apply zi2 | apply zi3 | apply zi4 | apply zi5) <;> intro _ <;> first | (exfalso; omega) | contradiction | (conv => whnf)))
      refine VOut.data 4 [(3, (natLL R).flatMap encL)] [] rfl zf (by exact FmAll.nil) zw
end Go.Proofs.YtajnkenbhmkjaaaGreat

open Go.Vm
open Riv
namespace Riv
def mgt (a : List (Int × Int)) (k : Int) : Option Int := (a.find? fun x => decide (x.1 = k)).map (·.2)
def mget (a : List (Int × Int)) (k : Int) : Int := (mgt a k).getD 0
def mput : List (Int × Int) → Int → Int → List (Int × Int)
  | [], k, v => [(k, v)]
  | x :: a, k, v => if x.1 = k then (k, v) :: a else x :: mput a k v
theorem mget_put : ∀ (a : List (Int × Int)) (k v j : Int), mget (mput a k v) j = if j = k then v else mget a j
  | [], k, v, j => by
    unfold mget mgt mput
    by_cases h : j = k
    · subst h; simp
    · rw [if_neg h]
      have h2 : ¬ k = j := fun e => h e.symm
      simp [h2]
  | x :: a, k, v, j => by
    rw [mput]
    by_cases h : x.1 = k
    · rw [if_pos h]
      by_cases h2 : j = k
      · subst h2; rw [if_pos rfl]; simp [mget, mgt]
      · rw [if_neg h2]
        have h4 : ¬ k = j := fun e => h2 e.symm
        have h5 : ¬ x.1 = j := fun e => h2 (e.symm.trans h)
        simp [mget, mgt, List.find?_cons, h4, h5]
    · rw [if_neg h]
      by_cases h3 : x.1 = j
      · have : ¬ j = k := fun e => h (h3.trans e)
        rw [if_neg this]
        simp [mget, mgt, List.find?_cons, h3]
      · have ih := mget_put a k v j
        unfold mget mgt at ih ⊢
        rw [List.find?_cons, List.find?_cons]
        simp only [h3, decide_false]
        exact ih
theorem mput_none : ∀ {a : List (Int × Int)} {k : Int} (v : Int), mgt a k = none → mput a k v = a ++ [(k, v)]
  | [], _, _, _ => rfl
  | x :: a, k, v, h => by
    have hx : ¬ x.1 = k := fun e => by simp [mgt, List.find?_cons, e] at h
    have h' : mgt a k = none := by simpa [mgt, List.find?_cons, hx] using h
    rw [mput, if_neg hx, mput_none v h']; rfl
def shL (L : List (List Nat)) (O own : List Int) : List Sh := (L.zip (O.zip own)).map fun x => ⟨((x.1.headD 0 : Nat) : Int), x.2.2, decide (x.2.1 = 1 ∨ x.2.1 = 2)⟩
theorem shr_shL (c : List Int) (W : Nat) : shr c W = shL (isl c W) (own0 c W) (ownI c W) := rfl
theorem shL_at {L : List (List Nat)} {O own : List Int} {i : Nat} (hO : O.length = L.length) (hw : own.length = L.length) (hi : i < L.length) : (shL L O own)[i]? = some ⟨(((L.getD i []).headD 0 : Nat) : Int), at0 own i, decide (at0 O i = 1 ∨ at0 O i = 2)⟩ := by
  have e1 : at0 O i = O[i] := by unfold at0; rw [List.getD_eq_getElem?_getD, List.getElem?_eq_getElem (by omega)]; rfl
  have e2 : at0 own i = own[i] := by unfold at0; rw [List.getD_eq_getElem?_getD, List.getElem?_eq_getElem (by omega)]; rfl
  have e3 : L.getD i [] = L[i] := by rw [List.getD_eq_getElem?_getD, List.getElem?_eq_getElem hi]; rfl
  unfold shL
  rw [List.getElem?_map, List.zip, List.getElem?_zipWith, List.getElem?_eq_getElem hi, List.zip, List.getElem?_zipWith, List.getElem?_eq_getElem (show i < O.length by omega), List.getElem?_eq_getElem (show i < own.length by omega), e1, e2, e3]
  rfl
theorem shL_len {L : List (List Nat)} {O own : List Int} (hO : O.length = L.length) (hw : own.length = L.length) : (shL L O own).length = L.length := by
  unfold shL
  rw [List.length_map, List.length_zip, List.length_zip]; omega
theorem shL_set {L : List (List Nat)} {O own : List Int} {i : Nat} {x : Sh} (v : Int) (hO : O.length = L.length) (hw : own.length = L.length) (hx : (shL L O own)[i]? = some x) : shL L O (own.set i v) = (shL L O own).set i ⟨x.f, v, x.nr⟩ := by
  have hi : i < L.length := by
    have := (List.getElem?_eq_some_iff.1 hx).1
    rw [shL_len hO hw] at this; exact this
  apply List.ext_getElem?
  intro j
  rcases Nat.lt_or_ge j L.length with hj | hj
  · rw [shL_at hO (by rw [List.length_set]; exact hw) hj, at0_set (by omega)]
    by_cases e : j = i
    · subst e
      rw [if_pos rfl, List.getElem?_set_self (by rw [shL_len hO hw]; exact hj)]
      rw [shL_at hO hw hi, Option.some.injEq] at hx
      rw [← hx]
    · rw [if_neg e, List.getElem?_set_ne (fun e2 => e e2.symm), shL_at hO hw hj]
  · rw [List.getElem?_eq_none (by rw [shL_len hO (by rw [List.length_set]; exact hw)]; exact hj), List.getElem?_eq_none (by rw [List.length_set, shL_len hO hw]; exact hj)]
def rgK (O : List Int) (i : Nat) : List Int := (List.range i).foldl rg1 O
theorem rgK_step (O : List Int) (i : Nat) : rgK O (i + 1) = rg1 (rgK O i) i := by unfold rgK; rw [List.range_succ, List.foldl_append]; rfl
theorem rgK_len (O : List Int) : ∀ i, (rgK O i).length = O.length
  | 0 => rfl
  | i + 1 => by
    rw [rgK_step]
    have := rgK_len O i
    unfold rg1
    split
    · rw [List.length_set]; exact this
    · exact this
theorem many_set {l : List Int} {i : Nat} {k v : Int} (hi : i < l.length) (h3 : at0 l i = 3) (hk : k ≠ 3) : many k (l.set i v) = many k l + (if v = k then 1 else 0) := by
  have e : l[i] = 3 := by
    rw [← h3]; unfold at0; rw [List.getD_eq_getElem?_getD, List.getElem?_eq_getElem hi]; rfl
  have h1 : l = l.take i ++ 3 :: l.drop (i + 1) := by
    rw [← e, ← List.drop_eq_getElem_cons hi, List.take_append_drop]
  have h2 : l.set i v = l.take i ++ v :: l.drop (i + 1) := by
    rw [List.set_eq_take_append_cons_drop, if_pos hi]
  rw [h2]
  conv => rhs; rw [h1]
  have h3k : ¬ (3 : Int) = k := fun e => hk e.symm
  rw [many_app, many_app, many_cons, many_cons, if_neg h3k]
  omega
theorem many_bd (k : Int) (l : List Int) : 0 ≤ many k l ∧ many k l ≤ l.length := by
  unfold many
  have := List.countP_le_length (p := fun o => decide (o = k)) (l := l)
  omega
theorem many_snoc (k : Int) (l : List Int) (o : Int) : many k (l ++ [o]) = many k l + (if o = k then 1 else 0) := by
  rw [many_app, many_cons]
  have : many k [] = 0 := rfl
  omega
end Riv
namespace Go.Vm
def esM (a : List (Int × Int)) : List (V × V) := a.map fun x => (I x.1, I x.2)
theorem esM_fst (a : List (Int × Int)) : (esM a).map (·.1) = (a.map fun x => DI x.1).map D.v := by simp only [esM, List.map_map]; rfl
theorem esM_snd (a : List (Int × Int)) : (esM a).map (·.2) = (a.map fun x => DI x.2).map D.v := by simp only [esM, List.map_map]; rfl
theorem esM_ren (a : List (Int × Int)) (ρ : Vm.Id → Vm.Id) : (Blk.map (esM a)).ren ρ = .map (esM a) := by
  unfold Blk.ren
  congr 1
  simp only [esM, List.map_map]
  rfl
theorem BTos.esE {c : TCtx} {loc : List Blk} {pm : List Nat} {bs : List Blk} {j : Nat} {a : List (Int × Int)} (hj : Nat.blt j c.L = true) (hl : loc[j]? = some (.map (esM a))) (r : BTos c loc pm bs) : BTos c loc (j :: pm) (.map (esM a) :: bs) :=
  BTos.map hj hl (by rw [esM_fst]; exact RowTo.dv c _) (by rw [esM_snd]; exact RowTo.dv c _) r
theorem veqI3 (x y : Int) : veqSh Sh.int (I x) (I y) = some (decide (x = y)) := by
  have : (x == y) = decide (x = y) := by rw [Bool.eq_iff_iff]; simp
  rw [← this]; rfl
theorem foundM_none {a : List (Int × Int)} {e : Int} (h : Riv.mgt a e = none) : Vm.Found Sh.int (I e) (esM a) none := by
  intro j p hp
  simp only [esM, List.getElem?_map, Option.map_eq_some_iff] at hp
  obtain ⟨x, hx, rfl⟩ := hp
  simp only [veqI3]
  have hm : x ∈ a := List.mem_of_getElem? hx
  unfold Riv.mgt at h
  rw [Option.map_eq_none_iff, List.find?_eq_none] at h
  have := h x hm
  simp only [decide_eq_true_eq] at this
  rw [decide_eq_false (fun e1 => this e1.symm)]
theorem foundM_some : ∀ {a : List (Int × Int)} {e v : Int}, Riv.mgt a e = some v → ∃ i, Vm.Found Sh.int (I e) (esM a) (some (i, I v)) ∧ a[i]? = some (e, v) ∧ ∀ u, Riv.mput a e u = a.set i (e, u)
  | [], e, v, h => by simp [Riv.mgt] at h
  | x :: a, e, v, h => by
    by_cases hx : x.1 = e
    · have hv : x.2 = v := by simpa [Riv.mgt, List.find?_cons, hx] using h
      refine ⟨0, ⟨I x.1, by simp [esM, hv], by rw [veqI3]; simp [hx], fun j p hj => by omega⟩, ?_, fun u => ?_⟩
      · simp [← hx, ← hv]
      · rw [Riv.mput, if_pos hx]; rfl
    · have h' : Riv.mgt a e = some v := by simpa [Riv.mgt, List.find?_cons, hx] using h
      obtain ⟨i, ⟨k0, h1, h2, h3⟩, h4, h5⟩ := foundM_some h'
      refine ⟨i + 1, ⟨k0, by simpa [esM] using h1, h2, fun j p hj hp => ?_⟩, by simpa using h4, fun u => by rw [Riv.mput, if_neg hx, h5 u]; rfl⟩
      cases j with
      | zero =>
        simp only [esM, List.map_cons, List.getElem?_cons_zero, Option.some.injEq] at hp
        subst hp
        rw [veqI3, decide_eq_false (fun e1 => hx e1.symm)]
      | succ j => exact h3 j p (by omega) (by simpa [esM] using hp)
end Go.Vm
namespace Go.Proofs.YtajnkenbhmkjaaaGreat
set_option maxRecDepth 20000
set_option maxHeartbeats 4000000
theorem top3 : eqTop Tryz.prog 3 = some Sh.int := by kernel_rfl
theorem VMem.putM {a : List (Int × Int)} {e v : Int} {h : Hp} {i : Vm.Id} {K : V → Hp → Prop} (hb : h.get i = some (.map (esM a))) (hK : K .undef (h.set i (.map (esM (mput a e v))))) : VMem Tryz.prog (opMapUpdate 147) [.map i, I e, I v] h K := by
  cases hl : mgt a e with
  | none =>
    have : esM (mput a e v) = esM a ++ [(I e, I v)] := by rw [mput_none v hl]; simp [esM]
    rw [this] at hK
    exact VMem.intro (does_mapNew (tiOf_ok _) (t := 147) rfl rfl top3 (by rw [veqI3]) (foundM_none hl) hb) hK
  | some u =>
    obtain ⟨j, h1, h2, h3⟩ := foundM_some hl
    have : esM (mput a e v) = (esM a).set j (I e, I v) := by rw [h3]; simp [esM]
    rw [this] at hK
    exact VMem.intro (does_mapSetI (tiOf_ok _) (t := 147) (l := e) rfl rfl top3 (by rw [veqI3]) h1 (by simp only [esM, List.getElem?_map, h2]; rfl) hb) hK
theorem look_esM (a : List (Int × Int)) (e : Int) : Look Tryz.prog (tiOf Tryz.prog) 147 false (I e) (esM a) (I (mget a e)) := by
  unfold mget
  cases hl : mgt a e with
  | none => exact ⟨_, 3, 3, _, Sh.int, true, none, rfl, rfl, top3, by rw [veqI3]; simp, foundM_none hl, rfl⟩
  | some u =>
    obtain ⟨j, h1, _⟩ := foundM_some hl
    exact ⟨_, 3, 3, _, Sh.int, true, some (j, I u), rfl, rfl, top3, by rw [veqI3]; simp, h1, rfl⟩
def encSh (x : Riv.Sh) : List D := [DI x.f, DI x.o, DB x.nr]
theorem encSh_len (x : Riv.Sh) : (encSh x).length = 3 := rfl
def shs (l : List Riv.Sh) : V := .fs 3 l.length (l.flatMap encSh)
theorem vc_given (a : List (Int × Int)) (cI mI : Vm.Id) (h : Hp) (h1 : h.get cI = some (.cells true [.map mI])) (h2 : h.get mI = some (.map (esM a))) : VC Tryz.prog 84 [.ptr cI 0] h (I (if mget a 2 < mget a 1 then 2 else 1)) h := by
  obtain ⟨E, hE⟩ : ∃ E, E = (if mget a 2 < mget a 1 then (2 : Int) else 1) := ⟨_, rfl⟩
  rw [← hE]
  have l1 := look_esM a 1
  have l2 := look_esM a 2
  have g1 := fun loc => get_out h1 loc
  have g2 : ∀ loc, (⟨h.lift, loc⟩ : Hp).get (.out mI) = some (.map (esM a)) := fun loc => by rw [get_out h2 loc, esM_ren]
  generalize mget a 1 = x at l1 hE
  generalize mget a 2 = y at l2 hE
  refine VC.body Tryz.func84 rfl Tryz.ntmps84 Tryz.call84 (h.grows_refl) rfl ?_; conv => whnf
  repeat' (first | ((first | refine zs1 ?_ | refine zs2 ?_ | refine zs3 ?_ | refine zs4 ?_ | refine zs5 ?_); conv => whnf) | ((first | apply zi1 | apply zi2 | apply zi3 | apply zi4 | apply zi5) <;> intro _ <;> conv => whnf) | (refine VLd.cell rfl rfl (g1 _) rfl ?_; conv => whnf) | (refine VLook.intro (g2 _) l1 ?_; conv => whnf) | (refine VLook.intro (g2 _) l2 ?_; conv => whnf))
  all_goals first
    | (rw [if_pos (by omega)] at hE; rw [hE]; exact VOut.same rfl)
    | (rw [if_neg (by omega)] at hE; rw [hE]; exact VOut.same rfl)
end Go.Proofs.YtajnkenbhmkjaaaGreat

open Go.Vm
open Riv
namespace Go.Proofs.YtajnkenbhmkjaaaGreat
set_option maxRecDepth 20000
set_option maxHeartbeats 4000000

theorem isl_ne {c : List Int} {W H : Nat} (hW : 2 ≤ W) (hL : c.length = W * H) (h1 : c.length ≤ 160) {l : List Nat} (h : l ∈ isl c W) : 0 < l.length ∧ l.length ≤ c.length := by
  unfold isl at h
  rw [parts_eq hW (by rw [marks_len]; exact hL) (rnm_ok hW h1).1] at h
  unfold canon at h
  obtain ⟨i, hi, rfl⟩ := List.mem_map.1 h
  obtain ⟨hi1, hi2⟩ := List.mem_filter.1 hi
  have hi1 := List.mem_range.1 hi1
  have hi2 := of_decide_eq_true hi2
  constructor
  · exact List.length_pos_of_mem (List.mem_filter.2 ⟨List.mem_range.2 hi1, decide_eq_true hi2⟩)
  · have := List.length_filter_le (fun k => decide (at0 (rnm c W) k = (i : Int))) (List.range (marks c).length)
    rw [List.length_range] at this
    rw [marks_len] at this ⊢
    exact this
theorem isl_len {c : List Int} {W H : Nat} (hW : 2 ≤ W) (hL : c.length = W * H) : (isl c W).length ≤ c.length := by
  have := (pfK_ok (mk := marks c) (W := W) (H := H) hW (by rw [marks_len]; exact hL) (marks c).length).2.2
  rw [marks_len] at this
  have e : isl c W = (pfK (marks c) W c.length).2 := by unfold isl parts pfK; rw [marks_len]
  rw [e]; exact this
theorem lowT_step (T : List Int) (l : List Nat) (n : Nat) : lowT T (l ++ [n]) = ls1 (lowT T l) (at0 T n) := by unfold lowT; rw [List.foldl_append]; rfl
theorem vneSh (a b c d : Int) (x y : Bool) : vaggeq Tryz.prog .neq 139 (.agg [I a, I b, B x]) (.agg [I c, I d, B y]) = some (B (decide (¬ (a = c ∧ b = d ∧ x = y)))) := by
  have : (!((a == c) && ((b == d) && ((x == y) && true)))) = decide (¬ (a = c ∧ b = d ∧ x = y)) := by
    rw [Bool.eq_iff_iff, decide_eq_true_eq]; simp [-not_and]; cases x <;> cases y <;> simp <;> omega
  rw [← this]
  unfold vaggeq
  rw [show eqTop Tryz.prog 139 = some (Sh.cons 0 1 false Sh.int (Sh.cons 1 1 false Sh.int (Sh.cons 2 1 false Sh.bool Sh.nil))) by kernel_rfl]
  rfl
theorem vc_islands {W H : Nat} (m : Mp) (h : Hp) (o : MOk W H m.c) (hw : m.w = W) : VC Tryz.prog 65 [vM m] h (.tuple [shs (shr m.c W), intss (natLL (isl m.c W))]) h := by
  have hWb := o.w
  have hHb := o.h
  have hL := o.len
  have hm144 := MOk.le o
  have cT1 := fun h => vc_table m 1 h o hw (.inl rfl)
  have cT2 := fun h => vc_table m 2 h o hw (.inr rfl)
  have cP := fun h => vc_partsI m h o hw
  have hb1 : (bfs m.c W 1).length = m.c.length := bfsK_len _ _ _ _
  have hb2 : (bfs m.c W 2).length = m.c.length := bfsK_len _ _ _ _
  have hin := isl_in (c := m.c) (W := W) (by omega) hL (by omega)
  have hne := fun l hl => isl_ne (c := m.c) (W := W) (l := l) (by omega) hL (by omega) hl
  have hil := isl_len (c := m.c) (W := W) (by omega) hL
  rw [shr_shL]
  have hO : own0 m.c W = (isl m.c W).map fun l => ownr (lowT (bfs m.c W 1) l) (lowT (bfs m.c W 2) l) := rfl
  have hrg : ownI m.c W = rgK (own0 m.c W) (own0 m.c W).length := (rg_eq (own0 m.c W)).symm
  rw [hrg]
  rw [show parts (marks m.c) W = isl m.c W from rfl] at cP
  generalize own0 m.c W = O at hO hrg
  generalize bfs m.c W 1 = F1 at cT1 hb1 hO
  generalize bfs m.c W 2 = F2 at cT2 hb2 hO
  generalize isl m.c W = L at hO hin hne hil cP
  clear hrg
  obtain ⟨mw, mh, c⟩ := m
  dsimp only at *
  subst hw
  show VC Tryz.prog 65 [.agg [I W, I mh, ints c]] h _ h
  refine VC.bodyC 4 Tryz.func65 rfl Tryz.ntmps65 Tryz.call65 (h.grows_refl) rfl ?_
  conv => whnf
  repeat' (first | ((first | refine zs1 ?_ | refine zs2 ?_ | refine zs3 ?_ | refine zs4 ?_ | refine zs5 ?_); conv => whnf) | ((first | apply zi1 | apply zi2 | apply zi3 | apply zi4 | apply zi5) <;> intro _ <;> conv => whnf))
  refine zs6 [(2, 3)] ?_
  conv => whnf
  repeat' (first | ((first | refine zs1 ?_ | refine zs2 ?_ | refine zs3 ?_ | refine zs4 ?_ | refine zs5 ?_); conv => whnf) | ((first | apply zi1 | apply zi2 | apply zi3 | apply zi4 | apply zi5) <;> intro _ <;> conv => whnf) | (refine VCall.intro (cT1 _) ?_; conv => whnf) | (refine VCall.intro (cT2 _) ?_; conv => whnf) | (refine VCall.intro (cP _) ?_; conv => whnf))
  refine VCut.at' (outer := h.lift) (marks := []) 99 [(4, ints F1), (5, ints F2), (6, intss (natLL L)), (7, .nilslice)] [] ?_ ?_
  · conv => whnf
    refine Retell.turn ⟨[], 1, [(0, [DI W, DI mh, dints c])], []⟩ (TurnOk.mk' _ _ [(0, [DI W, DI mh, dints c])] [] (OutOk.lift _) rfl (by decide) zb zf trivial rfl) zw zm
  conv => whnf
  repeat' (first | ((first | refine zs1 ?_ | refine zs2 ?_ | refine zs3 ?_ | refine zs4 ?_ | refine zs5 ?_); conv => whnf) | ((first | apply zi1 | apply zi2 | apply zi3 | apply zi4 | apply zi5) <;> intro _ <;> conv => whnf))
  have hOl : O.length = L.length := by rw [hO, List.length_map]
  have hSl : (shL L O O).length = L.length := shL_len hOl hOl
  have hSat := fun i hi => shL_at (L := L) (O := O) (own := O) (i := i) hOl hOl hi
  have hLl : (natLL L).length = L.length := by unfold natLL; rw [List.length_map]
  refine VCode.lpC (outer := h.lift) (marks := []) 99 (fun y : Nat × List (Int × Int) => [(4, ints F1), (5, ints F2), (6, intss (natLL L)), (7, .gl (.loc 2) 3 y.1), (8, .ptr (.loc 0) 0), (29, intss (natLL L)), (30, I L.length), (31, I y.1)]) (fun y => [.cells true [.map (.loc 1)], .map (esM y.2), .flat true (((shL L O O).take y.1).flatMap encSh)]) (fun y => y.1 ≤ L.length ∧ ∀ j, mget y.2 j = many j (O.take y.1)) (fun y => L.length - y.1) (0, []) ⟨Nat.zero_le _, fun j => rfl⟩ ?_ ?_
  · rw [← hLl]
    conv => whnf
    refine Retell.turn ⟨[1,0,2], 2, [], []⟩ (TurnOk.mk' _ _ [] [] (OutOk.lift _) rfl (by decide) zb trivial trivial rfl) zw zm
  · rintro ⟨k, a⟩ ⟨y1, y2⟩
    dsimp only at y1 y2
    rcases Nat.lt_or_ge k L.length with hk | hk
    · have hlk : L[k]? = some (L.getD k []) := by rw [List.getD_eq_getElem?_getD, List.getElem?_eq_getElem hk]; rfl
      have hmem : L.getD k [] ∈ L := List.mem_of_getElem? hlk
      have hSk := hSat k hk
      have hok : at0 O k = ownr (lowT F1 (L.getD k [])) (lowT F2 (L.getD k [])) := by
        rw [hO]
        unfold at0
        rw [List.getD_eq_getElem?_getD, List.getElem?_map, hlk]; rfl
      have hnk : (natLL L)[k]? = some (natI (L.getD k [])) := by unfold natLL; rw [List.getElem?_map, hlk]; rfl
      have hin := hin _ hmem
      have hne := hne _ hmem
      have hsnoc : (shL L O O).take (k + 1) = (shL L O O).take k ++ [⟨(((L.getD k []).headD 0 : Nat) : Int), at0 O k, decide (at0 O k = 1 ∨ at0 O k = 2)⟩] := by rw [List.take_add_one, hSk]; rfl
      have hmsnoc : ∀ j, many j (O.take (k + 1)) = many j (O.take k) + (if at0 O k = j then 1 else 0) := fun j => by
        rw [List.take_add_one, at0_get (l := O) (n := k) (by omega)]
        exact many_snoc j _ _
      have hnat := fun i hi => natI_at (ks := L.getD k []) (i := i) hi
      have hnl := natI_len (L.getD k [])
      have hhead : (L.getD k []).headD 0 = (L.getD k []).getD 0 0 := by cases L.getD k [] <;> rfl
      rw [hhead] at hsnoc
      clear hlk hmem hSk
      generalize L.getD k [] = l at *
      generalize natI l = nl at *
      have hmb := many_bd (at0 O k) (O.take k)
      rw [List.length_take] at hmb
      conv => whnf
      repeat' (first | ((first | refine zs1 ?_ | refine zs2 ?_ | refine zs3 ?_ | refine zs4 ?_ | refine zs5 ?_); conv => whnf) | ((first | apply zi1 | apply zi2 | apply zi3 | apply zi4 | apply zi5) <;> intro _ <;> first | (exfalso; omega) | contradiction | (conv => whnf)) | (refine VAny.ix encL_len k (by omega) (by omega) hnk ?_; conv => whnf))
      refine VCode.lpC (outer := h.lift) (marks := []) 99 (fun j : Nat => [(4, ints F1), (5, ints F2), (6, intss (natLL L)), (7, .gl (.loc 2) 3 k), (8, .ptr (.loc 0) 0), (29, intss (natLL L)), (30, I L.length), (31, I k), (10, ints nl), (11, I (lowT F1 (l.take j))), (12, I (lowT F2 (l.take j))), (35, ints nl), (36, I l.length), (37, I j)]) (fun j => [.cells true [.map (.loc 1)], .map (esM a), .flat true (((shL L O O).take k).flatMap encSh)]) (fun j => j ≤ l.length) (fun j => l.length - j) 0 (Nat.zero_le _) ?_ ?_
      · rw [← hnl]
        conv => whnf
        refine Retell.turn ⟨[0,1,2], 3, [], []⟩ (TurnOk.mk' _ _ [] [] (OutOk.lift _) rfl (by decide) zb trivial trivial rfl) zw zm
      · rintro j hj
        rcases Nat.lt_or_ge j l.length with hjl | hjl
        · have hn := hnat j hjl
          have hnc : l.getD j 0 < c.length := by
            refine hin _ ?_
            rw [List.getD_eq_getElem?_getD, List.getElem?_eq_getElem hjl]
            exact List.getElem_mem hjl
          have htk : l.take (j + 1) = l.take j ++ [l.getD j 0] := by
            rw [List.take_add_one, List.getD_eq_getElem?_getD, List.getElem?_eq_getElem hjl]; rfl
          have hl1 := lowT_step F1 (l.take j) (l.getD j 0)
          have hl2 := lowT_step F2 (l.take j) (l.getD j 0)
          rw [← htk] at hl1 hl2
          have hf1 := at0_get (l := F1) (n := l.getD j 0) (by omega)
          have hf2 := at0_get (l := F2) (n := l.getD j 0) (by omega)
          generalize l.getD j 0 = n at *
          generalize at0 F1 n = u at *
          generalize at0 F2 n = v at *
          generalize lowT F1 (l.take j) = p at *
          generalize lowT F2 (l.take j) = q at *
          have cL1 := fun h => vc_least [p, u] h (by simp)
          have cL2 := fun h => vc_least [q, v] h (by simp)
          rw [ls1_least] at cL1 cL2
          rw [← hl1] at cL1
          rw [← hl2] at cL2
          conv => whnf
          repeat' (first | ((first | refine zs1 ?_ | refine zs2 ?_ | refine zs3 ?_ | refine zs4 ?_ | refine zs5 ?_); conv => whnf) | ((first | apply zi1 | apply zi2 | apply zi3 | apply zi4 | apply zi5) <;> intro _ <;> conv => whnf) | (refine VAny.ix encI_len j rfl (by omega) hn ?_; conv => whnf))
          all_goals try (exfalso; omega)
          refine zs6 [(6, 11)] ?_
          conv => whnf
          repeat' (first | ((first | refine zs1 ?_ | refine zs2 ?_ | refine zs3 ?_ | refine zs4 ?_ | refine zs5 ?_); conv => whnf) | ((first | apply zi1 | apply zi2 | apply zi3 | apply zi4 | apply zi5) <;> intro _ <;> conv => whnf) | (refine VAny.ix encI_len n rfl (by omega) hf1 ?_; conv => whnf))
          refine VCall.intro (VC.give (args' := [ints [p, u]]) (loc' := [.cells true [.map (.loc 1)], .map (esM a), .flat true (((shL L O O).take k).flatMap encSh), .dead]) [(3, [p, u].flatMap Vm.encI)] [] (OutOk.lift _) zb zf (by exact FmAll.nil) rfl zw (cL1 _)) ?_
          conv => whnf
          repeat' (first | ((first | refine zs1 ?_ | refine zs2 ?_ | refine zs3 ?_ | refine zs4 ?_ | refine zs5 ?_); conv => whnf) | ((first | apply zi1 | apply zi2 | apply zi3 | apply zi4 | apply zi5) <;> intro _ <;> conv => whnf) | (refine VAny.ix encI_len n rfl (by omega) hf2 ?_; conv => whnf))
          refine VCall.intro (VC.give (args' := [ints [q, v]]) (loc' := [.cells true [.map (.loc 1)], .map (esM a), .flat true (((shL L O O).take k).flatMap encSh), .dead, .dead]) [(4, [q, v].flatMap Vm.encI)] [] (OutOk.lift _) zb zf (by exact FmAll.nil) rfl zw (cL2 _)) ?_
          conv => whnf
          repeat' (first | ((first | refine zs1 ?_ | refine zs2 ?_ | refine zs3 ?_ | refine zs4 ?_ | refine zs5 ?_); conv => whnf) | ((first | apply zi1 | apply zi2 | apply zi3 | apply zi4 | apply zi5) <;> intro _ <;> conv => whnf))
          refine LEnd.intro (j + 1) (by omega) (by omega) ?_
          generalize lowT F1 (l.take (j + 1)) = p2
          generalize lowT F2 (l.take (j + 1)) = q2
          conv => whnf
          refine Retell.turn ⟨[0,1,2], 5, [], []⟩ (TurnOk.mk' _ _ [] [] (OutOk.lift _) rfl (by decide) zb trivial trivial rfl) zw zm
        · obtain rfl : j = l.length := by omega
          rw [List.take_of_length_le (Nat.le_refl _)]
          have hn := hnat 0 hne.1
          have cN := fun h => vc_nearer (lowT F1 l) (lowT F2 l) h
          rw [← hok] at cN
          have hbd := ownr_bd (lowT F1 l) (lowT F2 l)
          rw [← hok] at hbd
          generalize lowT F1 l = p at *
          generalize lowT F2 l = q at *
          generalize at0 O k = w at *
          generalize l.getD 0 0 = n0 at *
          have hlk := look_esM a w
          rw [y2] at hlk
          have hmp := mget_put a w (many w (O.take k) + 1)
          obtain ⟨cw, hcw⟩ : ∃ cw, cw = many w (O.take k) := ⟨_, rfl⟩
          rw [← hcw] at hlk hmp hmb
          have hst : ((shL L O O).take k).length = k := by rw [List.length_take]; omega
          conv => whnf
          repeat' (first | ((first | refine zs1 ?_ | refine zs2 ?_ | refine zs3 ?_ | refine zs4 ?_ | refine zs5 ?_); conv => whnf) | ((first | apply zi1 | apply zi2 | apply zi3 | apply zi4 | apply zi5) <;> intro _ <;> conv => whnf))
          all_goals try (exfalso; omega)
          refine zs6 [(2, 5)] ?_
          conv => whnf
          repeat' (first | ((first | refine zs1 ?_ | refine zs2 ?_ | refine zs3 ?_ | refine zs4 ?_ | refine zs5 ?_); conv => whnf) | ((first | apply zi1 | apply zi2 | apply zi3 | apply zi4 | apply zi5) <;> intro _ <;> conv => whnf) | (refine VAny.ix encI_len 0 rfl (by omega) hn ?_; conv => whnf) | (refine VCall.intro (cN _) ?_; conv => whnf))
          refine zs6 [] ?_
          conv => whnf
          repeat' (first | ((first | refine zs1 ?_ | refine zs2 ?_ | refine zs3 ?_ | refine zs4 ?_ | refine zs5 ?_); conv => whnf) | ((first | apply zi1 | apply zi2 | apply zi3 | apply zi4 | apply zi5) <;> intro _ <;> conv => whnf) | (refine VAny.ix encI_len 0 rfl (by omega) hn ?_; conv => whnf) | (refine VAgg.intro (vneSh _ _ _ _ _ _) ?_; conv => whnf))
          · have hnr : decide (w = 1 ∨ w = 2) = (w != 3) := by
              rename_i hh
              rw [Bool.eq_iff_iff]
              simp at hh ⊢
              omega
            rw [hnr] at hsnoc
            refine VLook.intro rfl hlk ?_
            conv => whnf
            repeat' (first | ((first | refine zs1 ?_ | refine zs2 ?_ | refine zs3 ?_ | refine zs4 ?_ | refine zs5 ?_); conv => whnf) | ((first | apply zi1 | apply zi2 | apply zi3 | apply zi4 | apply zi5) <;> intro _ <;> conv => whnf))
            refine VMem.putM rfl ?_
            conv => whnf
            repeat' (first | ((first | refine zs1 ?_ | refine zs2 ?_ | refine zs3 ?_ | refine zs4 ?_ | refine zs5 ?_); conv => whnf) | ((first | apply zi1 | apply zi2 | apply zi3 | apply zi4 | apply zi5) <;> intro _ <;> conv => whnf))
            refine VMem.app1 (l := (shL L O O).take k) ⟨(n0 : Int), w, (w != 3)⟩ encSh_len rfl rfl rfl hst.symm rfl (by omega) ?_
            rw [← hsnoc]
            conv => whnf
            repeat' (first | ((first | refine zs1 ?_ | refine zs2 ?_ | refine zs3 ?_ | refine zs4 ?_ | refine zs5 ?_); conv => whnf) | ((first | apply zi1 | apply zi2 | apply zi3 | apply zi4 | apply zi5) <;> intro _ <;> conv => whnf))
            refine LEnd.intro (k + 1, mput a w (cw + 1)) ⟨by dsimp only; omega, fun j => ?_⟩ (by dsimp only; omega) ?_
            · dsimp only
              rw [hmp, y2, hmsnoc]
              by_cases hjw : j = w
              · subst hjw; rw [if_pos rfl, if_pos rfl, hcw]
              · have hjw2 : ¬ w = j := fun e => hjw e.symm
                rw [if_neg hjw, if_neg hjw2]; omega
            · generalize mput a w (cw + 1) = a2
              generalize (shL L O O).take (k + 1) = S2
              conv => whnf
              refine Retell.turn ⟨[0,1,5], 6, [], []⟩ (TurnOk.mk' _ _ [] [] (OutOk.lift _) rfl (by decide) zb trivial trivial rfl) zw zm
          · have hnr : decide (w = 1 ∨ w = 2) = false := by
              rename_i hh
              rw [Bool.eq_iff_iff]
              simp at hh ⊢
              omega
            rw [hnr] at hsnoc
            refine VLook.intro rfl hlk ?_
            conv => whnf
            repeat' (first | ((first | refine zs1 ?_ | refine zs2 ?_ | refine zs3 ?_ | refine zs4 ?_ | refine zs5 ?_); conv => whnf) | ((first | apply zi1 | apply zi2 | apply zi3 | apply zi4 | apply zi5) <;> intro _ <;> conv => whnf))
            refine VMem.putM rfl ?_
            conv => whnf
            repeat' (first | ((first | refine zs1 ?_ | refine zs2 ?_ | refine zs3 ?_ | refine zs4 ?_ | refine zs5 ?_); conv => whnf) | ((first | apply zi1 | apply zi2 | apply zi3 | apply zi4 | apply zi5) <;> intro _ <;> conv => whnf))
            refine VMem.app1 (l := (shL L O O).take k) ⟨(n0 : Int), w, false⟩ encSh_len rfl rfl rfl hst.symm rfl (by omega) ?_
            rw [← hsnoc]
            conv => whnf
            repeat' (first | ((first | refine zs1 ?_ | refine zs2 ?_ | refine zs3 ?_ | refine zs4 ?_ | refine zs5 ?_); conv => whnf) | ((first | apply zi1 | apply zi2 | apply zi3 | apply zi4 | apply zi5) <;> intro _ <;> conv => whnf))
            refine LEnd.intro (k + 1, mput a w (cw + 1)) ⟨by dsimp only; omega, fun j => ?_⟩ (by dsimp only; omega) ?_
            · dsimp only
              rw [hmp, y2, hmsnoc]
              by_cases hjw : j = w
              · subst hjw; rw [if_pos rfl, if_pos rfl, hcw]
              · have hjw2 : ¬ w = j := fun e => hjw e.symm
                rw [if_neg hjw, if_neg hjw2]; omega
            · generalize mput a w (cw + 1) = a2
              generalize (shL L O O).take (k + 1) = S2
              conv => whnf
              refine Retell.turn ⟨[0,1,5], 6, [], []⟩ (TurnOk.mk' _ _ [] [] (OutOk.lift _) rfl (by decide) zb trivial trivial rfl) zw zm
    · obtain rfl : k = L.length := by omega
      rw [List.take_of_length_le (by omega)] at y2
      have hOb : ∀ i, 0 ≤ at0 O i + 1 := fun i => by
        rcases Nat.lt_or_ge i L.length with hi | hi
        · have hok : at0 O i = ownr (lowT F1 (L.getD i [])) (lowT F2 (L.getD i [])) := by
            rw [hO]
            unfold at0
            rw [List.getD_eq_getElem?_getD, List.getElem?_map, List.getD_eq_getElem?_getD, List.getElem?_eq_getElem hi]; rfl
          have := ownr_bd (lowT F1 (L.getD i [])) (lowT F2 (L.getD i []))
          omega
        · rw [at0_out (by omega)]; omega
      have hrl := rgK_len O
      have hrs := rgK_step O
      rw [hOl] at hrl ⊢
      conv => whnf
      repeat' (first | ((first | refine zs1 ?_ | refine zs2 ?_ | refine zs3 ?_ | refine zs4 ?_ | refine zs5 ?_); conv => whnf) | ((first | apply zi1 | apply zi2 | apply zi3 | apply zi4 | apply zi5) <;> intro _ <;> first | (exfalso; omega) | contradiction | (conv => whnf)))
      refine VCode.lpC (outer := h.lift) (marks := []) 99 (fun y : Nat × List (Int × Int) => [(6, intss (natLL L)), (7, .gl (.loc 2) 3 L.length), (8, .ptr (.loc 0) 0), (16, .ptr (.loc 3) 0), (88, I L.length), (89, I y.1)]) (fun y => [.cells true [.map (.loc 1)], .map (esM y.2), .flat true ((shL L O (rgK O y.1)).flatMap encSh), .cells true [.func (.func 84) [] [.ptr (.loc 0) 0]]]) (fun y => y.1 ≤ L.length ∧ (mget y.2 1 = many 1 (rgK O y.1) ∧ mget y.2 2 = many 2 (rgK O y.1))) (fun y => L.length - y.1) (0, a) ⟨Nat.zero_le _, y2 1, y2 2⟩ ?_ ?_
      · rw [show rgK O 0 = O from rfl, List.take_of_length_le (by omega)]
        conv => whnf
        refine Retell.turn ⟨[0,1,2,3], 4, [], []⟩ (TurnOk.mk' _ _ [] [] (OutOk.lift _) rfl (by decide) zb trivial trivial rfl) zw zm
      · rintro ⟨i, a⟩ ⟨z1, z2, z3⟩
        dsimp only at z1 z2 z3
        rcases Nat.lt_or_ge i L.length with hi | hi
        · have hri := hrl i
          have hSi := shL_at (L := L) (O := O) (own := rgK O i) (i := i) hOl hri hi
          have hset := fun v => shL_set (L := L) (O := O) (own := rgK O i) (i := i) v hOl hri hSi
          have hms := fun k v h3 hk => many_set (l := rgK O i) (i := i) (k := k) (v := v) (by omega) h3 hk
          have hb1 := many_bd 1 (rgK O i)
          have hb2 := many_bd 2 (rgK O i)
          have hrs := hrs i
          unfold rg1 at hrs
          have hgv := fun h => vc_given a (.loc 0) (.loc 1) h
          rw [z2, z3] at hgv
          generalize rgK O i = U at *
          obtain ⟨r, hr⟩ : ∃ r, r = at0 U i := ⟨_, rfl⟩
          rw [← hr] at hSi hrs hms hset
          generalize (((L.getD i []).headD 0 : Nat) : Int) = f at hSi hset
          generalize decide (at0 O i = 1 ∨ at0 O i = 2) = nr at hSi hset
          by_cases hr3 : r = 3
          · rw [if_pos hr3] at hrs
            obtain ⟨v, hv⟩ : ∃ v : Int, v = (if many 2 U < many 1 U then 2 else 1) := ⟨_, rfl⟩
            rw [← hv] at hrs hgv
            have hv12 : v = 1 ∨ v = 2 := by rw [hv]; split <;> omega
            have hset := hset v
            rw [← hrs] at hset
            have hm1 := hms 1 v hr3 (by decide)
            have hm2 := hms 2 v hr3 (by decide)
            rw [← hrs] at hm1 hm2
            have hlk := look_esM a v
            have hmp := mget_put a v (mget a v + 1)
            have hmv : mget a v = many v U := by rcases hv12 with h | h <;> rw [h] <;> assumption
            have hmb : 0 ≤ mget a v ∧ mget a v ≤ U.length := by rw [hmv]; exact many_bd v U
            have hl2 : ((shL L O U).set i ⟨f, v, nr⟩)[i]? = some ⟨f, v, nr⟩ := List.getElem?_set_self (List.getElem?_eq_some_iff.1 hSi).1
            clear hms hv
            obtain ⟨cv, hcv⟩ : ∃ cv, cv = mget a v := ⟨_, rfl⟩
            rw [← hcv] at hlk hmp hmb hmv
            obtain ⟨S2, hS2⟩ : ∃ S, S = shL L O (rgK O (i + 1)) := ⟨_, rfl⟩
            rw [← hS2] at hset
            generalize shL L O U = S1 at *
            conv => whnf
            repeat' (first | ((first | refine zs1 ?_ | refine zs2 ?_ | refine zs3 ?_ | refine zs4 ?_ | refine zs5 ?_); conv => whnf) | ((first | apply zi1 | apply zi2 | apply zi3 | apply zi4 | apply zi5) <;> intro _ <;> conv => whnf) | (refine VLd.recc (d := DI r) encSh_len i 1 rfl rfl rfl hSi (by decide) rfl (by simp) ?_; conv => whnf) | (refine VCall.intro (hgv _ rfl rfl) ?_; conv => whnf))
            all_goals try (exfalso; omega)
            refine VMem.setRec encSh_len i 1 ⟨f, v, nr⟩ rfl rfl rfl hSi (by decide) rfl (by simp) ?_
            conv => whnf
            repeat' (first | ((first | refine zs1 ?_ | refine zs2 ?_ | refine zs3 ?_ | refine zs4 ?_ | refine zs5 ?_); conv => whnf) | ((first | apply zi1 | apply zi2 | apply zi3 | apply zi4 | apply zi5) <;> intro _ <;> conv => whnf))
            refine zs6 [] ?_
            conv => whnf
            repeat' (first | ((first | refine zs1 ?_ | refine zs2 ?_ | refine zs3 ?_ | refine zs4 ?_ | refine zs5 ?_); conv => whnf) | ((first | apply zi1 | apply zi2 | apply zi3 | apply zi4 | apply zi5) <;> intro _ <;> conv => whnf) | (refine VLd.recc (d := DI v) encSh_len i 1 rfl rfl rfl hl2 (by decide) rfl (by simp) ?_; conv => whnf) | (refine VLook.intro rfl hlk ?_; conv => whnf))
            refine VMem.putM rfl ?_
            rw [← hset]
            conv => whnf
            repeat' (first | ((first | refine zs1 ?_ | refine zs2 ?_ | refine zs3 ?_ | refine zs4 ?_ | refine zs5 ?_); conv => whnf) | ((first | apply zi1 | apply zi2 | apply zi3 | apply zi4 | apply zi5) <;> intro _ <;> conv => whnf))
            refine LEnd.intro (i + 1, mput a v (cv + 1)) ⟨by dsimp only; omega, ?_, ?_⟩ (by dsimp only; omega) ?_
            · dsimp only
              rw [hmp, hm1]
              rcases hv12 with hv1 | hv1
              · rw [hv1] at hmv ⊢
                rw [if_pos rfl, if_pos rfl, hmv]
              · rw [hv1]
                rw [if_neg (by decide), if_neg (by decide), z2]; omega
            · dsimp only
              rw [hmp, hm2]
              rcases hv12 with hv1 | hv1
              · rw [hv1]
                rw [if_neg (by decide), if_neg (by decide), z3]; omega
              · rw [hv1] at hmv ⊢
                rw [if_pos rfl, if_pos rfl, hmv]
            · generalize mput a v (cv + 1) = a2
              dsimp only
              rw [hS2]
              conv => whnf
              refine Retell.turn ⟨[0,1,2,3], 4, [], []⟩ (TurnOk.mk' _ _ [] [] (OutOk.lift _) rfl (by decide) zb trivial trivial rfl) zw zm
          · rw [if_neg hr3] at hrs
            conv => whnf
            repeat' (first | ((first | refine zs1 ?_ | refine zs2 ?_ | refine zs3 ?_ | refine zs4 ?_ | refine zs5 ?_); conv => whnf) | ((first | apply zi1 | apply zi2 | apply zi3 | apply zi4 | apply zi5) <;> intro _ <;> first | (exfalso; omega) | contradiction | (conv => whnf)) | (refine VLd.recc (d := DI r) encSh_len i 1 rfl rfl rfl hSi (by decide) rfl (by simp) ?_; conv => whnf))
            refine LEnd.intro (i + 1, a) ⟨by dsimp only; omega, by dsimp only; rw [hrs]; exact z2, by dsimp only; rw [hrs]; exact z3⟩ (by dsimp only; omega) ?_
            dsimp only
            rw [hrs]
            conv => whnf
            refine Retell.turn ⟨[0,1,2,3], 4, [], []⟩ (TurnOk.mk' _ _ [] [] (OutOk.lift _) rfl (by decide) zb trivial trivial rfl) zw zm
        · obtain rfl : i = L.length := by omega
          have hRl : (shL L O (rgK O L.length)).length = L.length := shL_len hOl (hrl _)
          generalize shL L O (rgK O L.length) = S at *
          rw [show shs S = .fs 3 L.length (S.flatMap encSh) by unfold shs; rw [hRl]]
          have hRf : (S.flatMap encSh).length = L.length * 3 := by rw [flat_len encSh_len, hRl]
          conv => whnf
          repeat' (first | ((first | refine zs1 ?_ | refine zs2 ?_ | refine zs3 ?_ | refine zs4 ?_ | refine zs5 ?_); conv => whnf) | ((first | apply zi1 | apply zi2 | apply zi3 | apply zi4 | apply zi5) <;> intro _ <;> first | (exfalso; omega) | contradiction | (conv => whnf)))
          refine VOut.data 4 [(2, S.flatMap encSh)] [] rfl zf (by exact FmAll.nil) zw
end Go.Proofs.YtajnkenbhmkjaaaGreat

open Go.Vm
open Riv
namespace Go.Proofs.YtajnkenbhmkjaaaGreat
set_option maxRecDepth 20000
set_option maxHeartbeats 4000000

def owS (c F1 F2 : List Int) (out : List Int) (n : Nat) : List Int := if at0 c n = 0 then out.set n (ownr (at0 F1 n) (at0 F2 n)) else out
def owK (c F1 F2 : List Int) (k : Nat) : List Int := (List.range k).foldl (owS c F1 F2) c
theorem owK_step (c F1 F2 : List Int) (k : Nat) : owK c F1 F2 (k + 1) = owS c F1 F2 (owK c F1 F2 k) k := by unfold owK; rw [List.range_succ, List.foldl_append]; rfl
theorem owK_len (c F1 F2 : List Int) (k : Nat) : (owK c F1 F2 k).length = c.length := fold_len (fun T n => by unfold owS; split <;> simp) _ _
theorem owK_at (c F1 F2 : List Int) : ∀ k j, j < c.length → at0 (owK c F1 F2 k) j = if j < k ∧ at0 c j = 0 then ownr (at0 F1 j) (at0 F2 j) else at0 c j
  | 0, j, _ => by rw [if_neg (by omega)]; rfl
  | k + 1, j, hj => by
    have ih := owK_at c F1 F2 k j hj
    have hl := owK_len c F1 F2 k
    rw [owK_step]
    generalize owK c F1 F2 k = U at *
    unfold owS
    by_cases h0 : at0 c k = 0
    · rw [if_pos h0]
      by_cases hk : k < c.length
      · rw [at0_set (by omega)]
        by_cases e : j = k
        · subst e; rw [if_pos rfl, if_pos ⟨by omega, h0⟩]
        · rw [if_neg e, ih]
          have : (j < k ∧ at0 c j = 0) ↔ (j < k + 1 ∧ at0 c j = 0) := by omega
          simp only [this]
      · rw [List.set_eq_of_length_le (by omega), ih]
        have : (j < k ∧ at0 c j = 0) ↔ (j < k + 1 ∧ at0 c j = 0) := by omega
        simp only [this]
    · rw [if_neg h0, ih]
      have : (j < k ∧ at0 c j = 0) ↔ (j < k + 1 ∧ at0 c j = 0) := by
        constructor
        · intro h; exact ⟨by omega, h.2⟩
        · intro h
          refine ⟨?_, h.2⟩
          rcases Nat.lt_or_ge j k with h1 | h1
          · exact h1
          · have : j = k := by omega
            subst this; exact absurd h.2 h0
      simp only [this]
theorem owK_all (c : List Int) (W : Nat) : owK c (bfs c W 1) (bfs c W 2) c.length = ownW c W := by
  have hl := owK_len c (bfs c W 1) (bfs c W 2) c.length
  refine ext0 (by rw [hl, ownW_len]) fun n hn => ?_
  rw [hl] at hn
  rw [owK_at c _ _ _ n hn, at0_ownW hn]
  by_cases h0 : at0 c n = 0
  · rw [if_pos ⟨hn, h0⟩, if_pos h0]
  · rw [if_neg (fun h => h0 h.2), if_neg h0]
def ostK (L : List (List Nat)) (G base : List Int) (i : Nat) : List Int := ((L.zip G).take i).foldl (fun out x => setAll out x.1 x.2) base
theorem ostK_step {L : List (List Nat)} {G base : List Int} {i : Nat} (hG : G.length = L.length) (hi : i < L.length) : ostK L G base (i + 1) = setAll (ostK L G base i) (L.getD i []) (at0 G i) := by
  have h1 : (L.zip G)[i]? = some (L.getD i [], at0 G i) := by
    unfold at0
    rw [List.zip, List.getElem?_zipWith, List.getElem?_eq_getElem hi, List.getElem?_eq_getElem (show i < G.length by omega), List.getD_eq_getElem?_getD, List.getElem?_eq_getElem hi, List.getD_eq_getElem?_getD, List.getElem?_eq_getElem (show i < G.length by omega)]
    rfl
  unfold ostK
  rw [List.take_add_one, h1, List.foldl_append]; rfl
theorem ostK_len (L : List (List Nat)) (G base : List Int) (i : Nat) : (ostK L G base i).length = base.length := fold_set_len _ _
theorem ostK_all {c : List Int} {W : Nat} (hG : (ownI c W).length = (isl c W).length) : ostK (isl c W) (ownI c W) (ownW c W) (isl c W).length = owns c W := by
  unfold ostK owns
  rw [List.take_of_length_le (by rw [List.length_zip]; omega)]
theorem setAll_step (out : List Int) (l : List Nat) (o : Int) (n : Nat) : setAll out (l ++ [n]) o = (setAll out l o).set n o := by unfold setAll; rw [List.foldl_append]; rfl
theorem vc_cloneI (l : List Int) (h : Hp) (h0 : 0 < l.length) (hl : l.length ≤ 4000000) : VC Tryz.prog 19 [ints l] h (.gl h.fresh 1 l.length) (h.push (.flat true (l.flatMap Vm.encI))) := by
  refine VC.body Tryz.func19 rfl Tryz.ntmps19 Tryz.call19 (h.grows_push _) rfl ?_; conv => whnf
  repeat' (first | ((first | refine zs1 ?_ | refine zs2 ?_ | refine zs3 ?_ | refine zs4 ?_ | refine zs5 ?_); conv => whnf) | ((first | apply zi1 | apply zi2 | apply zi3 | apply zi4 | apply zi5) <;> intro _ <;> conv => whnf))
  refine VMem.appN (l := ([] : List Int)) Vm.encI_len rfl rfl rfl rfl rfl (by show 0 + l.length ≤ _; omega) ?_
  conv => whnf
  repeat' (first | ((first | refine zs1 ?_ | refine zs2 ?_ | refine zs3 ?_ | refine zs4 ?_ | refine zs5 ?_); conv => whnf) | ((first | apply zi1 | apply zi2 | apply zi3 | apply zi4 | apply zi5) <;> intro _ <;> conv => whnf))
  show VOut h _ (.gl (.loc 1) 1 (0 + l.length)) _ _
  rw [Nat.zero_add]
  exact VOut.own1 (h := h) (loc := [.dead, .flat true (l.flatMap Vm.encI)]) (ds := l.flatMap Vm.encI) 1 2 rfl rfl
theorem vc_owners {W H : Nat} (m : Mp) (h : Hp) (o : MOk W H m.c) (hw : m.w = W) : VC Tryz.prog 41 [vM m] h (ints (owns m.c W)) h := by
  have hWb := o.w
  have hHb := o.h
  have hL := o.len
  have hm144 := MOk.le o
  have hpos : 0 < m.c.length := by rw [hL]; exact Nat.mul_pos (by omega) (by omega)
  have cT1 := fun h => vc_table m 1 h o hw (.inl rfl)
  have cT2 := fun h => vc_table m 2 h o hw (.inr rfl)
  have cI := fun h => vc_islands m h o hw
  have hb1 : (bfs m.c W 1).length = m.c.length := bfsK_len _ _ _ _
  have hb2 : (bfs m.c W 2).length = m.c.length := bfsK_len _ _ _ _
  have hin := isl_in (c := m.c) (W := W) (by omega) hL (by omega)
  have hne := fun l hl => isl_ne (c := m.c) (W := W) (l := l) (by omega) hL (by omega) hl
  have hol := ownI_len (c := m.c) (W := W) (by omega) hL (by omega)
  have hGl : (ownI m.c W).length = (isl m.c W).length ∧ (own0 m.c W).length = (isl m.c W).length := by
    have : (own0 m.c W).length = (isl m.c W).length := by unfold own0; rw [List.length_map]
    omega
  have hE := ostK_all (c := m.c) (W := W) hGl.1
  have hW1 := owK_all m.c W
  rw [← hE]
  have hSh : ∀ i, i < (isl m.c W).length → (shr m.c W)[i]? = some ⟨((((isl m.c W).getD i []).headD 0 : Nat) : Int), at0 (ownI m.c W) i, decide (at0 (own0 m.c W) i = 1 ∨ at0 (own0 m.c W) i = 2)⟩ := fun i hi => by rw [shr_shL]; exact shL_at hGl.2 hGl.1 hi
  have hShl : (shr m.c W).length = (isl m.c W).length := by rw [shr_shL]; exact shL_len hGl.2 hGl.1
  have hil := isl_len (c := m.c) (W := W) (by omega) hL
  have hos := fun i hi => ostK_step (L := isl m.c W) (G := ownI m.c W) (base := ownW m.c W) (i := i) hGl.1 hi
  have hot := ostK_len (isl m.c W) (ownI m.c W) (ownW m.c W)
  have h0s : ostK (isl m.c W) (ownI m.c W) (ownW m.c W) 0 = ownW m.c W := rfl
  rw [ownW_len] at hot
  rw [← hW1] at hot hos h0s ⊢
  generalize shr m.c W = S at *
  generalize ownI m.c W = G at *
  generalize own0 m.c W = O at *
  generalize isl m.c W = L at *
  have hks := owK_step m.c (bfs m.c W 1) (bfs m.c W 2)
  have hkl := owK_len m.c (bfs m.c W 1) (bfs m.c W 2)
  clear hE hW1
  generalize bfs m.c W 1 = F1 at *
  generalize bfs m.c W 2 = F2 at *
  obtain ⟨mw, mh, c⟩ := m
  dsimp only at *
  subst hw
  have hLl : (natLL L).length = L.length := by unfold natLL; rw [List.length_map]
  have cC := fun h => vc_cloneI c h hpos (by omega)
  show VC Tryz.prog 41 [.agg [I W, I mh, ints c]] h _ h
  refine VC.bodyC 2 Tryz.func41 rfl Tryz.ntmps41 Tryz.call41 (h.grows_refl) rfl ?_
  conv => whnf
  repeat' (first | ((first | refine zs1 ?_ | refine zs2 ?_ | refine zs3 ?_ | refine zs4 ?_ | refine zs5 ?_); conv => whnf) | ((first | apply zi1 | apply zi2 | apply zi3 | apply zi4 | apply zi5) <;> intro _ <;> conv => whnf))
  refine zs6 [(2, 3)] ?_
  conv => whnf
  repeat' (first | ((first | refine zs1 ?_ | refine zs2 ?_ | refine zs3 ?_ | refine zs4 ?_ | refine zs5 ?_); conv => whnf) | ((first | apply zi1 | apply zi2 | apply zi3 | apply zi4 | apply zi5) <;> intro _ <;> conv => whnf) | (refine VCall.intro (cT1 _) ?_; conv => whnf) | (refine VCall.intro (cT2 _) ?_; conv => whnf))
  refine VCut.at' (outer := h.lift) (marks := []) 99 [(1, .fp [DI W, DI mh, dints c]), (3, ints F1), (4, ints F2)] [] ?_ ?_
  · conv => whnf
    refine Retell.turn ⟨[], 1, [(0, [DI W, DI mh, dints c])], []⟩ (TurnOk.mk' _ _ [(0, [DI W, DI mh, dints c])] [] (OutOk.lift _) rfl (by decide) zb zf trivial rfl) zw zm
  conv => whnf
  repeat' (first | ((first | refine zs1 ?_ | refine zs2 ?_ | refine zs3 ?_ | refine zs4 ?_ | refine zs5 ?_); conv => whnf) | ((first | apply zi1 | apply zi2 | apply zi3 | apply zi4 | apply zi5) <;> intro _ <;> conv => whnf) | (refine VCall.intro (cC _) ?_; conv => whnf))
  refine VCode.lpC (outer := h.lift) (marks := []) 99 (fun k : Nat => [(1, .fp [DI W, DI mh, dints c]), (3, ints F1), (4, ints F2), (5, .gl (.loc 0) 1 c.length), (24, ints c), (25, I c.length), (26, I k)]) (fun k => [.flat true ((owK c F1 F2 k).flatMap Vm.encI)]) (fun k => k ≤ c.length) (fun k => c.length - k) 0 (Nat.zero_le _) ?_ ?_
  · rw [show owK c F1 F2 0 = c from rfl]
    conv => whnf
    refine Retell.turn ⟨[0], 1, [], []⟩ (TurnOk.mk' _ _ [] [] (OutOk.lift _) rfl (by decide) zb trivial trivial rfl) zw zm
  · rintro k hk
    rcases Nat.lt_or_ge k c.length with h3 | h3
    · have hx := at0_get h3
      have hf1 := at0_get (l := F1) (n := k) (by omega)
      have hf2 := at0_get (l := F2) (n := k) (by omega)
      have hks := hks k
      have hkl := hkl k
      generalize owK c F1 F2 k = U at *
      have hu := at0_get (l := U) (n := k) (by omega)
      unfold owS at hks
      have cN := fun h => vc_nearer (at0 F1 k) (at0 F2 k) h
      generalize at0 c k = x at *
      generalize at0 F1 k = u at *
      generalize at0 F2 k = v at *
      by_cases hx0 : x = 0
      · rw [if_pos hx0] at hks
        conv => whnf
        repeat' (first | ((first | refine zs1 ?_ | refine zs2 ?_ | refine zs3 ?_ | refine zs4 ?_ | refine zs5 ?_); conv => whnf) | ((first | apply zi1 | apply zi2 | apply zi3 | apply zi4 | apply zi5) <;> intro _ <;> conv => whnf) | (refine VAny.ix encI_len k rfl rfl hx ?_; conv => whnf))
        all_goals try (exfalso; omega)
        refine zs6 [] ?_
        conv => whnf
        repeat' (first | ((first | refine zs1 ?_ | refine zs2 ?_ | refine zs3 ?_ | refine zs4 ?_ | refine zs5 ?_); conv => whnf) | ((first | apply zi1 | apply zi2 | apply zi3 | apply zi4 | apply zi5) <;> intro _ <;> conv => whnf) | (refine VAny.ix encI_len k rfl (by omega) hf1 ?_; conv => whnf) | (refine VAny.ix encI_len k rfl (by omega) hf2 ?_; conv => whnf) | (refine VCall.intro (cN _) ?_; conv => whnf) | (refine VMem.setRec encI_len k 0 (ownr u v) rfl rfl rfl hu (by decide) rfl (ofs _) ?_; conv => whnf))
        refine LEnd.intro (k + 1) (by omega) (by omega) ?_
        rw [hks]
        conv => whnf
        refine Retell.turn ⟨[0], 1, [], []⟩ (TurnOk.mk' _ _ [] [] (OutOk.lift _) rfl (by decide) zb trivial trivial rfl) zw zm
      · rw [if_neg hx0] at hks
        conv => whnf
        repeat' (first | ((first | refine zs1 ?_ | refine zs2 ?_ | refine zs3 ?_ | refine zs4 ?_ | refine zs5 ?_); conv => whnf) | ((first | apply zi1 | apply zi2 | apply zi3 | apply zi4 | apply zi5) <;> intro _ <;> first | (exfalso; omega) | contradiction | (conv => whnf)) | (refine VAny.ix encI_len k rfl rfl hx ?_; conv => whnf))
        refine LEnd.intro (k + 1) (by omega) (by omega) ?_
        rw [hks]
        conv => whnf
        refine Retell.turn ⟨[0], 1, [], []⟩ (TurnOk.mk' _ _ [] [] (OutOk.lift _) rfl (by decide) zb trivial trivial rfl) zw zm
    · obtain rfl : k = c.length := by omega
      generalize owK c F1 F2 c.length = B0 at *
      conv => whnf
      repeat' (first | ((first | refine zs1 ?_ | refine zs2 ?_ | refine zs3 ?_ | refine zs4 ?_ | refine zs5 ?_); conv => whnf) | ((first | apply zi1 | apply zi2 | apply zi3 | apply zi4 | apply zi5) <;> intro _ <;> first | (exfalso; omega) | contradiction | (conv => whnf)) | (refine VCall.intro (cI _) ?_; conv => whnf))
      refine VCode.lpC (outer := h.lift) (marks := []) 99 (fun i : Nat => [(5, .gl (.loc 0) 1 c.length), (8, shs S), (9, intss (natLL L)), (51, intss (natLL L)), (52, I L.length), (53, I i)]) (fun i => [.flat true ((ostK L G B0 i).flatMap Vm.encI)]) (fun i => i ≤ L.length) (fun i => L.length - i) 0 (Nat.zero_le _) ?_ ?_
      · rw [← hLl, show ostK L G B0 0 = B0 from rfl]
        conv => whnf
        refine Retell.turn ⟨[0], 1, [], []⟩ (TurnOk.mk' _ _ [] [] (OutOk.lift _) rfl (by decide) zb trivial trivial rfl) zw zm
      · rintro i hi
        rcases Nat.lt_or_ge i L.length with h4 | h4
        · have hlk : L[i]? = some (L.getD i []) := by rw [List.getD_eq_getElem?_getD, List.getElem?_eq_getElem h4]; rfl
          have hmem : L.getD i [] ∈ L := List.mem_of_getElem? hlk
          have hnk : (natLL L)[i]? = some (natI (L.getD i [])) := by unfold natLL; rw [List.getElem?_map, hlk]; rfl
          have hin := hin _ hmem
          have hne := hne _ hmem
          have hos := hos i h4
          have hSi := hSh i h4
          have hot := hot i
          have hnat := fun j hj => natI_at (ks := L.getD i []) (i := j) hj
          have hnl := natI_len (L.getD i [])
          clear hlk hmem
          generalize L.getD i [] = l at *
          generalize natI l = nl at *
          generalize at0 G i = g at *
          generalize decide (at0 O i = 1 ∨ at0 O i = 2) = nr at *
          generalize ((l.headD 0 : Nat) : Int) = f at *
          generalize ostK L G B0 i = U at *
          conv => whnf
          repeat' (first | ((first | refine zs1 ?_ | refine zs2 ?_ | refine zs3 ?_ | refine zs4 ?_ | refine zs5 ?_); conv => whnf) | ((first | apply zi1 | apply zi2 | apply zi3 | apply zi4 | apply zi5) <;> intro _ <;> first | (exfalso; omega) | contradiction | (conv => whnf)) | (refine VAny.ix encL_len i (by omega) (by omega) hnk ?_; conv => whnf))
          refine VCode.lpC (outer := h.lift) (marks := []) 99 (fun j : Nat => [(5, .gl (.loc 0) 1 c.length), (8, shs S), (9, intss (natLL L)), (51, intss (natLL L)), (52, I L.length), (53, I i), (10, I i), (58, ints nl), (59, I l.length), (60, I j)]) (fun j => [.flat true ((setAll U (l.take j) g).flatMap Vm.encI)]) (fun j => j ≤ l.length) (fun j => l.length - j) 0 (Nat.zero_le _) ?_ ?_
          · rw [← hnl, show setAll U (l.take 0) g = U from rfl]
            conv => whnf
            refine Retell.turn ⟨[0], 1, [], []⟩ (TurnOk.mk' _ _ [] [] (OutOk.lift _) rfl (by decide) zb trivial trivial rfl) zw zm
          · rintro j hj
            rcases Nat.lt_or_ge j l.length with h5 | h5
            · have hn := hnat j h5
              have hnc : l.getD j 0 < c.length := by
                refine hin _ ?_
                rw [List.getD_eq_getElem?_getD, List.getElem?_eq_getElem h5]
                exact List.getElem_mem h5
              have htk : l.take (j + 1) = l.take j ++ [l.getD j 0] := by
                rw [List.take_add_one, List.getD_eq_getElem?_getD, List.getElem?_eq_getElem h5]; rfl
              have hst := setAll_step U (l.take j) g (l.getD j 0)
              rw [← htk] at hst
              have hul := setAll_len (l.take j) U g
              generalize setAll U (l.take j) g = V1 at *
              generalize l.getD j 0 = n at *
              have hu := at0_get (l := V1) (n := n) (by omega)
              conv => whnf
              repeat' (first | ((first | refine zs1 ?_ | refine zs2 ?_ | refine zs3 ?_ | refine zs4 ?_ | refine zs5 ?_); conv => whnf) | ((first | apply zi1 | apply zi2 | apply zi3 | apply zi4 | apply zi5) <;> intro _ <;> first | (exfalso; omega) | contradiction | (conv => whnf)) | (refine VAny.ix encI_len j rfl (by omega) hn ?_; conv => whnf) | (refine VAny.ix encSh_len i rfl (by omega) hSi ?_; conv => whnf) | (refine VMem.setRec encI_len n 0 g rfl rfl rfl hu (by decide) rfl (ofs _) ?_; conv => whnf))
              refine LEnd.intro (j + 1) (by omega) (by omega) ?_
              rw [hst]
              conv => whnf
              refine Retell.turn ⟨[0], 1, [], []⟩ (TurnOk.mk' _ _ [] [] (OutOk.lift _) rfl (by decide) zb trivial trivial rfl) zw zm
            · obtain rfl : j = l.length := by omega
              rw [List.take_of_length_le (Nat.le_refl _), ← hos]
              conv => whnf
              repeat' (first | ((first | refine zs1 ?_ | refine zs2 ?_ | refine zs3 ?_ | refine zs4 ?_ | refine zs5 ?_); conv => whnf) | ((first | apply zi1 | apply zi2 | apply zi3 | apply zi4 | apply zi5) <;> intro _ <;> first | (exfalso; omega) | contradiction | (conv => whnf)))
              refine LEnd.intro (i + 1) (by omega) (by omega) ?_
              generalize ostK L G B0 (i + 1) = V1
              conv => whnf
              refine Retell.turn ⟨[0], 1, [], []⟩ (TurnOk.mk' _ _ [] [] (OutOk.lift _) rfl (by decide) zb trivial trivial rfl) zw zm
        · obtain rfl : i = L.length := by omega
          have hRl := hot L.length
          generalize ostK L G B0 L.length = R at *
          rw [show ints R = .fs 1 c.length (R.flatMap Vm.encI) by unfold ints; rw [hRl]]
          have hRf : (R.flatMap Vm.encI).length = c.length * 1 := by rw [flat_len encI_len, hRl]
          conv => whnf
          repeat' (first | ((first | refine zs1 ?_ | refine zs2 ?_ | refine zs3 ?_ | refine zs4 ?_ | refine zs5 ?_); conv => whnf) | ((first | apply zi1 | apply zi2 | apply zi3 | apply zi4 | apply zi5) <;> intro _ <;> first | (exfalso; omega) | contradiction | (conv => whnf)))
          refine VOut.data 1 [(0, R.flatMap Vm.encI)] [] rfl zf (by exact FmAll.nil) zw
theorem vc_Owners (m : Mp) (h : Hp) (hl : m.c.length ≤ 4000000) : VC Tryz.prog 22 [vM m] h (.tuple [ints (if chkM m = 0 then owns m.c m.w.toNat else []), I (chkM m)]) h := by
  have c := fun h => vc_check m h hl
  by_cases h0 : chkM m = 0
  · obtain ⟨W, H, e1, _, o⟩ := chkM_ok h0
    have cO := fun h => vc_owners m h o e1
    rw [if_pos h0, e1, Int.toNat_natCast]
    rw [h0] at c ⊢
    generalize owns m.c W = T at cO
    obtain ⟨mw, mh, mc⟩ := m
    refine VC.body Tryz.func22 rfl Tryz.ntmps22 Tryz.call22 (h.grows_refl) rfl ?_; conv => whnf
    repeat' (first | ((first | refine zs1 ?_ | refine zs2 ?_ | refine zs3 ?_ | refine zs4 ?_ | refine zs5 ?_); conv => whnf) | ((first | apply zi1 | apply zi2 | apply zi3 | apply zi4 | apply zi5) <;> intro _ <;> first | (exfalso; omega) | contradiction | (conv => whnf)) | (refine VCall.intro (c _) ?_; conv => whnf) | (refine VCall.intro (cO _) ?_; conv => whnf))
    exact VOut.same rfl
  · rw [if_neg h0]
    generalize chkM m = E at c h0
    obtain ⟨mw, mh, mc⟩ := m
    refine VC.body Tryz.func22 rfl Tryz.ntmps22 Tryz.call22 (h.grows_refl) rfl ?_; conv => whnf
    repeat' (first | ((first | refine zs1 ?_ | refine zs2 ?_ | refine zs3 ?_ | refine zs4 ?_ | refine zs5 ?_); conv => whnf) | ((first | apply zi1 | apply zi2 | apply zi3 | apply zi4 | apply zi5) <;> intro _ <;> first | (exfalso; omega) | contradiction | (conv => whnf)) | (refine VCall.intro (c _) ?_; conv => whnf))
    refine VOut.data 1 [] [] rfl zf (by exact FmAll.nil) zw
end Go.Proofs.YtajnkenbhmkjaaaGreat

open Go.Vm
open Riv
namespace Go.Vm
end Go.Vm
namespace Go.Proofs.YtajnkenbhmkjaaaGreat
set_option maxRecDepth 20000
set_option maxHeartbeats 4000000

def mp0 : Mp := ⟨0, 0, []⟩
structure YOk (W H : Nat) (l : List Mp) : Prop where
  n : 1 ≤ l.length ∧ l.length ≤ 10
  all : ∀ m ∈ l, m.w = W ∧ m.h = H ∧ MOk W H m.c
theorem YOk.get {W H : Nat} {l : List Mp} (o : YOk W H l) {y : Nat} (hy : y < l.length) : l[y]? = some (l.getD y mp0) ∧ (l.getD y mp0).w = W ∧ (l.getD y mp0).h = H ∧ MOk W H (l.getD y mp0).c := by
  have h1 : l[y]? = some (l.getD y mp0) := by rw [List.getD_eq_getElem?_getD, List.getElem?_eq_getElem hy]; rfl
  exact ⟨h1, o.all _ (List.mem_of_getElem? h1)⟩
end Go.Proofs.YtajnkenbhmkjaaaGreat

namespace Go.Proofs.YtajnkenbhmkjaaaGreat
open Go.Shelf
def ibRen : Ren := ⟨fun | 137 => 42 | 217 => 66 | 266 => 85 | n => n, fun n => n, fun n => n⟩
theorem ibLays : Lays.n137 Tryz.prog ibRen := {
  mixed := by kernel_rfl
  f137 := by kernel_rfl
  f217 := by kernel_rfl
  f266 := by kernel_rfl
  t3 := by kernel_rfl
  a3 := fun _ => by kernel_rfl
  z3 := fun _ => by kernel_rfl
  v3 := fun _ => by kernel_rfl
  t5 := by kernel_rfl
  a5 := fun _ => by kernel_rfl
  z5 := fun _ => by kernel_rfl
  v5 := fun _ => by kernel_rfl
  t9 := by kernel_rfl
  a9 := fun _ => by kernel_rfl
  z9 := fun _ => by kernel_rfl
  v9 := fun _ => by kernel_rfl
}
def wei : ByteArray := ⟨#[46, 87, 69, 73]⟩
def knd (c : Int) : Int := Lib.indexByte wei.data.toList c.toNat.toUInt8
theorem vc_IndexByte (c : Int) (h : Go.Vm.Hp) : Go.Vm.VC Tryz.prog 42 [.lit (.string wei), .s (.int .u8 c)] h (Go.Vm.I (knd c)) h := by
  refine ⟨Tryz.call42, h.grows_refl, fun σ w xs hr hxs => ?_⟩
  rw [callsIn_wide]
  obtain ⟨x, y, rfl, hx, hy⟩ := Go.Vm.VRs_two hxs
  simp only [Go.Vm.VR, Go.Vm.S.val] at hx hy
  subst hx hy
  have := Any.strings_IndexByte ibLays wei c w
  refine this.mono ?_
  rintro e w' ⟨rfl, rfl⟩
  exact ⟨σ, _, rfl, rfl, hr, Go.Vm.ExtK.refl _ _ _ _⟩
end Go.Proofs.YtajnkenbhmkjaaaGreat

open Go.Vm
open Riv
namespace Go.Proofs.YtajnkenbhmkjaaaGreat
set_option maxRecDepth 20000
set_option maxHeartbeats 4000000

def encStr (s : ByteArray) : List D := [.lit (.string s)]
theorem encStr_len (s : ByteArray) : (encStr s).length = 1 := rfl
def strs (l : List ByteArray) : V := .fs 1 l.length (l.flatMap encStr)
def dwC (s : ByteArray) (k : Nat) : List Int := (List.range k).map fun k => knd (strAt s k)
def dwA (l : List ByteArray) : List Int := l.flatMap fun s => dwC s s.size
def dwW (l : List ByteArray) : Nat := (l.getLast?.map ByteArray.size).getD 0
def dwM (l : List ByteArray) : Mp := ⟨dwW l, l.length, dwA l⟩
theorem dwC_len (s : ByteArray) (k : Nat) : (dwC s k).length = k := by simp [dwC]
theorem dwC_step (s : ByteArray) (k : Nat) : dwC s (k + 1) = dwC s k ++ [knd (strAt s k)] := by
  unfold dwC; rw [List.range_succ, List.map_append]; rfl
theorem dwA_step {l : List ByteArray} {i : Nat} {s : ByteArray} (h : l[i]? = some s) : dwA (l.take (i + 1)) = dwA (l.take i) ++ dwC s s.size := by
  unfold dwA; rw [List.take_add_one, h, List.flatMap_append]; simp
theorem dwW_step {l : List ByteArray} {i : Nat} {s : ByteArray} (h : l[i]? = some s) : dwW (l.take (i + 1)) = s.size := by
  unfold dwW; rw [List.take_add_one, h, List.getLast?_append]; rfl
theorem dwA_len {l : List ByteArray} (hb : ∀ s ∈ l, s.size ≤ 1000) : ∀ i, i ≤ l.length → (dwA (l.take i)).length ≤ 1000 * i
  | 0, _ => by simp [dwA]
  | i + 1, h => by
    have hi : l[i]? = some l[i] := List.getElem?_eq_getElem (by omega)
    have := hb _ (List.mem_of_getElem? hi)
    have h2 := dwA_len hb i (by omega)
    rw [dwA_step hi, List.length_append, dwC_len]; omega
theorem VTo.litS {c : TCtx} {x : Value} : VTo c (.lit x) (.lit x) := by simp only [VTo]
theorem zvS {p : Prop} (h : p := by repeat' (first | refine FrTo.node ?_ ?_ ?_ | refine FrTo.none ?_ ?_ | exact FrTo.leaf | exact VTo.undef | exact VTo.litS | exact VTo.sc (by first | rfl | (congr 1; omega)) | exact VTo.fs | exact VTo.ptr rfl | exact VTo.gl rfl | exact VTo.nilslice)) : p := h
theorem vc_Drawn (l : List ByteArray) (h : Hp) (hn : l.length ≤ 1000) (hb : ∀ s ∈ l, s.size ≤ 1000) : VC Tryz.prog 23 [strs l] h (vM (dwM l)) h := by
  have hal := fun i hi => dwA_len hb i hi
  have h00 : dwA (l.take 0) = [] := rfl
  have h01 : dwW (l.take 0) = 0 := rfl
  have hst := fun i s (hs : l[i]? = some s) => dwA_step hs
  have hsw := fun i s (hs : l[i]? = some s) => dwW_step hs
  have hfin : dwM l = ⟨dwW (l.take l.length), l.length, dwA (l.take l.length)⟩ := by rw [List.take_length]; rfl
  rw [hfin]
  refine VC.body Tryz.func23 rfl Tryz.ntmps23 Tryz.call23 (h.grows_refl) rfl ?_
  conv => whnf
  repeat' (first | ((first | refine zs1 ?_ | refine zs2 ?_ | refine zs3 ?_ | refine zs4 ?_ | refine zs5 ?_); conv => whnf) | ((first | apply zi1 | apply zi2 | apply zi3 | apply zi4 | apply zi5) <;> intro _ <;> conv => whnf))
  refine VCode.lpC (outer := h.lift) (marks := []) 99 (fun i : Nat => [(2, .ptr (.loc 0) 0), (3, .ptr (.loc 1) 0), (10, strs l), (11, I l.length), (12, I i)]) (fun i => [.cells true [I 0, I 0, .nilslice], .cells true [I (dwW (l.take i)), I l.length, .gl (.loc 2) 1 (dwA (l.take i)).length], .flat true ((dwA (l.take i)).flatMap Vm.encI)]) (fun i => i ≤ l.length) (fun i => l.length - i) 0 (Nat.zero_le _) ?_ ?_
  · rw [h00, h01]
    conv => whnf
    refine Retell.turn ⟨[0,1,2], 2, [], []⟩ (TurnOk.mk' _ _ [] [] (OutOk.lift _) rfl (by decide) zb trivial trivial rfl) zw zm
  rintro i hi
  rcases Nat.lt_or_ge i l.length with h4 | h4
  · obtain ⟨s, hs⟩ : ∃ s, l[i]? = some s := ⟨_, List.getElem?_eq_getElem h4⟩
    have hsb := hb s (List.mem_of_getElem? hs)
    have hst := hst i s hs
    have hsw := hsw i s hs
    have hal := hal i hi
    have hC0 : dwC s 0 = [] := rfl
    have hCs := dwC_step s
    have hCl := dwC_len s
    generalize dwA (l.take i) = A at *
    generalize dwW (l.take i) = w0 at *
    conv => whnf
    repeat' (first | ((first | refine zs1 ?_ | refine zs2 ?_ | refine zs3 ?_ | refine zs4 ?_ | refine zs5 ?_); conv => whnf) | ((first | apply zi1 | apply zi2 | apply zi3 | apply zi4 | apply zi5) <;> intro _ <;> first | (exfalso; omega) | contradiction | (conv => whnf)) | (refine VAny.ix encStr_len i rfl rfl hs ?_; conv => whnf))
    refine VCode.lpC (outer := h.lift) (marks := []) 99 (fun k : Nat => [(2, .ptr (.loc 0) 0), (3, .ptr (.loc 1) 0), (10, strs l), (11, I l.length), (12, I i), (5, .lit (.string s)), (20, I s.size), (21, I k)]) (fun k => [.cells true [I 0, I 0, .nilslice], .cells true [I s.size, I l.length, .gl (.loc 2) 1 (A ++ dwC s k).length], .flat true ((A ++ dwC s k).flatMap Vm.encI)]) (fun k => k ≤ s.size) (fun k => s.size - k) 0 (Nat.zero_le _) ?_ ?_
    · rw [hC0, List.append_nil]
      conv => whnf
      refine Retell.turn ⟨[0, 1, 2], 9, [], []⟩ (TurnOk.mk' _ _ [] [] (OutOk.lift _) rfl (by decide) zb trivial trivial rfl) zvS zm
    rintro k hk
    rcases Nat.lt_or_ge k s.size with h5 | h5
    · have hCs := hCs k
      have hCl := hCl k
      have cI := fun h => vc_IndexByte (strAt s k) h
      have hTl : (A ++ dwC s k).length = A.length + k := by rw [List.length_append, hCl]
      have hTn : A ++ dwC s (k + 1) = (A ++ dwC s k) ++ [knd (strAt s k)] := by rw [hCs, List.append_assoc]
      generalize A ++ dwC s k = T at *
      have hk2 : ((k : Int)).toNat = k := Int.toNat_natCast k
      conv => whnf
      repeat' (first | ((first | refine zs1 ?_ | refine zs2 ?_ | refine zs3 ?_ | refine zs4 ?_ | refine zs5 ?_); conv => whnf) | ((first | apply zi1 | apply zi2 | apply zi3 | apply zi4 | apply zi5) <;> intro _ <;> conv => whnf))
      all_goals try (exfalso; omega)
      refine zs6 [(1, 5)] ?_
      conv => whnf
      repeat' (first | ((first | refine zs1 ?_ | refine zs2 ?_ | refine zs3 ?_ | refine zs4 ?_ | refine zs5 ?_); conv => whnf) | ((first | apply zi1 | apply zi2 | apply zi3 | apply zi4 | apply zi5) <;> intro _ <;> first | (exfalso; omega) | contradiction | (conv => whnf)) | (refine VCall.intro (cI _) ?_; conv => whnf))
      refine VMem.app1 (l := T) (knd (strAt s k)) Vm.encI_len rfl rfl rfl rfl rfl (by omega) ?_
      conv => whnf
      repeat' (first | ((first | refine zs1 ?_ | refine zs2 ?_ | refine zs3 ?_ | refine zs4 ?_ | refine zs5 ?_); conv => whnf) | ((first | apply zi1 | apply zi2 | apply zi3 | apply zi4 | apply zi5) <;> intro _ <;> first | (exfalso; omega) | contradiction | (conv => whnf)))
      refine LEnd.intro (k + 1) (by omega) (by omega) ?_
      have hTe : T.length + 1 = (T ++ [knd (strAt s k)]).length := by rw [List.length_append]; rfl
      rw [hTn, hTe]
      generalize knd (strAt s k) = z
      conv => whnf
      refine Retell.turn ⟨[0, 1, 4], 9, [], []⟩ (TurnOk.mk' _ _ [] [] (OutOk.lift _) rfl (by decide) zb trivial trivial rfl) zvS zm
    · obtain rfl : k = s.size := by omega
      rw [← hst]
      conv => whnf
      repeat' (first | ((first | refine zs1 ?_ | refine zs2 ?_ | refine zs3 ?_ | refine zs4 ?_ | refine zs5 ?_); conv => whnf) | ((first | apply zi1 | apply zi2 | apply zi3 | apply zi4 | apply zi5) <;> intro _ <;> first | (exfalso; omega) | contradiction | (conv => whnf)))
      refine LEnd.intro (i + 1) (by omega) (by omega) ?_
      rw [hsw]
      conv => whnf
      refine Retell.turn ⟨[0,1,2], 9, [], []⟩ (TurnOk.mk' _ _ [] [] (OutOk.lift _) rfl (by decide) zb trivial trivial rfl) zw zm
  · obtain rfl : i = l.length := by omega
    generalize dwA (l.take l.length) = A at *
    generalize dwW (l.take l.length) = w0 at *
    conv => whnf
    repeat' (first | ((first | refine zs1 ?_ | refine zs2 ?_ | refine zs3 ?_ | refine zs4 ?_ | refine zs5 ?_); conv => whnf) | ((first | apply zi1 | apply zi2 | apply zi3 | apply zi4 | apply zi5) <;> intro _ <;> first | (exfalso; omega) | contradiction | (conv => whnf)))
    refine VOut.data 9 [(2, A.flatMap Vm.encI)] [] rfl zf (by exact FmAll.nil) zw
end Go.Proofs.YtajnkenbhmkjaaaGreat

open Go.Vm
namespace Go.Proofs.YtajnkenbhmkjaaaGreat
set_option maxRecDepth 20000
set_option maxHeartbeats 4000000

abbrev DU (n : Int) : D := .s (.int .u32 n)
def encU (n : Int) : List D := [.s (.int .u8 n)]
theorem encU_len (n : Int) : (encU n).length = 1 := rfl
def bytes (l : List Int) : V := .fs 1 l.length (l.flatMap encU)
def deckD (bs : List Int) (n s : Int) : List D := [.sl 1 bs.length (bs.flatMap encU), DI n, DU s]
theorem VOut.setS {h : Hp} {loc : List Blk} {i : Vm.Id} {b0 : Blk} {l : List D} {rw : Bool} {x : S} {L : Nat} (hL : Nat.ble loc.length L = true) (hb : h.get i = some b0) : VOut h ⟨outW h.lift i (.flat rw l), loc⟩ (.s x) (.s x) (h.set i (.flat rw l)) := by
  have hd : ∀ p ∈ [(i, Blk.flat rw l)], h.get p.1 ≠ none := by
    intro p hp
    simp only [List.mem_cons, List.not_mem_nil, or_false] at hp
    subst hp; simp only; rw [hb]; simp
  have := VOut.upd (loc := loc) (r1 := .s x) (r := .s x) [(i, .flat rw l)] [] [] L hL hd (by simp) rfl (by intro k b hk; simp at hk) (fun σ x hx => hx) (outer := outW h.lift i (.flat rw l)) rfl
  have he : (h.sets [(i, Blk.flat rw l)]).pushes [] = h.set i (.flat rw l) := by simp [Hp.sets, Hp.pushes]
  rw [he] at this
  exact this
theorem set_same {h : Hp} {i : Vm.Id} {b : Blk} (hb : h.get i = some b) : h.set i b = h := by
  cases i with
  | out i =>
    have hb : h.outer i = some b := hb
    obtain ⟨o, l⟩ := h
    simp only [Hp.set]
    congr 1
    funext j
    split
    · rename_i e; rw [e]; exact hb.symm
    · rfl
  | loc k =>
    have hb : h.loc[k]? = some b := hb
    obtain ⟨o, l⟩ := h
    simp only [Hp.set]
    congr 1
    obtain ⟨h1, h2⟩ := List.getElem?_eq_some_iff.1 hb
    rw [← h2]; exact List.set_getElem_self h1
theorem VOut.set2 {h : Hp} {loc : List Blk} {i : Vm.Id} {b0 b1 : Blk} {l : List D} {rw : Bool} {x : S} (hb : h.get i = some b0) : VOut h ⟨outW (outW h.lift i b1) i (.flat rw l), loc⟩ (.s x) (.s x) (h.set i (.flat rw l)) := by
  rw [outW_same]
  exact VOut.setS (L := loc.length) (by simp) hb
theorem vc_Draw0 (bs : List Int) (n s k : Int) (i : Vm.Id) (h : Hp) (hb : h.get i = some (.flat true (deckD bs n s))) (hk : k ≤ 1 ∨ bs = []) : VC Tryz.prog 6 [.ptr i 0, I k] h (I 0) (h.set i (.flat true (deckD bs n s))) := by
  rw [set_same hb]
  have hl : k ≤ 1 ∨ bs.length = 0 := by rcases hk with h1 | h1; exact .inl h1; exact .inr (by rw [h1]; rfl)
  refine VC.body Tryz.func6 rfl Tryz.ntmps6 Tryz.call6 (h.grows_refl) rfl ?_; conv => whnf
  repeat' (first | ((first | refine zs1 ?_ | refine zs2 ?_ | refine zs3 ?_ | refine zs4 ?_ | refine zs5 ?_); conv => whnf) | ((first | apply zi1 | apply zi2 | apply zi3 | apply zi4 | apply zi5) <;> intro _ <;> conv => whnf) | (refine VLd.flat rfl rfl (get_out hb _) rfl ?_; conv => whnf))
  · exact VOut.same rfl
  · exact VOut.same rfl
  · exfalso; omega
def dRd (bs : List Int) (N : Nat) : Int := IntKind.u32.wrap (IntKind.i64.wrap ((N : Int).tdiv (bs.length : Int)))
def dkS (bs : List Int) (N : Nat) (s c : Int) : Int := (IntKind.u32.wrap (IntKind.u32.wrap (IntKind.u32.wrap (s * 37) + IntKind.u32.wrap c) + IntKind.u32.wrap (101 * dRd bs N))).tmod 65521
def dR (bs : List Int) (N : Nat) (s k c : Int) : Int := if k ≤ 256 ∧ dRd bs N = 0 then (IntKind.i64.wrap (IntKind.u32.wrap c)).tmod k else (IntKind.i64.wrap (IntKind.u32.wrap (IntKind.u32.wrap (dkS bs N s c * 256) + IntKind.u32.wrap c))).tmod k
theorem u32_bd (n : Int) : 0 ≤ IntKind.u32.wrap n ∧ IntKind.u32.wrap n < 4294967296 := by
  unfold IntKind.wrap; simp [IntKind.bits, IntKind.signed]; omega
theorem tmod_bd {a k : Int} (ha : 0 ≤ a) (hk : 0 < k) : 0 ≤ a.tmod k ∧ a.tmod k < k := by
  rw [Int.tmod_eq_emod_of_nonneg ha]
  exact ⟨Int.emod_nonneg _ (by omega), Int.emod_lt_of_pos _ hk⟩
theorem dR_bd (bs : List Int) (N : Nat) (s c : Int) {k : Int} (hk : 0 < k) : 0 ≤ dR bs N s k c ∧ dR bs N s k c < k := by
  unfold dR
  split
  · have := u32_bd c
    rw [wrap_i64 (by omega)]
    exact tmod_bd this.1 hk
  · have := u32_bd (IntKind.u32.wrap (dkS bs N s c * 256) + IntKind.u32.wrap c)
    rw [wrap_i64 (by omega)]
    exact tmod_bd this.1 hk
theorem vc_Draw1 (bs : List Int) (N : Nat) (s k c : Int) (i : Vm.Id) (h : Hp) (hb : h.get i = some (.flat true (deckD bs N s))) (hk : 1 < k) (hc : bs[N % bs.length]? = some c) (hN : N ≤ 4000000000) :
    VC Tryz.prog 6 [.ptr i 0, I k] h (I (dR bs N s k c)) (h.set i (.flat true (deckD bs ((N : Int) + 1) (dkS bs N s c)))) := by
  have hlen : 0 < bs.length := by
    have := (List.getElem?_eq_some_iff.1 hc).1
    omega
  have hneB : ((bs.length : Int) != 0) = true := by rw [bne_iff_ne]; omega
  obtain ⟨R, hR⟩ : ∃ R, R = dR bs N s k c := ⟨_, rfl⟩
  rw [← hR]
  unfold dR at hR
  refine VC.body Tryz.func6 rfl Tryz.ntmps6 Tryz.call6 (h.grows_set _ _) rfl ?_
  conv => whnf
  repeat' (first | ((first | refine zs1 ?_ | refine zs2 ?_ | refine zs3 ?_ | refine zs4 ?_ | refine zs5 ?_ | refine zs6 [] ?_); conv => whnf) | ((first | apply zi1 | apply zi2 | apply zi3 | apply zi4 | apply zi5) <;> intro _ <;> conv => whnf) | (refine VLd.flat rfl rfl (get_out hb _) rfl ?_; conv => whnf) | (refine VAny.ix encU_len (N % bs.length) (by rfl) rfl hc ?_; conv => whnf) | (refine VLd.flat rfl rfl (outW_get _ _ _ _) rfl ?_; conv => whnf) | (refine VMem.st1 rfl rfl rfl (get_out hb _) rfl ?_; conv => whnf) | (refine VMem.st1 rfl rfl rfl (outW_get _ _ _ _) rfl ?_; conv => whnf) | (refine VArith.wr ?_; conv => whnf) | (refine VNeed.intro hneB ?_; conv => whnf))
  · exfalso; omega
  · exfalso; omega
  · rename_i h1 h2
    have h2 : dRd bs N = 0 := h2
    rw [if_pos ⟨h1, h2⟩] at hR
    subst hR
    refine VOut.set2 hb
  · rename_i h1 h2
    have h2 : ¬ dRd bs N = 0 := h2
    rw [if_neg (fun h => h2 h.2)] at hR
    subst hR
    refine VOut.set2 hb
  · rename_i h1
    rw [if_neg (fun h => h1 h.1)] at hR
    subst hR
    refine VOut.set2 hb
def dNx (bs : List Int) (d : Nat × Int) (k : Int) : Int × (Nat × Int) :=
  if k ≤ 1 ∨ bs = [] then (0, d) else (dR bs d.1 d.2 k (bs.getD (d.1 % bs.length) 0), (d.1 + 1, dkS bs d.1 d.2 (bs.getD (d.1 % bs.length) 0)))
def deckB (bs : List Int) (d : Nat × Int) : Blk := .flat true (deckD bs d.1 d.2)
theorem dNx_bd (bs : List Int) (d : Nat × Int) (k : Int) : 0 ≤ (dNx bs d k).1 ∧ ((dNx bs d k).1 = 0 ∨ (dNx bs d k).1 < k) ∧ (dNx bs d k).2.1 ≤ d.1 + 1 := by
  unfold dNx
  split
  · exact ⟨Int.le_refl _, .inl rfl, by simp only; omega⟩
  · rename_i h
    obtain ⟨q1, q2⟩ := dR_bd bs d.1 d.2 (bs.getD (d.1 % bs.length) 0) (k := k) (by omega)
    exact ⟨q1, .inr q2, Nat.le_refl _⟩
theorem vc_draw (bs : List Int) (d : Nat × Int) (k : Int) (i : Vm.Id) (h : Hp) (hN : d.1 ≤ 4000000000) (hb : h.get i = some (deckB bs d)) : VC Tryz.prog 6 [.ptr i 0, I k] h (I (dNx bs d k).1) (h.set i (deckB bs (dNx bs d k).2)) := by
  unfold dNx deckB at *
  split
  · rename_i hk; exact vc_Draw0 bs d.1 d.2 k i h hb hk
  · rename_i hk
    have hlen := List.length_pos_iff.2 (fun h => hk (.inr h))
    have hc : bs[d.1 % bs.length]? = some (bs.getD (d.1 % bs.length) 0) := by simp [List.getElem?_eq_getElem (Nat.mod_lt d.1 hlen)]
    exact vc_Draw1 bs d.1 d.2 k _ i h hb (by omega) hc hN
theorem vc_between (bs : List Int) (d : Nat × Int) (a b : Int) (i : Vm.Id) (h : Hp) (hN : d.1 ≤ 4000000000) (ha : -1000000 ≤ a ∧ a ≤ 1000000) (hb : -1000000 ≤ b ∧ b ≤ 1000000) (hd : h.get i = some (deckB bs d)) : VC Tryz.prog 5 [.ptr i 0, I a, I b] h (I (a + (dNx bs d (b - a + 1)).1)) (h.set i (deckB bs (dNx bs d (b - a + 1)).2)) := by
  have hbd := dNx_bd bs d (b - a + 1)
  have hD := fun i h hh => vc_draw bs d (b - a + 1) i h hN hh
  generalize dNx bs d (b - a + 1) = x at hbd hD
  refine VC.body Tryz.func5 rfl Tryz.ntmps5 Tryz.call5 (h.grows_set _ _) rfl ?_
  conv => whnf
  repeat' (first | ((first | refine zs1 ?_ | refine zs2 ?_ | refine zs3 ?_ | refine zs4 ?_ | refine zs5 ?_ | refine zs6 [] ?_); conv => whnf) | ((first | apply zi1 | apply zi2 | apply zi3 | apply zi4 | apply zi5) <;> intro _ <;> conv => whnf) | (refine VCall.intro (hD (.out i) _ (get_out hd _)) ?_; conv => whnf))
  exact VOut.setS (L := 0) rfl hd
theorem VOut.ownP {h : Hp} {loc : List Blk} {ds : List D} (j L : Nat) (hL : Nat.ble loc.length L = true) (hj : loc[j]? = some (.flat true ds)) : VOut h ⟨h.lift, loc⟩ (.ptr (.loc j) 0) (.ptr h.fresh 0) (h.push (.flat true ds)) := by
  refine VOut.upd [] [.flat true ds] [j] L hL (by intro p hp; cases hp) (by simp) rfl ?_ ?_ rfl
  · intro k b hk
    cases k with
    | zero => rw [List.getElem?_cons_zero, Option.some.injEq] at hk; subst hk; exact ⟨j, rfl, hj⟩
    | succ k => simp at hk
  · intro σ x hx
    have : (V.ptr h.fresh 0).ren (backR h.loc.length [j] L) = .ptr (.loc j) 0 := by simp [V.ren, backR, Hp.fresh]
    rw [this]; exact hx
theorem vc_Of (bs : List Int) (h : Hp) : VC Tryz.prog 4 [bytes bs] h (.ptr h.fresh 0) (h.push (deckB bs (0, 9))) := by
  refine VC.body Tryz.func4 rfl Tryz.ntmps4 Tryz.call4 (h.grows_push _) rfl ?_
  conv => whnf
  repeat (first | ((first | refine zs1 ?_ | refine zs2 ?_ | refine zs3 ?_ | refine zs4 ?_ | refine zs5 ?_ | refine zs6 [] ?_); conv => whnf))
  exact VOut.ownP 0 1 rfl rfl
end Go.Proofs.YtajnkenbhmkjaaaGreat

open Go.Vm
open Riv
namespace Go.Proofs.YtajnkenbhmkjaaaGreat
open Go.ChangeShapes Go.WideShapes Go.ChangeAt Go.RowKit

theorem open3 : Opens Tryz.prog 3 (fun n : Int => [DI n]) := Opens.int Tryz.underlying3
theorem open22 : Opens Tryz.prog 39 (fun l : List Int => [dints l]) := Opens.slice Tryz.underlying39 Vm.encI_len (by kernel_rfl) (by decide) open3
theorem open24 : Opens Tryz.prog 79 encM := (Opens.struct3 1 1 1 Tryz.underlying79 (by kernel_rfl) rfl rfl rfl (by kernel_rfl) (by kernel_rfl) (by kernel_rfl) open3 open3 open22).as (fun x => ⟨x.1, x.2.1, x.2.2⟩) encM fun _ => rfl
def dM (m : Mp) : D := .agg (encM m)
def dYs (l : List Mp) : D := .sl 3 l.length (l.flatMap encM)
theorem openM : OpenV Tryz.prog 79 dM := OpenV.struct Tryz.underlying79 open24
theorem openI : OpenV Tryz.prog 3 (fun n : Int => DI n) := OpenV.int Tryz.underlying3
theorem openL : OpenV Tryz.prog 39 dints := OpenV.slice Tryz.underlying39 (Opens.slice Tryz.underlying39 Vm.encI_len (by kernel_rfl) (by decide) open3)
def dU (l : List Int) : D := .sl 1 l.length (l.flatMap encU)
theorem openU : OpenV Tryz.prog 22 dU := OpenV.slice Tryz.underlying22 (Opens.slice Tryz.underlying22 encU_len (by kernel_rfl) (by decide) (Opens.int Tryz.underlying5))
def d8b (n : {n : Int // 0 ≤ n ∧ n ≤ 255}) : D := .s (.int .u8 n.1)
theorem openV_u8 {P : Program} {t : TypeId} (ht : P.underlying t = some (.int .u8)) : OpenV P t d8b := by
  intro W base H en v dd ps hok ⟨fuel, ht2⟩
  obtain ⟨n, h2, _, hw⟩ := DataW.trod_int ht ht2
  have hb : 0 ≤ n ∧ n ≤ 255 := by
    have hw2 : (decide ((0 : Int) ≤ n) && decide (n ≤ (255 : Int))) = true := hw
    simpa using hw2
  unfold Value.okWide at hok
  rw [ht] at hok
  simp only [Cell.okWide, ht] at hok
  refine ⟨⟨n, hb⟩, ?_⟩
  cases v <;> simp [Cell.ok, ht] at hok
  simp [Value.cells] at h2
  simp only [d8b, DR, S.val]
  rw [h2.1, h2.2]
theorem open8b : OpenV Tryz.prog 5 d8b := openV_u8 Tryz.underlying5
theorem ownKn : ownKnob Tryz.prog.godebug = none := by kernel_rfl
theorem laidOut : laidOutB Tryz.prog = true := by kernel_rfl
end Go.Proofs.YtajnkenbhmkjaaaGreat

open Go.Vm
open Riv
namespace Go.Proofs.YtajnkenbhmkjaaaGreat
set_option maxRecDepth 20000
set_option maxHeartbeats 4000000

/-! ### Ways out: what is done, in plain words -/
abbrev FS := List (Nat × Int) × List Nat
def keysF (F : List (Nat × Int)) : List Nat := F.map (·.1)
def fM (F : List (Nat × Int)) : List (Int × Int) := F.map fun e => ((e.1 : Int), e.2)
theorem keysF_app (F : List (Nat × Int)) (e : Nat × Int) : keysF (F ++ [e]) = keysF F ++ [e.1] := by unfold keysF; rw [List.map_append]; rfl
theorem fM_app (F : List (Nat × Int)) (e : Nat × Int) : fM (F ++ [e]) = fM F ++ [((e.1 : Int), e.2)] := by unfold fM; rw [List.map_append]; rfl
theorem keysF_len (F : List (Nat × Int)) : (keysF F).length = F.length := by unfold keysF; rw [List.length_map]
def putO (R : List Int) (b p : Int) (st : FS) (k : Nat) : FS := if at0 R k ≠ b ∧ k ∉ keysF st.1 then (st.1 ++ [(k, p)], st.2 ++ [k]) else st
def iniO (R : List Int) (a : Int) : Nat → FS
  | 0 => ([], [])
  | k + 1 => if at0 R k = a then ((iniO R a k).1 ++ [(k, -1)], (iniO R a k).2 ++ [k]) else iniO R a k
def outG (R : List Int) (W : Nat) (b : Int) : Nat → FS → Option Nat × List (Nat × Int)
  | 0, st => (none, st.1)
  | N + 1, st => match st.2.getLast? with
    | none => (none, st.1)
    | some p => if rimB W R.length p = true then (some p, st.1) else outG R W b N ((nbs W R.length p).foldl (putO R b p) (st.1, st.2.dropLast))
def chn (F : List (Nat × Int)) : Nat → Int → List Int
  | 0, _ => []
  | f + 1, p => if p = -1 then [] else p :: chn F f (mget (fM F) p)
structure FI (n : Nat) (st : FS) : Prop where
  nd : (keysF st.1).Nodup
  lt : ∀ k ∈ keysF st.1, k < n
  sub : ∀ k ∈ st.2, k ∈ keysF st.1
  par : ∀ (j : Nat) (e : Nat × Int), st.1[j]? = some e → e.2 = -1 ∨ ∃ (i : Nat) (e' : Nat × Int), i < j ∧ st.1[i]? = some e' ∧ e.2 = (e'.1 : Int)
def muO (n : Nat) (st : FS) : Nat := st.2.length + (n - st.1.length)
theorem FI.len {n : Nat} {st : FS} (h : FI n st) : st.1.length ≤ n := by
  have := nodup_len n (keysF st.1) h.nd h.lt
  rwa [keysF_len] at this
theorem FI.add {n : Nat} {st : FS} {k : Nat} {p : Int} (h : FI n st) (hk : k < n) (hn : k ∉ keysF st.1) (hp : p = -1 ∨ ∃ q : Nat, p = (q : Int) ∧ q ∈ keysF st.1) : FI n (st.1 ++ [(k, p)], st.2 ++ [k]) where
  nd := by
    rw [keysF_app, List.nodup_append]
    exact ⟨h.nd, by simp, fun a ha b hb => by simp at hb; subst hb; intro e; subst e; exact hn ha⟩
  lt := fun x hx => by
    rw [keysF_app] at hx
    rcases List.mem_append.1 hx with hx | hx
    · exact h.lt x hx
    · rw [List.mem_singleton] at hx; dsimp only at hx; omega
  sub := fun x hx => by
    rw [keysF_app]
    rcases List.mem_append.1 hx with hx | hx
    · exact List.mem_append_left _ (h.sub x hx)
    · exact List.mem_append_right _ hx
  par := fun j e he => by
    dsimp only at he ⊢
    have key : ∀ i e', st.1[i]? = some e' → (st.1 ++ [(k, p)])[i]? = some e' := fun i e' h' => by
      rw [List.getElem?_append_left (List.getElem?_eq_some_iff.1 h').1]; exact h'
    rcases Nat.lt_or_ge j st.1.length with h1 | h1
    · rw [List.getElem?_append_left h1] at he
      rcases h.par j e he with h2 | ⟨i, e', h2, h3, h4⟩
      · exact .inl h2
      · exact .inr ⟨i, e', h2, key i e' h3, h4⟩
    · rw [List.getElem?_append_right h1] at he
      have hj : j = st.1.length := by
        have := (List.getElem?_eq_some_iff.1 he).1
        simp at this; omega
      subst hj
      rw [Nat.sub_self, List.getElem?_cons_zero, Option.some.injEq] at he
      subst he
      rcases hp with hp | ⟨q, hp, hq⟩
      · exact .inl hp
      · right
        obtain ⟨e', he1, he2⟩ := List.mem_map.1 hq
        obtain ⟨i, hi⟩ := List.getElem?_of_mem he1
        exact ⟨i, e', (List.getElem?_eq_some_iff.1 hi).1, key i e' hi, by rw [hp, he2]⟩
theorem putO_ok {n : Nat} {R : List Int} {b : Int} {p : Nat} {st : FS} {k : Nat} (h : FI n st) (hk : k < n) (hp : p ∈ keysF st.1) : FI n (putO R b p st k) ∧ muO n (putO R b p st k) = muO n st ∧ p ∈ keysF (putO R b p st k).1 := by
  unfold putO
  split
  · rename_i hc
    have h2 := h.add hk hc.2 (p := (p : Int)) (.inr ⟨p, rfl, hp⟩)
    have h3 := h2.len
    refine ⟨h2, ?_, ?_⟩
    · unfold muO
      dsimp only at h3 ⊢
      rw [List.length_append, List.length_append, List.length_singleton] at *
      simp only [List.length_singleton] at *
      omega
    · dsimp only; rw [keysF_app]; exact List.mem_append_left _ hp
  · exact ⟨h, rfl, hp⟩
theorem nbF_putO {n W : Nat} {R : List Int} {b : Int} {p : Nat} {st : FS} (h : FI n st) (hp : p ∈ keysF st.1) (hlt : ∀ k q, k < 4 → nbO W n p k = some q → q < n) : ∀ j, j ≤ 4 → FI n (nbF (putO R b p) W n p st j) ∧ muO n (nbF (putO R b p) W n p st j) = muO n st ∧ p ∈ keysF (nbF (putO R b p) W n p st j).1
  | 0, _ => ⟨h, rfl, hp⟩
  | j + 1, hj => by
    have ih := nbF_putO (R := R) (b := b) h hp hlt j (by omega)
    cases hq : nbO W n p j with
    | none => rw [nbF_none hq]; exact ih
    | some q =>
      rw [nbF_some hq]
      have h2 := putO_ok (R := R) (b := b) ih.1 (hlt j q (by omega) hq) ih.2.2
      exact ⟨h2.1, h2.2.1.trans ih.2.1, h2.2.2⟩
theorem iniO_ok (R : List Int) (a : Int) (n : Nat) : ∀ k, k ≤ n → FI n (iniO R a k) ∧ (iniO R a k).2 = keysF (iniO R a k).1 ∧ ∀ x ∈ keysF (iniO R a k).1, x < k
  | 0, _ => ⟨{ nd := List.nodup_nil, lt := fun k hk => (List.not_mem_nil hk).elim, sub := fun k hk => (List.not_mem_nil hk).elim, par := fun j e he => absurd he (by show ¬ ([] : List (Nat × Int))[j]? = some e; rw [List.getElem?_nil]; intro h; cases h) }, rfl, fun x hx => (List.not_mem_nil hx).elim⟩
  | k + 1, hk => by
    obtain ⟨h1, h2, h3⟩ := iniO_ok R a n k (by omega)
    rw [iniO]
    split
    · refine ⟨h1.add (by omega) (fun hx => Nat.lt_irrefl _ (h3 k hx)) (.inl rfl), ?_, fun x hx => ?_⟩
      · dsimp only; rw [keysF_app, h2]
      · rw [keysF_app] at hx
        rcases List.mem_append.1 hx with hx | hx
        · have := h3 x hx; omega
        · rw [List.mem_singleton] at hx; dsimp only at hx; omega
    · exact ⟨h1, h2, fun x hx => by have := h3 x hx; omega⟩
theorem muO_ini {R : List Int} {a : Int} {n k : Nat} (hk : k ≤ n) : muO n (iniO R a k) = n := by
  obtain ⟨h1, h2, _⟩ := iniO_ok R a n k hk
  have := h1.len
  unfold muO
  rw [h2, keysF_len]; omega
theorem outG_nil {R : List Int} {W : Nat} {b : Int} {N : Nat} {F : List (Nat × Int)} : outG R W b N (F, []) = (none, F) := by cases N <;> rfl
theorem outG_rim {R : List Int} {W : Nat} {b : Int} {N : Nat} {F : List (Nat × Int)} {S : List Nat} {p : Nat} (h : rimB W R.length p = true) : outG R W b (N + 1) (F, S ++ [p]) = (some p, F) := by
  rw [outG]
  simp only [List.getLast?_append, List.getLast?_singleton, Option.some_or, h, if_true]
theorem outG_step {R : List Int} {W : Nat} {b : Int} {N : Nat} {F : List (Nat × Int)} {S : List Nat} {p : Nat} (h : rimB W R.length p = false) : outG R W b (N + 1) (F, S ++ [p]) = outG R W b N (nbF (putO R b p) W R.length p (F, S) 4) := by
  rw [nbF_all, outG]
  simp only [List.getLast?_append, List.getLast?_singleton, Option.some_or, List.dropLast_concat, h]
  rfl
theorem muO_pop {n : Nat} {F : List (Nat × Int)} {S : List Nat} {p : Nat} : muO n (F, S) + 1 = muO n (F, S ++ [p]) := by
  unfold muO; rw [List.length_append, List.length_singleton]; dsimp only; omega
theorem FI.pop {n : Nat} {F : List (Nat × Int)} {S : List Nat} {p : Nat} (h : FI n (F, S ++ [p])) : FI n (F, S) ∧ p ∈ keysF F ∧ p < n :=
  ⟨⟨h.nd, h.lt, fun k hk => h.sub k (List.mem_append_left _ hk), h.par⟩, h.sub p (by simp), h.lt p (h.sub p (by simp))⟩
theorem mgt_none {F : List (Nat × Int)} {k : Nat} (h : k ∉ keysF F) : mgt (fM F) k = none := by
  unfold mgt fM
  rw [Option.map_eq_none_iff, List.find?_eq_none]
  intro x hx
  obtain ⟨e, he, rfl⟩ := List.mem_map.1 hx
  dsimp only
  rw [decide_eq_true_eq]
  intro h2
  exact h (List.mem_map.2 ⟨e, he, by omega⟩)
theorem fM_put {F : List (Nat × Int)} {k : Nat} {p : Int} (h : k ∉ keysF F) : mput (fM F) k p = fM (F ++ [(k, p)]) := by
  rw [mput_none p (mgt_none h), fM_app]
theorem mget_at : ∀ {F : List (Nat × Int)} {j : Nat} {e : Nat × Int}, (keysF F).Nodup → F[j]? = some e → mget (fM F) e.1 = e.2
  | [], j, e, _, h => by simp at h
  | x :: F, 0, e, _, h => by
    simp only [List.getElem?_cons_zero, Option.some.injEq] at h
    subst h
    simp [mget, mgt, fM]
  | x :: F, j + 1, e, hn, h => by
    simp only [List.getElem?_cons_succ] at h
    have hn2 : x.1 ∉ keysF F ∧ (keysF F).Nodup := List.nodup_cons.1 hn
    have hne : ¬ (x.1 : Int) = (e.1 : Int) := fun h2 => hn2.1 (List.mem_map.2 ⟨e, List.mem_of_getElem? h, by omega⟩)
    have ih := mget_at hn2.2 h
    unfold mget mgt fM at ih ⊢
    rw [List.map_cons, List.find?_cons]
    simp only [hne, decide_false]
    exact ih
def AtF (F : List (Nat × Int)) (f : Nat) (p : Int) : Prop := p = -1 ∨ ∃ j e, j < f ∧ F[j]? = some e ∧ p = (e.1 : Int)
theorem AtF.step {n : Nat} {st : FS} {f : Nat} {p : Int} (h : FI n st) (ha : AtF st.1 f p) (hp : p ≠ -1) : ∃ f', f = f' + 1 ∧ AtF st.1 f' (mget (fM st.1) p) ∧ ∃ k : Nat, p = (k : Int) ∧ k < n := by
  rcases ha with ha | ⟨j, e, h1, h2, h3⟩
  · exact absurd ha hp
  · subst h3
    refine ⟨f - 1, by omega, ?_, e.1, rfl, h.lt _ (List.mem_map.2 ⟨e, List.mem_of_getElem? h2, rfl⟩)⟩
    rw [mget_at h.nd h2]
    rcases h.par j e h2 with h4 | ⟨i, e', h4, h5, h6⟩
    · exact .inl h4
    · exact .inr ⟨i, e', by omega, h5, h6⟩
theorem AtF.start {n : Nat} {st : FS} {p : Nat} (h : FI n st) (hp : p ∈ keysF st.1) : AtF st.1 n p := by
  obtain ⟨e, he, rfl⟩ := List.mem_map.1 hp
  obtain ⟨j, hj⟩ := List.getElem?_of_mem he
  exact .inr ⟨j, e, Nat.lt_of_lt_of_le (List.getElem?_eq_some_iff.1 hj).1 h.len, hj, rfl⟩
theorem chn_len (F : List (Nat × Int)) : ∀ (f : Nat) (p : Int), (chn F f p).length ≤ f
  | 0, p => by simp [chn]
  | f + 1, p => by
    rw [chn]
    split
    · simp
    · have := chn_len F f (mget (fM F) p)
      simp; omega
def outR (R : List Int) (W : Nat) (a b : Int) : Option Nat × List (Nat × Int) := outG R W b R.length (iniO R a R.length)
def outV (R : List Int) (W : Nat) (a b : Int) : V := match (outR R W a b).1 with
  | none => .nilslice
  | some p => ints (chn (outR R W a b).2 R.length p).reverse
end Go.Proofs.YtajnkenbhmkjaaaGreat

open Go.Vm
open Riv
namespace Go.Vm
theorem dvs_map (ρ : Id → Id) : ∀ l : List D, (D.vs l).map (V.ren ρ) = D.vs l
  | [] => rfl
  | d :: l => by
    have h1 := rens_dvs ρ [d]
    have h2 : (d.v).ren ρ = d.v := by
      have h3 : [(d.v).ren ρ] = [d.v] := h1
      exact List.cons.inj h3 |>.1
    show (d.v).ren ρ :: (D.vs l).map (V.ren ρ) = d.v :: D.vs l
    rw [h2, dvs_map ρ l]
theorem dvs_bool (M : List Bool) : D.vs (M.map DB) = M.map B := by
  rw [D.vs_eq, List.map_map]; rfl
theorem outer_fix4 {o : Vm.Id → Option Blk} {iy i1 i2 i3 i4 : Vm.Id} {b0 b b1 b2 b3 b4 : Blk} (h : o iy = some b) (n1 : iy ≠ i1) (n2 : iy ≠ i2) (n3 : iy ≠ i3) (n4 : iy ≠ i4) : outW (outW (outW (outW (outW (outW o iy b0) i1 b1) i2 b2) i3 b3) i4 b4) iy b = outW (outW (outW (outW o i1 b1) i2 b2) i3 b3) i4 b4 := by
  funext j
  unfold outW
  by_cases e : j = iy
  · subst e; rw [if_pos rfl, if_neg n4, if_neg n3, if_neg n2, if_neg n1, h]
  · rw [if_neg e, if_neg e]
end Go.Vm
namespace Go.Proofs.YtajnkenbhmkjaaaGreat
set_option maxRecDepth 20000
set_option maxHeartbeats 4000000

def wkB (W : Nat) (o R : List Int) (mn : Int) (M : List Bool) : Blk := .cells true (wkC W o (ints R) mn (M.map DB))
theorem wkB_ren (W : Nat) (o R : List Int) (mn : Int) (M : List Bool) (ρ : Vm.Id → Vm.Id) : (wkB W o R mn M).ren ρ = wkB W o R mn M := by
  unfold wkB wkC Blk.ren
  simp only [List.map_cons, dvs_map]
  rfl
theorem wk_cells {W : Nat} {o R : List Int} {mn : Int} {M : List Bool} : wkC W o (ints R) mn (M.map DB) = I W :: ints o :: ints R :: I mn :: M.map B := by unfold wkC; rw [dvs_bool]
theorem VMem.setWk {P : Program} {t : TypeId} {i : Vm.Id} {off : Nat} {ti : TI} {h : Hp} {W : Nat} {o R : List Int} {mn : Int} {M : List Bool} {K : V → Hp → Prop} (j : Nat) (hTt : tiOf P t = some ti) (hl : ti.size = 1) (hb : h.get i = some (wkB W o R mn M)) (hj : j < M.length) (ho : off = 4 + j)
    (hK : K .undef (h.set i (wkB W o R mn (M.set j true)))) : VMem P (opStore t) [.ptr i off, B true] h K := by
  refine VMem.st1 hTt rfl hl hb ?_ hK
  subst ho
  unfold wkB
  rw [wk_cells, wk_cells]
  have hlt : 4 + j < (I (W : Int) :: ints o :: ints R :: I mn :: M.map B).length := by simp; omega
  simp only [Blk.wr1, hlt, if_true, V.cell1]
  rw [show 4 + j = j + 1 + 1 + 1 + 1 by omega]
  simp only [List.set_cons_succ, List.map_set]
theorem VLd.wk {T : TT} {t : TypeId} {i : Vm.Id} {off : Nat} {h : Hp} {W : Nat} {o R : List Int} {mn : Int} {M : List Bool} {x : Bool} {ti : TI} {K : V → Prop} (j : Nat) (hT : T t = some ti) (ha : ti.agg = false) (hb : h.get i = some (wkB W o R mn M)) (hj : M[j]? = some x) (ho : off = 4 + j) (hK : K (B x)) : VLd T t (.ptr i off) h K := by
  refine VLd.cell hT ha (rw := true) (l := wkC W o (ints R) mn (M.map DB)) hb ?_ hK
  rw [wk_cells, ho, show 4 + j = j + 1 + 1 + 1 + 1 by omega]
  simp only [List.getElem?_cons_succ, List.getElem?_map, hj]
  rfl
theorem VLd.wkR {T : TT} {t : TypeId} {i : Vm.Id} {off : Nat} {h : Hp} {W : Nat} {o R : List Int} {mn : Int} {M : List Bool} {ti : TI} {K : V → Prop} (hT : T t = some ti) (ha : ti.agg = false) (hb : h.get i = some (wkB W o R mn M)) (ho : off = 2) (hK : K (ints R)) : VLd T t (.ptr i off) h K := by
  subst ho
  exact VLd.cell hT ha (rw := true) (l := wkC W o (ints R) mn (M.map DB)) hb rfl hK
theorem VLd.wkN {T : TT} {t : TypeId} {i : Vm.Id} {off : Nat} {h : Hp} {W : Nat} {o R : List Int} {mn : Int} {M : List Bool} {ti : TI} {K : V → Prop} (hT : T t = some ti) (ha : ti.agg = false) (hb : h.get i = some (wkB W o R mn M)) (ho : off = 3) (hK : K (I mn)) : VLd T t (.ptr i off) h K := by
  subst ho
  exact VLd.cell hT ha (rw := true) (l := wkC W o (ints R) mn (M.map DB)) hb rfl hK
theorem VLd.wkM {T : TT} {t : TypeId} {i : Vm.Id} {off : Nat} {h : Hp} {W : Nat} {o R : List Int} {mn : Int} {M : List Bool} {ti : TI} {K : V → Prop} (hT : T t = some ti) (ha : ti.agg = true) (hs : ti.size = 2) (hb : h.get i = some (wkB W o R mn M)) (ho : off = 0) (hK : K (vE W o)) : VLd T t (.ptr i off) h K := by
  subst ho
  refine VLd.intro (v := vE W o) ?_ hK
  unfold vload
  simp only [hT, ha, hs, rdN_cells (rw := true) (l := wkC W o (ints R) mn (M.map DB)) hb 2 0 (by unfold wkC; simp)]
  rfl
theorem vc_free (W : Nat) (o R : List Int) (mn : Int) (M : List Bool) (b : Int) (k : Nat) (wI c3 : Vm.Id) (h : Hp) (h3 : h.get c3 = some (.cells true [.ptr wI 0])) (hw : h.get wI = some (wkB W o R mn M)) (hk : k < R.length) (hn : R.length ≤ 100) (hM : M.length = 100) :
    VC Tryz.prog 71 [I k, .ptr c3 0, .fp [DI b]] h (B (decide (at0 R k ≠ b ∧ M.getD k false = false))) h := by
  have hR := at0_get hk
  have hm : M[k]? = some (M.getD k false) := by rw [List.getD_eq_getElem?_getD, List.getElem?_eq_getElem (by omega)]; rfl
  have hw2 : ∀ loc, (⟨h.lift, loc⟩ : Hp).get (.out wI) = some (wkB W o R mn M) := fun loc => by rw [get_out hw loc, wkB_ren]
  generalize at0 R k = a at *
  generalize M.getD k false = q at *
  by_cases hab : a = b
  · rw [decide_eq_false (fun hh => hh.1 hab)]
    have e2 : (a != b) = false := by subst hab; simp
    refine VC.body Tryz.func71 rfl Tryz.ntmps71 Tryz.call71 (h.grows_refl) rfl ?_; conv => whnf
    repeat' (first | ((first | refine zs1 ?_ | refine zs2 ?_ | refine zs3 ?_ | refine zs4 ?_ | refine zs5 ?_); conv => whnf) | ((first | apply zi1 | apply zi2 | apply zi3 | apply zi4 | apply zi5) <;> intro _ <;> first | (exfalso; omega) | contradiction | (conv => whnf)))
    refine zs6 [] ?_
    conv => whnf
    repeat' (first | ((first | refine zs1 ?_ | refine zs2 ?_ | refine zs3 ?_ | refine zs4 ?_ | refine zs5 ?_); conv => whnf) | ((first | apply zi1 | apply zi2 | apply zi3 | apply zi4 | apply zi5) <;> intro _ <;> first | (exfalso; omega) | contradiction | (conv => whnf)) | (refine VLd.cell rfl rfl (get_out h3 _) rfl ?_; conv => whnf) | (refine VLd.wkR rfl rfl (hw2 _) rfl ?_; conv => whnf) | (refine VAny.ix encI_len k rfl rfl hR ?_; conv => whnf))
    all_goals first
      | contradiction
      | exact VOut.same rfl
  · cases q with
    | true =>
      rw [decide_eq_false (fun hh => by cases hh.2)]
      refine VC.body Tryz.func71 rfl Tryz.ntmps71 Tryz.call71 (h.grows_refl) rfl ?_; conv => whnf
      repeat' (first | ((first | refine zs1 ?_ | refine zs2 ?_ | refine zs3 ?_ | refine zs4 ?_ | refine zs5 ?_); conv => whnf) | ((first | apply zi1 | apply zi2 | apply zi3 | apply zi4 | apply zi5) <;> intro _ <;> first | (exfalso; omega) | contradiction | (conv => whnf)))
      refine zs6 [] ?_
      conv => whnf
      repeat' (first | ((first | refine zs1 ?_ | refine zs2 ?_ | refine zs3 ?_ | refine zs4 ?_ | refine zs5 ?_); conv => whnf) | ((first | apply zi1 | apply zi2 | apply zi3 | apply zi4 | apply zi5) <;> intro _ <;> first | (exfalso; omega) | contradiction | (conv => whnf)) | (refine VLd.cell rfl rfl (get_out h3 _) rfl ?_; conv => whnf) | (refine VLd.wkR rfl rfl (hw2 _) rfl ?_; conv => whnf) | (refine VLd.wk k rfl rfl (hw2 _) hm (by show 0 + 4 + (k : Int).toNat * 1 = _; omega) ?_; conv => whnf) | (refine VAny.ix encI_len k rfl rfl hR ?_; conv => whnf))
      all_goals first
        | contradiction
        | exact VOut.same rfl
    | false =>
      rw [decide_eq_true ⟨hab, rfl⟩]
      refine VC.body Tryz.func71 rfl Tryz.ntmps71 Tryz.call71 (h.grows_refl) rfl ?_; conv => whnf
      repeat' (first | ((first | refine zs1 ?_ | refine zs2 ?_ | refine zs3 ?_ | refine zs4 ?_ | refine zs5 ?_); conv => whnf) | ((first | apply zi1 | apply zi2 | apply zi3 | apply zi4 | apply zi5) <;> intro _ <;> first | (exfalso; omega) | contradiction | (conv => whnf)))
      refine zs6 [] ?_
      conv => whnf
      repeat' (first | ((first | refine zs1 ?_ | refine zs2 ?_ | refine zs3 ?_ | refine zs4 ?_ | refine zs5 ?_); conv => whnf) | ((first | apply zi1 | apply zi2 | apply zi3 | apply zi4 | apply zi5) <;> intro _ <;> first | (exfalso; omega) | contradiction | (conv => whnf)) | (refine VLd.cell rfl rfl (get_out h3 _) rfl ?_; conv => whnf) | (refine VLd.wkR rfl rfl (hw2 _) rfl ?_; conv => whnf) | (refine VLd.wk k rfl rfl (hw2 _) hm (by show 0 + 4 + (k : Int).toNat * 1 = _; omega) ?_; conv => whnf) | (refine VAny.ix encI_len k rfl rfl hR ?_; conv => whnf))
      all_goals first
        | contradiction
        | exact VOut.same rfl
end Go.Proofs.YtajnkenbhmkjaaaGreat

open Go.Vm
open Riv
namespace Go.Proofs.YtajnkenbhmkjaaaGreat
set_option maxRecDepth 20000
set_option maxHeartbeats 4000000

def vFree (c3 : Vm.Id) (b : Int) : V := .func (.func 71) [] [.ptr c3 0, .fp [DI b]]
structure QJ (hl : Vm.Id → Option Blk) (wI : Vm.Id) (W : Nat) (o R : List Int) (mn b : Int) (F : List (Nat × Int)) (S : List Nat) (g : Hp) : Prop where
  o : g.outer = outW hl wI (wkB W o R mn (metB 100 (keysF F)))
  b0 : g.get (.loc 0) = some (.cells true [.ptr (.out wI) 0])
  b1 : g.get (.loc 1) = some (.map (esM (fM F)))
  b2 : g.get (.loc 2) = some (.cells true [.map (.loc 1)])
  b3 : g.get (.loc 3) = some (.cells true [vFree (.loc 0) b])
  st : ∃ m ds, (m = 5 ∨ 8 ≤ m) ∧ g.get (.loc 4) = some (.cells true [.gl (.loc m) 1 (natI S).length]) ∧ g.get (.loc m) = some (.flat true ds) ∧ ds.take (natI S).length = (natI S).flatMap Vm.encI
  b6 : g.get (.loc 6) = some .mark
def upQ (wI : Vm.Id) (B : Blk) (F : List (Nat × Int)) (m : Nat) (b : Blk) : List (Vm.Id × Blk) := [(.out wI, B), (.loc 1, .map (esM (fM F))), (.loc m, .dead), (.loc 4, b)]
theorem upQ_ok {wI : Vm.Id} {B : Blk} {F : List (Nat × Int)} {m : Nat} {b cw c1 cm c4 : Blk} {g : Hp} (jw : g.get (.out wI) = some cw) (j1 : g.get (.loc 1) = some c1) (jm : g.get (.loc m) = some cm) (j4 : g.get (.loc 4) = some c4) : ∀ p ∈ upQ wI B F m b, g.get p.1 ≠ none := by
  intro p hp
  simp only [upQ, List.mem_cons, List.not_mem_nil, or_false] at hp
  rcases hp with rfl | rfl | rfl | rfl <;> simp only
  · rw [jw]; simp
  · rw [j1]; simp
  · rw [jm]; simp
  · rw [j4]; simp
theorem QJ.step {hl : Vm.Id → Option Blk} {wI : Vm.Id} {W : Nat} {o R : List Int} {mn b : Int} {M0 : List Bool} {F : List (Nat × Int)} {S : List Nat} {g : Hp} {m : Nat} {b7 c1 cm c4 : Blk} (jo : g.outer = outW hl wI (wkB W o R mn M0)) (j0 : g.get (.loc 0) = some (.cells true [.ptr (.out wI) 0])) (j1 : g.get (.loc 1) = some c1) (j2 : g.get (.loc 2) = some (.cells true [.map (.loc 1)])) (j3 : g.get (.loc 3) = some (.cells true [vFree (.loc 0) b])) (j4 : g.get (.loc 4) = some c4) (jm : g.get (.loc m) = some cm) (j6 : g.get (.loc 6) = some .mark) (j7 : g.get (.loc 7) = some b7) (hm : m = 5 ∨ 8 ≤ m) :
    g.grows ((g.sets (upQ wI (wkB W o R mn (metB 100 (keysF F))) F m (.cells true [.gl g.fresh 1 (natI S).length]))).pushes [.flat true ((natI S).flatMap Vm.encI)]) ∧
    QJ hl wI W o R mn b F S ((g.sets (upQ wI (wkB W o R mn (metB 100 (keysF F))) F m (.cells true [.gl g.fresh 1 (natI S).length]))).pushes [.flat true ((natI S).flatMap Vm.encI)]) ∧
    ((g.sets (upQ wI (wkB W o R mn (metB 100 (keysF F))) F m (.cells true [.gl g.fresh 1 (natI S).length]))).pushes [.flat true ((natI S).flatMap Vm.encI)]).get (.loc 7) = some b7 := by
  obtain ⟨go, gl⟩ := g
  dsimp only at jo
  subst jo
  have jw : (⟨outW hl wI (wkB W o R mn M0), gl⟩ : Hp).get (.out wI) = some (wkB W o R mn M0) := outW_get _ _ _ _
  have hgr := Hp.grows_sets (news := [.flat true ((natI S).flatMap Vm.encI)]) (upQ_ok (B := wkB W o R mn (metB 100 (keysF F))) (F := F) (b := .cells true [.gl (Hp.fresh ⟨outW hl wI (wkB W o R mn M0), gl⟩) 1 (natI S).length]) jw j1 jm j4)
  simp only [Hp.get] at j0 j1 j2 j3 j4 jm j6 j7
  have l0 := (List.getElem?_eq_some_iff.1 j0).1
  have l1 := (List.getElem?_eq_some_iff.1 j1).1
  have l2 := (List.getElem?_eq_some_iff.1 j2).1
  have l3 := (List.getElem?_eq_some_iff.1 j3).1
  have l4 := (List.getElem?_eq_some_iff.1 j4).1
  have l6 := (List.getElem?_eq_some_iff.1 j6).1
  have l7 := (List.getElem?_eq_some_iff.1 j7).1
  have key : ∀ y, y < gl.length → y ≠ 1 → y ≠ m → y ≠ 4 → ∀ (A B C G : Blk), ((((gl.set 1 A).set m B).set 4 C) ++ [G])[y]? = gl[y]? := by
    intro y hy h1 h2 h3 A B C G
    rw [List.getElem?_append_left (by simpa using hy), List.getElem?_set_ne (Ne.symm h3), List.getElem?_set_ne (Ne.symm h2), List.getElem?_set_ne (Ne.symm h1)]
  have fl : ((natI S).flatMap Vm.encI).length = (natI S).length := by rw [flat_len Vm.encI_len, Nat.mul_one]
  refine ⟨hgr, ⟨?_, ?_, ?_, ?_, ?_, ⟨gl.length, (natI S).flatMap Vm.encI, .inr (by omega), ?_, ?_, ?_⟩, ?_⟩, ?_⟩
  · show outW (outW hl wI (wkB W o R mn M0)) wI (wkB W o R mn (metB 100 (keysF F))) = _
    rw [outW_same]
  · exact (key 0 l0 (by omega) (by omega) (by omega) _ _ _ _).trans j0
  · show ((((gl.set 1 _).set m _).set 4 _) ++ [_])[1]? = _
    rw [List.getElem?_append_left (by simpa using l1), List.getElem?_set_ne (by omega), List.getElem?_set_ne (by omega), List.getElem?_set_self l1]
  · exact (key 2 l2 (by omega) (by omega) (by omega) _ _ _ _).trans j2
  · exact (key 3 l3 (by omega) (by omega) (by omega) _ _ _ _).trans j3
  · show ((((gl.set 1 _).set m _).set 4 _) ++ [_])[4]? = _
    rw [List.getElem?_append_left (by simpa using l4), List.getElem?_set_self (by simpa using l4)]
    simp [Hp.fresh]
  · show ((((gl.set 1 _).set m _).set 4 _) ++ [_])[gl.length]? = _
    rw [List.getElem?_append_right (by simp)]
    simp
  · rw [← fl, List.take_of_length_le (Nat.le_refl _)]
  · exact (key 6 l6 (by omega) (by omega) (by omega) _ _ _ _).trans j6
  · exact (key 7 l7 (by omega) (by omega) (by omega) _ _ _ _).trans j7
theorem met_nil : (metB 100 []).map DB = ms0 := by rw [metB_nil]; unfold ms0; rw [List.map_replicate]
theorem wk_clear {W : Nat} {o R : List Int} {mn : Int} {M : List Bool} (hM : M.length = 100) : (wkC W o (ints R) mn (M.map DB)).take 4 ++ D.vs ms0 ++ (wkC W o (ints R) mn (M.map DB)).drop (4 + 100 * 1) = wkC W o (ints R) mn ms0 := by
  rw [wk_cells, List.drop_of_length_le (by simp [hM]), List.append_nil]
  rfl
theorem VOut.setB {h : Hp} {loc : List Blk} {wI : Vm.Id} {B c : Blk} {r1 r : V} (L : Nat) (hL : Nat.ble loc.length L = true) (hw : h.get wI = some c) (hB : ∀ ρ, B.ren ρ = B) (hr : ∀ ρ, r.ren ρ = r1) : VOut h ⟨outW h.lift wI B, loc⟩ r1 r (h.set wI B) := by
  have := VOut.upd (h := h) (loc := loc) (r1 := r1) (r := r) [(wI, B)] [] [] L hL (by intro p hp; simp only [List.mem_cons, List.not_mem_nil, or_false] at hp; subst hp; rw [hw]; simp) (by simp) rfl (by intro k b hk; simp at hk) (fun σ x hx => by rw [hr]; exact hx) (outer := outW h.lift wI B) (by
    simp only [List.map_cons, List.map_nil, hB]; rfl)
  rw [show (h.sets [(wI, B)]).pushes [] = h.set wI B by simp only [Hp.sets, Hp.pushes, List.append_nil]] at this
  exact this
theorem vc_eout (W : Nat) (o R : List Int) (mn a b : Int) (M : List Bool) (wI : Vm.Id) (h : Hp) (e : EOk W o) (hR : R.length = o.length) (hM : M.length = 100) (hw : h.get wI = some (wkB W o R mn M)) :
    VC Tryz.prog 54 [.ptr wI 0, I a, I b] h (outV R W a b) (h.set wI (wkB W o R mn (metB 100 (keysF (outR R W a b).2)))) := by
  have hn := e.n
  have hW := e.w
  have hmod := e.m
  have hw2 : ∀ loc, (⟨h.lift, loc⟩ : Hp).get (.out wI) = some (wkB W o R mn M) := fun loc => by rw [get_out hw loc, wkB_ren]
  have hini := fun k hk => iniO_ok R a o.length k hk
  have hmuI := fun k hk => muO_ini (R := R) (a := a) (n := o.length) (k := k) hk
  have hinis : ∀ k, iniO R a (k + 1) = if at0 R k = a then ((iniO R a k).1 ++ [(k, -1)], (iniO R a k).2 ++ [k]) else iniO R a k := fun k => rfl
  have hini0 : iniO R a 0 = ([], []) := rfl
  unfold outV outR
  rw [hR]
  generalize iniO R a = A at *
  obtain ⟨res, hres⟩ : ∃ r, r = outG R W b o.length (A o.length) := ⟨_, rfl⟩
  rw [← hres]
  have cNb := fun n h => vc_nbs W o n h
  have hWl := e.le
  have itN := fun n hn => iter_nbs W o n (by omega) hn (by omega)
  have hnl := fun p (hp : p < o.length) => nbO_lt hW hmod hp
  have hmetl := fun F : List (Nat × Int) => metB_len 100 (keysF F)
  refine VC.bodyC 99 Tryz.func54 rfl Tryz.ntmps54 Tryz.call54 (h.grows_set _ _) rfl ?_
  conv => whnf
  repeat' (first | ((first | refine zs1 ?_ | refine zs2 ?_ | refine zs3 ?_ | refine zs4 ?_ | refine zs5 ?_); conv => whnf) | ((first | apply zi1 | apply zi2 | apply zi3 | apply zi4 | apply zi5) <;> intro _ <;> first | (exfalso; omega) | contradiction | (conv => whnf)) | (refine VLd.cell rfl rfl rfl rfl ?_; conv => whnf))
  refine VMem.intro (does_sliceArr (tiOf_ok _) (n := 100) (esz := 1) rfl (by decide) (hw2 _) rfl (by show 4 + 100 * 1 ≤ (wkC W o (ints R) mn (M.map DB)).length; rw [wk_cells]; simp [hM])) ?_
  conv => whnf
  repeat' (first | ((first | refine zs1 ?_ | refine zs2 ?_ | refine zs3 ?_ | refine zs4 ?_ | refine zs5 ?_); conv => whnf) | ((first | apply zi1 | apply zi2 | apply zi3 | apply zi4 | apply zi5) <;> intro _ <;> first | (exfalso; omega) | contradiction | (conv => whnf)))
  refine VMem.intro (does_clear (tiOf_ok _) (b' := wkB W o R mn (metB 100 [])) (l := wkC W o (ints R) mn (M.map DB)) rfl (hw2 _) rfl (by rw [wk_cells]; simp [hM]) ?_) ?_
  · unfold wkB
    rw [met_nil]
    exact congrArg (fun t => some (true, t)) (wk_clear hM).symm
  conv => whnf
  repeat' (first | ((first | refine zs1 ?_ | refine zs2 ?_ | refine zs3 ?_ | refine zs4 ?_ | refine zs5 ?_); conv => whnf) | ((first | apply zi1 | apply zi2 | apply zi3 | apply zi4 | apply zi5) <;> intro _ <;> first | (exfalso; omega) | contradiction | (conv => whnf)) | (refine VLd.wkR rfl rfl (outW_get _ _ _ _) rfl ?_; conv => whnf))
  refine VCode.lpoC (marks := []) 99 (fun y : Nat × List D => [(1, I a), (3, .ptr (.loc 0) 0), (6, .nilslice), (7, .ptr (.loc 2) 0), (8, .ptr (.loc 3) 0), (9, .ptr (.loc 4) 0), (24, ints R), (25, I R.length), (26, I y.1)]) (fun y => outW h.lift wI (wkB W o R mn (metB 100 (keysF (A y.1).1))))
    (fun y => [.cells true [.ptr (.out wI) 0], .map (esM (fM (A y.1).1)), .cells true [.map (.loc 1)], .cells true [vFree (.loc 0) b], .cells true [.gl (.loc 5) 1 (natI (A y.1).2).length], .flat true y.2])
    (fun y => y.1 ≤ R.length ∧ y.2.take (natI (A y.1).2).length = (natI (A y.1).2).flatMap Vm.encI) (fun y => R.length - y.1) (0, []) ⟨Nat.zero_le _, by rw [hini0]; rfl⟩ ?_ ?_
  · rw [hini0]
    conv => whnf
    refine Retell.turn ⟨[0, 2, 3, 4, 5, 9], 9, [(1, [DI b])], []⟩ (TurnOk.mk' _ _ [(1, [DI b])] [] (OutOk.outW (OutOk.lift _) (wkB_ren _ _ _ _ _ _)) rfl (by decide) zb zf trivial rfl) zw zm
  · rintro ⟨k, ds⟩ ⟨h1, h2⟩
    dsimp only at h1 h2
    rcases Nat.lt_or_ge k R.length with h3 | h3
    · have hxR := at0_get h3
      have hAs := hinis k
      obtain ⟨i1, i2, i3⟩ := hini k (by omega)
      have hkn : k ∉ keysF (A k).1 := fun hx => Nat.lt_irrefl _ (i3 k hx)
      have hil := i1.len
      have hSl : (natI (A k).2).length ≤ 4000000 := by rw [natI_len, i2, keysF_len]; omega
      clear hini hmuI hinis hini0
      by_cases hra : at0 R k = a
      · rw [if_pos hra] at hAs
        rw [hra] at hxR
        have eo : outW (outW h.lift wI (wkB W o R mn (metB 100 (keysF (A k).1)))) wI (wkB W o R mn ((metB 100 (keysF (A k).1)).set k true)) = outW h.lift wI (wkB W o R mn (metB 100 (keysF (A (k + 1)).1))) := by
          rw [outW_same, metB_set _ (by omega), hAs]; dsimp only; rw [keysF_app]
        generalize A k = st at *
        conv => whnf
        repeat' (first | ((first | refine zs1 ?_ | refine zs2 ?_ | refine zs3 ?_ | refine zs4 ?_ | refine zs5 ?_); conv => whnf) | ((first | apply zi1 | apply zi2 | apply zi3 | apply zi4 | apply zi5) <;> intro _ <;> first | (exfalso; omega) | contradiction | (conv => whnf)) | (refine VAny.ix Vm.encI_len k rfl rfl hxR ?_; conv => whnf))
        refine zs6 [(2, 7)] ?_
        conv => whnf
        repeat' (first | ((first | refine zs1 ?_ | refine zs2 ?_ | refine zs3 ?_ | refine zs4 ?_ | refine zs5 ?_); conv => whnf) | ((first | apply zi1 | apply zi2 | apply zi3 | apply zi4 | apply zi5) <;> intro _ <;> first | (exfalso; omega) | contradiction | (conv => whnf)) | (refine VMem.setWk k rfl rfl (outW_get _ _ _ _) (by rw [metB_len]; omega) (by show 0 + 4 + (k : Int).toNat * 1 = _; omega) ?_; conv => whnf) | (refine VMem.putM rfl ?_; rw [fM_put hkn]; conv => whnf))
        refine VCall.intro (vc_put (k : Int) (natI st.2) ds (.loc 4) (.loc 5) _ rfl rfl h2 (by decide) hSl) ?_
        rw [← natI_app]
        conv => whnf
        repeat' (first | ((first | refine zs1 ?_ | refine zs2 ?_ | refine zs3 ?_ | refine zs4 ?_ | refine zs5 ?_); conv => whnf) | ((first | apply zi1 | apply zi2 | apply zi3 | apply zi4 | apply zi5) <;> intro _ <;> first | (exfalso; omega) | contradiction | (conv => whnf)))
        have fl : ((natI (st.2 ++ [k])).flatMap Vm.encI).length = (natI (st.2 ++ [k])).length := by rw [flat_len Vm.encI_len, Nat.mul_one]
        refine LEndO.intro (k + 1, (natI (st.2 ++ [k])).flatMap Vm.encI) ⟨by dsimp only; omega, ?_⟩ (by dsimp only; omega) eo ?_
        · dsimp only
          rw [hAs]
          dsimp only
          rw [← fl, List.take_of_length_le (Nat.le_refl _)]
        · clear eo
          dsimp only
          rw [hAs]
          conv => whnf
          refine Retell.turn ⟨[0, 1, 2, 3, 4, 6], 9, [], []⟩ (TurnOk.mk' _ _ [] [] (OutOk.outW (OutOk.lift _) (wkB_ren _ _ _ _ _ _)) rfl (by decide) zb trivial trivial rfl) zw zm
      · rw [if_neg hra] at hAs
        generalize A k = st at *
        conv => whnf
        repeat' (first | ((first | refine zs1 ?_ | refine zs2 ?_ | refine zs3 ?_ | refine zs4 ?_ | refine zs5 ?_); conv => whnf) | ((first | apply zi1 | apply zi2 | apply zi3 | apply zi4 | apply zi5) <;> intro _ <;> first | (exfalso; omega) | contradiction | (conv => whnf)) | (refine VAny.ix Vm.encI_len k rfl rfl hxR ?_; conv => whnf))
        refine LEndO.intro (k + 1, ds) ⟨by dsimp only; omega, by dsimp only; rw [hAs]; exact h2⟩ (by dsimp only; omega) (by dsimp only; rw [hAs]) ?_
        dsimp only
        rw [hAs]
        conv => whnf
        refine Retell.turn ⟨[0, 1, 2, 3, 4, 5], 9, [], []⟩ (TurnOk.mk' _ _ [] [] (OutOk.outW (OutOk.lift _) (wkB_ren _ _ _ _ _ _)) rfl (by decide) zb trivial trivial rfl) zw zm
    · obtain rfl : k = o.length := by omega
      obtain ⟨i1, i2, i3⟩ := hini o.length (by omega)
      have hmu := hmuI o.length (by omega)
      clear hini hmuI hinis hini0 h3
      generalize A o.length = st0 at *
      conv => whnf
      repeat' (first | ((first | refine zs1 ?_ | refine zs2 ?_ | refine zs3 ?_ | refine zs4 ?_ | refine zs5 ?_); conv => whnf) | ((first | apply zi1 | apply zi2 | apply zi3 | apply zi4 | apply zi5) <;> intro _ <;> first | (exfalso; omega) | contradiction | (conv => whnf)))
      refine VCode.lpoC (marks := []) 99 (fun y : Nat × FS × List D => [(3, .ptr (.loc 0) 0), (6, .nilslice), (7, .ptr (.loc 2) 0), (8, .ptr (.loc 3) 0), (9, .ptr (.loc 4) 0)]) (fun y => outW h.lift wI (wkB W o R mn (metB 100 (keysF y.2.1.1))))
        (fun y => [.cells true [.ptr (.out wI) 0], .map (esM (fM y.2.1.1)), .cells true [.map (.loc 1)], .cells true [vFree (.loc 0) b], .cells true [.gl (.loc 5) 1 (natI y.2.1.2).length], .flat true y.2.2])
        (fun y => y.1 ≤ o.length ∧ FI o.length y.2.1 ∧ muO o.length y.2.1 ≤ y.1 ∧ res = outG R W b y.1 y.2.1 ∧ y.2.2.take (natI y.2.1.2).length = (natI y.2.1.2).flatMap Vm.encI) (fun y => y.1) (o.length, st0, ds) ⟨Nat.le_refl _, i1, by dsimp only; omega, hres, h2⟩ ?_ ?_
      · conv => whnf
        refine Retell.turn ⟨[0, 1, 2, 3, 4, 5], 9, [], []⟩ (TurnOk.mk' _ _ [] [] (OutOk.outW (OutOk.lift _) (wkB_ren _ _ _ _ _ _)) rfl (by decide) zb trivial trivial rfl) zw zm
      · clear hres h1 h2 i1 i2 i3 hmu
        rintro ⟨N, ⟨F, S⟩, ds⟩ ⟨h4, h5, h6, h7, h8⟩
        dsimp only at h4 h5 h6 h7 h8
        rcases List.eq_nil_or_concat S with rfl | ⟨S3, p, rfl⟩
        · rw [outG_nil] at h7
          subst h7
          conv => whnf
          repeat' (first | ((first | refine zs1 ?_ | refine zs2 ?_ | refine zs3 ?_ | refine zs4 ?_ | refine zs5 ?_); conv => whnf) | ((first | apply zi1 | apply zi2 | apply zi3 | apply zi4 | apply zi5) <;> intro _ <;> first | (exfalso; omega) | contradiction | (conv => whnf)))
          exact VOut.setB 9 rfl hw (fun ρ => wkB_ren _ _ _ _ _ ρ) (fun ρ => rfl)
        · rw [List.concat_eq_append] at *
          obtain ⟨N, rfl⟩ : ∃ M, N = M + 1 := ⟨N - 1, by have := muO_pop (n := o.length) (F := F) (S := S3) (p := p); omega⟩
          obtain ⟨hI2, hpk, hp⟩ := h5.pop
          have hmu : muO o.length (F, S3) ≤ N := by have := muO_pop (n := o.length) (F := F) (S := S3) (p := p); omega
          have hS3 : (natI S3).length ≤ 4000000 := by
            rw [natI_len]
            have h10 := hmu
            unfold muO at h10
            dsimp only at h10
            omega
          have hln : (natI (S3 ++ [p])).length = (natI S3).length + 1 := by rw [natI_app, List.length_append, List.length_singleton]
          rw [hln, natI_app] at h8
          have h9 : ds.take (natI S3).length = (natI S3).flatMap Vm.encI := by
            have e1 := congrArg (List.take (natI S3).length) h8
            rw [List.take_take, Nat.min_eq_left (by omega), List.flatMap_append, List.take_left' (by rw [flat_len Vm.encI_len, Nat.mul_one])] at e1
            exact e1
          rw [hln]
          have cT := fun h h1 h2 => vc_take (p : Int) (natI S3) ds (.loc 4) (.loc 5) h h1 h2 h8 hS3
          have cR := fun h => vc_rim W o p h e hp
          by_cases hrim : rimB W o.length p = true
          · rw [hrim] at cR
            rw [outG_rim (by rw [hR]; exact hrim)] at h7
            subst h7
            dsimp only
            conv => whnf
            repeat' (first | ((first | refine zs1 ?_ | refine zs2 ?_ | refine zs3 ?_ | refine zs4 ?_ | refine zs5 ?_); conv => whnf) | ((first | apply zi1 | apply zi2 | apply zi3 | apply zi4 | apply zi5) <;> intro _ <;> first | (exfalso; omega) | contradiction | (conv => whnf)) | (refine VCall.intro (cT _ rfl rfl) ?_; conv => whnf))
            refine zs6 [] ?_
            conv => whnf
            repeat' (first | ((first | refine zs1 ?_ | refine zs2 ?_ | refine zs3 ?_ | refine zs4 ?_ | refine zs5 ?_); conv => whnf) | ((first | apply zi1 | apply zi2 | apply zi3 | apply zi4 | apply zi5) <;> intro _ <;> first | (exfalso; omega) | contradiction | (conv => whnf)) | (refine VLd.wkM rfl rfl rfl (outW_get _ _ _ _) rfl ?_; conv => whnf) | (refine VCall.intro (cR _) ?_; conv => whnf))
            obtain ⟨L0, hL0⟩ : ∃ l, l = chn F o.length p := ⟨_, rfl⟩
            rw [← hL0]
            have hLl : L0.length ≤ o.length := by rw [hL0]; exact chn_len F o.length p
            have hstart := AtF.start hI2 hpk
            refine VCode.lpoC (marks := []) 99 (fun y : Nat × Int × List Int => [(7, .ptr (.loc 1) 0), (12, .ptr (.loc 2) 0), (13, .gl (.loc 3) 1 y.2.2.length)]) (fun y => outW h.lift wI (wkB W o R mn (metB 100 (keysF F))))
              (fun y => [.map (esM (fM F)), .cells true [.map (.loc 0)], .flat true [DI y.2.1], .flat true (y.2.2.flatMap Vm.encI)])
              (fun y => AtF F y.1 y.2.1 ∧ L0 = y.2.2 ++ chn F y.1 y.2.1) (fun y => y.1) (o.length, (p : Int), []) ⟨hstart, hL0⟩ ?_ ?_
            · conv => whnf
              refine Retell.turn ⟨[1, 2, 6, 9], 9, [], []⟩ (TurnOk.mk' _ _ [] [] (OutOk.outW (OutOk.lift _) (wkB_ren _ _ _ _ _ _)) rfl (by decide) zb trivial trivial rfl) zw zm
            · clear hL0 hstart h8 h9 cT cR
              rintro ⟨f, q, out⟩ ⟨g1, g2⟩
              dsimp only at g1 g2
              by_cases hq : q = -1
              · subst hq
                have e0 : chn F f (-1) = [] := by cases f <;> rfl
                rw [e0, List.append_nil] at g2
                subst g2
                conv => whnf
                repeat' (first | ((first | refine zs1 ?_ | refine zs2 ?_ | refine zs3 ?_ | refine zs4 ?_ | refine zs5 ?_); conv => whnf) | ((first | apply zi1 | apply zi2 | apply zi3 | apply zi4 | apply zi5) <;> intro _ <;> first | (exfalso; omega) | contradiction | (conv => whnf)))
                refine VCall.intro (vc_reverse L0 (.loc 3) _ rfl (by omega)) ?_
                conv => whnf
                repeat' (first | ((first | refine zs1 ?_ | refine zs2 ?_ | refine zs3 ?_ | refine zs4 ?_ | refine zs5 ?_); conv => whnf) | ((first | apply zi1 | apply zi2 | apply zi3 | apply zi4 | apply zi5) <;> intro _ <;> first | (exfalso; omega) | contradiction | (conv => whnf)))
                refine VOut.turn ⟨[], 9, [(3, L0.reverse.flatMap Vm.encI)], []⟩ (loc' := []) (r1' := .fs 1 L0.length (L0.reverse.flatMap Vm.encI)) (TurnOk.mk' _ _ [(3, L0.reverse.flatMap Vm.encI)] [] (OutOk.outW (OutOk.lift _) (wkB_ren _ _ _ _ _ _)) rfl (by decide) zb zf trivial rfl) (by
                  have fl : (L0.reverse.flatMap Vm.encI).length = L0.length * 1 := by rw [flat_len Vm.encI_len, List.length_reverse]
                  exact zw) ?_
                rw [show V.fs 1 L0.length (L0.reverse.flatMap Vm.encI) = ints L0.reverse by unfold ints; rw [List.length_reverse]]
                exact VOut.setB 9 rfl hw (fun ρ => wkB_ren _ _ _ _ _ ρ) (fun ρ => rfl)
              · obtain ⟨f', rfl, g3, k2, hk2, hk3⟩ := g1.step hI2 hq
                have g3 : AtF F f' (mget (fM F) q) := g3
                have g4 : L0 = (out ++ [q]) ++ chn F f' (mget (fM F) q) := by
                  rw [g2, chn, if_neg hq, List.append_assoc]; rfl
                have hol : out.length ≤ 4000000 := by
                  have := congrArg List.length g2
                  rw [List.length_append] at this
                  omega
                have hlk := look_esM (fM F) q
                have hmg : -9000000 ≤ mget (fM F) q ∧ mget (fM F) q ≤ 9000000 := by
                  rcases g3 with g3 | ⟨j, e', g5, g6, g7⟩
                  · omega
                  · have := hI2.lt e'.1 (List.mem_map.2 ⟨e', List.mem_of_getElem? g6, rfl⟩)
                    omega
                generalize mget (fM F) q = q2 at *
                clear g2
                conv => whnf
                repeat' (first | ((first | refine zs1 ?_ | refine zs2 ?_ | refine zs3 ?_ | refine zs4 ?_ | refine zs5 ?_); conv => whnf) | ((first | apply zi1 | apply zi2 | apply zi3 | apply zi4 | apply zi5) <;> intro _ <;> first | (exfalso; omega) | contradiction | (conv => whnf)) | (refine VMem.app1 (l := out) q Vm.encI_len rfl rfl rfl rfl rfl (by omega) ?_; conv => whnf) | (refine VLook.intro rfl hlk ?_; conv => whnf))
                all_goals first
                  | contradiction
                  | (refine LEndO.intro (f', q2, out ++ [q]) ⟨g3, g4⟩ (by dsimp only; omega) rfl ?_
                     conv => whnf
                     rw [List.length_append]
                     refine Retell.turn ⟨[0, 1, 2, 5], 9, [], []⟩ (TurnOk.mk' _ _ [] [] (OutOk.outW (OutOk.lift _) (wkB_ren _ _ _ _ _ _)) rfl (by decide) zb trivial trivial rfl) zw zm)
          · rw [Bool.not_eq_true] at hrim
            rw [hrim] at cR
            rw [outG_step (by rw [hR]; exact hrim)] at h7
            conv => whnf
            repeat' (first | ((first | refine zs1 ?_ | refine zs2 ?_ | refine zs3 ?_ | refine zs4 ?_ | refine zs5 ?_); conv => whnf) | ((first | apply zi1 | apply zi2 | apply zi3 | apply zi4 | apply zi5) <;> intro _ <;> first | (exfalso; omega) | contradiction | (conv => whnf)) | (refine VCall.intro (cT _ rfl rfl) ?_; conv => whnf))
            refine zs6 [] ?_
            conv => whnf
            repeat' (first | ((first | refine zs1 ?_ | refine zs2 ?_ | refine zs3 ?_ | refine zs4 ?_ | refine zs5 ?_); conv => whnf) | ((first | apply zi1 | apply zi2 | apply zi3 | apply zi4 | apply zi5) <;> intro _ <;> first | (exfalso; omega) | contradiction | (conv => whnf)) | (refine VLd.wkM rfl rfl rfl (outW_get _ _ _ _) rfl ?_; conv => whnf) | (refine VCall.intro (cR _) ?_; conv => whnf))
            refine zs6 [] ?_
            conv => whnf
            repeat' (first | ((first | refine zs1 ?_ | refine zs2 ?_ | refine zs3 ?_ | refine zs4 ?_ | refine zs5 ?_); conv => whnf) | ((first | apply zi1 | apply zi2 | apply zi3 | apply zi4 | apply zi5) <;> intro _ <;> first | (exfalso; omega) | contradiction | (conv => whnf)) | (refine VLd.wkM rfl rfl rfl (outW_get _ _ _ _) rfl ?_; conv => whnf) | (refine VCall.intro (cNb p _) ?_; conv => whnf))
            refine VCode.tell [(3, .ptr (.loc 0) 0), (6, .nilslice), (7, .ptr (.loc 2) 0), (8, .ptr (.loc 3) 0), (9, .ptr (.loc 4) 0), (12, .fp [DI p]), (72, vNbs W o p)] [.cells true [.ptr (.out wI) 0], .map (esM (fM F)), .cells true [.map (.loc 1)], .cells true [vFree (.loc 0) b], .cells true [.gl (.loc 5) 1 (natI S3).length], .flat true ds] (marks' := []) ?_ ?_
            · conv => whnf
              refine Retell.turn ⟨[0, 1, 2, 3, 4, 5], 9, [(6, [DI p])], []⟩ (TurnOk.mk' _ _ [(6, [DI p])] [] (OutOk.outW (OutOk.lift _) (wkB_ren _ _ _ _ _ _)) rfl (by decide) zb zf trivial rfl) zw zm
            · have hst := fun j hj => nbF_putO (R := R) (b := b) hI2 hpk (hnl p hp) j hj
              conv => whnf
              refine VCode.iterS 4 (nbY W o.length p) (fun j g => QJ h.lift wI W o R mn b (nbF (putO R b p) W o.length p (F, S3) j).1 (nbF (putO R b p) W o.length p (F, S3) j).2 g) _ (.loc 7) rfl (itN p hp) rfl rfl ⟨rfl, rfl, rfl, rfl, rfl, ⟨5, ds, .inl rfl, rfl, rfl, h9⟩, rfl⟩ ?_ ?_ ?_
              · rintro j g hj hy hJ
                rw [nbF_none (nbY_none hy)]; exact hJ
              · rintro j g vs hj hy hJ hlp
                obtain ⟨q, hq, rfl⟩ := nbY_some hy
                rw [nbF_some hq]
                have hqL := hnl p hp j q hj hq
                obtain ⟨hI, hmuj, hpj⟩ := hst j (by omega)
                generalize nbF (putO R b p) W o.length p (F, S3) j = st at *
                obtain ⟨F4, S4⟩ := st
                dsimp only at hJ hI hpj
                have hS4 : (natI S4).length ≤ 4000000 := by
                  rw [natI_len]
                  have h10 := hmu
                  rw [← hmuj] at h10
                  unfold muO at h10
                  dsimp only at h10
                  omega
                obtain ⟨jo, j0, j1, j2, j3, ⟨m, dj, hm, j4, j5, j6⟩, j7⟩ := hJ
                have hm0 : Vm.Id.loc m ≠ .loc 7 := by intro h0; injection h0; omega
                have hm4 : Vm.Id.loc 4 ≠ .loc m := by intro h0; injection h0; omega
                have hm1 : Vm.Id.loc m ≠ .loc 1 := by intro h0; injection h0; omega
                have hw4 : Vm.Id.loc 4 ≠ Vm.Id.out wI := fun e => by cases e
                have hwm : Vm.Id.loc m ≠ Vm.Id.out wI := fun e => by cases e
                have hno : ∀ (i : Vm.Id) (j : Nat), Vm.Id.out i ≠ .loc j := fun _ _ e => by cases e
                have kw : g.get (.out wI) = some (wkB W o R mn (metB 100 (keysF F4))) := by
                  show g.outer wI = _
                  rw [jo]
                  exact outW_get _ _ _ []
                have kw2 : ∀ {c : Blk} {loc : List Blk}, (⟨outW g.lift (.loc 7) c, loc⟩ : Hp).get (.out (.out wI)) = some (wkB W o R mn (metB 100 (keysF F4))) := fun {c} {loc} => by
                  rw [get_setO (hno _ _) kw loc, wkB_ren]
                have hw1 : Vm.Id.loc 1 ≠ Vm.Id.out wI := fun e => by cases e
                have km : ∀ {c : Blk} {loc : List Blk}, (⟨outW g.lift (.loc 7) c, loc⟩ : Hp).get (.out (.loc 1)) = some (.map (esM (fM F4))) := fun {c} {loc} => by
                  rw [get_setO (by decide) j1 loc, esM_ren]
                have hmq := metB_at (keysF F4) (show q < 100 by omega)
                have hgd : (metB 100 (keysF F4)).getD q false = decide (q ∈ keysF F4) := by rw [List.getD_eq_getElem?_getD, hmq]; rfl
                have cF := fun h h1 h2 => vc_free W o R mn (metB 100 (keysF F4)) b q (.out (.out wI)) (.out (.loc 0)) h h1 h2 (by omega) (by omega) (metB_len _ _)
                rw [hgd] at cF
                by_cases hput : at0 R q ≠ b ∧ q ∉ keysF F4
                · have e1 : putO R b p (F4, S4) q = (F4 ++ [(q, (p : Int))], S4 ++ [q]) := if_pos hput
                  rw [e1]
                  dsimp only
                  have e2 : decide (at0 R q ≠ b ∧ decide (q ∈ keysF F4) = false) = true := decide_eq_true ⟨hput.1, decide_eq_false hput.2⟩
                  rw [e2] at cF
                  obtain ⟨s1, s2, s3⟩ := QJ.step (F := F4 ++ [(q, (p : Int))]) (S := S4 ++ [q]) jo j0 j1 j2 j3 j4 j5 j7 hlp hm
                  refine ⟨_, ?_, s2, s3⟩
                  have hset : (metB 100 (keysF F4)).set q true = metB 100 (keysF (F4 ++ [(q, (p : Int))])) := by rw [metB_set _ (by omega), keysF_app]
                  refine VRound.vy' hlp rfl rfl rfl s1 fun l0 => ?_
                  refine VRound.tell [(3, .ptr (.out (.loc 0)) 0), (7, .ptr (.out (.loc 2)) 0), (8, .ptr (.out (.loc 3)) 0), (9, .ptr (.out (.loc 4)) 0), (12, .fp [DI p]), (73, I q)] ?_ ?_
                  · conv => whnf
                    refine Retell.turn ⟨[], 0, [], []⟩ (TurnOk.mk' _ _ [] [] (OutOk.lift _) rfl (by decide) zb trivial trivial rfl) zw zm
                  · conv => whnf
                    repeat (first | ((first | refine zs1 ?_ | refine zs2 ?_ | refine zs3 ?_ | refine zs4 ?_ | refine zs5 ?_ | refine zs6 [] ?_); conv => whnf))
                    refine VBegin.intro (get_out hlp _) rfl ?_
                    conv => whnf
                    repeat' (first | ((first | refine zs1 ?_ | refine zs2 ?_ | refine zs3 ?_ | refine zs4 ?_ | refine zs5 ?_); conv => whnf) | ((first | apply zi1 | apply zi2 | apply zi3 | apply zi4 | apply zi5) <;> intro _ <;> first | (exfalso; omega) | contradiction | (conv => whnf)) | (refine VLd.cell rfl rfl (get_setO (by decide) j3 _) rfl ?_; conv => whnf) | (refine VCall.intro (cF _ (get_setO (by decide) j0 _) kw2) ?_; conv => whnf))
                    refine zs6 [(2, 8), (4, 8)] ?_
                    conv => whnf
                    repeat' (first | ((first | refine zs1 ?_ | refine zs2 ?_ | refine zs3 ?_ | refine zs4 ?_ | refine zs5 ?_); conv => whnf) | ((first | apply zi1 | apply zi2 | apply zi3 | apply zi4 | apply zi5) <;> intro _ <;> first | (exfalso; omega) | contradiction | (conv => whnf)) | (refine VLd.cell rfl rfl (get_setO (by decide) j0 _) rfl ?_; conv => whnf) | (refine VLd.cell rfl rfl (get_setO (by decide) j2 _) rfl ?_; conv => whnf) | (refine VMem.setWk q rfl rfl kw2 (by rw [metB_len]; omega) (by show 0 + 4 + (q : Int).toNat * 1 = _; omega) ?_; rw [hset]; conv => whnf) | (refine VMem.putM (get_outNe hw1 km) ?_; rw [fM_put hput.2]; conv => whnf))
                    refine VCall.intro (vc_put (q : Int) (natI S4) dj (.out (.loc 4)) (.out (.loc m)) _ (get_outNe (by decide) (get_outNe hw4 (get_setO (by decide) j4 _))) (get_outNe hm1 (get_outNe hwm (get_setO hm0 j5 _))) j6 (fun e => hm4 (by injection e)) hS4) ?_
                    rw [← natI_app]
                    conv => whnf
                    repeat' (first | ((first | refine zs1 ?_ | refine zs2 ?_ | refine zs3 ?_ | refine zs4 ?_ | refine zs5 ?_); conv => whnf) | ((first | apply zi1 | apply zi2 | apply zi3 | apply zi4 | apply zi5) <;> intro _ <;> first | (exfalso; omega) | contradiction | (conv => whnf)))
                    refine RFin.on (get_outNe (by decide) (get_outNe (fun e => hm0 e.symm) (get_outNe (by decide) (get_outNe (fun e => by cases e) (outW_get _ _ _ _))))) ?_
                    refine VOut.upd (upQ wI (wkB W o R mn (metB 100 (keysF (F4 ++ [(q, (p : Int))])))) (F4 ++ [(q, (p : Int))]) m (.cells true [.gl g.fresh 1 (natI (S4 ++ [q])).length])) [.flat true ((natI (S4 ++ [q])).flatMap Vm.encI)] [0] 1 ?_ (upQ_ok kw j1 j5 j4) ?_ ?_ ?_ ?_ ?_
                    · rfl
                    · decide
                    · rfl
                    · intro k' b' hk'
                      cases k' with
                      | zero => rw [List.getElem?_cons_zero, Option.some.injEq] at hk'; subst hk'; exact ⟨0, rfl, rfl⟩
                      | succ k' => simp at hk'
                    · intro σ x hx; exact hx
                    · have e1 : (Blk.cells true [V.gl g.fresh 1 (natI (S4 ++ [q])).length]).ren (backR g.loc.length [0] 1) = .cells true [.gl (.loc 0) 1 (natI (S4 ++ [q])).length] := by simp [Blk.ren, V.ren, backR, Hp.fresh]
                      simp only [upQ, List.map_cons, List.map_nil, e1, wkB_ren, esM_ren]
                      exact outer_fix4 (get_out hlp []) (fun e => by cases e) (by decide) (fun e => hm0 e.symm) (by decide)
                · have e1 : putO R b p (F4, S4) q = (F4, S4) := if_neg hput
                  rw [e1]
                  have e2 : decide (at0 R q ≠ b ∧ decide (q ∈ keysF F4) = false) = false := decide_eq_false fun hh => hput ⟨hh.1, of_decide_eq_false hh.2⟩
                  rw [e2] at cF
                  refine ⟨g, ?_, ⟨jo, j0, j1, j2, j3, ⟨m, dj, hm, j4, j5, j6⟩, j7⟩, hlp⟩
                  refine VRound.vy' hlp rfl rfl rfl g.grows_refl fun l0 => ?_
                  refine VRound.tell [(3, .ptr (.out (.loc 0)) 0), (7, .ptr (.out (.loc 2)) 0), (8, .ptr (.out (.loc 3)) 0), (9, .ptr (.out (.loc 4)) 0), (12, .fp [DI p]), (73, I q)] ?_ ?_
                  · conv => whnf
                    refine Retell.turn ⟨[], 0, [], []⟩ (TurnOk.mk' _ _ [] [] (OutOk.lift _) rfl (by decide) zb trivial trivial rfl) zw zm
                  · conv => whnf
                    repeat (first | ((first | refine zs1 ?_ | refine zs2 ?_ | refine zs3 ?_ | refine zs4 ?_ | refine zs5 ?_ | refine zs6 [] ?_); conv => whnf))
                    refine VBegin.intro (get_out hlp _) rfl ?_
                    conv => whnf
                    repeat' (first | ((first | refine zs1 ?_ | refine zs2 ?_ | refine zs3 ?_ | refine zs4 ?_ | refine zs5 ?_); conv => whnf) | ((first | apply zi1 | apply zi2 | apply zi3 | apply zi4 | apply zi5) <;> intro _ <;> first | (exfalso; omega) | contradiction | (conv => whnf)) | (refine VLd.cell rfl rfl (get_setO (by decide) j3 _) rfl ?_; conv => whnf) | (refine VCall.intro (cF _ (get_setO (by decide) j0 _) kw2) ?_; conv => whnf))
                    all_goals first
                      | exact RFin.on (outW_get _ _ _ _) (VOut.back (get_out hlp []) rfl)
                      | contradiction
              · rintro ⟨go, gl⟩ ⟨jo, j0, j1, j2, j3, ⟨m, dj, hm, j4, j5, j6⟩, j7⟩ hlp
                dsimp only at jo
                subst jo
                have hE := hst 4 (Nat.le_refl _)
                rw [hR] at h7
                generalize nbF (putO R b p) W o.length p (F, S3) 4 = st at *
                obtain ⟨F4, S4⟩ := st
                dsimp only at j1 j4 j6 ⊢
                have j0 : gl[0]? = some _ := j0
                have j1 : gl[1]? = some _ := j1
                have j2 : gl[2]? = some _ := j2
                have j3 : gl[3]? = some _ := j3
                have j4 : gl[4]? = some _ := j4
                have j5 : gl[m]? = some _ := j5
                have j7 : gl[6]? = some _ := j7
                have l0 := (List.getElem?_eq_some_iff.1 j0).1
                have l1 := (List.getElem?_eq_some_iff.1 j1).1
                have l2 := (List.getElem?_eq_some_iff.1 j2).1
                have l3 := (List.getElem?_eq_some_iff.1 j3).1
                have l4 := (List.getElem?_eq_some_iff.1 j4).1
                have l5 := (List.getElem?_eq_some_iff.1 j5).1
                have key : ∀ (x : Nat) (A : Blk), x ≠ 7 → (gl.set 7 A)[x]? = gl[x]? := fun x A hx => List.getElem?_set_ne (Ne.symm hx)
                have hmn2 : ([0, 1, 2, 3, 4, m] : List Nat).Nodup := by simp; omega
                have hm6 : 6 ∉ ([0, 1, 2, 3, 4, m] : List Nat) := by simp; omega
                refine Told.mk [(3, .ptr (.loc 0) 0), (6, .nilslice), (7, .ptr (.loc 2) 0), (8, .ptr (.loc 3) 0), (9, .ptr (.loc 4) 0)] [.cells true [.ptr (.out wI) 0], .map (esM (fM F4)), .cells true [.map (.loc 1)], .cells true [vFree (.loc 0) b], .cells true [.gl (.loc 5) 1 (natI S4).length], .flat true dj] (marks' := []) ?_ ?_
                · conv => whnf
                  refine Retell.turn ⟨[0, 1, 2, 3, 4, m], gl.length, [], []⟩ (TurnOk.mk' _ _ [] [] (OutOk.outW (OutOk.lift _) (wkB_ren _ _ _ _ _ _)) (Nat.ble_eq_true_of_le (by simp)) hmn2 (BTos.cells (blt_of l0) ((key 0 _ (by decide)).trans j0) rfl zw (BTos.esE (blt_of l1) ((key 1 _ (by decide)).trans j1) (BTos.cells (blt_of l2) ((key 2 _ (by decide)).trans j2) rfl zw (BTos.cells (blt_of l3) ((key 3 _ (by decide)).trans j3) rfl zw (BTos.cells (blt_of l4) ((key 4 _ (by decide)).trans j4) rfl zw (BTos.flat (blt_of l5) ((key m _ (by omega)).trans j5) rfl BTos.nil)))))) trivial trivial rfl) zw (MkTo.drop hm6 ((key 6 _ (by decide)).trans j7) MkTo.nil)
                · conv => whnf
                  repeat' (first | ((first | refine zs1 ?_ | refine zs2 ?_ | refine zs3 ?_ | refine zs4 ?_ | refine zs5 ?_); conv => whnf) | ((first | apply zi1 | apply zi2 | apply zi3 | apply zi4 | apply zi5) <;> intro _ <;> first | (exfalso; omega) | contradiction | (conv => whnf)))
                  refine LEndO.intro (N, (F4, S4), dj) ⟨by dsimp only; omega, hE.1, by dsimp only; rw [hE.2.1]; exact hmu, h7, j6⟩ (by dsimp only; omega) rfl ?_
                  conv => whnf
                  refine Retell.turn ⟨[0, 1, 2, 3, 4, 5], 9, [], []⟩ (TurnOk.mk' _ _ [] [] (OutOk.outW (OutOk.lift _) (wkB_ren _ _ _ _ _ _)) rfl (by decide) zb trivial trivial rfl) zw zm
end Go.Proofs.YtajnkenbhmkjaaaGreat

open Go.Vm
open Riv
namespace Go.Proofs.YtajnkenbhmkjaaaGreat
set_option maxRecDepth 20000
set_option maxHeartbeats 4000000

/-! ### What lies within what -/
def wit (R : List Int) (W : Nat) (a b : Int) : Bool := decide (a ≠ b) && (outR R W a b).1.isNone
def metW (R : List Int) (W : Nat) (a b : Int) (M : List Bool) : List Bool := if a = b then M else metB 100 (keysF (outR R W a b).2)
theorem metW_len {R : List Int} {W : Nat} {a b : Int} {M : List Bool} (h : M.length = 100) : (metW R W a b M).length = 100 := by
  unfold metW; split
  · exact h
  · exact metB_len _ _
theorem vc_within (W : Nat) (o R : List Int) (mn a b : Int) (M : List Bool) (wI : Vm.Id) (h : Hp) (e : EOk W o) (hR : R.length = o.length) (hM : M.length = 100) (hw : h.get wI = some (wkB W o R mn M)) (hab : a ≠ b) :
    VC Tryz.prog 34 [.ptr wI 0, I a, I b] h (B (wit R W a b)) (h.set wI (wkB W o R mn (metW R W a b M))) := by
  have hw2 : ∀ loc, (⟨h.lift, loc⟩ : Hp).get (.out wI) = some (wkB W o R mn M) := fun loc => by rw [get_out hw loc, wkB_ren]
  have c := fun h hw => vc_eout W o R mn a b M (.out wI) h e hR hM hw
  have hn := e.n
  unfold wit metW
  rw [if_neg hab, decide_eq_true hab, Bool.true_and]
  have hV : outV R W a b = match (outR R W a b).1 with
    | none => .nilslice
    | some p => ints (chn (outR R W a b).2 R.length p).reverse := rfl
  rw [hV] at c
  generalize outR R W a b = res at *
  obtain ⟨r, F⟩ := res
  dsimp only at *
  cases r with
  | none =>
    dsimp only at c
    refine VC.body Tryz.func34 rfl Tryz.ntmps34 Tryz.call34 (h.grows_set _ _) rfl ?_
    conv => whnf
    repeat' (first | ((first | refine zs1 ?_ | refine zs2 ?_ | refine zs3 ?_ | refine zs4 ?_ | refine zs5 ?_); conv => whnf) | ((first | apply zi1 | apply zi2 | apply zi3 | apply zi4 | apply zi5) <;> intro _ <;> first | (exfalso; omega) | contradiction | (conv => whnf)) | (refine VCall.intro (c _ (hw2 _)) ?_; conv => whnf))
    exact VOut.setB 9 rfl hw (fun ρ => wkB_ren _ _ _ _ _ ρ) (fun ρ => rfl)
  | some p =>
    dsimp only at c
    have hpos : 0 < (chn F R.length p).reverse.length := by
      rw [List.length_reverse]
      obtain ⟨n, hn2⟩ : ∃ n, R.length = n + 1 := ⟨R.length - 1, by omega⟩
      rw [hn2, chn, if_neg (by omega)]; simp
    generalize (chn F R.length p).reverse = L at *
    refine VC.body Tryz.func34 rfl Tryz.ntmps34 Tryz.call34 (h.grows_set _ _) rfl ?_
    conv => whnf
    repeat' (first | ((first | refine zs1 ?_ | refine zs2 ?_ | refine zs3 ?_ | refine zs4 ?_ | refine zs5 ?_); conv => whnf) | ((first | apply zi1 | apply zi2 | apply zi3 | apply zi4 | apply zi5) <;> intro _ <;> first | (exfalso; omega) | contradiction | (conv => whnf)) | (refine VCall.intro (c _ (hw2 _)) ?_; conv => whnf))
    exact VOut.setB 9 rfl hw (fun ρ => wkB_ren _ _ _ _ _ ρ) (fun ρ => rfl)
theorem vc_within0 (a : Int) (wI : Vm.Id) (h : Hp) : VC Tryz.prog 34 [.ptr wI 0, I a, I a] h (B false) h := by
  refine VC.body Tryz.func34 rfl Tryz.ntmps34 Tryz.call34 (h.grows_refl) rfl ?_; conv => whnf
  repeat' (first | ((first | refine zs1 ?_ | refine zs2 ?_ | refine zs3 ?_ | refine zs4 ?_ | refine zs5 ?_); conv => whnf) | ((first | apply zi1 | apply zi2 | apply zi3 | apply zi4 | apply zi5) <;> intro _ <;> first | (exfalso; omega) | contradiction | (conv => whnf)))
  exact VOut.same rfl
end Go.Proofs.YtajnkenbhmkjaaaGreat


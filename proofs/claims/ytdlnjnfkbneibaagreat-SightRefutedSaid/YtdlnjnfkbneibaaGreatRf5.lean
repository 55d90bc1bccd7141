/- Part 5 of the proof that SightRefuted: who is refuted. No condition. -/
import Derived.Test.YtdlnjnfkbneibaaGreatRf4
import Derived.Shelf.Sort.AssemblyIn
import Derived.Sort.EveryDepth
set_option linter.unusedVariables false
set_option linter.unusedSimpArgs false
namespace Go.Vm
open Go.Sort (grow putRow putCells Holds onCells mapBlock)

theorem Rel.growS {σ : Sig} {h : Hp} {w : World} (hr : Rel σ h w) (os : Array Obj) : Rel σ h (grow w os) where
  blk := fun i e b hi hb => by
    obtain ⟨h1, o, h2, h3⟩ := hr.blk i e b hi hb
    refine ⟨by show e.rid < (w.heap ++ os).size; rw [Array.size_append]; omega, o, ?_, h3⟩
    show (w.heap ++ os)[e.rid]? = some o
    rw [Array.getElem?_append_left h1]; exact h2
  apart := hr.apart
  dom := hr.dom
  nmd := hr.nmd
  fz := fun r o hro => by
    obtain ⟨h1, h2⟩ := hr.fz r o hro
    refine ⟨?_, h2⟩
    show (w.heap ++ os)[r]? = some o
    rw [Array.getElem?_append_left (Array.getElem?_eq_some_iff.1 h1).1]; exact h1
theorem Ext.growS {σ : Sig} {h : Hp} {w : World} (os : Array Obj) : Ext σ h w σ h (grow w os) where
  le := Sig.le_refl σ
  lo := rfl
  fzn := fun _ _ h => h
  size := by show w.heap.size ≤ (w.heap ++ os).size; rw [Array.size_append]; omega
  os := rfl
  tape := rfl
  output := rfl
  frame := fun r hr _ => by show (w.heap ++ os)[r]? = w.heap[r]?; rw [Array.getElem?_append_left hr]
  new := fun j ej hj hn => by rw [hj] at hn; cases hn
  down := fun j ej bj _ hbj hwj => ⟨bj, hbj, hwj⟩
  ro := fun j ej bj hj hbj hwj hal => ⟨hj, bj, hbj, hal, hwj⟩
  old := fun j hj => ⟨hj, fun x => x⟩
  oldn := fun j _ hx => hx
theorem flatI_get {l : List Int} {j : Nat} : (l.flatMap encI)[j]? = (l[j]?).map DI := by
  induction l generalizing j with
  | nil => rfl
  | cons a l ih =>
    cases j with
    | zero => rfl
    | succ j => rw [List.flatMap_cons]; exact ih
def srtI (n : Nat) (l : List Int) : List Int := ((l.take n).mergeSort fun x y => decide (x ≤ y)) ++ l.drop n
theorem VC.sortI {P : Program} {f : FuncId} {h : Hp} {i : Id} {n : Nat} {l : List Int} (hent : ∀ as0 w, (callFunc f as0).run P w = .ok (.enter f as0) w) (hb : h.get i = some (.flat true (l.flatMap encI))) (hn : n ≤ l.length) (h0 : 0 < n) (hl : l.length ≤ 4000000) (R : List Int) (hR : R <+: srtI n l)
    (hc : ∀ (blk off cap : Nat) (zs : List Int) (w : World), Holds (Value.int .i64) w blk off zs.toArray → blk < w.heap.size → zs.length < 4611686018427387904 → Calls P f #[.slice (some ⟨blk, off, none⟩) zs.length cap] w fun e w' => e = .returned (.tuple #[]) ∧ ∃ n os, w' = grow (putRow (Value.int .i64) (Sort.ahead w n) blk off (zs.mergeSort fun x y => decide (x ≤ y)).toArray) os) :
    VC P f [.gl i 1 n] h (.tuple []) (h.set i (.flat true (R.flatMap encI))) := by
  refine ⟨hent, Hp.grows_set h i _, fun σ w xs hr hxs => ?_⟩
  rw [callsIn_wide]
  obtain ⟨x, rfl, hx⟩ := VRs_one hxs
  simp only [VR] at hx
  obtain ⟨_, hx⟩ := hx
  rcases hx with ⟨hz, _⟩ | ⟨e, cap, o, hi, h1, h2, h3, rfl⟩
  · omega
  obtain ⟨hlt, ob, hob, hrel⟩ := hr.blk i e _ hi hb
  simp only [BlkRel] at hrel
  obtain ⟨cur, TT, fz, rfl, hs1, hs2, hfz, hcell⟩ := hrel
  have hfz := hfz rfl
  subst hfz
  rw [Nat.mul_one] at h2
  have h3 := h3 (by omega)
  subst h3
  have hcur : ∀ j x, l[j]? = some x → cur[e.base + j]? = some (.int .i64 x) := fun j x hj => by
    obtain ⟨y, hy, hv, _⟩ := hcell j (.s (.int .i64 x)) (by simp only [flatI_get, hj, Option.map_some]; rfl)
    simp only [VR, S.val] at hv
    rw [hy, hv]
  rw [flat_len encI_len, Nat.mul_one] at hs2
  have hlen : (l.take n).length = n := by rw [List.length_take]; omega
  have hH : Holds (Value.int .i64) w e.rid e.base (l.take n).toArray := by
    intro j hj
    have hj' : j < n := by simpa [hlen] using hj
    have hg : l[j]? = some (l[j]'(by omega)) := List.getElem?_eq_getElem _
    refine ⟨?_, by simp [World.frozen?, hob]⟩
    have := hcur j _ hg
    simp only [World.cell?, hob]
    simp only [Option.isSome_none, Bool.false_eq_true, if_false]
    rw [this]
    have hj2 : j < (l.take n).toArray.size := hj
    rw [getElem!_pos _ j hj2]
    simp
  have hcall := hc e.rid e.base cap (l.take n) w hH hlt (by omega)
  rw [hlen] at hcall
  refine Calls.mono hcall ?_
  rintro en w' ⟨rfl, q, os, rfl⟩
  obtain ⟨T, hT⟩ : ∃ T, T = (l.take n).mergeSort (fun x y => decide (x ≤ y)) := ⟨_, rfl⟩
  have hTl : T.length = n := by rw [hT, List.length_mergeSort, hlen]
  rw [← hT]
  have hcs : e.base + n ≤ cur.size := by omega
  obtain ⟨w1, hw1⟩ : ∃ w1, w1 = putRow (Value.int .i64) (Sort.ahead w q) e.rid e.base T.toArray := ⟨_, rfl⟩
  rw [← hw1]
  have hheap : w1.heap = w.heap.modify e.rid (onCells (putCells (Value.int .i64) e.base T.toArray)) := by rw [hw1]; rfl
  have hsz : w1.heap.size = w.heap.size := by rw [hheap, Array.size_modify]
  have hsame : ∀ r, r ≠ e.rid → w1.heap[r]? = w.heap[r]? := fun r hne => by rw [hheap, Array.getElem?_modify, if_neg (Ne.symm hne)]
  have hnew : w1.heap[e.rid]? = some (.cells (putCells (Value.int .i64) e.base T.toArray cur) TT (0, 0)) := by rw [hheap, Array.getElem?_modify, if_pos rfl, hob]; rfl
  have hput : ∀ k, (putCells (Value.int .i64) e.base T.toArray cur)[k]? = (cur[k]?).map fun x => if e.base ≤ k ∧ k < e.base + T.length then Value.int .i64 (T.getD (k - e.base) 0) else x := fun k => by
    unfold putCells
    rw [Array.getElem?_mapIdx]
    cases hk : cur[k]? with
    | none => rfl
    | some x =>
      simp only [Option.map_some, Option.some.injEq, List.size_toArray]
      split
      · rename_i hh
        congr 1
        rw [getElem!_pos _ (k - e.base) (by simp; omega)]
        simp [List.getD_eq_getElem?_getD, List.getElem?_eq_getElem (show k - e.base < T.length by omega)]
      · rfl
  have hrel' : BlkRel σ e (.flat true (R.flatMap encI)) (.cells (putCells (Value.int .i64) e.base T.toArray cur) TT (0, 0)) := by
    have hsl : (srtI n l).length = l.length := by unfold srtI; rw [List.length_append, List.length_mergeSort, hlen, List.length_drop]; omega
    refine ⟨_, TT, (0, 0), rfl, by simp [putCells]; exact hs1, by rw [flat_len encI_len, Nat.mul_one]; have := hR.length_le; omega, fun _ => rfl, ?_⟩
    intro j v hv
    dsimp only at hv
    rw [flatI_get] at hv
    have hjR : j < R.length := by
      rcases Nat.lt_or_ge j R.length with h | h
      · exact h
      · rw [List.getElem?_eq_none h] at hv; cases hv
    have hjl : j < (srtI n l).length := by have := hR.length_le; omega
    rw [show R[j]? = (srtI n l)[j]? by
      obtain ⟨t, ht⟩ := hR
      rw [← ht, List.getElem?_append_left hjR]] at hv
    have hcj : cur[e.base + j]? = some (.int .i64 (l[j]'(by omega))) := hcur j _ (List.getElem?_eq_getElem _)
    rw [hput, hcj, Option.map_some]
    refine ⟨_, rfl, ?_, ?_⟩
    · have hsr : (srtI n l)[j]? = some (if j < n then T.getD j 0 else l[j]'(by omega)) := by
        unfold srtI
        rw [← hT]
        by_cases hjn : j < n
        · rw [if_pos hjn, List.getElem?_append_left (by omega), List.getElem?_eq_getElem (by omega)]
          simp [List.getD_eq_getElem?_getD, List.getElem?_eq_getElem (show j < T.length by omega)]
        · rw [if_neg hjn, List.getElem?_append_right (by omega), hTl, List.getElem?_drop, show n + (j - n) = j by omega, List.getElem?_eq_getElem]
      rw [hsr] at hv
      cases hv
      simp only [VR, S.val, D.v]
      by_cases hjn : j < n
      · rw [if_pos (by omega), if_pos hjn, show e.base + j - e.base = j by omega]
      · rw [if_neg (by omega), if_neg hjn]
    · split <;> rfl
  have hrel2 := hr.upd hi hb rfl (fun _ => rfl) hsz hsame hnew hrel'
  have hext := Ext.upd (h := h) (b' := .flat true (R.flatMap encI)) hi hb rfl (fun _ => rfl) hsz (by rw [hw1]; rfl) (by rw [hw1]; rfl) (by rw [hw1]; rfl) hsame
  exact ⟨σ, .tuple #[], rfl, by simp only [VR]; exact ⟨#[], rfl, rfl⟩, hrel2.growS os, (hext.trans (Ext.growS os)).toK⟩
end Go.Vm

namespace Go.Proofs.YtdlnjnfkbneibaaGreat
open Go.Shelf
abbrev encI := Go.Vm.encI
def srtRen : Ren := ⟨fun | 125 => 129 | 128 => 150 | 129 => 151 | 189 => 96 | 215 => 159 | 216 => 147 | 257 => 128 | 294 => 141 | 295 => 142 | 296 => 143 | 297 => 144 | 298 => 145 | 299 => 146 | 300 => 148 | 301 => 149 | 328 => 154 | 329 => 155 | 330 => 156 | 331 => 157 | 332 => 158 | 343 => 160 | n => n, fun | 0 => 0 | 3 => 3 | 4 => 4 | 5 => 5 | 9 => 9 | 28 => 28 | 46 => 194 | 51 => 157 | 53 => 212 | 131 => 208 | 182 => 203 | 183 => 204 | 218 => 215 | 222 => 82 | 228 => 220 | 229 => 221 | n => n, fun n => n⟩
theorem srtLays : Lays.n189 Tryz.prog srtRen := {
  mixed := by kernel_rfl
  f125 := by kernel_rfl
  f128 := by kernel_rfl
  f129 := by kernel_rfl
  f189 := by kernel_rfl
  f215 := by kernel_rfl
  f216 := by kernel_rfl
  f257 := by kernel_rfl
  f294 := by kernel_rfl
  f295 := by kernel_rfl
  f296 := by kernel_rfl
  f297 := by kernel_rfl
  f298 := by kernel_rfl
  f299 := by kernel_rfl
  f300 := by kernel_rfl
  f301 := by kernel_rfl
  f328 := by kernel_rfl
  f329 := by kernel_rfl
  f330 := by kernel_rfl
  f331 := by kernel_rfl
  f332 := by kernel_rfl
  f343 := by kernel_rfl
  t0 := by kernel_rfl
  a0 := fun _ => by kernel_rfl
  z0 := fun _ => by kernel_rfl
  v0 := fun _ => by kernel_rfl
  t3 := by kernel_rfl
  a3 := fun _ => by kernel_rfl
  z3 := fun _ => by kernel_rfl
  v3 := fun _ => by kernel_rfl
  t4 := by kernel_rfl
  a4 := fun _ => by kernel_rfl
  z4 := fun _ => by kernel_rfl
  v4 := fun _ => by kernel_rfl
  t5 := by kernel_rfl
  a5 := fun _ => by kernel_rfl
  z5 := fun _ => by kernel_rfl
  v5 := fun _ => by kernel_rfl
  t9 := by kernel_rfl
  a9 := fun _ => by kernel_rfl
  z9 := fun _ => by kernel_rfl
  v9 := fun _ => by kernel_rfl
  t28 := by kernel_rfl
  a28 := fun _ => by kernel_rfl
  z28 := fun _ => by kernel_rfl
  v28 := fun _ => by kernel_rfl
  t46 := by kernel_rfl
  a46 := fun _ => by kernel_rfl
  z46 := fun _ => by kernel_rfl
  v46 := fun _ => by kernel_rfl
  t51 := by kernel_rfl
  a51 := fun _ => by kernel_rfl
  z51 := fun _ => by kernel_rfl
  v51 := fun _ => by kernel_rfl
  t53 := by kernel_rfl
  a53 := fun _ => by kernel_rfl
  z53 := fun _ => by kernel_rfl
  v53 := fun _ => by kernel_rfl
  t131 := by kernel_rfl
  a131 := fun _ => by kernel_rfl
  z131 := fun _ => by kernel_rfl
  v131 := fun _ => by kernel_rfl
  t182 := by kernel_rfl
  a182 := fun _ => by kernel_rfl
  z182 := fun _ => by kernel_rfl
  v182 := fun _ => by kernel_rfl
  t183 := by kernel_rfl
  a183 := fun _ => by kernel_rfl
  z183 := fun _ => by kernel_rfl
  v183 := fun _ => by kernel_rfl
  t218 := by kernel_rfl
  a218 := fun _ => by kernel_rfl
  z218 := fun _ => by kernel_rfl
  v218 := fun _ => by kernel_rfl
  t222 := by kernel_rfl
  a222 := fun _ => by kernel_rfl
  z222 := fun _ => by kernel_rfl
  v222 := fun _ => by kernel_rfl
  t228 := by kernel_rfl
  a228 := fun _ => by kernel_rfl
  z228 := fun _ => by kernel_rfl
  v228 := fun _ => by kernel_rfl
  t229 := by kernel_rfl
  a229 := fun _ => by kernel_rfl
  z229 := fun _ => by kernel_rfl
  v229 := fun _ => by kernel_rfl
}
theorem vc_Sort (n : Nat) (l : List Int) (i : Go.Vm.Id) (h : Go.Vm.Hp) (hb : h.get i = some (.flat true (l.flatMap Go.Vm.encI))) (hn : n ≤ l.length) (h0 : 0 < n) (hl : l.length ≤ 4000000) (R : List Int) (hR : R <+: Go.Vm.srtI n l) : Go.Vm.VC Tryz.prog 96 [.gl i 1 n] h (.tuple []) (h.set i (.flat true (R.flatMap Go.Vm.encI))) :=
  Go.Vm.VC.sortI Tryz.call96 hb hn h0 hl R hR fun blk off cap zs w h1 h2 h3 => calls_of_every_depth fun D => AnyS.slices_Sort_int_in srtLays D blk off cap zs w h1 h2 h3
end Go.Proofs.YtdlnjnfkbneibaaGreat

open Go.Vm
open Clip (Pn Sg Nt)
namespace Go.Proofs.YtdlnjnfkbneibaaGreat
set_option maxRecDepth 20000
set_option maxHeartbeats 4000000

theorem VOut.setO {h : Hp} {loc : List Blk} {i : Vm.Id} {b0 : Blk} {l ds : List D} {rw : Bool} {esz n : Nat} (j L : Nat) (hL : Nat.ble loc.length L = true) (hb : h.get i = some b0) (hj : loc[j]? = some (.flat true ds)) : VOut h ⟨outW h.lift i (.flat rw l), loc⟩ (.gl (.loc j) esz n) (.gl (.loc h.loc.length) esz n) ((h.set i (.flat rw l)).push (.flat true ds)) := by
  have hd : ∀ p ∈ [(i, Blk.flat rw l)], h.get p.1 ≠ none := by
    intro p hp
    simp only [List.mem_cons, List.not_mem_nil, or_false] at hp
    subst hp; simp only; rw [hb]; simp
  have := VOut.upd (loc := loc) (r1 := .gl (.loc j) esz n) (r := .gl (.loc h.loc.length) esz n) [(i, .flat rw l)] [.flat true ds] [j] L hL hd (by simp) rfl (by
    intro k b hk
    cases k with
    | zero => rw [List.getElem?_cons_zero, Option.some.injEq] at hk; subst hk; exact ⟨j, rfl, hj⟩
    | succ k => simp at hk) (fun σ x hx => by
    have : (V.gl (.loc h.loc.length) esz n).ren (backR h.loc.length [j] L) = .gl (.loc j) esz n := by simp [V.ren, backR]
    rw [this]; exact hx) (outer := outW h.lift i (.flat rw l)) rfl
  have he : (h.sets [(i, Blk.flat rw l)]).pushes [.flat true ds] = (h.set i (.flat rw l)).push (.flat true ds) := by simp [Hp.sets, Hp.pushes, Hp.push]
  rw [he] at this
  exact this
theorem vc_ShuffleO (bs : List Int) (d : DS) (n : Nat) (i : Vm.Id) (h : Hp) (hn : n ≤ 1000) (hN : d.1 ≤ 1000000) (hd : h.get i = some (deckB bs d)) : VC Tryz.prog 95 [.ptr i 0, I n] h (.gl (.loc h.loc.length) 1 n) ((h.set i (deckB bs (shX bs d n).1)).push (.flat true ((shX bs d n).2.flatMap encI))) := by
  obtain ⟨R, hR⟩ : ∃ R, R = shX bs d n := ⟨_, rfl⟩
  rw [← hR]
  unfold shX at hR
  have hmx : max 0 (n : Int) = n := by omega
  refine VC.body Tryz.func95 rfl Tryz.ntmps95 Tryz.call95 (fun k hk => Hp.grows_push _ _ k (h.grows_set _ _ k hk)) rfl ?_
  conv => whnf
  repeat' (first | ((first | refine zs1 ?_ | refine zs2 ?_ | refine zs3 ?_ | refine zs4 ?_ | refine zs5 ?_ | refine zs6 [] ?_); conv => whnf) | ((first | apply zi1 | apply zi2 | apply zi3 | apply zi4 | apply zi5) <;> intro _ <;> conv => whnf))
  rw [hmx]
  refine VMem.make0 rfl rfl rfl (by omega) ?_
  conv => whnf
  repeat (first | ((first | refine zs1 ?_ | refine zs2 ?_ | refine zs3 ?_ | refine zs4 ?_ | refine zs5 ?_ | refine zs6 [] ?_); conv => whnf))
  rw [hmx]
  refine VCode.lp (fun k : Nat => [(0, .ptr (.out i) 0), (5, .gl (.loc 0) 1 k), (13, I n), (14, I k)]) (fun k => [.flat true ((((List.range n).map (fun i : Nat => (i : Int))).take k).flatMap encI)]) (fun k => k ≤ n) (fun k => n - k) 0 (Nat.zero_le _) ?_ ?_
  · conv => whnf
    refine Retell.turn ⟨[0], 1, [], []⟩ (TurnOk.mk' _ _ [] [] (OutOk.lift _) rfl (by decide) zb trivial trivial rfl) zv zm
  · intro k hk
    have hlen : (((List.range n).map (fun i : Nat => (i : Int))).take k).length = k := by rw [List.length_take, List.length_map, List.length_range]; omega
    conv => whnf
    refine VIte.dec (fun h3 => ?_) (fun h3 => ?_)
    · have htk : ((List.range n).map (fun i : Nat => (i : Int))).take (k + 1) = ((List.range n).map (fun i : Nat => (i : Int))).take k ++ [(k : Int)] := by
        rw [List.take_add_one, List.getElem?_map, List.getElem?_range (by omega)]; rfl
      conv => whnf
      repeat' (first | ((first | refine zs1 ?_ | refine zs2 ?_ | refine zs3 ?_ | refine zs4 ?_ | refine zs5 ?_); conv => whnf) | ((first | apply zi1 | apply zi2 | apply zi3 | apply zi4 | apply zi5) <;> intro _ <;> conv => whnf))
      refine VMem.app1 (l := ((List.range n).map (fun i : Nat => (i : Int))).take k) (k : Int) encI_len rfl rfl rfl hlen.symm rfl (by omega) ?_
      rw [← htk]
      conv => whnf
      repeat' (first | ((first | refine zs1 ?_ | refine zs2 ?_ | refine zs3 ?_ | refine zs4 ?_ | refine zs5 ?_); conv => whnf) | ((first | apply zi1 | apply zi2 | apply zi3 | apply zi4 | apply zi5) <;> intro _ <;> conv => whnf))
      refine LEnd.intro (k + 1) (by omega) (by omega) ?_
      conv => whnf
      refine Retell.turn ⟨[2], 3, [], []⟩ (TurnOk.mk' _ _ [] [] (OutOk.lift _) rfl (by decide) zb trivial trivial rfl) zv zm
    · have hkn : k = n := by omega
      subst hkn
      rw [show ((List.range k).map (fun i : Nat => (i : Int))).take k = (List.range k).map (fun i : Nat => (i : Int)) by rw [List.take_of_length_le (by simp)]]
      conv => whnf
      repeat' (first | ((first | refine zs1 ?_ | refine zs2 ?_ | refine zs3 ?_ | refine zs4 ?_ | refine zs5 ?_); conv => whnf) | ((first | apply zi1 | apply zi2 | apply zi3 | apply zi4 | apply zi5) <;> intro _ <;> conv => whnf))
      refine VCode.lpo (fun y : Nat × (DS × List Int) => [(0, .ptr (.out i) 0), (5, .gl (.loc 0) 1 k), (7, I y.1)]) (fun y => outW h.lift i (deckB bs y.2.1)) (fun y => [.flat true (y.2.2.flatMap encI)]) (fun y => y.1 ≤ k ∧ Prm k y.2.2 ∧ R = shGo bs y.1 y.2 ∧ y.2.1.1 + y.1 ≤ d.1 + k) (fun y => y.1) (k, (d, (List.range k).map (fun i : Nat => (i : Int)))) ⟨Nat.le_refl _, range_prm k, hR, Nat.le_refl _⟩ ?_ ?_ ?_
      · exact outW_id (o := h.lift) (get_out hd [])
      · conv => whnf
        refine Retell.turn ⟨[0], 1, [], []⟩ (TurnOk.mk' _ _ [] [] (OutOk.outW (OutOk.lift _) rfl) rfl (by decide) zb trivial trivial rfl) zv zm
      · rintro ⟨m, e, l⟩ ⟨h1, h2, h4, h5⟩
        dsimp only at h1 h2 h4 h5
        conv => whnf
        refine VIte.dec (fun h3 => ?_) (fun h3 => ?_)
        · obtain ⟨q, rfl⟩ : ∃ q, m = q + 1 := ⟨m - 1, by omega⟩
          rw [shGo, if_neg (by omega)] at h4
          have y1 := dNx_bd bs e ((q + 1 : Nat) : Int)
          have g1 := fun (h2 : Hp) hh => vc_draw bs e ((q + 1 : Nat) : Int) (.out i) h2 (by omega) hh
          dsimp only at h4
          generalize dNx bs e ((q + 1 : Nat) : Int) = z at y1 g1 h4
          obtain ⟨u, hu⟩ : ∃ u : Nat, z.1 = u := ⟨z.1.toNat, by omega⟩
          rw [hu] at g1
          rw [hu, Int.toNat_natCast] at h4
          have hp := h2.swp (i := q) (k := u) (by omega) (by omega)
          have hll := h2.len
          have lq : l[q]? = some l[q] := List.getElem?_eq_getElem (by omega)
          have lu : l[u]? = some l[u] := List.getElem?_eq_getElem (by omega)
          have dq : l.getD q 0 = l[q] := by rw [List.getD_eq_getElem?_getD, lq]; rfl
          have du : l.getD u 0 = l[u] := by rw [List.getD_eq_getElem?_getD, lu]; rfl
          unfold swp at hp h4
          rw [dq, du] at hp h4
          have lu2 : ∃ a, (l.set q l[u])[u]? = some a := ⟨_, List.getElem?_eq_getElem (by rw [List.length_set]; omega)⟩
          obtain ⟨a2, lu2⟩ := lu2
          generalize l[q] = A at *
          generalize l[u] = B at *
          conv => whnf
          repeat' (first | ((first | refine zs1 ?_ | refine zs2 ?_ | refine zs3 ?_ | refine zs4 ?_ | refine zs5 ?_); conv => whnf) | ((first | apply zi1 | apply zi2 | apply zi3 | apply zi4 | apply zi5) <;> intro _ <;> conv => whnf) | (refine VCall.intro (g1 _ (outW_get _ _ _ _)) ?_; conv => whnf))
          refine zs6 [] ?_
          conv => whnf
          repeat' (first | ((first | refine zs1 ?_ | refine zs2 ?_ | refine zs3 ?_ | refine zs4 ?_ | refine zs5 ?_); conv => whnf) | ((first | apply zi1 | apply zi2 | apply zi3 | apply zi4 | apply zi5) <;> intro _ <;> conv => whnf) | (refine VLd.recc encI_len u 0 rfl rfl rfl lu (by decide) rfl (by simp only [Nat.zero_add, Nat.mul_one]; omega) ?_; conv => whnf) | (refine VLd.recc encI_len q 0 rfl rfl rfl lq (by decide) rfl (by simp only [Nat.zero_add, Nat.mul_one]; omega) ?_; conv => whnf))
          refine VMem.setRec encI_len q 0 B rfl rfl rfl lq (by decide) rfl (by simp only [Nat.zero_add, Nat.mul_one]; omega) ?_
          conv => whnf
          repeat' (first | ((first | refine zs1 ?_ | refine zs2 ?_ | refine zs3 ?_ | refine zs4 ?_ | refine zs5 ?_); conv => whnf) | ((first | apply zi1 | apply zi2 | apply zi3 | apply zi4 | apply zi5) <;> intro _ <;> conv => whnf))
          refine VMem.setRec encI_len u 0 A rfl rfl rfl lu2 (by decide) rfl (by simp only [Nat.zero_add, Nat.mul_one]; omega) ?_
          conv => whnf
          repeat' (first | ((first | refine zs1 ?_ | refine zs2 ?_ | refine zs3 ?_ | refine zs4 ?_ | refine zs5 ?_); conv => whnf) | ((first | apply zi1 | apply zi2 | apply zi3 | apply zi4 | apply zi5) <;> intro _ <;> conv => whnf))
          refine LEndO.intro (q, _) ⟨by dsimp only; omega, hp, h4, by dsimp only; omega⟩ (by dsimp only; omega) ?_ ?_
          · funext j; by_cases e : j = i <;> simp [outW, e, Hp.set]
          · conv => whnf
            refine Retell.turn ⟨[0], 1, [], []⟩ (TurnOk.mk' _ _ [] [] (OutOk.outW (OutOk.lift _) rfl) rfl (by decide) zb trivial trivial rfl) zv zm
        · have hm : m = 0 ∨ m = 1 := by omega
          have hRl : R = (e, l) := by
            rcases hm with rfl | rfl
            · rw [h4, shGo]
            · rw [h4, shGo, if_pos rfl]
          subst hRl
          have hlk := h2.len
          conv => whnf
          repeat' (first | ((first | refine zs1 ?_ | refine zs2 ?_ | refine zs3 ?_ | refine zs4 ?_ | refine zs5 ?_); conv => whnf) | ((first | apply zi1 | apply zi2 | apply zi3 | apply zi4 | apply zi5) <;> intro _ <;> conv => whnf))
          exact VOut.setO 0 1 rfl hd rfl
theorem vc_l3 (bs : List Int) (d : DS) (n : Nat) (i : Vm.Id) (h : Hp) (h4 : 4 ≤ n) (hn : n ≤ 1000) (hN : d.1 ≤ 1000000) (hd : h.get i = some (deckB bs d)) : VC Tryz.prog 40 [.ptr i 0, I n] h (ints (((shX bs d n).2.take 3).mergeSort fun x y => decide (x ≤ y))) (h.set i (deckB bs (shX bs d n).1)) := by
  have c := fun (h2 : Hp) hh => vc_ShuffleO bs d n (.out i) h2 hn hN hh
  have hlen := (shX_prm bs d n).1.len
  generalize shX bs d n = z at *
  obtain ⟨R, hR⟩ : ∃ R, R = (z.2.take 3).mergeSort fun x y => decide (x ≤ y) := ⟨_, rfl⟩
  have hRl : R.length = 3 := by rw [hR, List.length_mergeSort, List.length_take]; omega
  have hpre : R <+: srtI 3 z.2 := by unfold srtI; rw [hR]; exact List.prefix_append _ _
  rw [← hR]
  clear hR
  refine VC.body Tryz.func40 rfl Tryz.ntmps40 Tryz.call40 (h.grows_set _ _) rfl ?_
  conv => whnf
  repeat' (first | ((first | refine zs1 ?_ | refine zs2 ?_ | refine zs3 ?_ | refine zs4 ?_ | refine zs5 ?_); conv => whnf) | ((first | apply zi1 | apply zi2 | apply zi3 | apply zi4 | apply zi5) <;> intro _ <;> conv => whnf) | (refine VCall.intro (c _ (get_out hd [])) ?_; conv => whnf))
  refine VAny.intro (v := .gl (.loc 0) 1 3) ⟨by omega, 3, rfl, .inl ⟨rfl, rfl⟩⟩ ?_
  conv => whnf
  repeat' (first | ((first | refine zs1 ?_ | refine zs2 ?_ | refine zs3 ?_ | refine zs4 ?_ | refine zs5 ?_); conv => whnf) | ((first | apply zi1 | apply zi2 | apply zi3 | apply zi4 | apply zi5) <;> intro _ <;> conv => whnf))
  refine VCall.intro (vc_Sort 3 z.2 (.loc 0) _ rfl (by omega) (by decide) (by omega) R hpre) ?_
  conv => whnf
  repeat' (first | ((first | refine zs1 ?_ | refine zs2 ?_ | refine zs3 ?_ | refine zs4 ?_ | refine zs5 ?_); conv => whnf) | ((first | apply zi1 | apply zi2 | apply zi3 | apply zi4 | apply zi5) <;> intro _ <;> conv => whnf))
  have e3 : V.gl (.loc 0) 1 3 = .gl (.loc 0) 1 R.length := by rw [hRl]
  rw [e3]
  refine VOut.turn ⟨[], 1, [(0, R.flatMap encI)], []⟩ (loc' := []) (r1' := ints R) (TurnOk.mk' [] 1 [(0, R.flatMap encI)] [] (OutOk.outW (OutOk.lift _) rfl) rfl List.nodup_nil BTos.nil (FzAll.flat rfl FzAll.nil) trivial rfl) zv ?_
  exact VOut.setF (L := 0) rfl hd fun _ => rfl
end Go.Proofs.YtdlnjnfkbneibaaGreat

open Go.Vm
open Clip (Pn Sg Nt Bd Rt Sp Co Pl Pt NtOk chk chk_ok bnds bnds_sz bnds_len bnds_sq regS BdSz SpSz okD okD_iff red pts reg_none Feas)
namespace Go.Proofs.YtdlnjnfkbneibaaGreat
set_option maxRecDepth 20000
set_option maxHeartbeats 4000000

theorem three_ok {n : Nat} {l : List Int} (hp : Prm n l) (h4 : 4 ≤ n) : ((l.take 3).mergeSort fun x y => decide (x ≤ y)).length = 3 ∧ incB ((l.take 3).mergeSort fun x y => decide (x ≤ y)) = true ∧ ∀ x ∈ ((l.take 3).mergeSort fun x y => decide (x ≤ y)), 0 ≤ x ∧ x < n := by
  have hl := hp.len
  obtain ⟨R, hR⟩ : ∃ R, R = (l.take 3).mergeSort fun x y => decide (x ≤ y) := ⟨_, rfl⟩
  have hlen : R.length = 3 := by rw [hR, List.length_mergeSort, List.length_take]; omega
  have hmem : ∀ x ∈ R, x ∈ l := fun x hx => by rw [hR, List.mem_mergeSort] at hx; exact List.mem_of_mem_take hx
  have hnd : l.Nodup := by
    have := hp.perm.nodup_iff.2 (by
      rw [List.nodup_iff_pairwise_ne, List.pairwise_map]
      exact List.nodup_range.imp fun h e => h (by omega))
    exact this
  have hRn : R.Nodup := by rw [hR]; exact (List.mergeSort_perm _ _).nodup_iff.2 (hnd.sublist (List.take_sublist 3 l))
  have hRs : R.Pairwise (fun x y => decide (x ≤ y) = true) := by
    rw [hR]; exact List.pairwise_mergeSort (fun a b c h1 h2 => by simp at *; omega) (fun a b => by simp; omega) _
  rw [← hR]
  clear hR
  refine ⟨hlen, ?_, fun x hx => ?_⟩
  · match R, hlen with
    | [a, b, c], _ =>
      simp at hRs hRn
      show (decide (a < b) && (decide (b < c) && true)) = true
      rw [decide_eq_true (by omega), decide_eq_true (by omega)]; rfl
  · obtain ⟨j, hj, rfl⟩ := hp.mem.1 (hmem x hx)
    omega
theorem no_ref {l : List Bd} {P : Pf} (ok : RgOk P l.length) {q : Pt} (hq : Feas l q) : ¬ (P.t = 0 ∧ (totB l P).A = 0 ∧ (totB l P).B = 0 ∧ (totB l P).C < 0) := by
  rintro ⟨_, a, b, c⟩
  have h1 := sumG_ev (q := q) P.ws (P.bs.map (bAt l)) ⟨0, 0, 0⟩ (fun w hw => (ok.w w hw).1) (fun x hx => by
    obtain ⟨i, hi, rfl⟩ := List.mem_map.1 hx
    have := ok.i i hi
    have hk : l[i.toNat]? = some (l[i.toNat]'(by omega)) := List.getElem?_eq_getElem _
    rw [bAt_get hk]; exact hq _ (List.getElem_mem _))
  have h1 : (totB l P).af.ev q ≤ (⟨0, 0, 0⟩ : Bd).af.ev q := h1
  unfold Clip.Bd.af Clip.Af.ev at h1
  rw [a, b] at h1
  dsimp only at h1
  have hc : ((totB l P).C : Rat) < 0 := by
    have := Rat.intCast_lt_intCast.2 c
    simpa using this
  have e0 : ((0 : Int) : Rat) = 0 := rfl
  rw [e0] at h1
  grind
end Go.Proofs.YtdlnjnfkbneibaaGreat

open Go.Vm
open Clip (Pn Sg Nt Bd Rt Sp Co Pl Pt NtOk chk chk_ok bnds bnds_sz bnds_len bnds_sq regS BdSz SpSz okD okD_iff red pts reg_none Feas)
namespace Go.Proofs.YtdlnjnfkbneibaaGreat
set_option maxRecDepth 20000
set_option maxHeartbeats 4000000

theorem looS_mem {N : Nt} {p x : Int} : ∀ {l : List Sg} {k : Nat}, x ∈ looS N p k l ↔ ∃ j s, l[j]? = some s ∧ x = ((k + j : Nat) : Int) ∧ (ofS p s && !decide (regS (bnds (erN N (k + j)) p) = [])) = true
  | [], k => by simp [looS]
  | s :: r, k => by
    have ih := looS_mem (N := N) (p := p) (x := x) (l := r) (k := k + 1)
    have e : (x ∈ looS N p k (s :: r)) ↔ (x = (k : Int) ∧ (ofS p s && !decide (regS (bnds (erN N k) p) = [])) = true) ∨ x ∈ looS N p (k + 1) r := by
      rw [looS]
      split
      · rename_i h; rw [List.mem_cons]; simp only [h, and_true]
      · rename_i h
        constructor
        · exact .inr
        · rintro (⟨_, h2⟩ | h2)
          · exact absurd h2 h
          · exact h2
    rw [e, ih]
    constructor
    · rintro (⟨h1, h2⟩ | ⟨j, t, h1, h2, h3⟩)
      · exact ⟨0, s, rfl, by omega, h2⟩
      · exact ⟨j + 1, t, h1, by omega, by rw [show k + (j + 1) = k + 1 + j by omega]; exact h3⟩
    · rintro ⟨j, t, h1, h2, h3⟩
      cases j with
      | zero => left; rw [List.getElem?_cons_zero, Option.some.injEq] at h1; subst h1; exact ⟨by omega, h3⟩
      | succ j => right; exact ⟨j, t, h1, by omega, by rw [show k + 1 + j = k + (j + 1) by omega]; exact h3⟩
theorem tmod_posZ {w : Int} {n : Nat} (hw : 0 ≤ w) (hn : 0 < n) : 0 ≤ w.tmod (n : Int) ∧ w.tmod (n : Int) < n := by
  rw [Int.tmod_eq_emod_of_nonneg hw]
  exact ⟨Int.emod_nonneg _ (by omega), Int.emod_lt_of_pos _ (by omega)⟩
theorem vc_SightRefuted (ns os ts : List Int) (w : Int) (hw : 0 ≤ w ∧ w ≤ 255) (h : Hp) : VC Tryz.prog 6 [bytes ns, bytes os, bytes ts, .s (.int .u8 w)] h (B true) h := by
  have cM := fun (i : Vm.Id) (h : Hp) hd => vc_Made ns (0, 9) 6 12 i h (by decide) (by decide) (by decide) hd
  have mo := (mdN_ok ns (0, 9) (p := 6) (s := 12) (by decide) (by decide)).1
  generalize (mdS ns (0, 9) 6 12).1 = D1 at *
  generalize mdN ns (0, 9) 6 12 = N0 at *
  have o0 := mo.ok
  have hn2 := mo.n
  have hm2 := mo.m
  have cS := fun (i : Vm.Id) (h : Hp) hd => vc_Spoilt os (0, 9) N0 i h o0 (by decide) hd
  obtain ⟨s1, s2, _⟩ := spGo_ok (bs := os) (d := (0, 9)) o0.s
  have o : NtOk ⟨N0.ps, (spGo os (0, 9) N0.ss).2⟩ := ⟨o0.n, by show (spGo os (0, 9) N0.ss).2.length ≤ 20; rw [s2]; exact o0.m, o0.p, s1⟩
  clear s1 s2
  generalize (spGo os (0, 9) N0.ss).1 = D2 at *
  obtain ⟨N, hN⟩ : ∃ N : Nt, N = ⟨N0.ps, (spGo os (0, 9) N0.ss).2⟩ := ⟨_, rfl⟩
  have hNp : 2 ≤ N.ps.length ∧ (N.ps.length : Int) ≤ 6 := by rw [hN]; exact hn2
  rw [← hN] at cS o
  clear hN mo hn2 hm2
  have hn := o.n
  have hm := o.m
  have hneB : ((N.ps.length : Int) != 0) = true := by rw [bne_iff_ne]; omega
  have hp := tmod_posZ (w := w) (n := N.ps.length) hw.1 (by omega)
  generalize hpw : w.tmod (N.ps.length : Int) = p at hp
  have b0 : brE N p = 0 := brE_ok.2 ⟨o, hp.1, hp.2⟩
  have c3 := fun h => vc_Corners N p h (by omega) (by omega)
  have c4 := fun h => vc_Clash N p h (by omega) (by omega)
  have c5 := fun h => vc_Loose N p h (by omega) (by omega)
  have c6 := fun h => vc_BoundsU N p h (by omega) (by omega)
  rw [b0] at c6
  rw [show bdL N p = bnds N p by unfold bdL; rw [if_pos b0]] at c6
  have hln := bnds_len o p
  have hl4 : 4 ≤ (bnds N p).length := by
    unfold bnds
    rw [List.length_append]
    have : Clip.bsq.length = 4 := rfl
    omega
  have hR := fun (f : Pf) (h1 : f.bs.length ≤ 10) (h2 : f.ws.length ≤ 10) (h : Hp) => vc_Refutes N p f h (by omega) (by omega) (by omega) (by omega)
  by_cases hS : regS (bnds N p) = []
  · have k3 : crE N p = 8 := by unfold crE; rw [if_neg (by omega), if_pos hS]
    have k3' : crS N p = [] := crS_ne (by omega)
    have k4 : clE N p = 0 := by unfold clE; rw [if_neg (by omega), if_pos hS]
    have k5 : loE N p = 0 := loE_ok.2 ⟨b0, hS⟩
    have k5' : loL N p = looS N p 0 N.ss := by unfold loL; rw [if_pos k5]
    obtain ⟨X, hX, hok, _⟩ := clP_ok k4
    have hXb := hok.g.l
    have hXw := hok.g.m
    have cR := hR X (by omega) (by omega)
    have r1 : rfE N p X = 0 := by unfold rfE; rw [if_neg (by omega)]; exact rgE_ok.2 hok.g
    have r2 : rfB N p X = true := by unfold rfB; rw [if_pos r1]; exact decide_eq_true ⟨hok.t, hok.a, hok.b, hok.c⟩
    rw [r1, r2] at cR
    rw [k3, k3'] at c3
    rw [k4, hX] at c4
    rw [k5, k5'] at c5
    have hll := looS_len N p N.ss 0
    have hmem := fun x => looS_mem (N := N) (p := p) (x := x) (l := N.ss) (k := 0)
    clear r1 r2 k3 k3' k4 k5 k5' hX hok hR hS
    generalize looS N p 0 N.ss = L at *
    generalize bnds N p = bs at *
    refine VC.bodyC 4 Tryz.func6 rfl Tryz.ntmps6 Tryz.call6 (h.grows_refl) rfl ?_; conv => whnf
    repeat' (first | ((first | refine zs1 ?_ | refine zs2 ?_ | refine zs3 ?_ | refine zs4 ?_ | refine zs5 ?_); conv => whnf) | ((first | apply zi1 | apply zi2 | apply zi3 | apply zi4 | apply zi5) <;> intro _ <;> conv => whnf) | (refine VCall.intro (vc_Of _ _) ?_; conv => whnf) | (refine VCall.intro (cM _ _ rfl) ?_; conv => whnf) | (refine VCall.intro (cS _ _ rfl) ?_; conv => whnf) | (refine VNeed.intro hneB ?_; conv => whnf))
    rw [hpw]
    repeat' (first | ((first | refine zs1 ?_ | refine zs2 ?_ | refine zs3 ?_ | refine zs4 ?_ | refine zs5 ?_); conv => whnf) | ((first | apply zi1 | apply zi2 | apply zi3 | apply zi4 | apply zi5) <;> intro _ <;> conv => whnf))
    refine VCut.at' (outer := h.lift) (marks := []) 99 [(8, B false), (9, .fp (encN N)), (10, .ptr (.loc 0) 0), (11, I p)] [deckB ts (0, 9)] ?_ ?_
    · conv => whnf
      refine Retell.turn ⟨[3], 4, [(2, encN N)], []⟩ (TurnOk.mk' _ _ [(2, encN N)] [] (OutOk.lift _) rfl (by decide) zb zf trivial rfl) zv zm
    conv => whnf
    repeat' (first | ((first | refine zs1 ?_ | refine zs2 ?_ | refine zs3 ?_ | refine zs4 ?_ | refine zs5 ?_); conv => whnf) | ((first | apply zi1 | apply zi2 | apply zi3 | apply zi4 | apply zi5) <;> intro _ <;> conv => whnf) | (refine VCall.intro (c3 _) ?_; conv => whnf) | (refine VCall.intro (c4 _) ?_; conv => whnf) | (refine VCall.intro (c5 _) ?_; conv => whnf) | (refine VCall.intro (c6 _) ?_; conv => whnf) | (refine VCall.intro (cR _) ?_; conv => whnf))
    all_goals try (exfalso; omega)
    refine VCode.lp (fun k : Nat => [(8, B false), (9, .fp (encN N)), (11, I p), (16, ints L), (149, I N.ss.length), (150, I k)]) (fun _ => []) (fun k => k ≤ N.ss.length) (fun k => N.ss.length - k) 0 (Nat.zero_le _) ?_ ?_
    · conv => whnf
      refine Retell.turn ⟨[], 2, [], []⟩ (TurnOk.mk' _ _ [] [] (OutOk.lift _) rfl (by decide) zb trivial trivial rfl) zv zm
    intro k h1
    conv => whnf
    refine VIte.dec (fun h3 => ?_) (fun h3 => ?_)
    · have hk : N.ss[k]? = some N.ss[k] := List.getElem?_eq_getElem (by omega)
      have cN := fun h => vc_CloneNetO N h (by omega) (by omega)
      have cD := fun (o : Vm.Id → Option Blk) (b2 : Blk) => VC.glSl (P := Tryz.prog) (f := 42) (i := .loc 1) (rest := [I k, I ((k : Int) + 1)]) (h := ⟨o, [.flat true (N.ps.flatMap encPn), .flat true (N.ss.flatMap encSg), b2]⟩) (by omega) (by simp [Hp.get]) (fun c hc => vc_DelS N.ss k c (.loc 1) ⟨o, [.flat true (N.ps.flatMap encPn), .flat true (N.ss.flatMap encSg), b2]⟩ rfl (by omega) hc (by omega))
      have oe := erN_ok o k
      have eb0 : brE (erN N k) p = 0 := brE_ok.2 ⟨oe, hp.1, hp.2⟩
      have cC := fun h => vc_Corners (erN N k) p h (by have := oe.n; omega) (by have := oe.m; omega)
      have cI := fun h => vc_ContI L k h (by omega)
      have hE : crE (erN N k) p = 0 ∨ crE (erN N k) p = 8 := by unfold crE; rw [if_neg (by omega)]; split <;> omega
      have hC : decide ((k : Int) ∈ L) = (decide (N.ss[k].f = p ∨ N.ss[k].t = p) && decide (crE (erN N k) p = 0)) := by
        rw [Bool.eq_iff_iff, decide_eq_true_eq, Bool.and_eq_true, decide_eq_true_eq, decide_eq_true_eq, hmem k, crE_ok]
        constructor
        · rintro ⟨j, s, a1, a2, a3⟩
          have : k = j := by omega
          subst this
          rw [hk, Option.some.injEq] at a1
          subst a1
          rw [Bool.and_eq_true, Nat.zero_add] at a3
          refine ⟨of_decide_eq_true a3.1, eb0, ?_⟩
          have := a3.2
          simp at this
          exact this
        · rintro ⟨a1, _, a2⟩
          refine ⟨k, _, hk, by omega, ?_⟩
          rw [Bool.and_eq_true, Nat.zero_add]
          exact ⟨decide_eq_true a1, by simp; exact a2⟩
      generalize N.ss[k] = s at hk hC
      generalize decide ((k : Int) ∈ L) = C at *
      clear hmem cR
      have ee : N.ss.eraseIdx k = (erN N k).ss := rfl
      have ep : N.ps = (erN N k).ps := rfl
      generalize crS (erN N k) p = S2 at *
      generalize crE (erN N k) p = E2 at *
      conv => whnf
      repeat' (first | ((first | refine zs1 ?_ | refine zs2 ?_ | refine zs3 ?_ | refine zs4 ?_ | refine zs5 ?_); conv => whnf) | ((first | apply zi1 | apply zi2 | apply zi3 | apply zi4 | apply zi5) <;> intro _ <;> conv => whnf) | (refine VCall.intro (cN _) ?_; conv => whnf))
      refine VCall.intro (cD _ _) ?_
      conv => whnf
      repeat' (first | ((first | refine zs1 ?_ | refine zs2 ?_ | refine zs3 ?_ | refine zs4 ?_ | refine zs5 ?_); conv => whnf) | ((first | apply zi1 | apply zi2 | apply zi3 | apply zi4 | apply zi5) <;> intro _ <;> conv => whnf))
      refine VCall.intro (VC.give (args' := [.agg [.fs 2 N.ps.length (N.ps.flatMap encPn), .fs 6 (N.ss.eraseIdx k).length ((N.ss.eraseIdx k).flatMap encSg)], I p]) (loc' := [.dead, .dead, .dead]) [(0, N.ps.flatMap encPn), (1, (N.ss.eraseIdx k).flatMap encSg)] [] (OutOk.lift _) zb zf (by exact FmAll.nil) rfl zv (cC _)) ?_
      conv => whnf
      repeat' (first | ((first | refine zs1 ?_ | refine zs2 ?_ | refine zs3 ?_ | refine zs4 ?_ | refine zs5 ?_); conv => whnf) | ((first | apply zi1 | apply zi2 | apply zi3 | apply zi4 | apply zi5) <;> intro _ <;> conv => whnf) | (refine VAny.ix encSg_len k rfl rfl hk ?_; conv => whnf) | (refine VCall.intro (cI _) ?_; conv => whnf))
      all_goals first
        | (refine LEnd.intro (k + 1) (by omega) (by omega) ?_
           conv => whnf
           refine Retell.turn ⟨[], 9, [], []⟩ (TurnOk.mk' _ _ [] [] (OutOk.lift _) rfl (by decide) zb trivial trivial rfl) zv zm
           done)
        | (exfalso
           rename_i hz
           apply hz
           rw [hC]
           first
             | (rw [decide_eq_true (show s.f = p ∨ s.t = p by omega), Bool.true_and]
                rcases hE with rfl | rfl <;> rfl)
             | (rw [decide_eq_false (show ¬ (s.f = p ∨ s.t = p) by omega), Bool.false_and]))
    · conv => whnf
      repeat' (first | ((first | refine zs1 ?_ | refine zs2 ?_ | refine zs3 ?_ | refine zs4 ?_ | refine zs5 ?_); conv => whnf) | ((first | apply zi1 | apply zi2 | apply zi3 | apply zi4 | apply zi5) <;> intro _ <;> conv => whnf) | (refine VCall.intro (vc_awake _) ?_; conv => whnf))
      exact VOut.same rfl
  · have k3 : crE N p = 0 := by unfold crE; rw [if_neg (by omega), if_neg hS]
    have k3' : crS N p = regS (bnds N p) := (crS_eq k3).1
    have k4 : clE N p = 7 := by unfold clE; rw [if_neg (by omega), if_neg hS]
    have k4' : clP N p = none := clP_no (by omega)
    have k5 : loE N p = 10 := by unfold loE; rw [if_neg (by omega), if_neg hS]
    have k5' : loL N p = [] := by unfold loL; rw [if_neg (by omega)]
    have hq : ∃ q, Feas (bnds N p) q := Classical.byContradiction fun hx => hS ((reg_none (bnds_sq N p) (bnds_sz o p)).2 hx)
    have hRf : ∀ f : Pf, RgOk f (bnds N p).length → rfE N p f = 0 ∧ rfB N p f = false := fun f ok => by
      have r1 : rfE N p f = 0 := by unfold rfE; rw [if_neg (by omega)]; exact rgE_ok.2 ok
      refine ⟨r1, ?_⟩
      unfold rfB
      rw [if_pos r1]
      obtain ⟨q, hq⟩ := hq
      exact decide_eq_false (no_ref ok hq)
    rw [k3, k3'] at c3
    rw [k4, k4'] at c4
    rw [k5, k5'] at c5
    have hpos := List.length_pos_iff.2 hS
    clear k3 k3' k4 k4' k5 k5' hq hS
    generalize regS (bnds N p) = S at *
    generalize bnds N p = bs at *
    refine VC.bodyC 4 Tryz.func6 rfl Tryz.ntmps6 Tryz.call6 (h.grows_refl) rfl ?_; conv => whnf
    repeat' (first | ((first | refine zs1 ?_ | refine zs2 ?_ | refine zs3 ?_ | refine zs4 ?_ | refine zs5 ?_); conv => whnf) | ((first | apply zi1 | apply zi2 | apply zi3 | apply zi4 | apply zi5) <;> intro _ <;> conv => whnf) | (refine VCall.intro (vc_Of _ _) ?_; conv => whnf) | (refine VCall.intro (cM _ _ rfl) ?_; conv => whnf) | (refine VCall.intro (cS _ _ rfl) ?_; conv => whnf) | (refine VNeed.intro hneB ?_; conv => whnf))
    rw [hpw]
    repeat' (first | ((first | refine zs1 ?_ | refine zs2 ?_ | refine zs3 ?_ | refine zs4 ?_ | refine zs5 ?_); conv => whnf) | ((first | apply zi1 | apply zi2 | apply zi3 | apply zi4 | apply zi5) <;> intro _ <;> conv => whnf))
    refine VCut.at' (outer := h.lift) (marks := []) 99 [(8, B false), (9, .fp (encN N)), (10, .ptr (.loc 0) 0), (11, I p)] [deckB ts (0, 9)] ?_ ?_
    · conv => whnf
      refine Retell.turn ⟨[3], 4, [(2, encN N)], []⟩ (TurnOk.mk' _ _ [(2, encN N)] [] (OutOk.lift _) rfl (by decide) zb zf trivial rfl) zv zm
    conv => whnf
    repeat' (first | ((first | refine zs1 ?_ | refine zs2 ?_ | refine zs3 ?_ | refine zs4 ?_ | refine zs5 ?_); conv => whnf) | ((first | apply zi1 | apply zi2 | apply zi3 | apply zi4 | apply zi5) <;> intro _ <;> conv => whnf) | (refine VCall.intro (c3 _) ?_; conv => whnf) | (refine VCall.intro (c4 _) ?_; conv => whnf) | (refine VCall.intro (c5 _) ?_; conv => whnf) | (refine VCall.intro (c6 _) ?_; conv => whnf))
    all_goals try (exfalso; omega)
    refine VCode.lp (fun y : Nat × DS => [(8, B false), (9, .fp (encN N)), (10, .ptr (.loc 0) 0), (11, I p), (18, bds bs), (88, I y.1)]) (fun y => [deckB ts y.2]) (fun y => y.1 ≤ 8 ∧ y.2.1 ≤ 1000 * y.1) (fun y => 8 - y.1) (0, (0, 9)) ⟨by decide, by decide⟩ ?_ ?_
    · conv => whnf
      refine Retell.turn ⟨[0], 2, [], []⟩ (TurnOk.mk' _ _ [] [] (OutOk.lift _) rfl (by decide) zb trivial trivial rfl) zv zm
    rintro ⟨k, d⟩ ⟨h1, h2⟩
    dsimp only at h1 h2
    conv => whnf
    refine VIte.dec (fun h3 => ?_) (fun h3 => ?_)
    · dsimp only at h3
      have cl := fun (h2 : Hp) hh => vc_l3 ts d bs.length (.loc 0) h2 hl4 (by omega) (by omega) hh
      obtain ⟨q1, q2⟩ := shX_prm ts d bs.length
      obtain ⟨t1, t2, t3⟩ := three_ok q1 hl4
      generalize ((shX ts d bs.length).2.take 3).mergeSort (fun x y => decide (x ≤ y)) = R at *
      generalize (shX ts d bs.length).1 = d1 at *
      have g1 := fun (h2 : Hp) hh => vc_draw ts d1 50 (.loc 0) h2 (by omega) hh
      have b1 := dNx_bd ts d1 50
      generalize dNx ts d1 50 = z1 at *
      have g2 := fun (h2 : Hp) hh => vc_draw ts z1.2 50 (.loc 0) h2 (by omega) hh
      have b2 := dNx_bd ts z1.2 50
      generalize dNx ts z1.2 50 = z2 at *
      have g3 := fun (h2 : Hp) hh => vc_draw ts z2.2 50 (.loc 0) h2 (by omega) hh
      have b3 := dNx_bd ts z2.2 50
      generalize dNx ts z2.2 50 = z3 at *
      obtain ⟨u1, u2⟩ := hRf ⟨R, [z1.1, z2.1, z3.1], 0⟩ ⟨by show 1 ≤ R.length ∧ R.length ≤ 3; omega, by show 3 = R.length; omega, fun i hi => by have := t3 i hi; omega, t2, fun x hx => by
        have hx : x ∈ [z1.1, z2.1, z3.1] := hx
        simp only [List.mem_cons, List.not_mem_nil, or_false] at hx
        rcases hx with rfl | rfl | rfl <;> omega, by show (0 : Int) ≤ 0 ∧ (0 : Int) ≤ 1000000; omega⟩
      have cF := hR ⟨R, [z1.1, z2.1, z3.1], 0⟩ (by show R.length ≤ 10; omega) (by show 3 ≤ 10; omega)
      rw [u1, u2] at cF
      clear u1 u2 hRf
      conv => whnf
      repeat' (first | ((first | refine zs1 ?_ | refine zs2 ?_ | refine zs3 ?_ | refine zs4 ?_ | refine zs5 ?_); conv => whnf) | ((first | apply zi1 | apply zi2 | apply zi3 | apply zi4 | apply zi5) <;> intro _ <;> conv => whnf) | (refine VCall.intro (cl _ rfl) ?_; conv => whnf) | (refine VCall.intro (g1 _ rfl) ?_; conv => whnf) | (refine VCall.intro (g2 _ rfl) ?_; conv => whnf) | (refine VCall.intro (g3 _ rfl) ?_; conv => whnf))
      refine VCall.intro (VC.give (args' := [vN N, I p, vPf ⟨R, [z1.1, z2.1, z3.1], 0⟩]) (loc' := [deckB ts z3.2, .dead, .dead]) [(1, [DI z1.1, DI z2.1, DI z3.1])] [] (OutOk.lift _) zb zf (by exact FmAll.nil) rfl zv (cF _)) ?_
      conv => whnf
      repeat' (first | ((first | refine zs1 ?_ | refine zs2 ?_ | refine zs3 ?_ | refine zs4 ?_ | refine zs5 ?_); conv => whnf) | ((first | apply zi1 | apply zi2 | apply zi3 | apply zi4 | apply zi5) <;> intro _ <;> conv => whnf))
      refine LEnd.intro (k + 1, z3.2) ⟨by dsimp only; omega, by dsimp only; omega⟩ (by dsimp only; omega) ?_
      conv => whnf
      refine Retell.turn ⟨[0], 3, [], []⟩ (TurnOk.mk' _ _ [] [] (OutOk.lift _) rfl (by decide) zb trivial trivial rfl) zv zm
    · conv => whnf
      repeat' (first | ((first | refine zs1 ?_ | refine zs2 ?_ | refine zs3 ?_ | refine zs4 ?_ | refine zs5 ?_); conv => whnf) | ((first | apply zi1 | apply zi2 | apply zi3 | apply zi4 | apply zi5) <;> intro _ <;> conv => whnf) | (refine VCall.intro (vc_awake _) ?_; conv => whnf))
      exact VOut.same rfl
end Go.Proofs.YtdlnjnfkbneibaaGreat

open Go.Vm
namespace Go.Proofs.YtdlnjnfkbneibaaGreat
open Go.ChangeShapes Go.WideShapes Go.ChangeAt Go.RowKit

theorem open6p : OpenAll Tryz.prog Tryz.f6.params.toList (fun x : List Int × List Int × List Int × {n : Int // 0 ≤ n ∧ n ≤ 255} × Unit => [dU x.1, dU x.2.1, dU x.2.2.1, d8b x.2.2.2.1]) := by
  rw [Tryz.params6]
  exact OpenAll.cons openU (OpenAll.cons openU (OpenAll.cons openU (OpenAll.cons open8b (OpenAll.nil))))
set_option maxRecDepth 100000 in
theorem contract6 (H : Type) (enc : TypeId × Value → H) (W : World) (base : Nat) (args : Array Value) (ds gs : List (DataW H)) (before : List MemPlace)
    (hval : ∀ (j : Nat) t v, Tryz.f6.params[j]? = some t → args[j]? = some v → Value.okWide Tryz.prog W .any base t v)
    (hW : DataW.Whole enc Tryz.prog Tryz.f6.params.toList Rows.sightRefutedSpec.vars false W args.toList ds gs before) :
    Calls Tryz.prog 6 args W fun e W' => ∃ v, e = .returned v ∧ Rows.sightRefutedSpec.post enc Tryz.prog Tryz.f6 false true false false W args v W' := by
  refine contract_of_vc open6p (fun g => vc_SightRefuted g.1 g.2.1 g.2.2.1 g.2.2.2.1.1 g.2.2.2.1.2 Hp.bare) laidOut ?_ (tb := 4) (by kernel_rfl) Tryz.underlying4 rfl ?_ hval hW
  · rw [Tryz.params6]
    intro t ht
    simp only [List.mem_cons, List.not_mem_nil, or_false] at ht
    rcases ht with rfl | rfl | rfl | rfl
    all_goals exact ⟨by kernel_rfl, of_decide_eq_true (by kernel_rfl)⟩
  · intro H dd hl
    rw [Tryz.params6] at hl
    match dd, hl with
    | [d0, d1, d2, d3], _ => rfl
set_option maxRecDepth 100000 in
theorem lifted6 (os : Os) (started : os.Started) (H : Type) (enc : TypeId × Value → H) :
    ReturnsInHanded {} Tryz.checked os 6 .any (Rows.sightRefutedSpec.pre6 enc Tryz.prog Tryz.f6 Rows.sightRefutedRow.domain false) (Rows.sightRefutedSpec.post enc Tryz.prog Tryz.f6 false true false false) := by
  refine returnsInHanded_of_change (C := Tryz.checked) ownKn started (by kernel_rfl) Tryz.func6
    (ChangeSpec.witness6 (enc := enc) (C := Tryz.checked) false ⟨#[], #[.slice none 0 0, .slice none 0 0, .slice none 0 0, .int .u8 0], []⟩ 8 (by kernel_rfl) (by kernel_rfl) (by kernel_rfl) (by kernel_rfl)) ?_
  intro W base args ds gs before hval hW _ _
  exact contract6 H enc W base args ds gs before hval hW
theorem sightRefuted_said : Rows.SightRefutedSaid :=
  OpenClaim.holds_of_wide 6 Tryz.f6 rfl rfl rfl rfl rfl rfl rfl ⟨rfl, rfl, rfl, rfl, rfl⟩ rfl rfl rfl rfl rfl (by kernel_rfl) Tryz.func6 (by kernel_rfl)
    (of_decide_eq_true (by kernel_rfl)) (by unfold Func.isWrapper; first | (rw [if_pos (by decide +kernel)]; kernel_rfl) | (rw [if_neg (by decide +kernel)]; exact ⟨rfl, rfl⟩))
    (fun os started H enc _ => lifted6 os started H enc)
end Go.Proofs.YtdlnjnfkbneibaaGreat


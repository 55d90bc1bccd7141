/- Part 7 of the proof that calendars and herds are as the given statements say. No condition. -/
import Derived.Test.YtoeendggmalcpaaBp6
import Derived.Shelf.Sort.AssemblyIn
import Derived.Sort.EveryDepth
set_option linter.unusedVariables false
set_option linter.unusedSimpArgs false
namespace Go.Vm
open Go.Sort (grow putRow putCells Holds onCells mapBlock)

theorem Rel.growS {σ : Sig} {h : Hp} {w : World} (hr : Rel σ h w) (os : Array Obj) : Rel σ h (grow w os) where
  blk := fun i e b hi hb => by
    obtain ⟨h1, o, h2, h3⟩ := hr.blk i e b hi hb
    refine ⟨by show e.rid < (w.heap ++ os).size; rw [Array.size_append]; omega, o, ?_, h3⟩
    show (w.heap ++ os)[e.rid]? = some o
    rw [Array.getElem?_append_left h1]; exact h2
  apart := hr.apart
  dom := hr.dom
  nmd := hr.nmd
  fz := fun r o hro => by
    obtain ⟨h1, h2⟩ := hr.fz r o hro
    refine ⟨?_, h2⟩
    show (w.heap ++ os)[r]? = some o
    rw [Array.getElem?_append_left (Array.getElem?_eq_some_iff.1 h1).1]; exact h1
theorem Ext.growS {σ : Sig} {h : Hp} {w : World} (os : Array Obj) : Ext σ h w σ h (grow w os) where
  le := Sig.le_refl σ
  lo := rfl
  fzn := fun _ _ h => h
  size := by show w.heap.size ≤ (w.heap ++ os).size; rw [Array.size_append]; omega
  os := rfl
  tape := rfl
  output := rfl
  frame := fun r hr _ => by show (w.heap ++ os)[r]? = w.heap[r]?; rw [Array.getElem?_append_left hr]
  new := fun j ej hj hn => by rw [hj] at hn; cases hn
  down := fun j ej bj _ hbj hwj => ⟨bj, hbj, hwj⟩
  ro := fun j ej bj hj hbj hwj hal => ⟨hj, bj, hbj, hal, hwj⟩
  old := fun j hj => ⟨hj, fun x => x⟩
  oldn := fun j _ hx => hx
theorem flatI_get {l : List Int} {j : Nat} : (l.flatMap encI)[j]? = (l[j]?).map DI := by
  induction l generalizing j with
  | nil => rfl
  | cons a l ih =>
    cases j with
    | zero => rfl
    | succ j => rw [List.flatMap_cons]; exact ih
def srtI (n : Nat) (l : List Int) : List Int := ((l.take n).mergeSort fun x y => decide (x ≤ y)) ++ l.drop n
theorem VC.sortI {P : Program} {f : FuncId} {h : Hp} {i : Id} {n : Nat} {l : List Int} (hent : ∀ as0 w, (callFunc f as0).run P w = .ok (.enter f as0) w) (hb : h.get i = some (.flat true (l.flatMap encI))) (hn : n ≤ l.length) (h0 : 0 < n) (hl : l.length ≤ 4000000) (R : List Int) (hR : R <+: srtI n l)
    (hc : ∀ (blk off cap : Nat) (zs : List Int) (w : World), Holds (Value.int .i64) w blk off zs.toArray → blk < w.heap.size → zs.length < 4611686018427387904 → Calls P f #[.slice (some ⟨blk, off, none⟩) zs.length cap] w fun e w' => e = .returned (.tuple #[]) ∧ ∃ n os, w' = grow (putRow (Value.int .i64) (Sort.ahead w n) blk off (zs.mergeSort fun x y => decide (x ≤ y)).toArray) os) :
    VC P f [.gl i 1 n] h (.tuple []) (h.set i (.flat true (R.flatMap encI))) := by
  refine ⟨hent, Hp.grows_set h i _, fun σ w xs hr hxs => ?_⟩
  rw [callsIn_wide]
  obtain ⟨x, rfl, hx⟩ := VRs_one hxs
  simp only [VR] at hx
  obtain ⟨_, hx⟩ := hx
  rcases hx with ⟨hz, _⟩ | ⟨e, cap, o, hi, h1, h2, h3, rfl⟩
  · omega
  obtain ⟨hlt, ob, hob, hrel⟩ := hr.blk i e _ hi hb
  simp only [BlkRel] at hrel
  obtain ⟨cur, TT, fz, rfl, hs1, hs2, hfz, hcell⟩ := hrel
  have hfz := hfz rfl
  subst hfz
  rw [Nat.mul_one] at h2
  have h3 := h3 (by omega)
  subst h3
  have hcur : ∀ j x, l[j]? = some x → cur[e.base + j]? = some (.int .i64 x) := fun j x hj => by
    obtain ⟨y, hy, hv, _⟩ := hcell j (.s (.int .i64 x)) (by simp only [flatI_get, hj, Option.map_some]; rfl)
    simp only [VR, S.val] at hv
    rw [hy, hv]
  rw [flat_len encI_len, Nat.mul_one] at hs2
  have hlen : (l.take n).length = n := by rw [List.length_take]; omega
  have hH : Holds (Value.int .i64) w e.rid e.base (l.take n).toArray := by
    intro j hj
    have hj' : j < n := by simpa [hlen] using hj
    have hg : l[j]? = some (l[j]'(by omega)) := List.getElem?_eq_getElem _
    refine ⟨?_, by simp [World.frozen?, hob]⟩
    have := hcur j _ hg
    simp only [World.cell?, hob]
    simp only [Option.isSome_none, Bool.false_eq_true, if_false]
    rw [this]
    have hj2 : j < (l.take n).toArray.size := hj
    rw [getElem!_pos _ j hj2]
    simp
  have hcall := hc e.rid e.base cap (l.take n) w hH hlt (by omega)
  rw [hlen] at hcall
  refine Calls.mono hcall ?_
  rintro en w' ⟨rfl, q, os, rfl⟩
  obtain ⟨T, hT⟩ : ∃ T, T = (l.take n).mergeSort (fun x y => decide (x ≤ y)) := ⟨_, rfl⟩
  have hTl : T.length = n := by rw [hT, List.length_mergeSort, hlen]
  rw [← hT]
  have hcs : e.base + n ≤ cur.size := by omega
  obtain ⟨w1, hw1⟩ : ∃ w1, w1 = putRow (Value.int .i64) (Sort.ahead w q) e.rid e.base T.toArray := ⟨_, rfl⟩
  rw [← hw1]
  have hheap : w1.heap = w.heap.modify e.rid (onCells (putCells (Value.int .i64) e.base T.toArray)) := by rw [hw1]; rfl
  have hsz : w1.heap.size = w.heap.size := by rw [hheap, Array.size_modify]
  have hsame : ∀ r, r ≠ e.rid → w1.heap[r]? = w.heap[r]? := fun r hne => by rw [hheap, Array.getElem?_modify, if_neg (Ne.symm hne)]
  have hnew : w1.heap[e.rid]? = some (.cells (putCells (Value.int .i64) e.base T.toArray cur) TT (0, 0)) := by rw [hheap, Array.getElem?_modify, if_pos rfl, hob]; rfl
  have hput : ∀ k, (putCells (Value.int .i64) e.base T.toArray cur)[k]? = (cur[k]?).map fun x => if e.base ≤ k ∧ k < e.base + T.length then Value.int .i64 (T.getD (k - e.base) 0) else x := fun k => by
    unfold putCells
    rw [Array.getElem?_mapIdx]
    cases hk : cur[k]? with
    | none => rfl
    | some x =>
      simp only [Option.map_some, Option.some.injEq, List.size_toArray]
      split
      · rename_i hh
        congr 1
        rw [getElem!_pos _ (k - e.base) (by simp; omega)]
        simp [List.getD_eq_getElem?_getD, List.getElem?_eq_getElem (show k - e.base < T.length by omega)]
      · rfl
  have hrel' : BlkRel σ e (.flat true (R.flatMap encI)) (.cells (putCells (Value.int .i64) e.base T.toArray cur) TT (0, 0)) := by
    have hsl : (srtI n l).length = l.length := by unfold srtI; rw [List.length_append, List.length_mergeSort, hlen, List.length_drop]; omega
    refine ⟨_, TT, (0, 0), rfl, by simp [putCells]; exact hs1, by rw [flat_len encI_len, Nat.mul_one]; have := hR.length_le; omega, fun _ => rfl, ?_⟩
    intro j v hv
    dsimp only at hv
    rw [flatI_get] at hv
    have hjR : j < R.length := by
      rcases Nat.lt_or_ge j R.length with h | h
      · exact h
      · rw [List.getElem?_eq_none h] at hv; cases hv
    have hjl : j < (srtI n l).length := by have := hR.length_le; omega
    rw [show R[j]? = (srtI n l)[j]? by
      obtain ⟨t, ht⟩ := hR
      rw [← ht, List.getElem?_append_left hjR]] at hv
    have hcj : cur[e.base + j]? = some (.int .i64 (l[j]'(by omega))) := hcur j _ (List.getElem?_eq_getElem _)
    rw [hput, hcj, Option.map_some]
    refine ⟨_, rfl, ?_, ?_⟩
    · have hsr : (srtI n l)[j]? = some (if j < n then T.getD j 0 else l[j]'(by omega)) := by
        unfold srtI
        rw [← hT]
        by_cases hjn : j < n
        · rw [if_pos hjn, List.getElem?_append_left (by omega), List.getElem?_eq_getElem (by omega)]
          simp [List.getD_eq_getElem?_getD, List.getElem?_eq_getElem (show j < T.length by omega)]
        · rw [if_neg hjn, List.getElem?_append_right (by omega), hTl, List.getElem?_drop, show n + (j - n) = j by omega, List.getElem?_eq_getElem]
      rw [hsr] at hv
      cases hv
      simp only [VR, S.val, D.v]
      by_cases hjn : j < n
      · rw [if_pos (by omega), if_pos hjn, show e.base + j - e.base = j by omega]
      · rw [if_neg (by omega), if_neg hjn]
    · split <;> rfl
  have hrel2 := hr.upd hi hb rfl (fun _ => rfl) hsz hsame hnew hrel'
  have hext := Ext.upd (h := h) (b' := .flat true (R.flatMap encI)) hi hb rfl (fun _ => rfl) hsz (by rw [hw1]; rfl) (by rw [hw1]; rfl) (by rw [hw1]; rfl) hsame
  exact ⟨σ, .tuple #[], rfl, by simp only [VR]; exact ⟨#[], rfl, rfl⟩, hrel2.growS os, (hext.trans (Ext.growS os)).toK⟩
end Go.Vm

namespace Go.Proofs.Ytoeendggmalcpaa
open Go.Shelf
def srtRen : Ren := ⟨fun | 125 => 65 | 128 => 119 | 129 => 120 | 189 => 21 | 215 => 143 | 216 => 116 | 257 => 64 | 294 => 110 | 295 => 111 | 296 => 112 | 297 => 113 | 298 => 114 | 299 => 115 | 300 => 117 | 301 => 118 | 328 => 138 | 329 => 139 | 330 => 140 | 331 => 141 | 332 => 142 | 343 => 158 | n => n, fun | 0 => 0 | 3 => 3 | 4 => 4 | 5 => 5 | 9 => 9 | 28 => 32 | 46 => 119 | 51 => 113 | 53 => 184 | 131 => 180 | 182 => 174 | 183 => 175 | 218 => 206 | 222 => 210 | 228 => 227 | 229 => 218 | n => n, fun n => n⟩
theorem srtLays : Lays.n189 Try.prog srtRen := {
  mixed := by kernel_rfl
  f125 := by kernel_rfl
  f128 := by kernel_rfl
  f129 := by kernel_rfl
  f189 := by kernel_rfl
  f215 := by kernel_rfl
  f216 := by kernel_rfl
  f257 := by kernel_rfl
  f294 := by kernel_rfl
  f295 := by kernel_rfl
  f296 := by kernel_rfl
  f297 := by kernel_rfl
  f298 := by kernel_rfl
  f299 := by kernel_rfl
  f300 := by kernel_rfl
  f301 := by kernel_rfl
  f328 := by kernel_rfl
  f329 := by kernel_rfl
  f330 := by kernel_rfl
  f331 := by kernel_rfl
  f332 := by kernel_rfl
  f343 := by kernel_rfl
  t0 := by kernel_rfl
  a0 := fun _ => by kernel_rfl
  z0 := fun _ => by kernel_rfl
  v0 := fun _ => by kernel_rfl
  t3 := by kernel_rfl
  a3 := fun _ => by kernel_rfl
  z3 := fun _ => by kernel_rfl
  v3 := fun _ => by kernel_rfl
  t4 := by kernel_rfl
  a4 := fun _ => by kernel_rfl
  z4 := fun _ => by kernel_rfl
  v4 := fun _ => by kernel_rfl
  t5 := by kernel_rfl
  a5 := fun _ => by kernel_rfl
  z5 := fun _ => by kernel_rfl
  v5 := fun _ => by kernel_rfl
  t9 := by kernel_rfl
  a9 := fun _ => by kernel_rfl
  z9 := fun _ => by kernel_rfl
  v9 := fun _ => by kernel_rfl
  t28 := by kernel_rfl
  a28 := fun _ => by kernel_rfl
  z28 := fun _ => by kernel_rfl
  v28 := fun _ => by kernel_rfl
  t46 := by kernel_rfl
  a46 := fun _ => by kernel_rfl
  z46 := fun _ => by kernel_rfl
  v46 := fun _ => by kernel_rfl
  t51 := by kernel_rfl
  a51 := fun _ => by kernel_rfl
  z51 := fun _ => by kernel_rfl
  v51 := fun _ => by kernel_rfl
  t53 := by kernel_rfl
  a53 := fun _ => by kernel_rfl
  z53 := fun _ => by kernel_rfl
  v53 := fun _ => by kernel_rfl
  t131 := by kernel_rfl
  a131 := fun _ => by kernel_rfl
  z131 := fun _ => by kernel_rfl
  v131 := fun _ => by kernel_rfl
  t182 := by kernel_rfl
  a182 := fun _ => by kernel_rfl
  z182 := fun _ => by kernel_rfl
  v182 := fun _ => by kernel_rfl
  t183 := by kernel_rfl
  a183 := fun _ => by kernel_rfl
  z183 := fun _ => by kernel_rfl
  v183 := fun _ => by kernel_rfl
  t218 := by kernel_rfl
  a218 := fun _ => by kernel_rfl
  z218 := fun _ => by kernel_rfl
  v218 := fun _ => by kernel_rfl
  t222 := by kernel_rfl
  a222 := fun _ => by kernel_rfl
  z222 := fun _ => by kernel_rfl
  v222 := fun _ => by kernel_rfl
  t228 := by kernel_rfl
  a228 := fun _ => by kernel_rfl
  z228 := fun _ => by kernel_rfl
  v228 := fun _ => by kernel_rfl
  t229 := by kernel_rfl
  a229 := fun _ => by kernel_rfl
  z229 := fun _ => by kernel_rfl
  v229 := fun _ => by kernel_rfl
}
theorem vc_Sort (n : Nat) (l : List Int) (i : Go.Vm.Id) (h : Go.Vm.Hp) (hb : h.get i = some (.flat true (l.flatMap Go.Vm.encI))) (hn : n ≤ l.length) (h0 : 0 < n) (hl : l.length ≤ 4000000) (R : List Int) (hR : R <+: Go.Vm.srtI n l) : Go.Vm.VC Try.prog 21 [.gl i 1 n] h (.tuple []) (h.set i (.flat true (R.flatMap Go.Vm.encI))) :=
  Go.Vm.VC.sortI Try.call21 hb hn h0 hl R hR fun blk off cap zs w h1 h2 h3 => calls_of_every_depth fun D => AnyS.slices_Sort_int_in srtLays D blk off cap zs w h1 h2 h3
end Go.Proofs.Ytoeendggmalcpaa

open Go.Vm
open Psg
namespace Psg
theorem one_0 (b : Bool) : one b 0 = 0 := by cases b <;> rfl
theorem bnd0 : ∀ ws : List Wy, (∀ w ∈ ws, 0 ≤ w.h ∧ w.h ≤ 1000) → Bnd ws (List.replicate ws.length 0)
  | [], _ => trivial
  | w :: ws, h => ⟨⟨Int.le_refl _, (h w List.mem_cons_self).1⟩, bnd0 ws fun v hv => h v (List.mem_cons_of_mem _ hv)⟩
theorem flux0 (S : Int → Bool) : ∀ ws : List Wy, flux S ws (List.replicate ws.length 0) = 0
  | [] => rfl
  | w :: ws => by
    rw [List.length_cons, List.replicate_succ, flux, one_0, one_0, flux0 S ws]; rfl
theorem dr0 {n : Nat} {ws : List Wy} {src gls : List Int} (hh : ∀ w ∈ ws, 0 ≤ w.h ∧ w.h ≤ 1000) : Dr n ws src gls (List.replicate ws.length 0) := ⟨bnd0 ws hh, fun p _ _ _ => flux0 (eqB p) ws⟩
theorem val0 {n : Nat} {ws : List Wy} {src : List Int} : val n ws src (List.replicate ws.length 0) = 0 := by
  unfold val
  rw [sumTo_congr (v := fun _ => 0) fun i _ => by unfold net; rw [flux0, one_0]]
  exact sumTo_zero n
theorem val_top {n : Nat} {ws : List Wy} {src gls hs : List Int} (hP : Ps n ws src gls) (hh : ∀ w ∈ ws, 0 ≤ w.h ∧ w.h ≤ 1000) (hl : ws.length ≤ 24) (hd : Dr n ws src gls hs) : val n ws src hs ≤ 24000 := by
  have hc : Cu src gls (fun q => decide (q ∈ src)) := ⟨fun p hp => decide_eq_true hp, fun p hp => decide_eq_false fun h => hP.dis p h hp⟩
  have := val_le hP.inN hd hc
  have := (bar_le (fun q => decide (q ∈ src)) ws hh).2
  omega
def dvN (n : Nat) (N : Nt) (src gls : List Int) : List Int × Int × List Int := drv gls N.ws src (n + 1) 24001 (List.replicate N.ws.length 0) 0
end Psg
namespace Go.Proofs.Ytoeendggmalcpaa
set_option maxRecDepth 20000
set_option maxHeartbeats 4000000
theorem pas_ok {N : Nt} {a b : List Int} (h : pas N a b = 0) : ∃ n, NOk n N ∧ Ps n N.ws a b ∧ 0 < a.length ∧ 0 < b.length ∧ a.Pairwise (· < ·) ∧ b.Pairwise (· < ·) := by
  unfold pas at h
  by_cases h1 : chk N = 0
  · rw [if_pos h1] at h
    by_cases h2 : a.all (pstB N) = true ∧ b.all (pstB N) = true
    · rw [if_pos h2] at h
      by_cases h3 : a.length = 0 ∨ b.length = 0
      · rw [if_pos h3] at h; cases h
      · rw [if_neg h3] at h
        by_cases h4 : risB a = true ∧ risB b = true
        · rw [if_pos h4] at h
          by_cases h5 : (a.all fun p => decide (¬ p ∈ b)) = true
          · obtain ⟨n, hN⟩ := chk_ok h1
            have hp := hN.p
            have ha := risB_pw.1 h4.1
            have hb := risB_pw.1 h4.2
            refine ⟨n, hN, ⟨hN.inN, ⟨List.nodup_iff_pairwise_ne.2 (ha.imp fun h => by omega), fun q hq => ?_⟩, fun q hq => ?_, fun q hq => ?_⟩, by omega, by omega, ha, hb⟩
            · have := List.all_eq_true.1 h2.1 q hq
              unfold pstB at this
              have := of_decide_eq_true this
              omega
            · have := List.all_eq_true.1 h2.2 q hq
              unfold pstB at this
              have := of_decide_eq_true this
              omega
            · exact of_decide_eq_true (List.all_eq_true.1 h5 q hq)
          · rw [if_neg h5] at h; cases h
        · rw [if_neg h4] at h; cases h
    · rw [if_neg h2] at h; cases h
  · rw [if_neg h1] at h; exact absurd h h1
theorem vc_driven {n : Nat} {N : Nt} {src gls : List Int} (hN : NOk n N) (hP : Ps n N.ws src gls) (h0 : 0 < src.length) (hg : gls.length ≤ 4000000) (h : Hp) :
    VC Try.prog 67 [vN N, ints src, ints gls] h (.tuple [ints (dvN n N src gls).1, I (dvN n N src gls).2.1, ints (dvN n N src gls).2.2]) h := by
  obtain ⟨R, hR⟩ : ∃ R, R = dvN n N src gls := ⟨_, rfl⟩
  rw [← hR]
  unfold dvN at hR
  have hwl := hN.len
  have hh : ∀ w ∈ N.ws, 0 ≤ w.h ∧ w.h ≤ 1000 := fun w hw => (hN.ws w hw).h
  refine VC.body Try.func67 rfl Try.ntmps67 Try.call67 (h.grows_refl) rfl ?_; conv => whnf
  repeat' (first | ((first | refine zs1 ?_ | refine zs2 ?_ | refine zs3 ?_ | refine zs4 ?_ | refine zs5 ?_); conv => whnf) | ((first | apply zi1 | apply zi2 | apply zi3 | apply zi4 | apply zi5) <;> intro _ <;> conv => whnf))
  refine zs6 [] ?_
  conv => whnf
  repeat' (first | ((first | refine zs1 ?_ | refine zs2 ?_ | refine zs3 ?_ | refine zs4 ?_ | refine zs5 ?_); conv => whnf) | ((first | apply zi1 | apply zi2 | apply zi3 | apply zi4 | apply zi5) <;> intro _ <;> conv => whnf) | (refine VMkD.makeI N.ws.length rfl rfl rfl rfl rfl (by decide) (by omega) ?_; conv => whnf))
  refine VCode.lp (outer := h.lift) (marks := []) (fun y : Nat × List Int × Int => [(1, ints src), (2, ints gls), (9, .ptr (.loc 1) 0), (10, I y.2.2)]) (fun y => [.flat true (y.2.1.flatMap Vm.encI), .cells true [I N.p, wys N.ws, .gl (.loc 0) 1 N.ws.length]]) (fun y => Dr n N.ws src gls y.2.1 ∧ val n N.ws src y.2.1 = y.2.2 ∧ 0 ≤ y.2.2 ∧ 24001 ≤ y.2.2 + y.1 ∧ R = drv gls N.ws src (n + 1) y.1 y.2.1 y.2.2) (fun y => y.1) (24001, List.replicate N.ws.length 0, 0) ⟨dr0 hh, val0, Int.le_refl _, by show (24001 : Int) ≤ 0 + ((24001 : Nat) : Int); omega, hR⟩ ?_ ?_
  · conv => whnf
    refine Retell.turn ⟨[1,2], 3, [], []⟩ (TurnOk.mk' _ _ [] [] (OutOk.lift _) rfl (by decide) zb trivial trivial rfl) zw zm
  · rintro ⟨K, hs, many⟩ ⟨d1, d2, d3, d4, d5⟩
    dsimp only at d1 d2 d3 d4 d5 ⊢
    have htop := val_top hP hh hwl d1
    cases K with
    | zero => exfalso; omega
    | succ K =>
      rw [drv] at d5
      have hlen := d1.bnd.len
      have hQ := pushed_ok hP d1
      have cP := vc_pushed hN hg h0 hP.smt d1.bnd (s := .loc 1) (hI := .loc 0) ⟨h.lift, [.flat true (hs.flatMap Vm.encI), .cells true [I N.p, wys N.ws, .gl (.loc 0) 1 N.ws.length]]⟩ (by rw [hlen]; rfl) rfl (by decide)
      generalize pushed gls N.ws (n + 1) src hs src = r at d5 hQ cP
      replace cP : VC Try.prog 122 [.ptr (.loc 1) 0, ints src, ints gls] ⟨h.lift, [.flat true (hs.flatMap Vm.encI), .cells true [I N.p, wys N.ws, .gl (.loc 0) 1 N.ws.length]]⟩ (.tuple [I r.1, .gl (.loc 2) 1 r.2.2.length]) ⟨h.lift, [.flat true (r.2.1.flatMap Vm.encI), .cells true [I N.p, wys N.ws, .gl (.loc 0) 1 N.ws.length], .flat true (r.2.2.flatMap Vm.encI)]⟩ := cP
      have hml := hQ.mt.len
      have hn1 := hN.n1
      by_cases hz : r.1 = 0
      · rw [if_pos hz] at d5
        have hpos : 0 < r.2.2.length := by
          have : src[0] ∈ r.2.2 := (hQ.zero hz).2.1 _ (List.getElem_mem h0)
          exact List.length_pos_of_mem this
        have cS := vc_Sort r.2.2.length r.2.2 (.loc 2) ⟨h.lift, [.flat true (r.2.1.flatMap Vm.encI), .cells true [I N.p, wys N.ws, .gl (.loc 0) 1 N.ws.length], .flat true (r.2.2.flatMap Vm.encI)]⟩ rfl (Nat.le_refl _) hpos (by omega) (srt r.2.2) (by unfold Go.Vm.srtI srt; rw [List.take_length]; exact List.prefix_append _ _)
        have hl1 : r.2.1.length = N.ws.length := hQ.len
        have hl2 : (srt r.2.2).length = r.2.2.length := srt_len _
        conv => whnf
        repeat' (first | ((first | refine zs1 ?_ | refine zs2 ?_ | refine zs3 ?_ | refine zs4 ?_ | refine zs5 ?_); conv => whnf) | ((first | apply zi1 | apply zi2 | apply zi3 | apply zi4 | apply zi5) <;> intro _ <;> conv => whnf) | (refine VCall.intro (cP) ?_; conv => whnf) | (refine VCall.intro (cS) ?_; conv => whnf))
        all_goals try (exfalso; omega)
        rw [d5]
        rw [← hl1, ← hl2]
        refine VOut.data 3 [(0, r.2.1.flatMap Vm.encI), (2, (srt r.2.2).flatMap Vm.encI)] [] rfl zf (by exact FmAll.nil) zw
      · rw [if_neg hz] at d5
        have hpos : 0 < r.1 := by have := hQ.low; omega
        obtain ⟨q1, q2⟩ := hQ.pos hpos
        have htop2 := val_top hP hh hwl q1
        conv => whnf
        repeat' (first | ((first | refine zs1 ?_ | refine zs2 ?_ | refine zs3 ?_ | refine zs4 ?_ | refine zs5 ?_); conv => whnf) | ((first | apply zi1 | apply zi2 | apply zi3 | apply zi4 | apply zi5) <;> intro _ <;> conv => whnf) | (refine VCall.intro (cP) ?_; conv => whnf))
        all_goals try (exfalso; omega)
        refine LEnd.intro (K, r.2.1, many + r.1) ⟨q1, by dsimp only; omega, by dsimp only; omega, by dsimp only; omega, d5⟩ (Nat.lt_succ_self _) ?_
        conv => whnf
        refine Retell.turn ⟨[0,1], 3, [], []⟩ (TurnOk.mk' _ _ [] [] (OutOk.lift _) rfl (by decide) zb trivial trivial rfl) zw zm
end Go.Proofs.Ytoeendggmalcpaa

open Go.Vm
open Psg
namespace Psg
def brL (S : Int → Bool) (ws : List Wy) : List Int := (ws.filter fun w => S w.f && !S w.t).map fun w => w.h
theorem brL_sum (S : Int → Bool) : ∀ ws : List Wy, (brL S ws).sum = bar S ws
  | [] => rfl
  | w :: ws => by
    have ih := brL_sum S ws
    unfold brL at ih ⊢
    rw [bar, List.filter_cons]
    cases S w.f && !S w.t
    · simp only [Bool.false_eq_true, if_false]; rw [ih]; simp [one]
    · simp only [if_true, List.map_cons, List.sum_cons]; rw [ih]; simp [one]
theorem brL_take {S : Int → Bool} {ws : List Wy} {k : Nat} {w : Wy} (h : ws[k]? = some w) : brL S (ws.take (k + 1)) = if (S w.f && !S w.t) = true then brL S (ws.take k) ++ [w.h] else brL S (ws.take k) := by
  unfold brL
  rw [List.take_add_one, h, List.filter_append, List.map_append]
  cases hc : S w.f && !S w.t <;> simp [List.filter, hc]
theorem brL_len (S : Int → Bool) (ws : List Wy) : (brL S ws).length ≤ ws.length := by unfold brL; rw [List.length_map]; exact List.length_filter_le _ _
theorem brL_mem {S : Int → Bool} {ws : List Wy} (hw : ∀ w ∈ ws, 0 ≤ w.h ∧ w.h ≤ 1000) : ∀ x ∈ brL S ws, -1000000 ≤ x ∧ x ≤ 1000000 := by
  intro x hx
  unfold brL at hx
  obtain ⟨w, h1, rfl⟩ := List.mem_map.1 hx
  have := hw w (List.mem_filter.1 h1).1
  omega
theorem take_sum {l : List Int} {k : Nat} {x : Int} (h : l[k]? = some x) : (l.take (k + 1)).sum = (l.take k).sum + x := by
  rw [List.take_add_one, h, List.sum_append]; simp
theorem sum_bd : ∀ (l : List Int) (b : Int), (∀ x ∈ l, -b ≤ x ∧ x ≤ b) → -(b * l.length) ≤ l.sum ∧ l.sum ≤ b * l.length
  | [], b, _ => by simp
  | x :: l, b, h => by
    have h1 := h x List.mem_cons_self
    have h2 := sum_bd l b fun y hy => h y (List.mem_cons_of_mem _ hy)
    rw [List.sum_cons, List.length_cons]
    have : b * ((l.length + 1 : Nat) : Int) = b * l.length + b := by rw [Int.natCast_add, Int.mul_add]; simp
    omega
end Psg
namespace Go.Proofs.Ytoeendggmalcpaa
set_option maxRecDepth 20000
set_option maxHeartbeats 4000000
theorem vc_sum (l : List Int) (h : Hp) (hl : l.length ≤ 1000) (hb : ∀ x ∈ l, -1000000 ≤ x ∧ x ≤ 1000000) : VC Try.prog 87 [ints l] h (I l.sum) h := by
  refine VC.body Try.func87 rfl Try.ntmps87 Try.call87 (h.grows_refl) rfl ?_; conv => whnf
  repeat' (first | ((first | refine zs1 ?_ | refine zs2 ?_ | refine zs3 ?_ | refine zs4 ?_ | refine zs5 ?_); conv => whnf) | ((first | apply zi1 | apply zi2 | apply zi3 | apply zi4 | apply zi5) <;> intro _ <;> conv => whnf))
  refine VCode.lp (outer := h.lift) (marks := []) (fun k : Nat => [(3, I (l.take k).sum), (6, ints l), (7, I l.length), (8, I k)]) (fun _ => []) (fun k => k ≤ l.length) (fun k => l.length - k) 0 (Nat.zero_le _) ?_ ?_
  · conv => whnf
    refine Retell.turn ⟨[], 0, [], []⟩ (TurnOk.mk' _ _ [] [] (OutOk.lift _) rfl (by decide) zb trivial trivial rfl) zw zm
  · intro k h1
    rcases Nat.lt_or_ge k l.length with h3 | h3
    · have ha : l[k]? = some l[k] := List.getElem?_eq_getElem h3
      have hx := hb l[k] (List.getElem_mem h3)
      have hs := take_sum ha
      have hs1 := sum_bd (l.take k) 1000000 fun x hx => hb x (List.mem_of_mem_take hx)
      rw [List.length_take, Nat.min_eq_left (by omega)] at hs1
      generalize l[k] = a at ha hx hs
      generalize hq : (l.take k).sum = s at hs hs1
      conv => whnf
      repeat' (first | ((first | refine zs1 ?_ | refine zs2 ?_ | refine zs3 ?_ | refine zs4 ?_ | refine zs5 ?_); conv => whnf) | ((first | apply zi1 | apply zi2 | apply zi3 | apply zi4 | apply zi5) <;> intro _ <;> conv => whnf) | (refine VAny.ix encI_len k rfl rfl ha ?_; conv => whnf))
      all_goals try (exfalso; omega)
      refine LEnd.intro (k + 1) (by omega) (by omega) ?_
      rw [hs]
      conv => whnf
      refine Retell.turn ⟨[], 0, [], []⟩ (TurnOk.mk' _ _ [] [] (OutOk.lift _) rfl (by decide) zb trivial trivial rfl) zw zm
    · conv => whnf
      repeat' (first | ((first | refine zs1 ?_ | refine zs2 ?_ | refine zs3 ?_ | refine zs4 ?_ | refine zs5 ?_); conv => whnf) | ((first | apply zi1 | apply zi2 | apply zi3 | apply zi4 | apply zi5) <;> intro _ <;> conv => whnf))
      all_goals try (exfalso; omega)
      rw [List.take_of_length_le h3]
      exact VOut.same rfl
theorem vc_bars1 (S : List Int) (p : Int) (h : Hp) (hb : S.length ≤ 4000000) : VC Try.prog 90 (D.vs [] ++ [I p] ++ D.vs [.pt [dints S]]) h (B (decide (p ∈ S))) h := by
  have c := fun h => vc_ContI S p h hb
  generalize decide (p ∈ S) = b at c
  refine VC.body Try.func90 rfl Try.ntmps90 Try.call90 (h.grows_refl) rfl ?_; conv => whnf
  repeat' (first | ((first | refine zs1 ?_ | refine zs2 ?_ | refine zs3 ?_ | refine zs4 ?_ | refine zs5 ?_ | refine zs6 [] ?_); conv => whnf) | ((first | apply zi1 | apply zi2 | apply zi3 | apply zi4 | apply zi5) <;> intro _ <;> conv => whnf) | (refine VCall.intro (c _) ?_; conv => whnf))
  exact VOut.same rfl
theorem vc_bars2 (S : List Int) (p : Int) (h : Hp) (hb : S.length ≤ 4000000) : VC Try.prog 92 (D.vs [] ++ [I p] ++ D.vs [.pt [.func (.func 90) [] [.pt [dints S]]]]) h (B (!decide (p ∈ S))) h := by
  have c := fun h => vc_bars1 S p h hb
  generalize decide (p ∈ S) = b at c
  refine VC.body Try.func92 rfl Try.ntmps92 Try.call92 (h.grows_refl) rfl ?_; conv => whnf
  repeat' (first | ((first | refine zs1 ?_ | refine zs2 ?_ | refine zs3 ?_ | refine zs4 ?_ | refine zs5 ?_ | refine zs6 [] ?_); conv => whnf) | ((first | apply zi1 | apply zi2 | apply zi3 | apply zi4 | apply zi5) <;> intro _ <;> conv => whnf) | (refine VCall.intro (c _) ?_; conv => whnf))
  exact VOut.same rfl
def brsN (N : Nt) (a b S : List Int) : Int × Int :=
  if pas N a b = 0 then (if S.all (pstB N) = true then (if risB S = true then (if (a.all fun p => decide (p ∈ S)) = true ∧ (b.all fun p => !decide (p ∈ S)) = true then (bar (fun q => decide (q ∈ S)) N.ws, 0) else (0, 9)) else (0, 5)) else (0, 2)) else (0, pas N a b)
theorem vc_Bars (N : Nt) (a b S : List Int) (h : Hp) (hn : N.ws.length ≤ 4000000) (ha : a.length ≤ 4000000) (hb : b.length ≤ 4000000) (hS : S.length ≤ 4000000) : VC Try.prog 48 [vN N, ints a, ints b, ints S] h (.tuple [I (brsN N a b S).1, I (brsN N a b S).2]) h := by
  obtain ⟨R, hR⟩ : ∃ R, R = brsN N a b S := ⟨_, rfl⟩
  rw [← hR]
  unfold brsN at hR
  have cP := fun h => vc_pastured N a b h hn ha hb
  by_cases h0 : pas N a b = 0
  · rw [if_pos h0] at hR
    rw [h0] at cP
    obtain ⟨n, hN, hPs, ha0, hb0, _, _⟩ := pas_ok h0
    have hp := hN.p
    have hn1 := hN.n1
    have hwl := hN.len
    have cA := fun h => vc_allA S (pstB N) 74 N hS (fun e _ h => vc_posted N e h (by omega)) h
    have cR := fun h => vc_rises S h hS
    have c1 := fun h => vc_allP a (fun p => decide (p ∈ S)) 90 [dints S] ha (fun e _ h => vc_bars1 S e h hS) h
    have c2 := fun h => vc_allP b (fun p => !decide (p ∈ S)) 92 [.func (.func 90) [] [.pt [dints S]]] hb (fun e _ h => vc_bars2 S e h hS) h
    generalize S.all (pstB N) = A at cA hR
    generalize risB S = RS at cR hR
    generalize (a.all fun p => decide (p ∈ S)) = A1 at c1 hR
    generalize (b.all fun p => !decide (p ∈ S)) = A2 at c2 hR
    refine VC.bodyC 3 Try.func48 rfl Try.ntmps48 Try.call48 (h.grows_refl) rfl ?_; conv => whnf
    repeat' (first | ((first | refine zs1 ?_ | refine zs2 ?_ | refine zs3 ?_ | refine zs4 ?_ | refine zs5 ?_); conv => whnf) | ((first | apply zi1 | apply zi2 | apply zi3 | apply zi4 | apply zi5) <;> intro _ <;> conv => whnf) | (refine VCall.intro (cP _) ?_; conv => whnf))
    refine VCut.at' (outer := h.lift) (marks := []) 99 [(1, ints a), (2, ints b), (4, .fp (encN N)), (7, .fp [dints S]), (10, I 0), (11, .fp [.func (.func 90) [] [.pt [dints S]]])] [] ?_ ?_
    · conv => whnf
      refine Retell.turn ⟨[], 3, [(0, encN N), (1, [dints S]), (2, [.func (.func 90) [] [.pt [dints S]]])], []⟩ (TurnOk.mk' _ _ [(0, encN N), (1, [dints S]), (2, [.func (.func 90) [] [.pt [dints S]]])] [] (OutOk.lift _) rfl (by decide) zb zr trivial rfl) zw zm
    · cases A
      · rw [if_neg (by simp)] at hR
        rw [hR]
        conv => whnf
        repeat' (first | ((first | refine zs1 ?_ | refine zs2 ?_ | refine zs3 ?_ | refine zs4 ?_ | refine zs5 ?_); conv => whnf) | ((first | apply zi1 | apply zi2 | apply zi3 | apply zi4 | apply zi5) <;> intro _ <;> conv => whnf) | (refine VCall.intro (cA _) ?_; conv => whnf))
        all_goals try (exfalso; omega)
        exact VOut.same rfl
      · rw [if_pos rfl] at hR
        cases RS
        · rw [if_neg (by simp)] at hR
          rw [hR]
          conv => whnf
          repeat' (first | ((first | refine zs1 ?_ | refine zs2 ?_ | refine zs3 ?_ | refine zs4 ?_ | refine zs5 ?_); conv => whnf) | ((first | apply zi1 | apply zi2 | apply zi3 | apply zi4 | apply zi5) <;> intro _ <;> conv => whnf) | (refine VCall.intro (cA _) ?_; conv => whnf) | (refine VCall.intro (cR _) ?_; conv => whnf))
          all_goals try (exfalso; omega)
          exact VOut.same rfl
        · rw [if_pos rfl] at hR
          cases A1
          · rw [if_neg (by simp)] at hR
            rw [hR]
            conv => whnf
            repeat' (first | ((first | refine zs1 ?_ | refine zs2 ?_ | refine zs3 ?_ | refine zs4 ?_ | refine zs5 ?_); conv => whnf) | ((first | apply zi1 | apply zi2 | apply zi3 | apply zi4 | apply zi5) <;> intro _ <;> conv => whnf) | (refine VCall.intro (cA _) ?_; conv => whnf) | (refine VCall.intro (cR _) ?_; conv => whnf) | (refine VCall.intro (c1 _) ?_; conv => whnf))
            all_goals try (exfalso; omega)
            exact VOut.same rfl
          · cases A2
            · rw [if_neg (by simp)] at hR
              rw [hR]
              conv => whnf
              repeat' (first | ((first | refine zs1 ?_ | refine zs2 ?_ | refine zs3 ?_ | refine zs4 ?_ | refine zs5 ?_); conv => whnf) | ((first | apply zi1 | apply zi2 | apply zi3 | apply zi4 | apply zi5) <;> intro _ <;> conv => whnf) | (refine VCall.intro (cA _) ?_; conv => whnf) | (refine VCall.intro (cR _) ?_; conv => whnf) | (refine VCall.intro (c1 _) ?_; conv => whnf) | (refine VCall.intro (c2 _) ?_; conv => whnf))
              all_goals try (exfalso; omega)
              exact VOut.same rfl
            · rw [if_pos ⟨rfl, rfl⟩] at hR
              rw [hR]
              clear hR
              have hh : ∀ w ∈ N.ws, 0 ≤ w.h ∧ w.h ≤ 1000 := fun w hw => (hN.ws w hw).h
              rw [← brL_sum]
              obtain ⟨SB, hSB⟩ : ∃ SB : Int → Bool, SB = fun q => decide (q ∈ S) := ⟨_, rfl⟩
              rw [← hSB]
              have c1' := fun p h => vc_bars1 S p h hS
              have c2' : ∀ (p : Int) (h : Hp), VC Try.prog 90 (D.vs [] ++ [I p] ++ D.vs [.pt [dints S]]) h (B (SB p)) h := fun p h => by rw [hSB]; exact c1' p h
              clear c1' hSB
              conv => whnf
              repeat' (first | ((first | refine zs1 ?_ | refine zs2 ?_ | refine zs3 ?_ | refine zs4 ?_ | refine zs5 ?_); conv => whnf) | ((first | apply zi1 | apply zi2 | apply zi3 | apply zi4 | apply zi5) <;> intro _ <;> conv => whnf) | (refine VCall.intro (cA _) ?_; conv => whnf) | (refine VCall.intro (cR _) ?_; conv => whnf) | (refine VCall.intro (c1 _) ?_; conv => whnf) | (refine VCall.intro (c2 _) ?_; conv => whnf))
              all_goals try (exfalso; omega)
              refine VCode.lp (outer := h.lift) (marks := []) (fun k : Nat => [(11, .fp [.func (.func 90) [] [.pt [dints S]]]), (12, .gl (.loc 0) 1 (brL SB (N.ws.take k)).length), (46, wys N.ws), (47, I N.ws.length), (48, I k)]) (fun k => [.flat true ((brL SB (N.ws.take k)).flatMap Vm.encI)]) (fun k => k ≤ N.ws.length) (fun k => N.ws.length - k) 0 (Nat.zero_le _) ?_ ?_
              · conv => whnf
                refine Retell.turn ⟨[0], 0, [], []⟩ (TurnOk.mk' _ _ [] [] (OutOk.lift _) rfl (by decide) zb trivial trivial rfl) zw zm
              · intro k hk
                rcases Nat.lt_or_ge k N.ws.length with h3 | h3
                · have ha : N.ws[k]? = some N.ws[k] := List.getElem?_eq_getElem h3
                  have hx := hh N.ws[k] (List.getElem_mem h3)
                  have ht := brL_take (S := SB) ha
                  have hl := brL_len SB (N.ws.take k)
                  rw [List.length_take, Nat.min_eq_left (by omega)] at hl
                  generalize N.ws[k] = w at ha hx ht
                  have cf := fun h => c2' w.f h
                  have ct := fun h => c2' w.t h
                  generalize SB w.f = B1 at cf ht
                  generalize SB w.t = B2 at ct ht
                  generalize brL SB (N.ws.take k) = L at ht hl ⊢
                  cases B1 <;> cases B2
                  all_goals (
                    simp only [Bool.true_and, Bool.false_and, Bool.not_true, Bool.not_false, Bool.false_eq_true, if_false, if_true] at ht
                    conv => whnf
                    repeat' (first | ((first | refine zs1 ?_ | refine zs2 ?_ | refine zs3 ?_ | refine zs4 ?_ | refine zs5 ?_); conv => whnf) | ((first | apply zi1 | apply zi2 | apply zi3 | apply zi4 | apply zi5) <;> intro _ <;> conv => whnf) | (refine VAny.ix encWy_len k rfl rfl ha ?_; conv => whnf) | (refine VCall.intro (cf _) ?_; conv => whnf) | (refine VCall.intro (ct _) ?_; conv => whnf) | (refine VMem.app1 (l := L) (w.h : Int) encI_len rfl rfl rfl rfl rfl (by omega) ?_; conv => whnf))
                    all_goals try (exfalso; omega)
                    refine LEnd.intro (k + 1) (by omega) (by omega) ?_
                    rw [ht]
                    try rw [List.length_append]
                    conv => whnf
                    first | (refine Retell.turn ⟨[0], 2, [], []⟩ (TurnOk.mk' _ _ [] [] (OutOk.lift _) rfl (by decide) zb trivial trivial rfl) zw zm) | (refine Retell.turn ⟨[3], 4, [], []⟩ (TurnOk.mk' _ _ [] [] (OutOk.lift _) rfl (by decide) zb trivial trivial rfl) zw zm))
                · have hl := brL_len SB N.ws
                  have cS := fun h => vc_sum (brL SB N.ws) h (by omega) (brL_mem hh)
                  rw [List.take_of_length_le h3]
                  conv => whnf
                  repeat' (first | ((first | refine zs1 ?_ | refine zs2 ?_ | refine zs3 ?_ | refine zs4 ?_ | refine zs5 ?_); conv => whnf) | ((first | apply zi1 | apply zi2 | apply zi3 | apply zi4 | apply zi5) <;> intro _ <;> conv => whnf))
                  all_goals try (exfalso; omega)
                  refine VCall.intro (VC.give (args' := [ints (brL SB N.ws)]) (loc' := [.dead]) [(0, (brL SB N.ws).flatMap Vm.encI)] [] (OutOk.lift _) zb zf (by exact FmAll.nil) rfl zw (cS _)) ?_
                  conv => whnf
                  repeat' (first | ((first | refine zs1 ?_ | refine zs2 ?_ | refine zs3 ?_ | refine zs4 ?_ | refine zs5 ?_); conv => whnf) | ((first | apply zi1 | apply zi2 | apply zi3 | apply zi4 | apply zi5) <;> intro _ <;> conv => whnf))
                  exact VOut.same rfl
  · rw [if_neg h0] at hR
    generalize pas N a b = E at *
    refine VC.bodyC 3 Try.func48 rfl Try.ntmps48 Try.call48 (h.grows_refl) rfl ?_; conv => whnf
    repeat' (first | ((first | refine zs1 ?_ | refine zs2 ?_ | refine zs3 ?_ | refine zs4 ?_ | refine zs5 ?_); conv => whnf) | ((first | apply zi1 | apply zi2 | apply zi3 | apply zi4 | apply zi5) <;> intro _ <;> conv => whnf) | (refine VCall.intro (cP _) ?_; conv => whnf))
    refine VCut.at' (outer := h.lift) (marks := []) 99 [(10, I E)] [] ?_ ?_
    · conv => whnf
      refine Retell.turn ⟨[], 3, [], []⟩ (TurnOk.mk' _ _ [] [] (OutOk.lift _) rfl (by decide) zb trivial trivial rfl) zw zm
    · conv => whnf
      repeat' (first | ((first | refine zs1 ?_ | refine zs2 ?_ | refine zs3 ?_ | refine zs4 ?_ | refine zs5 ?_); conv => whnf) | ((first | apply zi1 | apply zi2 | apply zi3 | apply zi4 | apply zi5) <;> intro _ <;> conv => whnf))
      all_goals try (exfalso; omega)
      rw [hR]
      exact VOut.same rfl
end Go.Proofs.Ytoeendggmalcpaa

open Go.Vm
open Psg
namespace Go.Proofs.Ytoeendggmalcpaa
set_option maxRecDepth 20000
set_option maxHeartbeats 4000000
def dvP (N : Nt) (a b : List Int) : List Int × Int × List Int := dvN N.p.toNat N a b
theorem nok_nat {n : Nat} {N : Nt} (h : NOk n N) : N.p.toNat = n := by have := h.p; omega
def drvV (N : Nt) (a b : List Int) : V := if pas N a b = 0 then .tuple [ints (dvP N a b).1, I (dvP N a b).2.1, I 0] else .tuple [.nilslice, I 0, I (pas N a b)]
theorem vc_Drive (N : Nt) (a b : List Int) (h : Hp) (hn : N.ws.length ≤ 4000000) (ha : a.length ≤ 4000000) (hb : b.length ≤ 4000000) : VC Try.prog 22 [vN N, ints a, ints b] h (drvV N a b) h := by
  have cP := fun h => vc_pastured N a b h hn ha hb
  unfold drvV
  by_cases h0 : pas N a b = 0
  · rw [if_pos h0]
    rw [h0] at cP
    obtain ⟨n, hN, hPs, ha0, hb0, _, _⟩ := pas_ok h0
    have cD := fun h => vc_driven hN hPs ha0 hb h
    have e : dvP N a b = dvN n N a b := by unfold dvP; rw [nok_nat hN]
    rw [e]
    generalize dvN n N a b = r at cD
    refine VC.body Try.func22 rfl Try.ntmps22 Try.call22 (h.grows_refl) rfl ?_; conv => whnf
    repeat' (first | ((first | refine zs1 ?_ | refine zs2 ?_ | refine zs3 ?_ | refine zs4 ?_ | refine zs5 ?_); conv => whnf) | ((first | apply zi1 | apply zi2 | apply zi3 | apply zi4 | apply zi5) <;> intro _ <;> conv => whnf) | (refine VCall.intro (cP _) ?_; conv => whnf) | (refine VCall.intro (cD _) ?_; conv => whnf))
    all_goals try (exfalso; omega)
    exact VOut.same rfl
  · rw [if_neg h0]
    generalize pas N a b = E at *
    refine VC.body Try.func22 rfl Try.ntmps22 Try.call22 (h.grows_refl) rfl ?_; conv => whnf
    repeat' (first | ((first | refine zs1 ?_ | refine zs2 ?_ | refine zs3 ?_ | refine zs4 ?_ | refine zs5 ?_); conv => whnf) | ((first | apply zi1 | apply zi2 | apply zi3 | apply zi4 | apply zi5) <;> intro _ <;> conv => whnf) | (refine VCall.intro (cP _) ?_; conv => whnf))
    all_goals try (exfalso; omega)
    exact VOut.same rfl
end Go.Proofs.Ytoeendggmalcpaa

open Go.Vm
open Psg
namespace Psg
def lessN (N : Nt) (i : Nat) (w : Wy) : Nt := { N with ws := N.ws.set i (lessW w) }
theorem nok_less {n : Nat} {N : Nt} {i : Nat} {w : Wy} (hN : NOk n N) (hi : N.ws[i]? = some w) (h1 : 1 ≤ w.h) : NOk n (lessN N i w) := by
  have hw := hN.ws w (List.mem_of_getElem? hi)
  have hne := hN.ne w (List.mem_of_getElem? hi)
  refine ⟨hN.p, hN.n1, by unfold lessN; simp only [List.length_set]; exact hN.len, fun v hv => ?_, fun v hv => ?_⟩
  · rcases List.mem_or_eq_of_mem_set hv with h | rfl
    · exact hN.ws v h
    · exact ⟨hw.f, hw.t, hw.d, by have := hw.h; show 0 ≤ w.h - 1 ∧ w.h - 1 ≤ 1000; omega, hw.n, hw.g, hw.lo, hw.hi⟩
  · rcases List.mem_or_eq_of_mem_set hv with h | rfl
    · exact hN.ne v h
    · exact hne
theorem ps_less {n : Nat} {N : Nt} {i : Nat} {w : Wy} {a b : List Int} (hP : Ps n N.ws a b) (hi : N.ws[i]? = some w) : Ps n (lessN N i w).ws a b := by
  refine ⟨fun v hv => ?_, hP.smt, hP.gin, hP.dis⟩
  rcases List.mem_or_eq_of_mem_set hv with h | rfl
  · exact hP.inN v h
  · exact hP.inN w (List.mem_of_getElem? hi)
end Psg
namespace Go.Proofs.Ytoeendggmalcpaa
set_option maxRecDepth 20000
set_option maxHeartbeats 4000000
def narB (N : Nt) (a b : List Int) (i : Nat) : Bool :=
  let w := N.ws.getD i ⟨0, 0, 0, 0, 0, 0, 0, 0⟩
  decide (1 ≤ w.h) && decide ((dvP (lessN N i w) a b).2.1 < (dvP N a b).2.1)
def narL (N : Nt) (a b : List Int) : Nat → List Int
  | 0 => []
  | k + 1 => if narB N a b k = true then narL N a b k ++ [(k : Int)] else narL N a b k
theorem narL_len (N : Nt) (a b : List Int) : ∀ k, (narL N a b k).length ≤ k
  | 0 => Nat.le_refl _
  | k + 1 => by
    have := narL_len N a b k
    rw [narL]
    split
    · rw [List.length_append]; simp; omega
    · omega
def narV (N : Nt) (a b : List Int) : V := if pas N a b = 0 then .tuple [ints (narL N a b N.ws.length), I 0] else .tuple [.nilslice, I (pas N a b)]
def wy0 : Wy := ⟨0, 0, 0, 0, 0, 0, 0, 0⟩
theorem encWy_s (w : Wy) : ∀ d ∈ encWy w, ∃ x, d = D.s x := by
  intro d hd
  simp only [encWy, List.mem_cons, List.not_mem_nil, or_false] at hd
  rcases hd with rfl | rfl | rfl | rfl | rfl | rfl | rfl | rfl <;> exact ⟨_, rfl⟩
theorem vc_Narrow (N : Nt) (a b : List Int) (h : Hp) (hn : N.ws.length ≤ 4000000) (ha : a.length ≤ 4000000) (hb : b.length ≤ 4000000) : VC Try.prog 26 [vN N, ints a, ints b] h (narV N a b) h := by
  have cP := fun h => vc_pastured N a b h hn ha hb
  unfold narV
  by_cases h0 : pas N a b = 0
  · rw [if_pos h0]
    rw [h0] at cP
    obtain ⟨n, hN, hPs, ha0, hb0, _, _⟩ := pas_ok h0
    have hwl := hN.len
    have cD := fun h => vc_driven hN hPs ha0 hb h
    have e : dvP N a b = dvN n N a b := by unfold dvP; rw [nok_nat hN]
    obtain ⟨r, hr⟩ : ∃ r, r = dvP N a b := ⟨_, rfl⟩
    rw [← e, ← hr] at cD
    refine VC.bodyC 1 Try.func26 rfl Try.ntmps26 Try.call26 (h.grows_refl) rfl ?_; conv => whnf
    refine VCut.at' (outer := h.lift) (marks := []) 99 [(1, ints a), (2, ints b), (3, .fp (encN N))] [] ?_ ?_
    · conv => whnf
      refine Retell.turn ⟨[], 1, [(0, encN N)], []⟩ (TurnOk.mk' _ _ [(0, encN N)] [] (OutOk.lift _) rfl (by decide) zb zf trivial rfl) zw zm
    · conv => whnf
      repeat' (first | ((first | refine zs1 ?_ | refine zs2 ?_ | refine zs3 ?_ | refine zs4 ?_ | refine zs5 ?_); conv => whnf) | ((first | apply zi1 | apply zi2 | apply zi3 | apply zi4 | apply zi5) <;> intro _ <;> conv => whnf) | (refine VCall.intro (cP _) ?_; conv => whnf) | (refine VCall.intro (cD _) ?_; conv => whnf))
      all_goals try (exfalso; omega)
      refine VCode.lp (outer := h.lift) (marks := []) (fun k : Nat => [(1, ints a), (2, ints b), (3, .fp (encN N)), (10, I r.2.1), (12, .gl (.loc 0) 1 (narL N a b k).length), (35, I N.ws.length), (36, I k)]) (fun k => [.flat true ((narL N a b k).flatMap Vm.encI)]) (fun k => k ≤ N.ws.length) (fun k => N.ws.length - k) 0 (Nat.zero_le _) ?_ ?_
      · conv => whnf
        refine Retell.turn ⟨[0], 0, [], []⟩ (TurnOk.mk' _ _ [] [] (OutOk.lift _) rfl (by decide) zb trivial trivial rfl) zw zm
      · intro k hk
        rcases Nat.lt_or_ge k N.ws.length with h3 | h3
        · have hw : N.ws[k]? = some N.ws[k] := List.getElem?_eq_getElem h3
          have hx := (hN.ws N.ws[k] (List.getElem_mem h3)).h
          have hl := narL_len N a b k
          have hB : narB N a b k = (decide (1 ≤ N.ws[k].h) && decide ((dvP (lessN N k N.ws[k]) a b).2.1 < r.2.1)) := by
            have : N.ws.getD k ⟨0, 0, 0, 0, 0, 0, 0, 0⟩ = N.ws[k] := by rw [List.getD_eq_getElem?_getD, hw]; rfl
            unfold narB
            rw [this, hr]
          have hL : narL N a b (k + 1) = if narB N a b k = true then narL N a b k ++ [(k : Int)] else narL N a b k := rfl
          rw [hB] at hL
          generalize N.ws[k] = w at hw hx hL
          generalize narL N a b k = L at hl hL ⊢
          have hw' : (N.ws.set k (lessW w))[k]? = some (lessW w) := by rw [List.getElem?_set_self h3]
          have hlh : (lessW w).h = w.h - 1 := rfl
          have hfl : ((N.ws.set k (lessW w)).flatMap encWy).length = N.ws.length * 8 := by rw [flat_len encWy_len, List.length_set]
          by_cases h1 : 1 ≤ w.h
          · have cE := fun h => vc_driven (nok_less hN hw h1) (ps_less hPs hw) ha0 hb h
            have e2 : dvP (lessN N k w) a b = dvN n (lessN N k w) a b := by unfold dvP; rw [nok_nat (nok_less hN hw h1)]
            rw [← e2] at cE
            rw [decide_eq_true h1, Bool.true_and] at hL
            generalize dvP (lessN N k w) a b = r2 at cE hL
            simp only [vN, wys, lessN, List.length_set] at cE
            conv => whnf
            repeat' (first | ((first | refine zs1 ?_ | refine zs2 ?_ | refine zs3 ?_ | refine zs4 ?_ | refine zs5 ?_); conv => whnf) | ((first | apply zi1 | apply zi2 | apply zi3 | apply zi4 | apply zi5) <;> intro _ <;> conv => whnf))
            all_goals try (exfalso; omega)
            refine zs6 [] ?_
            conv => whnf
            repeat' (first | ((first | refine zs1 ?_ | refine zs2 ?_ | refine zs3 ?_ | refine zs4 ?_ | refine zs5 ?_); conv => whnf) | ((first | apply zi1 | apply zi2 | apply zi3 | apply zi4 | apply zi5) <;> intro _ <;> conv => whnf) | (refine VMkD.makeR wy0 N.ws.length encWy_len (encWy_s _) rfl rfl rfl rfl rfl rfl rfl (by decide) (by omega) ?_; conv => whnf) | (refine VMem.copyFs (l := List.replicate N.ws.length wy0) (l2 := N.ws) encWy_len rfl rfl (by simp) rfl rfl ?_; conv => whnf) | (refine VLd.recc encWy_len k 3 rfl rfl rfl hw (by decide) rfl (by show (k : Int).toNat * 8 + 3 = k * 8 + 3; omega) ?_; conv => whnf) | (refine VMem.setRec encWy_len k 3 (lessW w) rfl rfl rfl hw (by decide) rfl (by show (k : Int).toNat * 8 + 3 = k * 8 + 3; omega) ?_; conv => whnf) | (refine VLd.recc encWy_len k 3 rfl rfl rfl hw' (by decide) rfl (by show (k : Int).toNat * 8 + 3 = k * 8 + 3; omega) ?_; conv => whnf))
            all_goals try (exfalso; omega)
            refine VCall.intro (VC.give (args' := [.agg [I N.p, .fs 8 N.ws.length ((N.ws.set k (lessW w)).flatMap encWy)], ints a, ints b]) (loc' := [.flat true (L.flatMap Vm.encI), .dead, .dead]) [(1, (N.ws.set k (lessW w)).flatMap encWy)] [] (OutOk.lift _) zb zf (by exact FmAll.nil) rfl zw (cE _)) ?_
            conv => whnf
            repeat' (first | ((first | refine zs1 ?_ | refine zs2 ?_ | refine zs3 ?_ | refine zs4 ?_ | refine zs5 ?_); conv => whnf) | ((first | apply zi1 | apply zi2 | apply zi3 | apply zi4 | apply zi5) <;> intro _ <;> conv => whnf) | (refine VMem.app1 (l := L) (k : Int) encI_len rfl rfl rfl rfl rfl (by omega) ?_; conv => whnf))
            · rename_i hlt
              rw [if_pos (decide_eq_true hlt)] at hL
              refine LEnd.intro (k + 1) (by omega) (by omega) ?_
              rw [hL, List.length_append]
              conv => whnf
              refine Retell.turn ⟨[4], 5, [], []⟩ (TurnOk.mk' _ _ [] [] (OutOk.lift _) rfl (by decide) zb trivial trivial rfl) zw zm
            · rename_i hlt
              rw [if_neg (by simpa using hlt)] at hL
              refine LEnd.intro (k + 1) (by omega) (by omega) ?_
              rw [hL]
              conv => whnf
              refine Retell.turn ⟨[0], 3, [], []⟩ (TurnOk.mk' _ _ [] [] (OutOk.lift _) rfl (by decide) zb trivial trivial rfl) zw zm
          · rw [decide_eq_false h1, Bool.false_and, if_neg (by simp)] at hL
            conv => whnf
            repeat' (first | ((first | refine zs1 ?_ | refine zs2 ?_ | refine zs3 ?_ | refine zs4 ?_ | refine zs5 ?_); conv => whnf) | ((first | apply zi1 | apply zi2 | apply zi3 | apply zi4 | apply zi5) <;> intro _ <;> conv => whnf))
            all_goals try (exfalso; omega)
            refine zs6 [] ?_
            conv => whnf
            repeat' (first | ((first | refine zs1 ?_ | refine zs2 ?_ | refine zs3 ?_ | refine zs4 ?_ | refine zs5 ?_); conv => whnf) | ((first | apply zi1 | apply zi2 | apply zi3 | apply zi4 | apply zi5) <;> intro _ <;> conv => whnf) | (refine VMkD.makeR wy0 N.ws.length encWy_len (encWy_s _) rfl rfl rfl rfl rfl rfl rfl (by decide) (by omega) ?_; conv => whnf) | (refine VMem.copyFs (l := List.replicate N.ws.length wy0) (l2 := N.ws) encWy_len rfl rfl (by simp) rfl rfl ?_; conv => whnf) | (refine VLd.recc encWy_len k 3 rfl rfl rfl hw (by decide) rfl (by show (k : Int).toNat * 8 + 3 = k * 8 + 3; omega) ?_; conv => whnf) | (refine VMem.setRec encWy_len k 3 (lessW w) rfl rfl rfl hw (by decide) rfl (by show (k : Int).toNat * 8 + 3 = k * 8 + 3; omega) ?_; conv => whnf) | (refine VLd.recc encWy_len k 3 rfl rfl rfl hw' (by decide) rfl (by show (k : Int).toNat * 8 + 3 = k * 8 + 3; omega) ?_; conv => whnf))
            all_goals try (exfalso; omega)
            refine LEnd.intro (k + 1) (by omega) (by omega) ?_
            rw [hL]
            conv => whnf
            refine Retell.turn ⟨[0], 3, [], []⟩ (TurnOk.mk' _ _ [] [] (OutOk.lift _) rfl (by decide) zb trivial trivial rfl) zw zm
        · have hkl : k = N.ws.length := by omega
          subst hkl
          generalize narL N a b N.ws.length = L
          conv => whnf
          repeat' (first | ((first | refine zs1 ?_ | refine zs2 ?_ | refine zs3 ?_ | refine zs4 ?_ | refine zs5 ?_); conv => whnf) | ((first | apply zi1 | apply zi2 | apply zi3 | apply zi4 | apply zi5) <;> intro _ <;> conv => whnf))
          all_goals try (exfalso; omega)
          refine VOut.data 1 [(0, L.flatMap Vm.encI)] [] rfl zf (by exact FmAll.nil) zw
  · rw [if_neg h0]
    generalize pas N a b = E at *
    refine VC.bodyC 1 Try.func26 rfl Try.ntmps26 Try.call26 (h.grows_refl) rfl ?_; conv => whnf
    refine VCut.at' (outer := h.lift) (marks := []) 99 [(1, ints a), (2, ints b), (3, .fp (encN N))] [] ?_ ?_
    · conv => whnf
      refine Retell.turn ⟨[], 1, [(0, encN N)], []⟩ (TurnOk.mk' _ _ [(0, encN N)] [] (OutOk.lift _) rfl (by decide) zb zf trivial rfl) zw zm
    · conv => whnf
      repeat' (first | ((first | refine zs1 ?_ | refine zs2 ?_ | refine zs3 ?_ | refine zs4 ?_ | refine zs5 ?_); conv => whnf) | ((first | apply zi1 | apply zi2 | apply zi3 | apply zi4 | apply zi5) <;> intro _ <;> conv => whnf) | (refine VCall.intro (cP _) ?_; conv => whnf))
      all_goals try (exfalso; omega)
      exact VOut.same rfl
end Go.Proofs.Ytoeendggmalcpaa

open Go.Vm
open Psg
namespace Psg
def upN (X : List Int) (w : Wy) (x : Int) : List Int :=
  (X.set w.f.toNat (X.getD w.f.toNat 0 + x)).set w.t.toNat ((X.set w.f.toNat (X.getD w.f.toNat 0 + x)).getD w.t.toNat 0 - x)
theorem getD_set {X : List Int} {i j : Nat} {v : Int} (hi : i < X.length) : (X.set i v).getD j 0 = if i = j then v else X.getD j 0 := by
  rw [List.getD_eq_getElem?_getD, List.getElem?_set, List.getD_eq_getElem?_getD]
  split
  · rename_i h; subst h; simp [hi]
  · rfl
theorem upN_get {n : Nat} {X : List Int} {w : Wy} {x : Int} (hn : n ≤ 10) (hX : X.length = 10) (hf : 0 ≤ w.f ∧ w.f < n) (ht : 0 ≤ w.t ∧ w.t < n) (p : Nat) : (upN X w x).getD p 0 = X.getD p 0 + one (eqB p w.f) x - one (eqB p w.t) x := by
  unfold upN
  rw [getD_set (by rw [List.length_set]; omega), getD_set (by omega), getD_set (by omega)]
  have e1 : eqB p w.f = decide (w.f.toNat = p) := decide_eq_decide.2 (by constructor <;> intro h <;> omega)
  have e2 : eqB p w.t = decide (w.t.toNat = p) := decide_eq_decide.2 (by constructor <;> intro h <;> omega)
  rw [e1, e2]
  by_cases h1 : w.f.toNat = p <;> by_cases h2 : w.t.toNat = p <;> simp [h1, h2, one] <;> (try (by_cases h3 : w.f.toNat = w.t.toNat <;> simp_all <;> omega)) <;> (try omega)
theorem flux_take (S : Int → Bool) : ∀ {ws : List Wy} {xs : List Int} {k : Nat} {w : Wy} {x : Int}, ws[k]? = some w → xs[k]? = some x → flux S (ws.take (k + 1)) (xs.take (k + 1)) = flux S (ws.take k) (xs.take k) + one (S w.f) x - one (S w.t) x
  | u :: ws, y :: xs, 0, w, x, h1, h2 => by
    simp only [List.getElem?_cons_zero, Option.some.injEq] at h1 h2
    subst h1 h2
    simp [flux]
  | u :: ws, y :: xs, k + 1, w, x, h1, h2 => by
    rw [List.getElem?_cons_succ] at h1 h2
    have := flux_take S h1 h2
    simp only [List.take_succ_cons, flux]
    rw [this]; omega
  | [], _, _, _, _, h1, _ => by simp at h1
  | _ :: _, [], _, _, _, _, h2 => by simp at h2
structure NI (ws : List Wy) (xs : List Int) (k : Nat) (X : List Int) : Prop where
  len : X.length = 10
  net : ∀ p : Nat, p < 10 → X.getD p 0 = net p (ws.take k) (xs.take k)
  bd : ∀ p : Nat, -(1000 * (k : Int)) ≤ X.getD p 0 ∧ X.getD p 0 ≤ 1000 * (k : Int)
theorem NI.step {n : Nat} {ws : List Wy} {xs : List Int} {k : Nat} {X : List Int} {w : Wy} {x : Int} (h : NI ws xs k X) (hn : n ≤ 10) (h1 : ws[k]? = some w) (h2 : xs[k]? = some x) (hf : 0 ≤ w.f ∧ w.f < n) (ht : 0 ≤ w.t ∧ w.t < n) (hx : 0 ≤ x ∧ x ≤ 1000) : NI ws xs (k + 1) (upN X w x) := by
  refine ⟨by unfold upN; rw [List.length_set, List.length_set]; exact h.len, fun p hp => ?_, fun p => ?_⟩
  · rw [upN_get hn h.len hf ht, h.net p hp]
    unfold Psg.net
    rw [flux_take _ h1 h2]
  · rw [upN_get hn h.len hf ht]
    have := h.bd p
    cases eqB p w.f <;> cases eqB p w.t <;> simp only [one, cond_true, cond_false] <;> push_cast <;> omega
end Psg
namespace Go.Proofs.Ytoeendggmalcpaa
set_option maxRecDepth 20000
set_option maxHeartbeats 4000000
end Go.Proofs.Ytoeendggmalcpaa

open Go.Vm
open Psg
namespace Go.Proofs.Ytoeendggmalcpaa
set_option maxRecDepth 20000
set_option maxHeartbeats 4000000
theorem drop_eq_dec {α : Type} [DecidableEq α] {a b : List α} {k : Nat} {x y : α} (hx : a[k]? = some x) (hy : b[k]? = some y) : decide (a.drop k = b.drop k) = (decide (x = y) && decide (a.drop (k + 1) = b.drop (k + 1))) := by
  obtain ⟨h1, rfl⟩ := List.getElem?_eq_some_iff.1 hx
  obtain ⟨h2, rfl⟩ := List.getElem?_eq_some_iff.1 hy
  rw [List.drop_eq_getElem_cons h1, List.drop_eq_getElem_cons h2, Bool.eq_iff_iff, Bool.and_eq_true, decide_eq_true_eq, decide_eq_true_eq, decide_eq_true_eq, List.cons.injEq]
theorem ne_I {x y : Int} (h : ¬ x = y) : ¬ x = y := h
theorem eq_I {x y : Int} (h : x = y) : x = y := h
theorem vc_kequalI (a b : List Int) (h : Hp) (ha : a.length ≤ 4000000) (hb : b.length ≤ 4000000) : VC Try.prog 37 [ints a, ints b] h (B (decide (a = b))) h := by
  obtain ⟨E, hE⟩ : ∃ E, E = decide (a = b) := ⟨_, rfl⟩
  rw [← hE]
  refine VC.body Try.func37 rfl Try.ntmps37 Try.call37 (h.grows_refl) rfl ?_; conv => whnf
  refine VCode.lp (fun k : Nat => [(0, ints a), (1, ints b), (4, B false), (7, I a.length), (8, I k)]) (fun _ => []) (fun k => k ≤ a.length ∧ k ≤ b.length ∧ E = decide (a.drop k = b.drop k)) (fun k => a.length - k) 0 ⟨Nat.zero_le _, Nat.zero_le _, hE⟩ ?_ ?_
  · conv => whnf
    refine Retell.turn ⟨[], 0, [], []⟩ (TurnOk.mk' _ _ [] [] (OutOk.lift _) rfl (by decide) zb trivial trivial rfl) zw zm
  · rintro k ⟨h1, h2, h3⟩
    conv => whnf
    refine VIte.dec (fun h4 => ?_) (fun h4 => ?_)
    · have hx : a[k]? = some a[k] := List.getElem?_eq_getElem (by omega)
      rcases Nat.eq_or_lt_of_le h2 with h5 | h5
      · have hF : E = false := by
          rw [h3, decide_eq_false_iff_not]
          intro hh
          have := congrArg List.length hh
          simp at this; omega
        rw [hF]
        conv => whnf
        repeat' (first | ((first | refine zs1 ?_ | refine zs2 ?_ | refine zs3 ?_ | refine zs4 ?_ | refine zs5 ?_ | refine zs6 [] ?_); conv => whnf) | ((first | apply zi1 | apply zi2 | apply zi3 | apply zi4 | apply zi5) <;> intro _ <;> conv => whnf))
        · exact VOut.same rfl
        all_goals omega
      · have hy : b[k]? = some b[k] := List.getElem?_eq_getElem h5
        rw [drop_eq_dec hx hy] at h3
        generalize a[k] = x at hx h3
        generalize b[k] = y at hy h3
        conv => whnf
        repeat' (first | ((first | refine zs1 ?_ | refine zs2 ?_ | refine zs3 ?_ | refine zs4 ?_ | refine zs5 ?_ | refine zs6 [] ?_); conv => whnf) | ((first | apply zi1 | apply zi2 | apply zi3 | apply zi4 | apply zi5) <;> intro _ <;> conv => whnf) | (refine VAny.ix encI_len k rfl rfl hx ?_; conv => whnf) | (refine VAny.ix encI_len k rfl rfl hy ?_; conv => whnf))
        all_goals (try omega)
        all_goals first
          | (rw [decide_eq_false (ne_I (by first | assumption | omega)), Bool.false_and] at h3; rw [h3]; exact VOut.same rfl)
          | (rw [decide_eq_true (eq_I (by first | assumption | omega)), Bool.true_and] at h3
             refine LEnd.intro (k + 1) ⟨by omega, by omega, h3⟩ (by omega) ?_
             conv => whnf
             refine Retell.turn ⟨[], 0, [], []⟩ (TurnOk.mk' _ _ [] [] (OutOk.lift _) rfl (by decide) zb trivial trivial rfl) zw zm)
    · have hk : k = a.length := by omega
      rw [h3, hk, List.drop_length]
      conv => whnf
      repeat' (first | ((first | refine zs1 ?_ | refine zs2 ?_ | refine zs3 ?_ | refine zs4 ?_ | refine zs5 ?_ | refine zs6 [] ?_); conv => whnf) | ((first | apply zi1 | apply zi2 | apply zi3 | apply zi4 | apply zi5) <;> intro _ <;> conv => whnf))
      refine VOut.same ?_
      have : ((a.length : Int) == b.length) = decide ([] = b.drop a.length) := by
        rw [Bool.eq_iff_iff, decide_eq_true_eq, beq_iff_eq]
        constructor
        · intro hh; rw [List.drop_of_length_le (by omega)]
        · intro hh
          have := congrArg List.length hh
          simp at this; omega
      simp only [V.ren, this]
end Go.Proofs.Ytoeendggmalcpaa

open Go.Vm
open Psg
namespace Go.Proofs.Ytoeendggmalcpaa
set_option maxRecDepth 20000
set_option maxHeartbeats 4000000
theorem top30 : eqTop Try.prog 30 = some (Sh.cons 0 1 false Sh.int (Sh.cons 1 1 false Sh.int (Sh.cons 2 1 false Sh.int (Sh.nil)))) := by kernel_rfl
theorem vneqH (x y : Hd) : vaggeq Try.prog .neq 30 (vHd x) (vHd y) = some (B (decide (¬ x = y))) := by
  have : (!((x.p == y.p) && ((x.d == y.d) && ((x.s == y.s) && true)))) = decide (¬ x = y) := by
    obtain ⟨a0, a1, a2⟩ := x; obtain ⟨b0, b1, b2⟩ := y
    rw [Bool.eq_iff_iff, decide_eq_true_eq]; simp [-not_and, and_assoc]; omega
  rw [← this]
  unfold vaggeq
  rw [top30]
  rfl
end Go.Proofs.Ytoeendggmalcpaa

open Go.Vm
open Psg
namespace Go.Proofs.Ytoeendggmalcpaa
set_option maxRecDepth 20000
set_option maxHeartbeats 4000000
theorem vc_Led (a b c d e f g i : Int) (h : Hp) : VC Try.prog 20 [I a, I b, I c, I d, I e, I f, I g, I i] h (vWy ⟨a, b, c, d, e, f, g, i⟩) h := by
  refine VC.body Try.func20 rfl Try.ntmps20 Try.call20 (h.grows_refl) rfl ?_; conv => whnf
  repeat' (first | ((first | refine zs1 ?_ | refine zs2 ?_ | refine zs3 ?_ | refine zs4 ?_ | refine zs5 ?_); conv => whnf) | ((first | apply zi1 | apply zi2 | apply zi3 | apply zi4 | apply zi5) <;> intro _ <;> conv => whnf))
  exact VOut.same rfl
end Go.Proofs.Ytoeendggmalcpaa

open Go.Vm
namespace Go.Proofs.Ytoeendggmalcpaa
set_option maxRecDepth 20000
set_option maxHeartbeats 4000000

abbrev DU (n : Int) : D := .s (.int .u32 n)
def encU (n : Int) : List D := [.s (.int .u8 n)]
theorem encU_len (n : Int) : (encU n).length = 1 := rfl
def deckD (bs : List Int) (n s : Int) : List D := [.sl 1 bs.length (bs.flatMap encU), DI n, DU s]
theorem VOut.setS {h : Hp} {loc : List Blk} {i : Vm.Id} {b0 : Blk} {l : List D} {rw : Bool} {x : S} {L : Nat} (hL : Nat.ble loc.length L = true) (hb : h.get i = some b0) : VOut h ⟨outW h.lift i (.flat rw l), loc⟩ (.s x) (.s x) (h.set i (.flat rw l)) := by
  have hd : ∀ p ∈ [(i, Blk.flat rw l)], h.get p.1 ≠ none := by
    intro p hp
    simp only [List.mem_cons, List.not_mem_nil, or_false] at hp
    subst hp; simp only; rw [hb]; simp
  have := VOut.upd (loc := loc) (r1 := .s x) (r := .s x) [(i, .flat rw l)] [] [] L hL hd (by simp) rfl (by intro k b hk; simp at hk) (fun σ x hx => hx) (outer := outW h.lift i (.flat rw l)) rfl
  have he : (h.sets [(i, Blk.flat rw l)]).pushes [] = h.set i (.flat rw l) := by simp [Hp.sets, Hp.pushes]
  rw [he] at this
  exact this
theorem set_same {h : Hp} {i : Vm.Id} {b : Blk} (hb : h.get i = some b) : h.set i b = h := by
  cases i with
  | out i =>
    have hb : h.outer i = some b := hb
    obtain ⟨o, l⟩ := h
    simp only [Hp.set]
    congr 1
    funext j
    split
    · rename_i e; rw [e]; exact hb.symm
    · rfl
  | loc k =>
    have hb : h.loc[k]? = some b := hb
    obtain ⟨o, l⟩ := h
    simp only [Hp.set]
    congr 1
    obtain ⟨h1, h2⟩ := List.getElem?_eq_some_iff.1 hb
    rw [← h2]; exact List.set_getElem_self h1
theorem VOut.set2 {h : Hp} {loc : List Blk} {i : Vm.Id} {b0 b1 : Blk} {l : List D} {rw : Bool} {x : S} (hb : h.get i = some b0) : VOut h ⟨outW (outW h.lift i b1) i (.flat rw l), loc⟩ (.s x) (.s x) (h.set i (.flat rw l)) := by
  rw [outW_same]
  exact VOut.setS (L := loc.length) (by simp) hb
theorem vc_Draw0 (bs : List Int) (n s k : Int) (i : Vm.Id) (h : Hp) (hb : h.get i = some (.flat true (deckD bs n s))) (hk : k ≤ 1 ∨ bs = []) : VC Try.prog 44 [.ptr i 0, I k] h (I 0) (h.set i (.flat true (deckD bs n s))) := by
  rw [set_same hb]
  have hl : k ≤ 1 ∨ bs.length = 0 := by rcases hk with h1 | h1; exact .inl h1; exact .inr (by rw [h1]; rfl)
  refine VC.body Try.func44 rfl Try.ntmps44 Try.call44 (h.grows_refl) rfl ?_; conv => whnf
  repeat' (first | ((first | refine zs1 ?_ | refine zs2 ?_ | refine zs3 ?_ | refine zs4 ?_ | refine zs5 ?_); conv => whnf) | ((first | apply zi1 | apply zi2 | apply zi3 | apply zi4 | apply zi5) <;> intro _ <;> conv => whnf) | (refine VLd.flat rfl rfl (get_out hb _) rfl ?_; conv => whnf))
  · exact VOut.same rfl
  · exact VOut.same rfl
  · exfalso; omega
def dRd (bs : List Int) (N : Nat) : Int := IntKind.u32.wrap (IntKind.i64.wrap ((N : Int).tdiv (bs.length : Int)))
def dkS (bs : List Int) (N : Nat) (s c : Int) : Int := (IntKind.u32.wrap (IntKind.u32.wrap (IntKind.u32.wrap (s * 37) + IntKind.u32.wrap c) + IntKind.u32.wrap (101 * dRd bs N))).tmod 65521
def dR (bs : List Int) (N : Nat) (s k c : Int) : Int := if k ≤ 256 ∧ dRd bs N = 0 then (IntKind.i64.wrap (IntKind.u32.wrap c)).tmod k else (IntKind.i64.wrap (IntKind.u32.wrap (IntKind.u32.wrap (dkS bs N s c * 256) + IntKind.u32.wrap c))).tmod k
theorem u32_bd (n : Int) : 0 ≤ IntKind.u32.wrap n ∧ IntKind.u32.wrap n < 4294967296 := by
  unfold IntKind.wrap; simp [IntKind.bits, IntKind.signed]; omega
theorem tmod_bd {a k : Int} (ha : 0 ≤ a) (hk : 0 < k) : 0 ≤ a.tmod k ∧ a.tmod k < k := by
  rw [Int.tmod_eq_emod_of_nonneg ha]
  exact ⟨Int.emod_nonneg _ (by omega), Int.emod_lt_of_pos _ hk⟩
theorem dR_bd (bs : List Int) (N : Nat) (s c : Int) {k : Int} (hk : 0 < k) : 0 ≤ dR bs N s k c ∧ dR bs N s k c < k := by
  unfold dR
  split
  · have := u32_bd c
    rw [wrap_i64 (by omega)]
    exact tmod_bd this.1 hk
  · have := u32_bd (IntKind.u32.wrap (dkS bs N s c * 256) + IntKind.u32.wrap c)
    rw [wrap_i64 (by omega)]
    exact tmod_bd this.1 hk
theorem vc_Draw1 (bs : List Int) (N : Nat) (s k c : Int) (i : Vm.Id) (h : Hp) (hb : h.get i = some (.flat true (deckD bs N s))) (hk : 1 < k) (hc : bs[N % bs.length]? = some c) (hN : N ≤ 4000000000) :
    VC Try.prog 44 [.ptr i 0, I k] h (I (dR bs N s k c)) (h.set i (.flat true (deckD bs ((N : Int) + 1) (dkS bs N s c)))) := by
  have hlen : 0 < bs.length := by
    have := (List.getElem?_eq_some_iff.1 hc).1
    omega
  have hneB : ((bs.length : Int) != 0) = true := by rw [bne_iff_ne]; omega
  obtain ⟨R, hR⟩ : ∃ R, R = dR bs N s k c := ⟨_, rfl⟩
  rw [← hR]
  unfold dR at hR
  refine VC.body Try.func44 rfl Try.ntmps44 Try.call44 (h.grows_set _ _) rfl ?_
  conv => whnf
  repeat' (first | ((first | refine zs1 ?_ | refine zs2 ?_ | refine zs3 ?_ | refine zs4 ?_ | refine zs5 ?_ | refine zs6 [] ?_); conv => whnf) | ((first | apply zi1 | apply zi2 | apply zi3 | apply zi4 | apply zi5) <;> intro _ <;> conv => whnf) | (refine VLd.flat rfl rfl (get_out hb _) rfl ?_; conv => whnf) | (refine VAny.ix encU_len (N % bs.length) (by rfl) rfl hc ?_; conv => whnf) | (refine VLd.flat rfl rfl (outW_get _ _ _ _) rfl ?_; conv => whnf) | (refine VMem.st1 rfl rfl rfl (get_out hb _) rfl ?_; conv => whnf) | (refine VMem.st1 rfl rfl rfl (outW_get _ _ _ _) rfl ?_; conv => whnf) | (refine VArith.wr ?_; conv => whnf) | (refine VNeed.intro hneB ?_; conv => whnf))
  · exfalso; omega
  · exfalso; omega
  · rename_i h1 h2
    have h2 : dRd bs N = 0 := h2
    rw [if_pos ⟨h1, h2⟩] at hR
    subst hR
    refine VOut.set2 hb
  · rename_i h1 h2
    have h2 : ¬ dRd bs N = 0 := h2
    rw [if_neg (fun h => h2 h.2)] at hR
    subst hR
    refine VOut.set2 hb
  · rename_i h1
    rw [if_neg (fun h => h1 h.1)] at hR
    subst hR
    refine VOut.set2 hb
def dNx (bs : List Int) (d : Nat × Int) (k : Int) : Int × (Nat × Int) :=
  if k ≤ 1 ∨ bs = [] then (0, d) else (dR bs d.1 d.2 k (bs.getD (d.1 % bs.length) 0), (d.1 + 1, dkS bs d.1 d.2 (bs.getD (d.1 % bs.length) 0)))
def deckB (bs : List Int) (d : Nat × Int) : Blk := .flat true (deckD bs d.1 d.2)
theorem dNx_bd (bs : List Int) (d : Nat × Int) (k : Int) : 0 ≤ (dNx bs d k).1 ∧ ((dNx bs d k).1 = 0 ∨ (dNx bs d k).1 < k) ∧ (dNx bs d k).2.1 ≤ d.1 + 1 := by
  unfold dNx
  split
  · exact ⟨Int.le_refl _, .inl rfl, by simp only; omega⟩
  · rename_i h
    obtain ⟨q1, q2⟩ := dR_bd bs d.1 d.2 (bs.getD (d.1 % bs.length) 0) (k := k) (by omega)
    exact ⟨q1, .inr q2, Nat.le_refl _⟩
theorem vc_draw (bs : List Int) (d : Nat × Int) (k : Int) (i : Vm.Id) (h : Hp) (hN : d.1 ≤ 4000000000) (hb : h.get i = some (deckB bs d)) : VC Try.prog 44 [.ptr i 0, I k] h (I (dNx bs d k).1) (h.set i (deckB bs (dNx bs d k).2)) := by
  unfold dNx deckB at *
  split
  · rename_i hk; exact vc_Draw0 bs d.1 d.2 k i h hb hk
  · rename_i hk
    have hlen := List.length_pos_iff.2 (fun h => hk (.inr h))
    have hc : bs[d.1 % bs.length]? = some (bs.getD (d.1 % bs.length) 0) := by simp [List.getElem?_eq_getElem (Nat.mod_lt d.1 hlen)]
    exact vc_Draw1 bs d.1 d.2 k _ i h hb (by omega) hc hN
theorem vc_between (bs : List Int) (d : Nat × Int) (a b : Int) (i : Vm.Id) (h : Hp) (hN : d.1 ≤ 4000000000) (ha : -1000000 ≤ a ∧ a ≤ 1000000) (hb : -1000000 ≤ b ∧ b ≤ 1000000) (hd : h.get i = some (deckB bs d)) : VC Try.prog 57 [.ptr i 0, I a, I b] h (I (a + (dNx bs d (b - a + 1)).1)) (h.set i (deckB bs (dNx bs d (b - a + 1)).2)) := by
  have hbd := dNx_bd bs d (b - a + 1)
  have hD := fun i h hh => vc_draw bs d (b - a + 1) i h hN hh
  generalize dNx bs d (b - a + 1) = x at hbd hD
  refine VC.body Try.func57 rfl Try.ntmps57 Try.call57 (h.grows_set _ _) rfl ?_
  conv => whnf
  repeat' (first | ((first | refine zs1 ?_ | refine zs2 ?_ | refine zs3 ?_ | refine zs4 ?_ | refine zs5 ?_ | refine zs6 [] ?_); conv => whnf) | ((first | apply zi1 | apply zi2 | apply zi3 | apply zi4 | apply zi5) <;> intro _ <;> conv => whnf) | (refine VCall.intro (hD (.out i) _ (get_out hd _)) ?_; conv => whnf))
  exact VOut.setS (L := 0) rfl hd
theorem vc_coin (bs : List Int) (d : Nat × Int) (k : Int) (i : Vm.Id) (h : Hp) (hN : d.1 ≤ 4000000000) (hd : h.get i = some (deckB bs d)) : VC Try.prog 45 [.ptr i 0, I k] h (B ((dNx bs d k).1 == 0)) (h.set i (deckB bs (dNx bs d k).2)) := by
  have hD := fun i h hh => vc_draw bs d k i h hN hh
  generalize dNx bs d k = x at hD
  refine VC.body Try.func45 rfl Try.ntmps45 Try.call45 (h.grows_set _ _) rfl ?_
  conv => whnf
  repeat' (first | ((first | refine zs1 ?_ | refine zs2 ?_ | refine zs3 ?_ | refine zs4 ?_ | refine zs5 ?_ | refine zs6 [] ?_); conv => whnf) | ((first | apply zi1 | apply zi2 | apply zi3 | apply zi4 | apply zi5) <;> intro _ <;> conv => whnf) | (refine VCall.intro (hD (.out i) _ (get_out hd _)) ?_; conv => whnf))
  exact VOut.setS (L := 0) rfl hd
theorem VOut.setF {h : Hp} {loc : List Blk} {i : Vm.Id} {b0 : Blk} {l : List D} {rw : Bool} {r : V} {L : Nat} (hL : Nat.ble loc.length L = true) (hb : h.get i = some b0) (hr : ∀ ρ, r.ren ρ = r) : VOut h ⟨outW h.lift i (.flat rw l), loc⟩ r r (h.set i (.flat rw l)) := by
  have hd : ∀ p ∈ [(i, Blk.flat rw l)], h.get p.1 ≠ none := by
    intro p hp
    simp only [List.mem_cons, List.not_mem_nil, or_false] at hp
    subst hp; simp only; rw [hb]; simp
  have := VOut.upd (loc := loc) (r1 := r) (r := r) [(i, .flat rw l)] [] [] L hL hd (by simp) rfl (by intro k b hk; simp at hk) (fun σ x hx => by rw [hr]; exact hx) (outer := outW h.lift i (.flat rw l)) rfl
  have he : (h.sets [(i, Blk.flat rw l)]).pushes [] = h.set i (.flat rw l) := by simp [Hp.sets, Hp.pushes]
  rw [he] at this
  exact this
end Go.Proofs.Ytoeendggmalcpaa

open Go.Vm
namespace Go.Vm
end Go.Vm
namespace Go.Vm
end Go.Vm
namespace Go.Proofs.Ytoeendggmalcpaa
set_option maxRecDepth 20000
set_option maxHeartbeats 4000000

/-! A deck that is shuffled. -/
abbrev DS := Nat × Int
structure Prm (n : Nat) (l : List Int) : Prop where
  perm : l.Perm ((List.range n).map (fun i : Nat => (i : Int)))
theorem Prm.len {n : Nat} {l : List Int} (h : Prm n l) : l.length = n := by
  rw [h.perm.length_eq]; simp
end Go.Proofs.Ytoeendggmalcpaa

open Go.Vm
open Psg
namespace Go.Proofs.Ytoeendggmalcpaa
set_option maxRecDepth 20000
set_option maxHeartbeats 4000000
/-! ### A herd that is dealt -/
def hr1 (bs : List Int) (d : DS) (p : Int) : Int × DS := dNx bs d p
def hr2 (bs : List Int) (d : DS) (p : Int) : Int × DS := dNx bs (hr1 bs d p).2 20
def hr3 (bs : List Int) (d : DS) (p : Int) : Int × DS := dNx bs (hr2 bs d p).2 16
def hr4 (bs : List Int) (d : DS) (p : Int) : Int × DS := dNx bs (hr3 bs d p).2 16
def hrN (bs : List Int) (d : DS) (p : Int) : Hd × DS := (⟨(hr1 bs d p).1, (hr2 bs d p).1, pand (hr3 bs d p).1 (hr4 bs d p).1⟩, (hr4 bs d p).2)
theorem vc_Herded (bs : List Int) (d : DS) (N : Nt) (i : Vm.Id) (h : Hp) (hN : d.1 ≤ 3000000000) (hd : h.get i = some (deckB bs d)) : VC Try.prog 16 [.ptr i 0, vN N] h (vHd (hrN bs d N.p).1) (h.set i (deckB bs (hrN bs d N.p).2)) := by
  have c1 := fun (h2 : Hp) hh => vc_draw bs d N.p (.out i) h2 (by omega) hh
  have a := dNx_bd bs d N.p
  rw [show dNx bs d N.p = hr1 bs d N.p from rfl] at c1 a
  have c2 := fun (h2 : Hp) hh => vc_draw bs (hr1 bs d N.p).2 20 (.out i) h2 (by omega) hh
  have b := dNx_bd bs (hr1 bs d N.p).2 20
  rw [show dNx bs (hr1 bs d N.p).2 20 = hr2 bs d N.p from rfl] at c2 b
  have c3 := fun (h2 : Hp) hh => vc_draw bs (hr2 bs d N.p).2 16 (.out i) h2 (by omega) hh
  have c := dNx_bd bs (hr2 bs d N.p).2 16
  rw [show dNx bs (hr2 bs d N.p).2 16 = hr3 bs d N.p from rfl] at c3 c
  have c4 := fun (h2 : Hp) hh => vc_draw bs (hr3 bs d N.p).2 16 (.out i) h2 (by omega) hh
  have e := dNx_bd bs (hr3 bs d N.p).2 16
  rw [show dNx bs (hr3 bs d N.p).2 16 = hr4 bs d N.p from rfl] at c4 e
  unfold hrN
  generalize hr4 bs d N.p = w at *
  generalize hr3 bs d N.p = z at *
  generalize hr2 bs d N.p = y at *
  generalize hr1 bs d N.p = x at *
  have p3 : Pp z.1 := ⟨c.1, by omega⟩
  have p4 : Pp w.1 := ⟨e.1, by omega⟩
  refine VC.body Try.func16 rfl Try.ntmps16 Try.call16 (h.grows_set _ _) rfl ?_; conv => whnf
  repeat' (first | ((first | refine zs1 ?_ | refine zs2 ?_ | refine zs3 ?_ | refine zs4 ?_ | refine zs5 ?_); conv => whnf) | ((first | apply zi1 | apply zi2 | apply zi3 | apply zi4 | apply zi5) <;> intro _ <;> conv => whnf) | (refine VCall.intro (c1 _ (get_out hd _)) ?_; conv => whnf) | (refine VCall.intro (c2 _ (outW_get _ _ _ _)) ?_; conv => whnf) | (refine VCall.intro (c3 _ (outW_get _ _ _ _)) ?_; conv => whnf) | (refine VCall.intro (c4 _ (outW_get _ _ _ _)) ?_; conv => whnf) | (refine zand p3 p4 ?_; conv => whnf))
  refine (show VOut h ⟨outW (outW (outW (outW h.lift i (deckB bs x.2)) i (deckB bs y.2)) i (deckB bs z.2)) i (deckB bs w.2), _⟩ _ _ _ from ?_)
  rw [outW_same, outW_same, outW_same]
  exact VOut.setF (L := 3) rfl hd fun _ => rfl
end Go.Proofs.Ytoeendggmalcpaa

open Go.Vm
open Psg
namespace Go.Proofs.Ytoeendggmalcpaa
set_option maxRecDepth 20000
set_option maxHeartbeats 4000000
/-! ### A net that is dealt -/
def m1 (bs : List Int) (P : Int) (d : DS) : Int × DS := dNx bs d P
def m2 (bs : List Int) (P : Int) (d : DS) : Int × DS := dNx bs (m1 bs P d).2 20
def m3 (bs : List Int) (P : Int) (d : DS) : Int × DS := dNx bs (m2 bs P d).2 (P - 1 - 1 + 1)
def m4 (bs : List Int) (P : Int) (d : DS) : Int × DS := dNx bs (m3 bs P d).2 8
def m5 (bs : List Int) (P : Int) (d : DS) : Int × DS := dNx bs (m4 bs P d).2 20
def m6 (bs : List Int) (P : Int) (d : DS) : Int × DS := dNx bs (m5 bs P d).2 30
def m7 (bs : List Int) (P : Int) (d : DS) : Int × DS := dNx bs (m6 bs P d).2 3
def cnD (bs : List Int) (r : Int × DS) : Int × DS := if r.1 = 0 then dNx bs r.2 16 else (0, r.2)
def m8 (bs : List Int) (P : Int) (d : DS) : Int × DS := cnD bs (m7 bs P d)
def m9 (bs : List Int) (P : Int) (d : DS) : Int × DS := dNx bs (m8 bs P d).2 3
def m10 (bs : List Int) (P : Int) (d : DS) : Int × DS := cnD bs (m9 bs P d)
def mTo (bs : List Int) (P : Int) (d : DS) : Int := ((m1 bs P d).1 + (1 + (m3 bs P d).1)).tmod P
def mWy (bs : List Int) (P : Int) (d : DS) : Wy := ⟨(m1 bs P d).1, mTo bs P d, (m4 bs P d).1, (m5 bs P d).1, (m8 bs P d).1, (m10 bs P d).1, (m2 bs P d).1, (m2 bs P d).1 + (m6 bs P d).1⟩
def mIt (bs : List Int) (P : Int) (u : DS × List Wy) : Nat → DS × List Wy
  | 0 => u
  | k + 1 => ((m10 bs P (mIt bs P u k).1).2, (mIt bs P u k).2 ++ [mWy bs P (mIt bs P u k).1])
def mdX (bs : List Int) (d : DS) (p : Int) : Int × DS := dNx bs d (p - 2 + 1)
def mdC (bs : List Int) (d : DS) (p w : Int) : Int × DS := dNx bs (mdX bs d p).2 (w + 1)
def mdS (bs : List Int) (d : DS) (p w : Int) : DS × List Wy := mIt bs (2 + (mdX bs d p).1) ((mdC bs d p w).2, []) (mdC bs d p w).1.toNat
def mdN (bs : List Int) (d : DS) (p w : Int) : Nt := ⟨2 + (mdX bs d p).1, (mdS bs d p w).2⟩
theorem cnD_bd (bs : List Int) (r : Int × DS) : (0 ≤ (cnD bs r).1 ∧ (cnD bs r).1 < 16) ∧ (cnD bs r).2.1 ≤ r.2.1 + 1 := by
  unfold cnD
  split
  · have := dNx_bd bs r.2 16
    exact ⟨⟨this.1, by omega⟩, this.2.2⟩
  · exact ⟨⟨by simp, by simp⟩, by dsimp only; omega⟩
structure MW (n : Nat) (d : DS) (bs : List Int) : Prop where
  a1 : 0 ≤ (m1 bs n d).1 ∧ (m1 bs n d).1 < n
  a2 : 0 ≤ (m2 bs n d).1 ∧ (m2 bs n d).1 < 20
  a3 : 0 ≤ (m3 bs n d).1 ∧ (m3 bs n d).1 < (n : Int) - 1
  a4 : 0 ≤ (m4 bs n d).1 ∧ (m4 bs n d).1 < 8
  a5 : 0 ≤ (m5 bs n d).1 ∧ (m5 bs n d).1 < 20
  a6 : 0 ≤ (m6 bs n d).1 ∧ (m6 bs n d).1 < 30
  a8 : 0 ≤ (m8 bs n d).1 ∧ (m8 bs n d).1 < 16
  a10 : 0 ≤ (m10 bs n d).1 ∧ (m10 bs n d).1 < 16
  d1 : (m1 bs n d).2.1 ≤ d.1 + 1
  d2 : (m2 bs n d).2.1 ≤ d.1 + 2
  d3 : (m3 bs n d).2.1 ≤ d.1 + 3
  d4 : (m4 bs n d).2.1 ≤ d.1 + 4
  d5 : (m5 bs n d).2.1 ≤ d.1 + 5
  d6 : (m6 bs n d).2.1 ≤ d.1 + 6
  d7 : (m7 bs n d).2.1 ≤ d.1 + 7
  d8 : (m8 bs n d).2.1 ≤ d.1 + 8
  d9 : (m9 bs n d).2.1 ≤ d.1 + 9
  d10 : (m10 bs n d).2.1 ≤ d.1 + 10
  to : 0 ≤ mTo bs n d ∧ mTo bs n d < n
  ne : (m1 bs n d).1 ≠ mTo bs n d
theorem mW_ok (bs : List Int) (n : Nat) (d : DS) (hn : 2 ≤ n) : MW n d bs := by
  have b1 := dNx_bd bs d n
  have b2 := dNx_bd bs (m1 bs n d).2 20
  have b3 := dNx_bd bs (m2 bs n d).2 ((n : Int) - 1 - 1 + 1)
  have b4 := dNx_bd bs (m3 bs n d).2 8
  have b5 := dNx_bd bs (m4 bs n d).2 20
  have b6 := dNx_bd bs (m5 bs n d).2 30
  have b7 := dNx_bd bs (m6 bs n d).2 3
  have b8 := cnD_bd bs (m7 bs n d)
  have b9 := dNx_bd bs (m8 bs n d).2 3
  have b10 := cnD_bd bs (m9 bs n d)
  rw [show dNx bs d n = m1 bs n d from rfl] at b1
  rw [show dNx bs (m1 bs n d).2 20 = m2 bs n d from rfl] at b2
  rw [show dNx bs (m2 bs n d).2 ((n : Int) - 1 - 1 + 1) = m3 bs n d from rfl] at b3
  rw [show dNx bs (m3 bs n d).2 8 = m4 bs n d from rfl] at b4
  rw [show dNx bs (m4 bs n d).2 20 = m5 bs n d from rfl] at b5
  rw [show dNx bs (m5 bs n d).2 30 = m6 bs n d from rfl] at b6
  rw [show dNx bs (m6 bs n d).2 3 = m7 bs n d from rfl] at b7
  rw [show cnD bs (m7 bs n d) = m8 bs n d from rfl] at b8
  rw [show dNx bs (m8 bs n d).2 3 = m9 bs n d from rfl] at b9
  rw [show cnD bs (m9 bs n d) = m10 bs n d from rfl] at b10
  have eT : mTo bs n d = ((m1 bs n d).1 + (1 + (m3 bs n d).1)).tmod n := rfl
  generalize mTo bs n d = T at eT
  have hm : ((m1 bs n d).1 + (1 + (m3 bs n d).1)).tmod n = if (m1 bs n d).1 + (1 + (m3 bs n d).1) < n then (m1 bs n d).1 + (1 + (m3 bs n d).1) else (m1 bs n d).1 + (1 + (m3 bs n d).1) - n := by
    rw [Int.tmod_eq_emod_of_nonneg (by omega)]
    split
    · exact Int.emod_eq_of_lt (by omega) (by omega)
    · rw [← Int.sub_emod_right]; exact Int.emod_eq_of_lt (by omega) (by omega)
  rw [hm] at eT
  have hT : (0 ≤ T ∧ T < n) ∧ (m1 bs n d).1 ≠ T := by
    rw [eT]; split <;> omega
  refine ⟨by omega, by omega, by omega, by omega, by omega, by omega, b8.1, b10.1, by omega, by omega, by omega, by omega, by omega, by omega, by omega, by omega, by omega, by omega, ?_, ?_⟩
  · show 0 ≤ mTo bs n d ∧ mTo bs n d < n
    have : mTo bs n d = T := by show Int.tmod _ _ = T; rw [hm, eT]
    rw [this]; exact hT.1
  · have : mTo bs n d = T := by show Int.tmod _ _ = T; rw [hm, eT]
    rw [this]; exact hT.2
theorem mWy_ok {bs : List Int} {n : Nat} {d : DS} (h : MW n d bs) : WOk n (mWy bs n d) ∧ (mWy bs n d).f ≠ (mWy bs n d).t := by
  have h1 := h.a1; have h2 := h.a2; have h4 := h.a4; have h5 := h.a5; have h6 := h.a6
  refine ⟨⟨h.a1, h.to, ?_, ?_, h.a8, h.a10, ?_, ?_⟩, h.ne⟩
  all_goals (unfold mWy; dsimp only; omega)
structure MI (n N k : Nat) (u : DS × List Wy) : Prop where
  dk : u.1.1 ≤ N + 10 * k
  len : u.2.length = k
  ok : ∀ w ∈ u.2, WOk n w ∧ w.f ≠ w.t
theorem mIt_ok {bs : List Int} {n : Nat} (hn : 2 ≤ n) {u : DS × List Wy} {N : Nat} (h : MI n N 0 u) : ∀ k, MI n N k (mIt bs n u k)
  | 0 => h
  | k + 1 => by
    obtain ⟨h1, h2, h3⟩ := mIt_ok (bs := bs) hn h k
    have hw := mW_ok bs n (mIt bs n u k).1 hn
    have hy := mWy_ok hw
    have hd := hw.d10
    rw [mIt]
    refine ⟨by dsimp only; omega, by simp [h2], fun w hm => ?_⟩
    rcases List.mem_append.1 hm with hm | hm
    · exact h3 w hm
    · rw [List.mem_singleton.1 hm]; exact hy
end Go.Proofs.Ytoeendggmalcpaa

open Go.Vm
open Psg
namespace Go.Proofs.Ytoeendggmalcpaa
set_option maxRecDepth 20000
set_option maxHeartbeats 4000000
def fourN : Nt := ⟨4, [⟨0, 1, 2, 50, 0, 0, 0, 100⟩, ⟨1, 3, 3, 30, 1, 0, 20, 40⟩, ⟨1, 2, 1, 40, 0, 1, 0, 100⟩, ⟨2, 1, 1, 40, 0, 0, 0, 100⟩, ⟨2, 3, 9, 10, 0, 0, 0, 100⟩]⟩
theorem b01 : hrd fourN ⟨0, 5, 0⟩ = 0 := by kernel_rfl
theorem b02 : eaL fourN ⟨0, 5, 0⟩ = [5, 7, 8, 17] := by kernel_rfl
theorem b03 : flw fourN ⟨0, 5, 0⟩ [0, 2, 3, 1] = (⟨3, 23, 1⟩, 0) := by kernel_rfl
theorem b04 : hrd fourN ⟨0, 99, 0⟩ = 0 := by kernel_rfl
theorem b05 : eaL fourN ⟨0, 99, 0⟩ = [99, 101, -1, -1] := by kernel_rfl
theorem b06 : rtE fourN ⟨0, 60, 0⟩ 3 = 0 := by kernel_rfl
theorem b07 : lsG (fun s : Nat => atD (bgn fourN.ws ⟨0, 60, 0⟩).D 3 s) 16 = 1 := by kernel_rfl
theorem b08 : Psg.look (bgn fourN.ws ⟨0, 60, 0⟩).c (3, 1) = some (2, 1, 4) := by kernel_rfl
theorem b09 : Psg.look (bgn fourN.ws ⟨0, 60, 0⟩).c (2, 1) = some (1, 0, 2) := by kernel_rfl
theorem b10 : Psg.look (bgn fourN.ws ⟨0, 60, 0⟩).c (1, 0) = some (0, 0, 0) := by kernel_rfl
theorem b11 : Path (bgn fourN.ws ⟨0, 60, 0⟩).c (0, 0) (3, 1) [4, 2, 0] :=
  Path.step b08 (by decide) (Path.step b09 (by decide) (Path.step b10 (by decide) Path.base))
theorem b12 {L : List Int} (h : RtR fourN ⟨0, 60, 0⟩ 3 L) : L = [0, 2, 4] := by
  have := h.uni [4, 2, 0] (by rw [b07]; exact b11)
  rw [this]; rfl
theorem b13 : pas fourN [0] [3] = 0 := by kernel_rfl
theorem b14 : (dvP fourN [0] [3]).2.1 = 40 := by kernel_rfl
theorem b15 : brsN fourN [0] [3] [0, 1, 2] = (40, 0) := by kernel_rfl
theorem b16 : narL fourN [0] [3] 5 = [1, 4] := by kernel_rfl
end Go.Proofs.Ytoeendggmalcpaa

open Go.Vm
open Psg
namespace Go.Proofs.Ytoeendggmalcpaa
set_option maxRecDepth 20000
set_option maxHeartbeats 4000000
theorem vc_Four (h : Hp) : VC Try.prog 71 [] h (vN fourN) h := by
  have p1 := fun h => vc_Led 0 1 2 50 0 0 0 100 h
  have p2 := fun h => vc_Led 1 3 3 30 1 0 20 40 h
  have p3 := fun h => vc_Led 1 2 1 40 0 1 0 100 h
  have p4 := fun h => vc_Led 2 1 1 40 0 0 0 100 h
  have p5 := fun h => vc_Led 2 3 9 10 0 0 0 100 h
  refine VC.body Try.func71 rfl Try.ntmps71 Try.call71 (h.grows_refl) rfl ?_; conv => whnf
  repeat' (first | ((first | refine zs1 ?_ | refine zs2 ?_ | refine zs3 ?_ | refine zs4 ?_ | refine zs5 ?_ | refine zs6 [] ?_); conv => whnf) | ((first | apply zi1 | apply zi2 | apply zi3 | apply zi4 | apply zi5) <;> intro _ <;> conv => whnf) | (refine VCall.intro (p1 _) ?_; conv => whnf) | (refine VCall.intro (p2 _) ?_; conv => whnf) | (refine VCall.intro (p3 _) ?_; conv => whnf) | (refine VCall.intro (p4 _) ?_; conv => whnf) | (refine VCall.intro (p5 _) ?_; conv => whnf))
  refine VOut.data 2 [(1, fourN.ws.flatMap encWy)] [] rfl zf (by exact FmAll.nil) zw
theorem vc_awake (h : Hp) : VC Try.prog 24 [] h (B true) h := by
  have c1 := fun h => vc_Earliest fourN ⟨0, 5, 0⟩ h (by decide)
  have c2 := fun h => vc_Follow fourN ⟨0, 5, 0⟩ [0, 2, 3, 1] h (by decide) (by decide)
  have c3 := fun h => vc_Earliest fourN ⟨0, 99, 0⟩ h (by decide)
  obtain ⟨L, hL, _, c4⟩ := vc_Route fourN ⟨0, 60, 0⟩ 3 (by decide)
  have hL2 := b12 (hL b06)
  subst hL2
  rw [b06] at c4
  have c5 := fun h => vc_Drive fourN [0] [3] h (by decide) (by decide) (by decide)
  have c6 := fun h => vc_Bars fourN [0] [3] [0, 1, 2] h (by decide) (by decide) (by decide) (by decide)
  have c7 := fun h => vc_Narrow fourN [0] [3] h (by decide) (by decide) (by decide)
  rw [b02, b01] at c1
  rw [b03] at c2
  rw [b05, b04] at c3
  unfold drvV at c5
  rw [if_pos b13, b14] at c5
  rw [b15] at c6
  unfold narV at c7
  rw [if_pos b13, show fourN.ws.length = 5 from rfl, b16] at c7
  generalize (dvP fourN [0] [3]).1 = X at c5
  have q1 := fun h => vc_kequalI [5, 7, 8, 17] [5, 7, 8, 17] h (by decide) (by decide)
  have q2 := fun h => vc_kequalI [99, 101, -1, -1] [99, 101, -1, -1] h (by decide) (by decide)
  have q3 := fun h => vc_kequalI [0, 2, 4] [0, 2, 4] h (by decide) (by decide)
  have q4 := fun h => vc_kequalI [1, 4] [1, 4] h (by decide) (by decide)
  rw [decide_eq_true rfl] at q1 q2 q3 q4
  refine VC.bodyC 2 Try.func24 rfl Try.ntmps24 Try.call24 (h.grows_refl) rfl ?_; conv => whnf
  repeat' (first | ((first | refine zs1 ?_ | refine zs2 ?_ | refine zs3 ?_ | refine zs4 ?_ | refine zs5 ?_); conv => whnf) | ((first | apply zi1 | apply zi2 | apply zi3 | apply zi4 | apply zi5) <;> intro _ <;> conv => whnf) | (refine VCall.intro (vc_Four _) ?_; conv => whnf) | (refine VCall.intro (c1 _) ?_; conv => whnf))
  refine VCut.at' (outer := h.lift) (marks := []) 1 [(1, ints [5, 7, 8, 17]), (2, I 0)] [] ?_ ?_
  · conv => whnf
    refine Retell.turn ⟨[], 0, [], []⟩ (TurnOk.mk' _ _ [] [] (OutOk.lift _) rfl (by decide) zb trivial trivial rfl) zw zm
  conv => whnf
  repeat' (first | ((first | refine zs1 ?_ | refine zs2 ?_ | refine zs3 ?_ | refine zs4 ?_ | refine zs5 ?_); conv => whnf) | ((first | apply zi1 | apply zi2 | apply zi3 | apply zi4 | apply zi5) <;> intro _ <;> conv => whnf) | (refine VCall.intro (vc_Four _) ?_; conv => whnf))
  refine VCall.intro (VC.give (args' := [vN fourN, vHd ⟨0, 5, 0⟩, ints [0, 2, 3, 1]]) (loc' := [.dead]) [(0, [DI 0, DI 2, DI 3, DI 1])] [] (OutOk.lift _) zb zf (by exact FmAll.nil) rfl zv (c2 _)) ?_
  conv => whnf
  repeat' (first | ((first | refine zs1 ?_ | refine zs2 ?_ | refine zs3 ?_ | refine zs4 ?_ | refine zs5 ?_); conv => whnf) | ((first | apply zi1 | apply zi2 | apply zi3 | apply zi4 | apply zi5) <;> intro _ <;> conv => whnf))
  refine VCut.at' (outer := h.lift) (marks := []) 1 [(1, ints [5, 7, 8, 17]), (2, I 0), (3, .fp (encHd ⟨3, 23, 1⟩)), (4, I 0)] [] ?_ ?_
  · conv => whnf
    refine Retell.turn ⟨[], 2, [(1, encHd ⟨3, 23, 1⟩)], []⟩ (TurnOk.mk' _ _ [(1, encHd ⟨3, 23, 1⟩)] [] (OutOk.lift _) rfl (by decide) zb zf trivial rfl) zw zm
  conv => whnf
  repeat' (first | ((first | refine zs1 ?_ | refine zs2 ?_ | refine zs3 ?_ | refine zs4 ?_ | refine zs5 ?_); conv => whnf) | ((first | apply zi1 | apply zi2 | apply zi3 | apply zi4 | apply zi5) <;> intro _ <;> conv => whnf) | (refine VCall.intro (vc_Four _) ?_; conv => whnf) | (refine VCall.intro (c3 _) ?_; conv => whnf))
  refine VCut.at' (outer := h.lift) (marks := []) 1 [(1, ints [5, 7, 8, 17]), (2, I 0), (3, .fp (encHd ⟨3, 23, 1⟩)), (4, I 0), (5, ints [99, 101, -1, -1]), (6, I 0)] [] ?_ ?_
  · conv => whnf
    refine Retell.turn ⟨[], 0, [], []⟩ (TurnOk.mk' _ _ [] [] (OutOk.lift _) rfl (by decide) zb trivial trivial rfl) zw zm
  conv => whnf
  repeat' (first | ((first | refine zs1 ?_ | refine zs2 ?_ | refine zs3 ?_ | refine zs4 ?_ | refine zs5 ?_); conv => whnf) | ((first | apply zi1 | apply zi2 | apply zi3 | apply zi4 | apply zi5) <;> intro _ <;> conv => whnf) | (refine VCall.intro (vc_Four _) ?_; conv => whnf) | (refine VCall.intro (c4 _) ?_; conv => whnf))
  refine VCut.at' (outer := h.lift) (marks := []) 1 [(1, ints [5, 7, 8, 17]), (2, I 0), (3, .fp (encHd ⟨3, 23, 1⟩)), (4, I 0), (5, ints [99, 101, -1, -1]), (6, I 0), (7, ints [0, 2, 4]), (8, I 0)] [] ?_ ?_
  · conv => whnf
    refine Retell.turn ⟨[], 0, [], []⟩ (TurnOk.mk' _ _ [] [] (OutOk.lift _) rfl (by decide) zb trivial trivial rfl) zw zm
  conv => whnf
  repeat' (first | ((first | refine zs1 ?_ | refine zs2 ?_ | refine zs3 ?_ | refine zs4 ?_ | refine zs5 ?_); conv => whnf) | ((first | apply zi1 | apply zi2 | apply zi3 | apply zi4 | apply zi5) <;> intro _ <;> conv => whnf))
  refine VCall.intro (VC.give (args' := [ints [5, 7, 8, 17], ints [5, 7, 8, 17]]) (loc' := [.dead]) [(0, [DI 5, DI 7, DI 8, DI 17])] [] (OutOk.lift _) zb zf (by exact FmAll.nil) rfl zv (q1 _)) ?_
  conv => whnf
  repeat' (first | ((first | refine zs1 ?_ | refine zs2 ?_ | refine zs3 ?_ | refine zs4 ?_ | refine zs5 ?_); conv => whnf) | ((first | apply zi1 | apply zi2 | apply zi3 | apply zi4 | apply zi5) <;> intro _ <;> conv => whnf) | (refine VAgg.intro (vneqH ⟨3, 23, 1⟩ ⟨3, 23, 1⟩) ?_; conv => whnf))
  refine VCall.intro (VC.give (args' := [ints [99, 101, -1, -1], ints [99, 101, -1, -1]]) (loc' := [.dead, .dead]) [(1, [DI 99, DI 101, DI (-1), DI (-1)])] [] (OutOk.lift _) zb zf (by exact FmAll.nil) rfl zv (q2 _)) ?_
  conv => whnf
  repeat' (first | ((first | refine zs1 ?_ | refine zs2 ?_ | refine zs3 ?_ | refine zs4 ?_ | refine zs5 ?_); conv => whnf) | ((first | apply zi1 | apply zi2 | apply zi3 | apply zi4 | apply zi5) <;> intro _ <;> conv => whnf))
  refine VCall.intro (VC.give (args' := [ints [0, 2, 4], ints [0, 2, 4]]) (loc' := [.dead, .dead, .dead]) [(2, [DI 0, DI 2, DI 4])] [] (OutOk.lift _) zb zf (by exact FmAll.nil) rfl zv (q3 _)) ?_
  conv => whnf
  repeat' (first | ((first | refine zs1 ?_ | refine zs2 ?_ | refine zs3 ?_ | refine zs4 ?_ | refine zs5 ?_); conv => whnf) | ((first | apply zi1 | apply zi2 | apply zi3 | apply zi4 | apply zi5) <;> intro _ <;> conv => whnf))
  refine VCut.at' (outer := h.lift) (marks := []) 1 [] [] ?_ ?_
  · conv => whnf
    refine Retell.turn ⟨[], 3, [], []⟩ (TurnOk.mk' _ _ [] [] (OutOk.lift _) rfl (by decide) zb trivial trivial rfl) zw zm
  conv => whnf
  repeat' (first | ((first | refine zs1 ?_ | refine zs2 ?_ | refine zs3 ?_ | refine zs4 ?_ | refine zs5 ?_); conv => whnf) | ((first | apply zi1 | apply zi2 | apply zi3 | apply zi4 | apply zi5) <;> intro _ <;> conv => whnf) | (refine VCall.intro (vc_Four _) ?_; conv => whnf))
  refine VCall.intro (VC.give (args' := [vN fourN, ints [0], ints [3]]) (loc' := [.dead, .dead]) [(0, [DI 0]), (1, [DI 3])] [] (OutOk.lift _) zb zf (by exact FmAll.nil) rfl zv (c5 _)) ?_
  conv => whnf
  repeat' (first | ((first | refine zs1 ?_ | refine zs2 ?_ | refine zs3 ?_ | refine zs4 ?_ | refine zs5 ?_); conv => whnf) | ((first | apply zi1 | apply zi2 | apply zi3 | apply zi4 | apply zi5) <;> intro _ <;> conv => whnf))
  refine VCut.at' (outer := h.lift) (marks := []) 1 [(2, I 0), (10, I 40)] [] ?_ ?_
  · conv => whnf
    refine Retell.turn ⟨[], 2, [], []⟩ (TurnOk.mk' _ _ [] [] (OutOk.lift _) rfl (by decide) zb trivial trivial rfl) zw zm
  conv => whnf
  repeat' (first | ((first | refine zs1 ?_ | refine zs2 ?_ | refine zs3 ?_ | refine zs4 ?_ | refine zs5 ?_); conv => whnf) | ((first | apply zi1 | apply zi2 | apply zi3 | apply zi4 | apply zi5) <;> intro _ <;> conv => whnf) | (refine VCall.intro (vc_Four _) ?_; conv => whnf))
  refine VCall.intro (VC.give (args' := [vN fourN, ints [0], ints [3], ints [0, 1, 2]]) (loc' := [.dead, .dead, .dead]) [(0, [DI 0]), (1, [DI 3]), (2, [DI 0, DI 1, DI 2])] [] (OutOk.lift _) zb zf (by exact FmAll.nil) rfl zv (c6 _)) ?_
  conv => whnf
  repeat' (first | ((first | refine zs1 ?_ | refine zs2 ?_ | refine zs3 ?_ | refine zs4 ?_ | refine zs5 ?_); conv => whnf) | ((first | apply zi1 | apply zi2 | apply zi3 | apply zi4 | apply zi5) <;> intro _ <;> conv => whnf))
  refine VCut.at' (outer := h.lift) (marks := []) 1 [(2, I 0), (4, I 0), (10, I 40), (11, I 40)] [] ?_ ?_
  · conv => whnf
    refine Retell.turn ⟨[], 3, [], []⟩ (TurnOk.mk' _ _ [] [] (OutOk.lift _) rfl (by decide) zb trivial trivial rfl) zw zm
  conv => whnf
  repeat' (first | ((first | refine zs1 ?_ | refine zs2 ?_ | refine zs3 ?_ | refine zs4 ?_ | refine zs5 ?_); conv => whnf) | ((first | apply zi1 | apply zi2 | apply zi3 | apply zi4 | apply zi5) <;> intro _ <;> conv => whnf) | (refine VCall.intro (vc_Four _) ?_; conv => whnf))
  refine VCall.intro (VC.give (args' := [vN fourN, ints [0], ints [3]]) (loc' := [.dead, .dead]) [(0, [DI 0]), (1, [DI 3])] [] (OutOk.lift _) zb zf (by exact FmAll.nil) rfl zv (c7 _)) ?_
  conv => whnf
  repeat' (first | ((first | refine zs1 ?_ | refine zs2 ?_ | refine zs3 ?_ | refine zs4 ?_ | refine zs5 ?_); conv => whnf) | ((first | apply zi1 | apply zi2 | apply zi3 | apply zi4 | apply zi5) <;> intro _ <;> conv => whnf))
  refine VCut.at' (outer := h.lift) (marks := []) 99 [(2, I 0), (4, I 0), (6, I 0), (10, I 40), (11, I 40), (12, ints [1, 4])] [] ?_ ?_
  · conv => whnf
    refine Retell.turn ⟨[], 2, [], []⟩ (TurnOk.mk' _ _ [] [] (OutOk.lift _) rfl (by decide) zb trivial trivial rfl) zw zm
  conv => whnf
  repeat' (first | ((first | refine zs1 ?_ | refine zs2 ?_ | refine zs3 ?_ | refine zs4 ?_ | refine zs5 ?_); conv => whnf) | ((first | apply zi1 | apply zi2 | apply zi3 | apply zi4 | apply zi5) <;> intro _ <;> conv => whnf))
  refine VCall.intro (VC.give (args' := [ints [1, 4], ints [1, 4]]) (loc' := [.dead]) [(0, [DI 1, DI 4])] [] (OutOk.lift _) zb zf (by exact FmAll.nil) rfl zv (q4 _)) ?_
  conv => whnf
  repeat' (first | ((first | refine zs1 ?_ | refine zs2 ?_ | refine zs3 ?_ | refine zs4 ?_ | refine zs5 ?_); conv => whnf) | ((first | apply zi1 | apply zi2 | apply zi3 | apply zi4 | apply zi5) <;> intro _ <;> conv => whnf))
  exact VOut.same rfl
end Go.Proofs.Ytoeendggmalcpaa

open Go.Vm
open Psg
namespace Go.Proofs.Ytoeendggmalcpaa
set_option maxRecDepth 20000
set_option maxHeartbeats 4000000
theorem vc_Made (bs : List Int) (d : DS) (p s : Int) (i : Vm.Id) (h : Hp) (hN : d.1 ≤ 900000) (hp : 2 ≤ p ∧ p ≤ 10) (hs : 0 ≤ s ∧ s ≤ 24) (hd : h.get i = some (deckB bs d)) :
    VC Try.prog 15 [.ptr i 0, I p, I s] h (vN (mdN bs d p s)) (h.set i (deckB bs (mdS bs d p s).1)) := by
  have a1 := dNx_bd bs d (p - 2 + 1)
  have c1 := fun (h2 : Hp) hh => vc_between bs d 2 p (.out i) h2 (by omega) (by omega) (by omega) hh
  have eN : mdN bs d p s = ⟨2 + (mdX bs d p).1, (mdS bs d p s).2⟩ := rfl
  rw [eN]
  unfold mdS mdC
  have e1 : dNx bs d (p - 2 + 1) = mdX bs d p := rfl
  rw [e1] at a1 c1
  generalize mdX bs d p = x1 at *
  have a2 := dNx_bd bs x1.2 (s + 1)
  have c2 := fun (h2 : Hp) hh => vc_draw bs x1.2 (s + 1) (.out i) h2 (by omega) hh
  generalize dNx bs x1.2 (s + 1) = x2 at *
  obtain ⟨n, hn⟩ : ∃ n : Nat, 2 + x1.1 = n := ⟨(2 + x1.1).toNat, by omega⟩
  rw [hn] at c1 ⊢
  have hSk := fun k => mIt_ok (bs := bs) (n := n) (by omega) (u := (x2.2, [])) (N := x2.2.1) ⟨by dsimp only; omega, rfl, by simp⟩ k
  obtain ⟨m, hm⟩ : ∃ m : Nat, x2.1 = m := ⟨x2.1.toNat, by omega⟩
  rw [hm] at c2 ⊢
  rw [Int.toNat_natCast]
  obtain ⟨R, hR⟩ : ∃ R, R = mIt bs n (x2.2, []) m := ⟨_, rfl⟩
  rw [← hR]
  clear eN e1
  refine VC.body Try.func15 rfl Try.ntmps15 Try.call15 (h.grows_set _ _) rfl ?_
  conv => whnf
  repeat' (first | ((first | refine zs1 ?_ | refine zs2 ?_ | refine zs3 ?_ | refine zs4 ?_ | refine zs5 ?_ | refine zs6 [] ?_); conv => whnf) | ((first | apply zi1 | apply zi2 | apply zi3 | apply zi4 | apply zi5) <;> intro _ <;> conv => whnf) | (refine VCall.intro (c1 _ (get_out hd _)) ?_; conv => whnf) | (refine VCall.intro (c2 _ (outW_get _ _ _ _)) ?_; conv => whnf))
  refine VCode.lpo (fun y : Nat × (DS × List Wy) => [(0, .ptr (.out i) 0), (6, .ptr (.loc 0) 0), (7, .ptr (.loc 1) 0), (18, I m), (19, I y.1)]) (fun y => outW h.lift i (deckB bs y.2.1))
    (fun y => [.flat true [DI 0, .nilslice], .cells true [I n, .gl (.loc 2) 8 y.2.2.length], .flat true (y.2.2.flatMap encWy)]) (fun y => y.1 ≤ m ∧ y.2 = mIt bs n (x2.2, []) y.1) (fun y => m - y.1) (0, (x2.2, [])) ⟨Nat.zero_le _, rfl⟩ ?_ ?_ ?_
  · funext j; by_cases e : j = i <;> simp [outW, e, Hp.set]
  · conv => whnf
    refine Retell.turn ⟨[0,1,2], 2, [], []⟩ (TurnOk.mk' _ _ [] [] (OutOk.outW (OutOk.lift _) rfl) rfl (by decide) zb trivial trivial rfl) zw zm
  · rintro ⟨k, w⟩ ⟨hk, hw⟩
    dsimp only at hk hw
    have hwk := hSk k
    have hnx : mIt bs n (x2.2, []) (k + 1) = ((m10 bs n w.1).2, w.2 ++ [mWy bs n w.1]) := by rw [mIt, hw]
    rw [← hw] at hwk
    obtain ⟨n1, n2, n3⟩ := hwk
    rcases Nat.lt_or_ge k m with h3 | h3
    · have hW := mW_ok bs n w.1 (by omega)
      obtain ⟨b1, b2, b3, b4, b5, b6, b8, b10, t1, t2, t3, t4, t5, t6, t7, t8, t9, t10, bt, bn⟩ := hW
      have g1 := fun (h2 : Hp) hh => vc_draw bs w.1 (n : Int) (.out i) h2 (by omega) hh
      rw [show dNx bs w.1 (n : Int) = m1 bs n w.1 from rfl] at g1
      have g2 := fun (h2 : Hp) hh => vc_draw bs (m1 bs n w.1).2 20 (.out i) h2 (by omega) hh
      rw [show dNx bs (m1 bs n w.1).2 20 = m2 bs n w.1 from rfl] at g2
      have g3 := fun (h2 : Hp) hh => vc_between bs (m2 bs n w.1).2 1 ((n : Int) - 1) (.out i) h2 (by omega) (by omega) (by omega) hh
      rw [show dNx bs (m2 bs n w.1).2 ((n : Int) - 1 - 1 + 1) = m3 bs n w.1 from rfl] at g3
      have g4 := fun (h2 : Hp) hh => vc_draw bs (m3 bs n w.1).2 8 (.out i) h2 (by omega) hh
      rw [show dNx bs (m3 bs n w.1).2 8 = m4 bs n w.1 from rfl] at g4
      have g5 := fun (h2 : Hp) hh => vc_draw bs (m4 bs n w.1).2 20 (.out i) h2 (by omega) hh
      rw [show dNx bs (m4 bs n w.1).2 20 = m5 bs n w.1 from rfl] at g5
      have g6 := fun (h2 : Hp) hh => vc_draw bs (m5 bs n w.1).2 30 (.out i) h2 (by omega) hh
      rw [show dNx bs (m5 bs n w.1).2 30 = m6 bs n w.1 from rfl] at g6
      have g7 := fun (h2 : Hp) hh => vc_coin bs (m6 bs n w.1).2 3 (.out i) h2 (by omega) hh
      rw [show dNx bs (m6 bs n w.1).2 3 = m7 bs n w.1 from rfl] at g7
      have g8 := fun (h2 : Hp) hh => vc_draw bs (m7 bs n w.1).2 16 (.out i) h2 (by omega) hh
      have g9 := fun (h2 : Hp) hh => vc_coin bs (m8 bs n w.1).2 3 (.out i) h2 (by omega) hh
      rw [show dNx bs (m8 bs n w.1).2 3 = m9 bs n w.1 from rfl] at g9
      have g10 := fun (h2 : Hp) hh => vc_draw bs (m9 bs n w.1).2 16 (.out i) h2 (by omega) hh
      have e8 : m8 bs n w.1 = cnD bs (m7 bs n w.1) := rfl
      have e10 : m10 bs n w.1 = cnD bs (m9 bs n w.1) := rfl
      have hneB : ((n : Int) != 0) = true := by rw [bne_iff_ne]; omega
      have eTo : ((m1 bs n w.1).1 + (1 + (m3 bs n w.1).1)).tmod (n : Int) = mTo bs n w.1 := rfl
      have hmw : mWy bs n w.1 = ⟨(m1 bs n w.1).1, mTo bs n w.1, (m4 bs n w.1).1, (m5 bs n w.1).1, (m8 bs n w.1).1, (m10 bs n w.1).1, (m2 bs n w.1).1, (m2 bs n w.1).1 + (m6 bs n w.1).1⟩ := rfl
      have cL := fun h => vc_Led (m1 bs n w.1).1 (mTo bs n w.1) (m4 bs n w.1).1 (m5 bs n w.1).1 0 0 (m2 bs n w.1).1 ((m2 bs n w.1).1 + (m6 bs n w.1).1) h
      rw [hmw] at hnx
      clear hmw bt bn
      by_cases h7 : (m7 bs n w.1).1 = 0
      · by_cases h9 : (m9 bs n w.1).1 = 0
        · have v7 : ((m7 bs n w.1).1 == 0) = true := by rw [h7]; rfl
          have v9 : ((m9 bs n w.1).1 == 0) = true := by rw [h9]; rfl
          rw [v7] at g7
          rw [v9] at g9
          rw [cnD, if_pos h7] at e8
          rw [← e8] at g8
          rw [cnD, if_pos h9] at e10
          rw [← e10] at g10
          generalize m10 bs n w.1 = z10 at *
          generalize m9 bs n w.1 = z9 at *
          generalize m8 bs n w.1 = z8 at *
          generalize m7 bs n w.1 = z7 at *
          generalize m6 bs n w.1 = z6 at *
          generalize m5 bs n w.1 = z5 at *
          generalize m4 bs n w.1 = z4 at *
          rw [← eTo] at cL hnx
          clear eTo
          generalize m3 bs n w.1 = z3 at *
          generalize m2 bs n w.1 = z2 at *
          generalize m1 bs n w.1 = z1 at *
          conv => whnf
          repeat' (first | ((first | refine zs1 ?_ | refine zs2 ?_ | refine zs3 ?_ | refine zs4 ?_ | refine zs5 ?_); conv => whnf) | ((first | apply zi1 | apply zi2 | apply zi3 | apply zi4 | apply zi5) <;> intro _ <;> conv => whnf) | (refine VCall.intro (g1 _ (outW_get _ _ _ _)) ?_; conv => whnf) | (refine VCall.intro (g2 _ (outW_get _ _ _ _)) ?_; conv => whnf))
          all_goals try (exfalso; omega)
          refine zs6 [(6, 9), (9, 12), (9, 14), (9, 18)] ?_
          conv => whnf
          repeat' (first | ((first | refine zs1 ?_ | refine zs2 ?_ | refine zs3 ?_ | refine zs4 ?_ | refine zs5 ?_); conv => whnf) | ((first | apply zi1 | apply zi2 | apply zi3 | apply zi4 | apply zi5) <;> intro _ <;> conv => whnf) | (refine VCall.intro (g3 _ (outW_get _ _ _ _)) ?_; conv => whnf) | (refine VNeed.intro hneB ?_; conv => whnf) | (refine VCall.intro (g4 _ (outW_get _ _ _ _)) ?_; conv => whnf) | (refine VCall.intro (g5 _ (outW_get _ _ _ _)) ?_; conv => whnf) | (refine VCall.intro (g6 _ (outW_get _ _ _ _)) ?_; conv => whnf) | (refine VCall.intro (cL _) ?_; conv => whnf) | (refine VCall.intro (g7 _ (outW_get _ _ _ _)) ?_; conv => whnf) | (refine VCall.intro (g8 _ (outW_get _ _ _ _)) ?_; conv => whnf) | (refine VCall.intro (g9 _ (outW_get _ _ _ _)) ?_; conv => whnf) | (refine VCall.intro (g10 _ (outW_get _ _ _ _)) ?_; conv => whnf))
          all_goals try (exfalso; omega)
          refine VMem.app1 (l := w.2) (⟨z1.1, (z1.1 + (1 + z3.1)).tmod (n : Int), z4.1, z5.1, z8.1, z10.1, z2.1, z2.1 + z6.1⟩ : Wy) encWy_len rfl rfl rfl rfl rfl (by omega) ?_
          conv => whnf
          repeat' (first | ((first | refine zs1 ?_ | refine zs2 ?_ | refine zs3 ?_ | refine zs4 ?_ | refine zs5 ?_); conv => whnf) | ((first | apply zi1 | apply zi2 | apply zi3 | apply zi4 | apply zi5) <;> intro _ <;> conv => whnf))
          refine LEndO.intro (k + 1, _) ⟨by dsimp only; omega, hnx.symm⟩ (by dsimp only; omega) ?_ ?_
          · funext j; by_cases e : j = i <;> simp [outW, e, Hp.set]
          · conv => whnf
            rw [List.length_append]
            refine Retell.turn ⟨[0,1,5], 6, [], []⟩ (TurnOk.mk' _ _ [] [] (OutOk.outW (OutOk.lift _) rfl) rfl (by decide) zb trivial trivial rfl) zw zm
        · have v7 : ((m7 bs n w.1).1 == 0) = true := by rw [h7]; rfl
          have v9 : ((m9 bs n w.1).1 == 0) = false := by rw [beq_eq_false_iff_ne]; exact h9
          rw [v7] at g7
          rw [v9] at g9
          rw [cnD, if_pos h7] at e8
          rw [← e8] at g8
          rw [cnD, if_neg h9] at e10
          generalize m10 bs n w.1 = z10 at *
          generalize m9 bs n w.1 = z9 at *
          generalize m8 bs n w.1 = z8 at *
          generalize m7 bs n w.1 = z7 at *
          generalize m6 bs n w.1 = z6 at *
          generalize m5 bs n w.1 = z5 at *
          generalize m4 bs n w.1 = z4 at *
          rw [← eTo] at cL hnx
          clear eTo
          generalize m3 bs n w.1 = z3 at *
          generalize m2 bs n w.1 = z2 at *
          generalize m1 bs n w.1 = z1 at *
          subst e10
          dsimp only at hnx
          conv => whnf
          repeat' (first | ((first | refine zs1 ?_ | refine zs2 ?_ | refine zs3 ?_ | refine zs4 ?_ | refine zs5 ?_); conv => whnf) | ((first | apply zi1 | apply zi2 | apply zi3 | apply zi4 | apply zi5) <;> intro _ <;> conv => whnf) | (refine VCall.intro (g1 _ (outW_get _ _ _ _)) ?_; conv => whnf) | (refine VCall.intro (g2 _ (outW_get _ _ _ _)) ?_; conv => whnf))
          all_goals try (exfalso; omega)
          refine zs6 [(6, 9), (9, 12), (9, 14), (9, 18)] ?_
          conv => whnf
          repeat' (first | ((first | refine zs1 ?_ | refine zs2 ?_ | refine zs3 ?_ | refine zs4 ?_ | refine zs5 ?_); conv => whnf) | ((first | apply zi1 | apply zi2 | apply zi3 | apply zi4 | apply zi5) <;> intro _ <;> conv => whnf) | (refine VCall.intro (g3 _ (outW_get _ _ _ _)) ?_; conv => whnf) | (refine VNeed.intro hneB ?_; conv => whnf) | (refine VCall.intro (g4 _ (outW_get _ _ _ _)) ?_; conv => whnf) | (refine VCall.intro (g5 _ (outW_get _ _ _ _)) ?_; conv => whnf) | (refine VCall.intro (g6 _ (outW_get _ _ _ _)) ?_; conv => whnf) | (refine VCall.intro (cL _) ?_; conv => whnf) | (refine VCall.intro (g7 _ (outW_get _ _ _ _)) ?_; conv => whnf) | (refine VCall.intro (g8 _ (outW_get _ _ _ _)) ?_; conv => whnf) | (refine VCall.intro (g9 _ (outW_get _ _ _ _)) ?_; conv => whnf) | (refine VCall.intro (g10 _ (outW_get _ _ _ _)) ?_; conv => whnf))
          all_goals try (exfalso; omega)
          refine VMem.app1 (l := w.2) (⟨z1.1, (z1.1 + (1 + z3.1)).tmod (n : Int), z4.1, z5.1, z8.1, 0, z2.1, z2.1 + z6.1⟩ : Wy) encWy_len rfl rfl rfl rfl rfl (by omega) ?_
          conv => whnf
          repeat' (first | ((first | refine zs1 ?_ | refine zs2 ?_ | refine zs3 ?_ | refine zs4 ?_ | refine zs5 ?_); conv => whnf) | ((first | apply zi1 | apply zi2 | apply zi3 | apply zi4 | apply zi5) <;> intro _ <;> conv => whnf))
          refine LEndO.intro (k + 1, _) ⟨by dsimp only; omega, hnx.symm⟩ (by dsimp only; omega) ?_ ?_
          · funext j; by_cases e : j = i <;> simp [outW, e, Hp.set]
          · conv => whnf
            rw [List.length_append]
            refine Retell.turn ⟨[0,1,5], 6, [], []⟩ (TurnOk.mk' _ _ [] [] (OutOk.outW (OutOk.lift _) rfl) rfl (by decide) zb trivial trivial rfl) zw zm
      · by_cases h9 : (m9 bs n w.1).1 = 0
        · have v7 : ((m7 bs n w.1).1 == 0) = false := by rw [beq_eq_false_iff_ne]; exact h7
          have v9 : ((m9 bs n w.1).1 == 0) = true := by rw [h9]; rfl
          rw [v7] at g7
          rw [v9] at g9
          rw [cnD, if_neg h7] at e8
          rw [cnD, if_pos h9] at e10
          rw [← e10] at g10
          generalize m10 bs n w.1 = z10 at *
          generalize m9 bs n w.1 = z9 at *
          generalize m8 bs n w.1 = z8 at *
          generalize m7 bs n w.1 = z7 at *
          generalize m6 bs n w.1 = z6 at *
          generalize m5 bs n w.1 = z5 at *
          generalize m4 bs n w.1 = z4 at *
          rw [← eTo] at cL hnx
          clear eTo
          generalize m3 bs n w.1 = z3 at *
          generalize m2 bs n w.1 = z2 at *
          generalize m1 bs n w.1 = z1 at *
          subst e8
          dsimp only at hnx g9
          conv => whnf
          repeat' (first | ((first | refine zs1 ?_ | refine zs2 ?_ | refine zs3 ?_ | refine zs4 ?_ | refine zs5 ?_); conv => whnf) | ((first | apply zi1 | apply zi2 | apply zi3 | apply zi4 | apply zi5) <;> intro _ <;> conv => whnf) | (refine VCall.intro (g1 _ (outW_get _ _ _ _)) ?_; conv => whnf) | (refine VCall.intro (g2 _ (outW_get _ _ _ _)) ?_; conv => whnf))
          all_goals try (exfalso; omega)
          refine zs6 [(6, 9), (9, 12), (9, 14), (9, 18)] ?_
          conv => whnf
          repeat' (first | ((first | refine zs1 ?_ | refine zs2 ?_ | refine zs3 ?_ | refine zs4 ?_ | refine zs5 ?_); conv => whnf) | ((first | apply zi1 | apply zi2 | apply zi3 | apply zi4 | apply zi5) <;> intro _ <;> conv => whnf) | (refine VCall.intro (g3 _ (outW_get _ _ _ _)) ?_; conv => whnf) | (refine VNeed.intro hneB ?_; conv => whnf) | (refine VCall.intro (g4 _ (outW_get _ _ _ _)) ?_; conv => whnf) | (refine VCall.intro (g5 _ (outW_get _ _ _ _)) ?_; conv => whnf) | (refine VCall.intro (g6 _ (outW_get _ _ _ _)) ?_; conv => whnf) | (refine VCall.intro (cL _) ?_; conv => whnf) | (refine VCall.intro (g7 _ (outW_get _ _ _ _)) ?_; conv => whnf) | (refine VCall.intro (g8 _ (outW_get _ _ _ _)) ?_; conv => whnf) | (refine VCall.intro (g9 _ (outW_get _ _ _ _)) ?_; conv => whnf) | (refine VCall.intro (g10 _ (outW_get _ _ _ _)) ?_; conv => whnf))
          all_goals try (exfalso; omega)
          refine VMem.app1 (l := w.2) (⟨z1.1, (z1.1 + (1 + z3.1)).tmod (n : Int), z4.1, z5.1, 0, z10.1, z2.1, z2.1 + z6.1⟩ : Wy) encWy_len rfl rfl rfl rfl rfl (by omega) ?_
          conv => whnf
          repeat' (first | ((first | refine zs1 ?_ | refine zs2 ?_ | refine zs3 ?_ | refine zs4 ?_ | refine zs5 ?_); conv => whnf) | ((first | apply zi1 | apply zi2 | apply zi3 | apply zi4 | apply zi5) <;> intro _ <;> conv => whnf))
          refine LEndO.intro (k + 1, _) ⟨by dsimp only; omega, hnx.symm⟩ (by dsimp only; omega) ?_ ?_
          · funext j; by_cases e : j = i <;> simp [outW, e, Hp.set]
          · conv => whnf
            rw [List.length_append]
            refine Retell.turn ⟨[0,1,5], 6, [], []⟩ (TurnOk.mk' _ _ [] [] (OutOk.outW (OutOk.lift _) rfl) rfl (by decide) zb trivial trivial rfl) zw zm
        · have v7 : ((m7 bs n w.1).1 == 0) = false := by rw [beq_eq_false_iff_ne]; exact h7
          have v9 : ((m9 bs n w.1).1 == 0) = false := by rw [beq_eq_false_iff_ne]; exact h9
          rw [v7] at g7
          rw [v9] at g9
          rw [cnD, if_neg h7] at e8
          rw [cnD, if_neg h9] at e10
          generalize m10 bs n w.1 = z10 at *
          generalize m9 bs n w.1 = z9 at *
          generalize m8 bs n w.1 = z8 at *
          generalize m7 bs n w.1 = z7 at *
          generalize m6 bs n w.1 = z6 at *
          generalize m5 bs n w.1 = z5 at *
          generalize m4 bs n w.1 = z4 at *
          rw [← eTo] at cL hnx
          clear eTo
          generalize m3 bs n w.1 = z3 at *
          generalize m2 bs n w.1 = z2 at *
          generalize m1 bs n w.1 = z1 at *
          subst e10
          dsimp only at hnx
          subst e8
          dsimp only at hnx g9
          conv => whnf
          repeat' (first | ((first | refine zs1 ?_ | refine zs2 ?_ | refine zs3 ?_ | refine zs4 ?_ | refine zs5 ?_); conv => whnf) | ((first | apply zi1 | apply zi2 | apply zi3 | apply zi4 | apply zi5) <;> intro _ <;> conv => whnf) | (refine VCall.intro (g1 _ (outW_get _ _ _ _)) ?_; conv => whnf) | (refine VCall.intro (g2 _ (outW_get _ _ _ _)) ?_; conv => whnf))
          all_goals try (exfalso; omega)
          refine zs6 [(6, 9), (9, 12), (9, 14), (9, 18)] ?_
          conv => whnf
          repeat' (first | ((first | refine zs1 ?_ | refine zs2 ?_ | refine zs3 ?_ | refine zs4 ?_ | refine zs5 ?_); conv => whnf) | ((first | apply zi1 | apply zi2 | apply zi3 | apply zi4 | apply zi5) <;> intro _ <;> conv => whnf) | (refine VCall.intro (g3 _ (outW_get _ _ _ _)) ?_; conv => whnf) | (refine VNeed.intro hneB ?_; conv => whnf) | (refine VCall.intro (g4 _ (outW_get _ _ _ _)) ?_; conv => whnf) | (refine VCall.intro (g5 _ (outW_get _ _ _ _)) ?_; conv => whnf) | (refine VCall.intro (g6 _ (outW_get _ _ _ _)) ?_; conv => whnf) | (refine VCall.intro (cL _) ?_; conv => whnf) | (refine VCall.intro (g7 _ (outW_get _ _ _ _)) ?_; conv => whnf) | (refine VCall.intro (g8 _ (outW_get _ _ _ _)) ?_; conv => whnf) | (refine VCall.intro (g9 _ (outW_get _ _ _ _)) ?_; conv => whnf) | (refine VCall.intro (g10 _ (outW_get _ _ _ _)) ?_; conv => whnf))
          all_goals try (exfalso; omega)
          refine VMem.app1 (l := w.2) (⟨z1.1, (z1.1 + (1 + z3.1)).tmod (n : Int), z4.1, z5.1, 0, 0, z2.1, z2.1 + z6.1⟩ : Wy) encWy_len rfl rfl rfl rfl rfl (by omega) ?_
          conv => whnf
          repeat' (first | ((first | refine zs1 ?_ | refine zs2 ?_ | refine zs3 ?_ | refine zs4 ?_ | refine zs5 ?_); conv => whnf) | ((first | apply zi1 | apply zi2 | apply zi3 | apply zi4 | apply zi5) <;> intro _ <;> conv => whnf))
          refine LEndO.intro (k + 1, _) ⟨by dsimp only; omega, hnx.symm⟩ (by dsimp only; omega) ?_ ?_
          · funext j; by_cases e : j = i <;> simp [outW, e, Hp.set]
          · conv => whnf
            rw [List.length_append]
            refine Retell.turn ⟨[0,1,5], 6, [], []⟩ (TurnOk.mk' _ _ [] [] (OutOk.outW (OutOk.lift _) rfl) rfl (by decide) zb trivial trivial rfl) zw zm
    · obtain rfl : k = m := by omega
      rw [← hR] at hw
      subst hw
      conv => whnf
      repeat' (first | ((first | refine zs1 ?_ | refine zs2 ?_ | refine zs3 ?_ | refine zs4 ?_ | refine zs5 ?_); conv => whnf) | ((first | apply zi1 | apply zi2 | apply zi3 | apply zi4 | apply zi5) <;> intro _ <;> conv => whnf))
      all_goals try (exfalso; omega)
      have hfl : (w.2.flatMap encWy).length = w.2.length * 8 := flat_len encWy_len _
      refine VOut.turn ⟨[], 3, [(2, w.2.flatMap encWy)], []⟩ (loc' := []) (r1' := vN ⟨n, w.2⟩) (TurnOk.mk' [] 3 [(2, w.2.flatMap encWy)] [] (OutOk.outW (OutOk.lift _) rfl) rfl List.nodup_nil BTos.nil (FzAll.flat rfl FzAll.nil) trivial rfl) zw ?_
      exact VOut.setF (L := 0) rfl hd fun _ => rfl
end Go.Proofs.Ytoeendggmalcpaa

open Go.Vm
open Psg
namespace Go.Joins
open Go.ChangeShapes Go.WideShapes Go.RowKit Go.Deep Go.WideElems Go.Maps
theorem trod_struct7 {H : Type} {enc : TypeId × Value → H} {P : Program} {w : World} {base : Nat} {spare : Nat → Bool} {held : Bool} {t : TypeId} {f0 f1 f2 f3 f4 f5 f6 : Field} {fuel : Nat} {cs : List Value} {x : DataW H × List MemPlace} (ht : P.underlying t = some (.struct #[f0, f1, f2, f3, f4, f5, f6])) (h : DataW.trod enc P w base spare held fuel t cs = some x) :
    ∃ y0 y1 y2 y3 y4 y5 y6 n, cs.length = P.cellsOf t ∧ DataW.trod enc P w base spare held n f0.type ((cs.drop f0.offset).take (P.cellsOf f0.type)) = some y0 ∧
      DataW.trod enc P w base spare held n f1.type ((cs.drop f1.offset).take (P.cellsOf f1.type)) = some y1 ∧ DataW.trod enc P w base spare held n f2.type ((cs.drop f2.offset).take (P.cellsOf f2.type)) = some y2 ∧
      DataW.trod enc P w base spare held n f3.type ((cs.drop f3.offset).take (P.cellsOf f3.type)) = some y3 ∧ DataW.trod enc P w base spare held n f4.type ((cs.drop f4.offset).take (P.cellsOf f4.type)) = some y4 ∧
      DataW.trod enc P w base spare held n f5.type ((cs.drop f5.offset).take (P.cellsOf f5.type)) = some y5 ∧ DataW.trod enc P w base spare held n f6.type ((cs.drop f6.offset).take (P.cellsOf f6.type)) = some y6 := by
  obtain ⟨xs, n, _, rfl, hl, hlen, hf⟩ := DataW.trod_struct ht h
  match xs, hlen with
  | [y0, y1, y2, y3, y4, y5, y6], _ => exact ⟨y0, y1, y2, y3, y4, y5, y6, n, hl, by simpa using hf 0 f0 rfl, by simpa using hf 1 f1 rfl, by simpa using hf 2 f2 rfl, by simpa using hf 3 f3 rfl, by simpa using hf 4 f4 rfl, by simpa using hf 5 f5 rfl, by simpa using hf 6 f6 rfl⟩
end Go.Joins
namespace Go.Vm
structure Seg (W : World) (a : List D) (cs : List Value) (o m : Nat) : Prop where
  dr : DRs (fzW W) a ((cs.drop o).take m)
  one : ∀ v ∈ (cs.drop o).take m, v.oneCell' = true
theorem Seg.app {W : World} {a b : List D} {cs : List Value} {o m k : Nat} (h : Seg W a cs o m) (g : Seg W b cs (o + m) k) : Seg W (a ++ b) cs o (m + k) := by
  have e : (cs.drop o).take (m + k) = (cs.drop o).take m ++ (cs.drop (o + m)).take k := by rw [List.take_add, List.drop_drop]
  refine ⟨by rw [e]; exact DRs.append h.dr g.dr, fun v hv => ?_⟩
  rw [e] at hv
  rcases List.mem_append.1 hv with hv | hv
  · exact h.one v hv
  · exact g.one v hv
theorem Seg.all {W : World} {a : List D} {cs : List Value} {m : Nat} (h : Seg W a cs 0 m) (hl : cs.length = m) : DRs (fzW W) a cs ∧ ∀ v ∈ cs, v.oneCell' = true := by
  have e : (cs.drop 0).take m = cs := by rw [List.drop_zero, List.take_of_length_le (by omega)]
  have h1 := h.dr
  have h2 := h.one
  rw [e] at h1 h2
  exact ⟨h1, h2⟩
end Go.Vm
namespace Go.Proofs.Ytoeendggmalcpaa
open Go.ChangeShapes Go.WideShapes Go.ChangeAt Go.RowKit

theorem open3 : Opens Try.prog 3 (fun n : Int => [DI n]) := Opens.int Try.underlying3
theorem open38 : Opens Try.prog 38 (fun x : Int × Int => [DI x.1, DI x.2]) := (Opens.struct2 1 1 Try.underlying38 (by kernel_rfl) rfl rfl (by kernel_rfl) (by kernel_rfl) open3 open3).as (fun x => x) (fun x => [DI x.1, DI x.2]) fun _ => rfl
theorem cells3 : Try.prog.cellsOf 3 = 1 := by kernel_rfl
theorem cells38 : Try.prog.cellsOf 38 = 2 := by kernel_rfl
theorem cells40 : Try.prog.cellsOf 40 = 8 := by kernel_rfl
theorem open40 : Opens Try.prog 40 encWy := by
  intro W H en sp hd fuel cs x h
  obtain ⟨y0, y1, y2, y3, y4, y5, y6, n, hl, g0, g1, g2, g3, g4, g5, g6⟩ := Go.Joins.trod_struct7 Try.underlying40 h
  rw [cells40] at hl
  have g0 : DataW.trod en Try.prog W 0 sp hd n 3 ((cs.drop 0).take (Try.prog.cellsOf 3)) = some y0 := g0
  have g1 : DataW.trod en Try.prog W 0 sp hd n 3 ((cs.drop 1).take (Try.prog.cellsOf 3)) = some y1 := g1
  have g2 : DataW.trod en Try.prog W 0 sp hd n 3 ((cs.drop 2).take (Try.prog.cellsOf 3)) = some y2 := g2
  have g3 : DataW.trod en Try.prog W 0 sp hd n 3 ((cs.drop 3).take (Try.prog.cellsOf 3)) = some y3 := g3
  have g4 : DataW.trod en Try.prog W 0 sp hd n 3 ((cs.drop 4).take (Try.prog.cellsOf 3)) = some y4 := g4
  have g5 : DataW.trod en Try.prog W 0 sp hd n 3 ((cs.drop 5).take (Try.prog.cellsOf 3)) = some y5 := g5
  have g6 : DataW.trod en Try.prog W 0 sp hd n 38 ((cs.drop 6).take (Try.prog.cellsOf 38)) = some y6 := g6
  rw [cells3] at g0 g1 g2 g3 g4 g5
  rw [cells38] at g6
  obtain ⟨a0, b0, c0⟩ := open3 W H en sp hd n _ _ g0
  obtain ⟨a1, b1, c1⟩ := open3 W H en sp hd n _ _ g1
  obtain ⟨a2, b2, c2⟩ := open3 W H en sp hd n _ _ g2
  obtain ⟨a3, b3, c3⟩ := open3 W H en sp hd n _ _ g3
  obtain ⟨a4, b4, c4⟩ := open3 W H en sp hd n _ _ g4
  obtain ⟨a5, b5, c5⟩ := open3 W H en sp hd n _ _ g5
  obtain ⟨⟨a6, a7⟩, b6, c6⟩ := open38 W H en sp hd n _ _ g6
  have s0 : Seg W [DI a0] cs 0 1 := ⟨b0, c0⟩
  have s1 : Seg W [DI a1] cs 1 1 := ⟨b1, c1⟩
  have s2 : Seg W [DI a2] cs 2 1 := ⟨b2, c2⟩
  have s3 : Seg W [DI a3] cs 3 1 := ⟨b3, c3⟩
  have s4 : Seg W [DI a4] cs 4 1 := ⟨b4, c4⟩
  have s5 : Seg W [DI a5] cs 5 1 := ⟨b5, c5⟩
  have s6 : Seg W [DI a6, DI a7] cs 6 2 := ⟨b6, c6⟩
  exact ⟨⟨a0, a1, a2, a3, a4, a5, a6, a7⟩, (((((((s0.app s1).app s2).app s3).app s4).app s5).app s6).all hl)⟩
theorem open25 : Opens Try.prog 25 (fun l : List Wy => [D.sl 8 l.length (l.flatMap encWy)]) := Opens.slice Try.underlying25 encWy_len (by kernel_rfl) (by decide) open40
theorem open27 : Opens Try.prog 27 encN := (Opens.struct2 1 1 Try.underlying27 (by kernel_rfl) rfl rfl (by kernel_rfl) (by kernel_rfl) open3 open25).as (fun x => ⟨x.1, x.2⟩) encN fun _ => rfl
theorem open30 : Opens Try.prog 30 encHd := (Opens.struct3 1 1 1 Try.underlying30 (by kernel_rfl) rfl rfl rfl (by kernel_rfl) (by kernel_rfl) (by kernel_rfl) open3 open3 open3).as (fun x => ⟨x.1, x.2.1, x.2.2⟩) encHd fun _ => rfl
theorem open32 : Opens Try.prog 32 (fun l : List Int => [dints l]) := Opens.slice Try.underlying32 encI_len (by kernel_rfl) (by decide) open3
theorem open53 : Opens Try.prog 53 (fun l : List Hd => [D.sl 3 l.length (l.flatMap encHd)]) := Opens.slice Try.underlying53 encHd_len (by kernel_rfl) (by decide) open30
def dN (l : Nt) : D := .agg (encN l)
def dH (x : Hd) : D := .agg (encHd x)
def dhs (l : List Hd) : D := .sl 3 l.length (l.flatMap encHd)
def dLL (l : List (List Int)) : D := .sl 1 l.length (l.flatMap encL)
theorem openN : OpenV Try.prog 27 dN := OpenV.struct Try.underlying27 open27
theorem openH : OpenV Try.prog 30 dH := OpenV.struct Try.underlying30 open30
theorem openI : OpenV Try.prog 3 (fun n : Int => DI n) := OpenV.int Try.underlying3
theorem openL : OpenV Try.prog 32 dints := OpenV.slice Try.underlying32 open32
theorem openHs : OpenV Try.prog 53 dhs := OpenV.slice Try.underlying53 open53
theorem openLL : OpenV Try.prog 87 dLL := OpenV.slice Try.underlying87 (Opens.slice Try.underlying87 encL_len (by kernel_rfl) (by decide) open32)
def dU (l : List Int) : D := .sl 1 l.length (l.flatMap encU)
theorem openU : OpenV Try.prog 22 dU := OpenV.slice Try.underlying22 (Opens.slice Try.underlying22 encU_len (by kernel_rfl) (by decide) (Opens.int Try.underlying5))
def d8b (n : {n : Int // 0 ≤ n ∧ n ≤ 255}) : D := .s (.int .u8 n.1)
theorem openV_u8 {P : Program} {t : TypeId} (ht : P.underlying t = some (.int .u8)) : OpenV P t d8b := by
  intro W base H en v dd ps hok ⟨fuel, ht2⟩
  obtain ⟨n, h2, _, hw⟩ := DataW.trod_int ht ht2
  have hb : 0 ≤ n ∧ n ≤ 255 := by
    have hw2 : (decide ((0 : Int) ≤ n) && decide (n ≤ (255 : Int))) = true := hw
    simpa using hw2
  unfold Value.okWide at hok
  rw [ht] at hok
  simp only [Cell.okWide, ht] at hok
  refine ⟨⟨n, hb⟩, ?_⟩
  cases v <;> simp [Cell.ok, ht] at hok
  simp [Value.cells] at h2
  simp only [d8b, DR, S.val]
  rw [h2.1, h2.2]
theorem open8b : OpenV Try.prog 5 d8b := openV_u8 Try.underlying5
def d16b (n : {n : Int // 0 ≤ n ∧ n ≤ 65535}) : D := .s (.int .u16 n.1)
theorem openV_u16 {P : Program} {t : TypeId} (ht : P.underlying t = some (.int .u16)) : OpenV P t d16b := by
  intro W base H en v dd ps hok ⟨fuel, ht2⟩
  obtain ⟨n, h2, _, hw⟩ := DataW.trod_int ht ht2
  have hb : 0 ≤ n ∧ n ≤ 65535 := by
    have hw2 : (decide ((0 : Int) ≤ n) && decide (n ≤ (65535 : Int))) = true := hw
    simpa using hw2
  unfold Value.okWide at hok
  rw [ht] at hok
  simp only [Cell.okWide, ht] at hok
  refine ⟨⟨n, hb⟩, ?_⟩
  cases v <;> simp [Cell.ok, ht] at hok
  simp [Value.cells] at h2
  simp only [d16b, DR, S.val]
  rw [h2.1, h2.2]
theorem open16b : OpenV Try.prog 96 d16b := openV_u16 Try.underlying96
theorem ownKn : ownKnob Try.prog.godebug = none := by kernel_rfl
theorem laidOut : laidOutB Try.prog = true := by kernel_rfl
end Go.Proofs.Ytoeendggmalcpaa

open Go.Vm
open Psg
namespace Go.Proofs.Ytoeendggmalcpaa
set_option maxRecDepth 20000
set_option maxHeartbeats 4000000
/-! ### A calendar -/
def calR (D : List Int) (n : Nat) : Rw := (List.range n).map (rowD D)
theorem rowD_len {D : List Int} (hl : D.length = 160) {p : Nat} (hp : p < 10) : (rowD D p).length = 16 := by
  unfold rowD
  rw [List.length_take, List.length_drop]; omega
theorem cal_sz {D : List Int} (hl : D.length = 160) {n : Nat} (hn : n ≤ 10) : Sz n (calR D n) := by
  refine ⟨by unfold calR; rw [List.length_map, List.length_range], fun r hr => ?_⟩
  obtain ⟨p, hp, rfl⟩ := List.mem_map.1 hr
  exact rowD_len hl (by have := List.mem_range.1 hp; omega)
def ksC (c : Cm) : List Vm.D := c.map fun e => dKy e.1
def vsC (c : Cm) : List Vm.D := c.map fun e => dSt e.2
def encTr (N : Nt) (x : Hd) (D : List Int) (c : Cm) : List Vm.D := DI N.p :: .sl 8 N.ws.length (N.ws.flatMap encWy) :: DI x.p :: DI x.d :: DI x.s :: (D.map DI ++ [.mp (ksC c) (vsC c)])
theorem fz_trip {t : TCtx} {loc : List Blk} {j : Nat} {i : Vm.Id} {N : Nt} {x : Hd} {D : List Int} {c : Cm} (hl : loc[j]? = some (trB N x D i)) (hm : VTo t (.map i) (.fm (ksC c) (vsC c))) : ∃ b l, loc[j]? = some b ∧ b.row = some (true, l) ∧ RowTo t l ((encTr N x D c).map Vm.D.v) := by
  refine ⟨_, _, hl, rfl, RowTo.vtos ?_⟩
  have e : (encTr N x D c).map Vm.D.v = preT N x ++ D.map I ++ [.fm (ksC c) (vsC c)] := by
    unfold encTr preT
    simp only [List.map_cons, List.map_append, List.map_map, List.map_nil, List.cons_append, List.nil_append]
    rfl
  rw [e, List.append_assoc, List.append_assoc]
  exact VTos.app (VTos.app (VTos.cons hm VTos.nil) (VTos.ints t D)) (VTos.pre t N x)
theorem fm_trip {t : TCtx} {loc : List Blk} {j : Nat} {c : Cm} (hl : loc[j]? = some (.map (cmE c))) : ∃ es, loc[j]? = some (.map es) ∧ EsTo t es (ksC c) (vsC c) :=
  ⟨_, hl, by rw [cmE_fst]; exact RowTo.dv _ _, by rw [cmE_snd]; exact RowTo.dv _ _⟩
theorem tr_drop {D : List Int} {post : List Vm.D} {k : Nat} (hl : D.length = 160) (hk : k < 10) : (D.map DI ++ post).drop ((k : Int).toNat * 16) = (rowD D k).flatMap Vm.encI ++ ((D.drop (16 * k + 16)).map DI ++ post) := by
  have e : ∀ l : List Int, l.flatMap Vm.encI = l.map DI := fun l => by rw [List.map_eq_flatMap]; rfl
  rw [e, Int.toNat_natCast, List.drop_append_of_le_length (by rw [List.length_map]; omega), ← List.map_drop, ← List.append_assoc, ← List.map_append]
  unfold rowD
  rw [Nat.mul_comm k 16, ← List.drop_drop, List.take_append_drop]
def clV (N : Nt) (x : Hd) : Rw := if hrd N x = 0 then calR (bgn N.ws x).D N.p.toNat else []
theorem mn_min (f : Nat → Int) (k : Nat) : mn f (k + 1) = min (mn f k) (f (k + 1)) := by
  rw [mn]; split <;> omega
theorem vc_Min (l : List Int) (h : Hp) (hl : l.length ≤ 4000000) (h0 : 0 < l.length) : VC Try.prog 101 [ints l] h (I (mn (fun s => l.getD s 1001) (l.length - 1))) h := by
  have hg : ∀ k, k < l.length → l[k]? = some (l.getD k 1001) := fun k hk => by
    rw [List.getD_eq_getElem?_getD, List.getElem?_eq_getElem hk]; rfl
  generalize hf : (fun s => l.getD s 1001) = f
  have hg : ∀ k, k < l.length → l[k]? = some (f k) := fun k hk => by rw [← hf]; exact hg k hk
  clear hf
  refine VC.body Try.func101 rfl Try.ntmps101 Try.call101 (h.grows_refl) rfl ?_; conv => whnf
  repeat' (first | ((first | refine zs1 ?_ | refine zs2 ?_ | refine zs3 ?_ | refine zs4 ?_ | refine zs5 ?_ | refine zs6 [] ?_); conv => whnf) | ((first | apply zi1 | apply zi2 | apply zi3 | apply zi4 | apply zi5) <;> intro _ <;> conv => whnf) | (refine VAny.ix encI_len 0 rfl rfl (hg 0 h0) ?_; conv => whnf))
  all_goals try (exfalso; omega)
  refine VCode.lp (fun k : Nat => [(0, ints l), (3, I (mn f k)), (4, I ((k + 1 : Nat) : Int))]) (fun _ => []) (fun k => k < l.length) (fun k => l.length - k) 0 h0 ?_ ?_
  · rw [show mn f 0 = f 0 from rfl]
    conv => whnf
    refine Retell.turn ⟨[], 0, [], []⟩ (TurnOk.mk' _ _ [] [] (OutOk.lift _) rfl (by decide) zb trivial trivial rfl) zw zm
  · rintro k hk
    conv => whnf
    refine VIte.dec (fun h1 => ?_) (fun h1 => ?_)
    · have hx := hg (k + 1) (by omega)
      have hst := mn_min f k
      generalize hq : mn f (k + 1) = q at hst
      generalize mn f k = m at hst
      generalize f (k + 1) = y at hx hst
      conv => whnf
      repeat' (first | ((first | refine zs1 ?_ | refine zs2 ?_ | refine zs3 ?_ | refine zs4 ?_ | refine zs5 ?_ | refine zs6 [] ?_); conv => whnf) | ((first | apply zi1 | apply zi2 | apply zi3 | apply zi4 | apply zi5) <;> intro _ <;> conv => whnf) | (refine VAny.ix encI_len (k + 1) rfl rfl hx ?_; conv => whnf))
      refine LEnd.intro (k + 1) (by omega) (by omega) ?_
      rw [hq, hst]
      conv => whnf
      refine Retell.turn ⟨[], 0, [], []⟩ (TurnOk.mk' _ _ [] [] (OutOk.lift _) rfl (by decide) zb trivial trivial rfl) zw zm
    · obtain rfl : k = l.length - 1 := by omega
      conv => whnf
      repeat' (first | ((first | refine zs1 ?_ | refine zs2 ?_ | refine zs3 ?_ | refine zs4 ?_ | refine zs5 ?_ | refine zs6 [] ?_); conv => whnf) | ((first | apply zi1 | apply zi2 | apply zi3 | apply zi4 | apply zi5) <;> intro _ <;> conv => whnf))
      exact VOut.same rfl
end Go.Proofs.Ytoeendggmalcpaa

open Go.Vm
open Psg
namespace Go.Proofs.Ytoeendggmalcpaa
set_option maxRecDepth 20000
set_option maxHeartbeats 4000000
theorem vc_IndexFL (T : List (List Int)) (q : List Int → Bool) (g : FuncId) (f caps : List D) (hl : T.length ≤ 4000000) (hso : ∀ e ∈ T, ∀ h : Hp, VC Try.prog g (D.vs f ++ [ints e] ++ D.vs caps) h (B (q e)) h) (h : Hp) :
    VC Try.prog 126 [intss T, .func (.func g) (D.vs f) (D.vs caps)] h (I (fidx q T 0)) h := by
  obtain ⟨E, hE⟩ : ∃ E, E = fidx q T 0 := ⟨_, rfl⟩
  rw [← hE]
  refine VC.body Try.func126 rfl Try.ntmps126 Try.call126 (h.grows_refl) rfl ?_; conv => whnf
  rw [rens_dvs, rens_dvs]
  repeat' (first | ((first | refine zs1 ?_ | refine zs2 ?_ | refine zs3 ?_ | refine zs4 ?_ | refine zs5 ?_ | refine zs6 [] ?_); conv => whnf) | ((first | apply zi1 | apply zi2 | apply zi3 | apply zi4 | apply zi5) <;> intro _ <;> conv => whnf))
  refine VCode.lp (fun k : Nat => [(0, intss T), (1, .func (.func g) (D.vs f) (D.vs caps)), (7, I T.length), (8, I k)]) (fun _ => []) (fun k => k ≤ T.length ∧ E = fidx q (T.drop k) k) (fun k => T.length - k) 0 ⟨Nat.zero_le _, hE⟩ ?_ ?_
  · conv => whnf
    refine Retell.turn ⟨[], 0, [], []⟩ (TurnOk.mk' _ _ [] [] (OutOk.lift _) rfl (by decide) zb trivial trivial rfl) zw zm
  · rintro k ⟨h1, h2⟩
    conv => whnf
    refine VIte.dec (fun h3 => ?_) (fun h3 => ?_)
    · have ha : T[k]? = some T[k] := List.getElem?_eq_getElem (by omega)
      have hm := hso T[k] (List.getElem_mem (by omega))
      generalize T[k] = a at ha hm
      rw [fidx_at ha] at h2
      conv => whnf
      repeat' (first | ((first | refine zs1 ?_ | refine zs2 ?_ | refine zs3 ?_ | refine zs4 ?_ | refine zs5 ?_ | refine zs6 [] ?_); conv => whnf) | ((first | apply zi1 | apply zi2 | apply zi3 | apply zi4 | apply zi5) <;> intro _ <;> conv => whnf) | (refine VAny.ix encL_len k (by omega) rfl ha ?_; conv => whnf))
      refine VCall.intro (hm _) ?_
      conv => whnf
      cases hq : q a
      · rw [hq] at h2
        conv => whnf
        repeat (first | ((first | refine zs1 ?_ | refine zs2 ?_ | refine zs3 ?_ | refine zs4 ?_ | refine zs5 ?_ | refine zs6 [] ?_); conv => whnf))
        refine LEnd.intro (k + 1) ⟨by omega, h2⟩ (by omega) ?_
        conv => whnf
        refine Retell.turn ⟨[], 0, [], []⟩ (TurnOk.mk' _ _ [] [] (OutOk.lift _) rfl (by decide) zb trivial trivial rfl) zw zm
      · rw [hq] at h2
        rw [h2]
        conv => whnf
        repeat (first | ((first | refine zs1 ?_ | refine zs2 ?_ | refine zs3 ?_ | refine zs4 ?_ | refine zs5 ?_ | refine zs6 [] ?_); conv => whnf))
        exact VOut.same rfl
    · rw [List.drop_of_length_le (by omega), fidx] at h2
      rw [h2]
      conv => whnf
      repeat (first | ((first | refine zs1 ?_ | refine zs2 ?_ | refine zs3 ?_ | refine zs4 ?_ | refine zs5 ?_ | refine zs6 [] ?_); conv => whnf))
      exact VOut.same rfl
theorem vc_allL1 (q : List Int → Bool) (g : FuncId) (x : List Int) (hso : ∀ h : Hp, VC Try.prog g (D.vs [] ++ [ints x] ++ D.vs []) h (B (q x)) h) (h : Hp) : VC Try.prog 127 ([ints x] ++ D.vs [.pt [.func (.func g) [] []]]) h (B (!q x)) h := by
  have c := fun h => hso h
  refine VC.body Try.func127 rfl Try.ntmps127 Try.call127 (h.grows_refl) rfl ?_; conv => whnf
  repeat' (first | ((first | refine zs1 ?_ | refine zs2 ?_ | refine zs3 ?_ | refine zs4 ?_ | refine zs5 ?_ | refine zs6 [] ?_); conv => whnf) | ((first | apply zi1 | apply zi2 | apply zi3 | apply zi4 | apply zi5) <;> intro _ <;> conv => whnf) | (refine VCall.intro (c _) ?_; conv => whnf))
  exact VOut.same rfl
theorem vc_allL (T : List (List Int)) (q : List Int → Bool) (g : FuncId) (hl : T.length ≤ 4000000) (hso : ∀ e ∈ T, ∀ h : Hp, VC Try.prog g (D.vs [] ++ [ints e] ++ D.vs []) h (B (q e)) h) (h : Hp) : VC Try.prog 96 [intss T, .func (.func g) (D.vs []) (D.vs [])] h (B (T.all q)) h := by
  have c := fun h => vc_IndexFL T (fun p => !q p) 127 [] [.pt [.func (.func g) [] []]] hl (fun p hp h => vc_allL1 q g p (hso p hp) h) h
  have e : decide (fidx (fun p => !q p) T 0 = -1) = T.all q := by
    rw [fidx_no _ _ (Int.le_refl _)]
    simp
  rw [← e]
  generalize fidx (fun p => !q p) T 0 = E at c
  refine VC.body Try.func96 rfl Try.ntmps96 Try.call96 (h.grows_refl) rfl ?_; conv => whnf
  repeat' (first | ((first | refine zs1 ?_ | refine zs2 ?_ | refine zs3 ?_ | refine zs4 ?_ | refine zs5 ?_ | refine zs6 [] ?_); conv => whnf) | ((first | apply zi1 | apply zi2 | apply zi3 | apply zi4 | apply zi5) <;> intro _ <;> conv => whnf))
  refine VCall.intro (VC.give (args' := [intss T, .func (.func 127) [] [.fp [.func (.func g) [] []]]]) (loc' := [.dead]) [(0, [.func (.func g) [] []])] [] (OutOk.lift _) zb zf (by exact FmAll.nil) rfl zv (c _)) ?_
  conv => whnf
  repeat (first | ((first | refine zs1 ?_ | refine zs2 ?_ | refine zs3 ?_ | refine zs4 ?_ | refine zs5 ?_ | refine zs6 [] ?_); conv => whnf))
  exact VOut.same rfl
theorem vc_prv1 (r : List Int) (h : Hp) : VC Try.prog 97 (D.vs [] ++ [ints r] ++ D.vs []) h (B (decide (r.length = 16))) h := by
  refine VC.body Try.func97 rfl Try.ntmps97 Try.call97 (h.grows_refl) rfl ?_; conv => whnf
  repeat' (first | ((first | refine zs1 ?_ | refine zs2 ?_ | refine zs3 ?_ | refine zs4 ?_ | refine zs5 ?_ | refine zs6 [] ?_); conv => whnf) | ((first | apply zi1 | apply zi2 | apply zi3 | apply zi4 | apply zi5) <;> intro _ <;> conv => whnf))
  refine VOut.same ?_
  have : ((r.length : Int) == 16) = decide (r.length = 16) := by
    rw [Bool.eq_iff_iff, decide_eq_true_eq, beq_iff_eq]; omega
  simp only [V.ren, this]
theorem vc_prv3 (d : Int) (h : Hp) : VC Try.prog 99 (D.vs [] ++ [I d] ++ D.vs []) h (B (inB d 0 1001)) h := by
  have e : inB d 0 1001 = decide (0 ≤ d ∧ d ≤ 1001) := by
    rw [Bool.eq_iff_iff, inB_iff, decide_eq_true_eq]
  rw [e]
  have c := fun h => vc_from d 0 1001 h
  generalize decide (0 ≤ d ∧ d ≤ 1001) = b at c
  refine VC.body Try.func99 rfl Try.ntmps99 Try.call99 (h.grows_refl) rfl ?_; conv => whnf
  repeat' (first | ((first | refine zs1 ?_ | refine zs2 ?_ | refine zs3 ?_ | refine zs4 ?_ | refine zs5 ?_ | refine zs6 [] ?_); conv => whnf) | ((first | apply zi1 | apply zi2 | apply zi3 | apply zi4 | apply zi5) <;> intro _ <;> conv => whnf) | (refine VCall.intro (c _) ?_; conv => whnf))
  exact VOut.same rfl
theorem vc_prv2 (r : List Int) (h : Hp) (hr : r.length ≤ 4000000) : VC Try.prog 98 (D.vs [] ++ [ints r] ++ D.vs []) h (B (r.all fun d => inB d 0 1001)) h := by
  have c := fun h => vc_allN r (fun d => inB d 0 1001) 99 hr (fun e _ h => vc_prv3 e h) h
  generalize (r.all fun d => inB d 0 1001) = b at c
  refine VC.body Try.func98 rfl Try.ntmps98 Try.call98 (h.grows_refl) rfl ?_; conv => whnf
  repeat' (first | ((first | refine zs1 ?_ | refine zs2 ?_ | refine zs3 ?_ | refine zs4 ?_ | refine zs5 ?_ | refine zs6 [] ?_); conv => whnf) | ((first | apply zi1 | apply zi2 | apply zi3 | apply zi4 | apply zi5) <;> intro _ <;> conv => whnf) | (refine VCall.intro (c _) ?_; conv => whnf))
  exact VOut.same rfl
def dRw (R : Rw) : D := .sl 1 R.length (R.flatMap encL)
theorem okW_gn {R : Rw} {p s : Nat} {w : Wy} : okW R p s w = bif gnB w ⟨p, atR R p s, s⟩ then decide (atR R (gnV w ⟨p, atR R p s, s⟩).p (gnV w ⟨p, atR R p s, s⟩).s ≤ (gnV w ⟨p, atR R p s, s⟩).d) else true := by
  unfold okW
  rw [gone_eq]
  cases gnB w ⟨p, atR R p s, s⟩ <;> rfl
structure PJ (o : Vm.Id → Option Blk) (e : Int) (g : Hp) : Prop where
  o : g.outer = o
  b0 : g.get (.loc 0) = some (.flat true [DI 0])
  b1 : g.get (.loc 1) = some (.flat true [DI e])
  b2 : g.get (.loc 2) = some .mark
structure PJ2 (o : Vm.Id → Option Blk) (g : Hp) : Prop where
  o : g.outer = o
  b0 : g.get (.loc 0) = some (.flat true [DI 0])
  b1 : g.get (.loc 1) = some (.flat true [DI 9])
  b2 : g.get (.loc 2) = some .mark
theorem vc_Proves (N : Nt) (x : Hd) (R : Rw) (to : Int) (h : Hp) (hn : N.ws.length ≤ 4000000) (hR : R.length ≤ 4000000) : VC Try.prog 53 [vN N, vHd x, intss R, I to] h (.tuple [I (prV N x R to), I (prE N x R to)]) h := by
  obtain ⟨E, hE⟩ : ∃ E, E = prE N x R to := ⟨_, rfl⟩
  obtain ⟨V, hV⟩ : ∃ V, V = prV N x R to := ⟨_, rfl⟩
  rw [← hE, ← hV]
  unfold prV at hV
  rw [← hE] at hV
  unfold prE at hE
  have cH := fun h => vc_herded N x h hn
  by_cases h0 : hrd N x = 0
  · obtain ⟨n, hN, hx⟩ := hrd_ok h0
    rw [h0] at cH
    rw [if_pos h0] at hE
    have hp := hN.p
    have hn1 := hN.n1
    have hwl := hN.len
    have hxp := hx.p
    have hxs := hx.s
    have hxd := hx.d
    unfold Pp at hxs
    rw [show N.p.toNat = n by omega] at hE
    have cA := fun h => vc_allL R (fun r => decide (r.length = 16)) 97 hR (fun e _ h => vc_prv1 e h) h
    have hsz : szR N.p R = (decide ((R.length : Int) = N.p) && R.all fun r => decide (r.length = 16)) := rfl
    refine VC.bodyC 1 Try.func53 rfl Try.ntmps53 Try.call53 (h.grows_refl) rfl ?_; conv => whnf
    refine VCut.at' (outer := h.lift) (marks := []) 99 [(3, I to), (4, .fp (encN N)), (5, .fp (encHd x)), (6, .fp [dRw R]), (8, .ptr (.loc 0) 0), (9, .ptr (.loc 1) 0)] [.flat true [DI 0], .flat true [DI 0]] ?_ ?_
    · conv => whnf
      refine Retell.turn ⟨[3,4], 5, [(0, encN N), (1, encHd x), (2, [dRw R])], []⟩ (TurnOk.mk' _ _ [(0, encN N), (1, encHd x), (2, [dRw R])] [] (OutOk.lift _) rfl (by decide) zb zf trivial rfl) zw zm
    by_cases h1 : szR N.p R = true
    · have hS := Sz.of hp h1
      have hrow := szR_iff.1 h1
      have hRl := hS.len
      rw [hsz, Bool.and_eq_true] at h1
      rw [h1.2] at cA
      rw [if_pos (by rw [hsz, Bool.and_eq_true]; exact h1)] at hE
      clear hsz
      have cV := fun h => vc_allL R (fun r => r.all fun d => inB d 0 1001) 98 hR (fun e he h => vc_prv2 e h (by have := hrow.2 e he; omega)) h
      have hvd : valR R = R.all fun r => r.all fun d => inB d 0 1001 := rfl
      rw [← hvd] at cV
      clear hvd
      by_cases h2 : valR R = true
      · rw [h2] at cV
        rw [if_pos h2] at hE
        obtain ⟨r0, k1, k2, k3⟩ := atR_mem hS (p := x.p.toNat) (s := x.s.toNat) (by omega) (by omega)
        rw [Int.toNat_of_nonneg hxp.1, Int.toNat_of_nonneg hxs.1] at k3
        by_cases h3 : atR R x.p x.s ≤ x.d
        · conv => whnf
          repeat' (first | ((first | refine zs1 ?_ | refine zs2 ?_ | refine zs3 ?_ | refine zs4 ?_ | refine zs5 ?_); conv => whnf) | ((first | apply zi1 | apply zi2 | apply zi3 | apply zi4 | apply zi5) <;> intro _ <;> conv => whnf) | (refine VCall.intro (cH _) ?_; conv => whnf) | (refine VCall.intro (cA _) ?_; conv => whnf) | (refine VCall.intro (cV _) ?_; conv => whnf))
          all_goals try contradiction
          all_goals try (exfalso; omega)
          refine zs6 [] ?_
          conv => whnf
          repeat' (first | ((first | refine zs1 ?_ | refine zs2 ?_ | refine zs3 ?_ | refine zs4 ?_ | refine zs5 ?_); conv => whnf) | ((first | apply zi1 | apply zi2 | apply zi3 | apply zi4 | apply zi5) <;> intro _ <;> conv => whnf) | (refine VAny.ix encL_len x.p.toNat (by omega) rfl k1 ?_; conv => whnf) | (refine VAny.ix encI_len x.s.toNat (by omega) rfl k3 ?_; conv => whnf))
          all_goals try contradiction
          all_goals try (exfalso; omega)
          have hown := h3
          refine VCode.lp (outer := h.lift) (marks := []) (fun p : Nat => [(3, I to), (4, .fp (encN N)), (6, .fp [dRw R]), (8, .ptr (.loc 0) 0), (9, .ptr (.loc 1) 0), (54, intss R), (55, I R.length), (56, I p)]) (fun _ => [.flat true [DI 0], .flat true [DI 0]]) (fun p => p ≤ n ∧ OkTo N.ws R (16 * p)) (fun p => n - p) 0 ⟨Nat.zero_le _, OkTo.zero _ _⟩ ?_ ?_
          · conv => whnf
            refine Retell.turn ⟨[0,1], 2, [], []⟩ (TurnOk.mk' _ _ [] [] (OutOk.lift _) rfl (by decide) zb trivial trivial rfl) zw zm
          · rintro p ⟨p1, p2⟩
            rcases Nat.lt_or_ge p n with q1 | q1
            · obtain ⟨r, r1, r2, _⟩ := atR_mem hS (p := p) (s := 0) q1 (by omega)
              have hrs : ∀ s : Nat, s < 16 → r[s]? = some (atR R p s) := fun s hs => by
                obtain ⟨r', g1, _, g3⟩ := atR_mem hS (p := p) (s := s) q1 hs
                rw [r1] at g1; injection g1 with g1; subst g1; exact g3
              conv => whnf
              repeat' (first | ((first | refine zs1 ?_ | refine zs2 ?_ | refine zs3 ?_ | refine zs4 ?_ | refine zs5 ?_); conv => whnf) | ((first | apply zi1 | apply zi2 | apply zi3 | apply zi4 | apply zi5) <;> intro _ <;> conv => whnf) | (refine VAny.ix encL_len p rfl rfl r1 ?_; conv => whnf))
              all_goals try (exfalso; omega)
              refine VCode.lp (outer := h.lift) (marks := []) (fun s : Nat => [(3, I to), (4, .fp (encN N)), (6, .fp [dRw R]), (8, .ptr (.loc 0) 0), (9, .ptr (.loc 1) 0), (11, .fp [DI p]), (54, intss R), (55, I R.length), (56, I p), (61, ints r), (62, I r.length), (63, I s)]) (fun _ => [.flat true [DI 0], .flat true [DI 0]]) (fun s => s ≤ 16 ∧ OkTo N.ws R (16 * p + s)) (fun s => 16 - s) 0 ⟨Nat.zero_le _, p2⟩ ?_ ?_
              · conv => whnf
                refine Retell.turn ⟨[0,1], 3, [(2, [DI p])], []⟩ (TurnOk.mk' _ _ [(2, [DI p])] [] (OutOk.lift _) rfl (by decide) zb zf trivial rfl) zw zm
              · rintro s ⟨s1, s2⟩
                rcases Nat.lt_or_ge s 16 with q2 | q2
                · have hd := hrs s q2
                  have hdb := atR_bd hS h2 q1 q2
                  have hokg := fun w => okW_gn (R := R) (p := p) (s := s) (w := w)
                  have hstep := fun h => OkTo.step (R := R) (ws := N.ws) (p := p) (s := s) s2 q2 h
                  have hbad := fun w hw => holds_no (n := n) (ws := N.ws) (x := x) (R := R) (p := p) (s := s) (w := w) q1 q2 hw
                  generalize atR R p s = d at hd hdb hokg
                  conv => whnf
                  repeat' (first | ((first | refine zs1 ?_ | refine zs2 ?_ | refine zs3 ?_ | refine zs4 ?_ | refine zs5 ?_); conv => whnf) | ((first | apply zi1 | apply zi2 | apply zi3 | apply zi4 | apply zi5) <;> intro _ <;> conv => whnf) | (refine VAny.ix encI_len s rfl rfl hd ?_; conv => whnf) | (refine VCall.intro (vc_leading N p _) ?_; conv => whnf))
                  all_goals try (exfalso; omega)
                  refine VCode.tell [(3, I to), (4, .fp (encN N)), (6, .fp [dRw R]), (8, .ptr (.loc 0) 0), (9, .ptr (.loc 1) 0), (11, .fp [DI p]), (13, .fp [DI s]), (14, .fp [DI d]), (54, intss R), (55, I R.length), (56, I p), (61, ints r), (62, I r.length), (63, I s), (70, vLead N p)] [.flat true [DI 0], .flat true [DI 0]] (marks' := []) ?_ ?_
                  · conv => whnf
                    refine Retell.turn ⟨[0,1], 4, [(2, [DI s]), (3, [DI d])], []⟩ (TurnOk.mk' _ _ [(2, [DI s]), (3, [DI d])] [] (OutOk.lift _) rfl (by decide) zb zf trivial rfl) zw zm
                  · conv => whnf
                    refine VCode.iterN N.ws.length (ldY N p) (fun k g => PJ h.lift 0 g ∧ ∀ w ∈ N.ws.take k, okW R p s w = true) (fun e g => e = .ret ∧ PJ2 h.lift g ∧ holds n N.ws x R = false) _ (.loc 3) rfl (iter_lead N p hn) rfl rfl ⟨⟨rfl, rfl, rfl, rfl⟩, by simp⟩ ?_ ?_ ?_ ?_
                    · rintro k g hk hy ⟨hJ, ha⟩
                      refine ⟨hJ, fun v hv => ?_⟩
                      have hw : N.ws[k]? = some N.ws[k] := List.getElem?_eq_getElem hk
                      rw [List.take_add_one, hw] at hv
                      rcases List.mem_append.1 hv with hv | hv
                      · exact ha v hv
                      · rw [ldY_eq hw] at hy
                        have hf : ¬ N.ws[k].f = p := fun e => by rw [decide_eq_true e] at hy; cases hy
                        have hv : v = N.ws[k] := by simpa using hv
                        subst hv
                        rw [hokg]
                        have : gnB N.ws[k] ⟨p, d, s⟩ = false := by
                          unfold gnB
                          rw [decide_eq_false_iff_not]
                          exact fun h => hf h.1.symm
                        rw [this]; rfl
                    · rintro k g vs hk hy ⟨hJ, ha⟩ hlp
                      have hw : N.ws[k]? = some N.ws[k] := List.getElem?_eq_getElem hk
                      have hwm : N.ws[k] ∈ N.ws := List.getElem_mem hk
                      have hwo := hN.ws N.ws[k] hwm
                      have htk : N.ws.take (k + 1) = N.ws.take k ++ [N.ws[k]] := by rw [List.take_add_one, hw]; rfl
                      rw [ldY_eq hw] at hy
                      have hf : N.ws[k].f = p := Decidable.byContradiction fun e => by rw [decide_eq_false e] at hy; cases hy
                      rw [decide_eq_true hf] at hy
                      have hok := hokg N.ws[k]
                      have hbk := hbad N.ws[k] hwm
                      generalize N.ws[k] = w at *
                      cases hy
                      have cG := fun h => vc_gone w ⟨p, d, s⟩ h hwo (by dsimp only; omega) ⟨by dsimp only; omega, by dsimp only; omega⟩
                      have hgo : gnB w ⟨p, d, s⟩ = true → InR n ((gnV w ⟨p, d, s⟩).p, (gnV w ⟨p, d, s⟩).s) := fun hg => by
                        have h1 : gone w ⟨p, d, s⟩ = some (gnV w ⟨p, d, s⟩) := by rw [gone_eq, hg]; rfl
                        have h2 := gone_ok hwo ⟨by dsimp only; omega, by dsimp only; omega⟩ h1
                        exact ⟨h2.2.2.1, h2.2.2.2.2.2.2⟩
                      obtain ⟨j0, j1, j2, j3⟩ := hJ
                      generalize gnV w ⟨p, d, s⟩ = y at cG hgo hok
                      have hall : okW R p s w = true → ∀ v ∈ N.ws.take (k + 1), okW R p s v = true := fun h v hv => by
                        rw [htk] at hv
                        rcases List.mem_append.1 hv with hv | hv
                        · exact ha v hv
                        · rw [List.mem_singleton.1 hv]; exact h
                      cases hg : gnB w ⟨p, d, s⟩
                      · rw [hg] at cG hok
                        left
                        refine ⟨g, VRound.vy' hlp rfl rfl rfl g.grows_refl fun l0 => ?_, ⟨⟨j0, j1, j2, j3⟩, hall hok⟩, hlp⟩
                        refine VRound.tell [(4, .fp (encN N)), (6, .fp [dRw R]), (8, .ptr (.out (.loc 0)) 0), (9, .ptr (.out (.loc 1)) 0), (11, .fp [DI p]), (13, .fp [DI s]), (14, .fp [DI d]), (71, I k), (72, vWy w)] ?_ ?_
                        · conv => whnf
                          refine Retell.turn ⟨[], 0, [], []⟩ (TurnOk.mk' _ _ [] [] (OutOk.lift _) rfl (by decide) zb trivial trivial rfl) zw zm
                        · conv => whnf
                          repeat (first | ((first | refine zs1 ?_ | refine zs2 ?_ | refine zs3 ?_ | refine zs4 ?_ | refine zs5 ?_ | refine zs6 [] ?_); conv => whnf))
                          refine VBegin.intro (get_out hlp _) rfl ?_
                          conv => whnf
                          repeat' (first | ((first | refine zs1 ?_ | refine zs2 ?_ | refine zs3 ?_ | refine zs4 ?_ | refine zs5 ?_); conv => whnf) | ((first | apply zi1 | apply zi2 | apply zi3 | apply zi4 | apply zi5) <;> intro _ <;> conv => whnf) | (refine VCall.intro (cG _) ?_; conv => whnf))
                          refine zs6 [] ?_
                          conv => whnf
                          repeat' (first | ((first | refine zs1 ?_ | refine zs2 ?_ | refine zs3 ?_ | refine zs4 ?_ | refine zs5 ?_); conv => whnf) | ((first | apply zi1 | apply zi2 | apply zi3 | apply zi4 | apply zi5) <;> intro _ <;> conv => whnf))
                          all_goals first | exact RFin.on (outW_get _ _ _ _) (VOut.back (get_out hlp []) rfl) | contradiction | (exfalso; omega)
                      · rw [hg] at cG hok
                        have hy := hgo hg
                        have hyp := hy.1
                        have hys := hy.2
                        unfold Pp at hys
                        dsimp only at hyp hys
                        obtain ⟨r3, g1, g2, g3⟩ := atR_mem hS (p := y.p.toNat) (s := y.s.toNat) (by omega) (by omega)
                        rw [Int.toNat_of_nonneg hyp.1, Int.toNat_of_nonneg hys.1] at g3
                        generalize atR R y.p y.s = e at g3 hok
                        by_cases hle : e ≤ y.d
                        · rw [decide_eq_true hle] at hok
                          left
                          refine ⟨g, VRound.vy' hlp rfl rfl rfl g.grows_refl fun l0 => ?_, ⟨⟨j0, j1, j2, j3⟩, hall hok⟩, hlp⟩
                          refine VRound.tell [(4, .fp (encN N)), (6, .fp [dRw R]), (8, .ptr (.out (.loc 0)) 0), (9, .ptr (.out (.loc 1)) 0), (11, .fp [DI p]), (13, .fp [DI s]), (14, .fp [DI d]), (71, I k), (72, vWy w)] ?_ ?_
                          · conv => whnf
                            refine Retell.turn ⟨[], 0, [], []⟩ (TurnOk.mk' _ _ [] [] (OutOk.lift _) rfl (by decide) zb trivial trivial rfl) zw zm
                          · conv => whnf
                            repeat (first | ((first | refine zs1 ?_ | refine zs2 ?_ | refine zs3 ?_ | refine zs4 ?_ | refine zs5 ?_ | refine zs6 [] ?_); conv => whnf))
                            refine VBegin.intro (get_out hlp _) rfl ?_
                            conv => whnf
                            repeat' (first | ((first | refine zs1 ?_ | refine zs2 ?_ | refine zs3 ?_ | refine zs4 ?_ | refine zs5 ?_); conv => whnf) | ((first | apply zi1 | apply zi2 | apply zi3 | apply zi4 | apply zi5) <;> intro _ <;> conv => whnf) | (refine VCall.intro (cG _) ?_; conv => whnf))
                            refine zs6 [] ?_
                            conv => whnf
                            repeat' (first | ((first | refine zs1 ?_ | refine zs2 ?_ | refine zs3 ?_ | refine zs4 ?_ | refine zs5 ?_); conv => whnf) | ((first | apply zi1 | apply zi2 | apply zi3 | apply zi4 | apply zi5) <;> intro _ <;> conv => whnf) | (refine VAny.ix encL_len y.p.toNat (by omega) rfl g1 ?_; conv => whnf) | (refine VAny.ix encI_len y.s.toNat (by omega) (by omega) g3 ?_; conv => whnf))
                            all_goals first | exact RFin.on (outW_get _ _ _ _) (VOut.back (get_out hlp []) rfl) | contradiction | (exfalso; omega)
                        · rw [decide_eq_false hle] at hok
                          have n0 : g.get (.loc 0) ≠ none := by rw [j1]; simp
                          have n1 : (g.set (.loc 0) (.flat true [DI 0])).get (.loc 1) ≠ none := by rw [Hp.get_set g _ _ _ n0, if_neg (by decide), j2]; simp
                          have n2 : ((g.set (.loc 0) (.flat true [DI 0])).set (.loc 1) (.flat true [DI 9])).get (.loc 3) ≠ none := by rw [Hp.get_set _ _ _ _ n1, if_neg (by decide), Hp.get_set g _ _ _ n0, if_neg (by decide), hlp]; simp
                          refine Rnd.stop .ret rfl hlp ((g.set (.loc 0) (.flat true [DI 0])).set (.loc 1) (.flat true [DI 9])) n2 ?_ ⟨rfl, ⟨j0, ?_, ?_, ?_⟩, hbk hok⟩
                          · refine VRound.vy' hlp rfl rfl rfl ?_ fun l0 => ?_
                            · exact grows_set3
                            refine VRound.tell [(4, .fp (encN N)), (6, .fp [dRw R]), (8, .ptr (.out (.loc 0)) 0), (9, .ptr (.out (.loc 1)) 0), (11, .fp [DI p]), (13, .fp [DI s]), (14, .fp [DI d]), (71, I k), (72, vWy w)] ?_ ?_
                            · conv => whnf
                              refine Retell.turn ⟨[], 0, [], []⟩ (TurnOk.mk' _ _ [] [] (OutOk.lift _) rfl (by decide) zb trivial trivial rfl) zw zm
                            · conv => whnf
                              repeat (first | ((first | refine zs1 ?_ | refine zs2 ?_ | refine zs3 ?_ | refine zs4 ?_ | refine zs5 ?_ | refine zs6 [] ?_); conv => whnf))
                              refine VBegin.intro (get_out hlp _) rfl ?_
                              conv => whnf
                              repeat' (first | ((first | refine zs1 ?_ | refine zs2 ?_ | refine zs3 ?_ | refine zs4 ?_ | refine zs5 ?_); conv => whnf) | ((first | apply zi1 | apply zi2 | apply zi3 | apply zi4 | apply zi5) <;> intro _ <;> conv => whnf) | (refine VCall.intro (cG _) ?_; conv => whnf))
                              refine zs6 [] ?_
                              conv => whnf
                              repeat' (first | ((first | refine zs1 ?_ | refine zs2 ?_ | refine zs3 ?_ | refine zs4 ?_ | refine zs5 ?_); conv => whnf) | ((first | apply zi1 | apply zi2 | apply zi3 | apply zi4 | apply zi5) <;> intro _ <;> conv => whnf) | (refine VAny.ix encL_len y.p.toNat (by omega) rfl g1 ?_; conv => whnf) | (refine VAny.ix encI_len y.s.toNat (by omega) (by omega) g3 ?_; conv => whnf) | (refine VMem.st1 rfl rfl rfl (get_outNe (by decide) (get_out j1 _)) rfl ?_; conv => whnf) | (refine VMem.st1 rfl rfl rfl (get_outNe (by decide) (get_outNe (by decide) (get_out j2 _))) rfl ?_; conv => whnf))
                              all_goals try contradiction
                              all_goals try (exfalso; omega)
                              refine RFin.off rfl (get_outNe (by decide) (get_outNe (by decide) (outW_get _ _ _ _))) (VOut.liftS ?_ ?_)
                              · rw [lift_set n2, lift_set n1, lift_set n0]; exact outW_two (by decide) (by decide)
                              · exact grows_set3
                          · rw [Hp.get_set _ _ _ _ n2, if_neg (by decide), Hp.get_set _ _ _ _ n1, if_neg (by decide), Hp.get_set _ _ _ _ n0, if_pos rfl]
                          · rw [Hp.get_set _ _ _ _ n2, if_neg (by decide), Hp.get_set _ _ _ _ n1, if_pos rfl]
                          · rw [Hp.get_set _ _ _ _ n2, if_neg (by decide), Hp.get_set _ _ _ _ n1, if_neg (by decide), Hp.get_set _ _ _ _ n0, if_neg (by decide)]; exact j3
                    · rintro g ⟨⟨j0, j1, j2, j3⟩, ha⟩ hlp
                      rw [List.take_of_length_le (Nat.le_refl _)] at ha
                      obtain ⟨go, gl⟩ := g
                      dsimp only at j0
                      subst j0
                      have j1 : gl[0]? = some _ := j1
                      have j2 : gl[1]? = some _ := j2
                      have j3 : gl[2]? = some _ := j3
                      have l0 := (List.getElem?_eq_some_iff.1 j1).1
                      have l1 := (List.getElem?_eq_some_iff.1 j2).1
                      have key : ∀ (x : Nat) (A : Blk), x ≠ 3 → (gl.set 3 A)[x]? = gl[x]? := fun x A hx => List.getElem?_set_ne (Ne.symm hx)
                      refine Told.mk [(3, I to), (4, .fp (encN N)), (6, .fp [dRw R]), (8, .ptr (.loc 0) 0), (9, .ptr (.loc 1) 0), (11, .fp [DI p]), (54, intss R), (55, I R.length), (56, I p), (61, ints r), (62, I r.length), (63, I s)] [.flat true [DI 0], .flat true [DI 0]] (marks' := []) ?_ ?_
                      · conv => whnf
                        refine Retell.turn ⟨[0, 1], gl.length, [], []⟩ (TurnOk.mk' _ _ [] [] (OutOk.lift _) (Nat.ble_eq_true_of_le (by simp)) (by decide)
                          (BTos.flat (blt_of l0) ((key 0 _ (by omega)).trans j1) rfl (BTos.flat (blt_of l1) ((key 1 _ (by omega)).trans j2) rfl BTos.nil)) trivial trivial rfl) zw
                          (MkTo.drop (show 2 ∉ ([0, 1] : List Nat) by decide) ((key 2 _ (by omega)).trans j3) MkTo.nil)
                      · conv => whnf
                        repeat' (first | ((first | refine zs1 ?_ | refine zs2 ?_ | refine zs3 ?_ | refine zs4 ?_ | refine zs5 ?_); conv => whnf) | ((first | apply zi1 | apply zi2 | apply zi3 | apply zi4 | apply zi5) <;> intro _ <;> conv => whnf))
                        refine LEnd.intro (s + 1) ⟨by omega, hstep ha⟩ (by omega) ?_
                        conv => whnf
                        refine Retell.turn ⟨[0,1], 2, [], []⟩ (TurnOk.mk' _ _ [] [] (OutOk.lift _) rfl (by decide) zb trivial trivial rfl) zw zm
                    · rintro e g hne ⟨rfl, ⟨j0, j1, j2, j3⟩, hno⟩ hlp
                      rw [hno, if_neg (by decide)] at hE
                      subst hE
                      rw [if_neg (by decide)] at hV
                      subst hV
                      obtain ⟨go, gl⟩ := g
                      dsimp only at j0
                      subst j0
                      have j1 : gl[0]? = some _ := j1
                      have j2 : gl[1]? = some _ := j2
                      have j3 : gl[2]? = some _ := j3
                      have l0 := (List.getElem?_eq_some_iff.1 j1).1
                      have l1 := (List.getElem?_eq_some_iff.1 j2).1
                      have key : ∀ (x : Nat) (A : Blk), x ≠ 3 → (gl.set 3 A)[x]? = gl[x]? := fun x A hx => List.getElem?_set_ne (Ne.symm hx)
                      refine Told.mk [(8, .ptr (.loc 0) 0), (9, .ptr (.loc 1) 0)] [.flat true [DI 0], .flat true [DI 9]] (marks' := []) ?_ ?_
                      · conv => whnf
                        refine Retell.turn ⟨[0, 1], gl.length, [], []⟩ (TurnOk.mk' _ _ [] [] (OutOk.lift _) (Nat.ble_eq_true_of_le (by simp)) (by decide)
                          (BTos.flat (blt_of l0) ((key 0 _ (by omega)).trans j1) rfl (BTos.flat (blt_of l1) ((key 1 _ (by omega)).trans j2) rfl BTos.nil)) trivial trivial rfl) zw
                          (MkTo.drop (show 2 ∉ ([0, 1] : List Nat) by decide) ((key 2 _ (by omega)).trans j3) MkTo.nil)
                      · conv => whnf
                        repeat' (first | ((first | refine zs1 ?_ | refine zs2 ?_ | refine zs3 ?_ | refine zs4 ?_ | refine zs5 ?_ | refine zs6 [] ?_); conv => whnf) | ((first | apply zi1 | apply zi2 | apply zi3 | apply zi4 | apply zi5) <;> intro _ <;> conv => whnf))
                        exact VOut.same rfl
                · obtain rfl : s = 16 := by omega
                  conv => whnf
                  repeat' (first | ((first | refine zs1 ?_ | refine zs2 ?_ | refine zs3 ?_ | refine zs4 ?_ | refine zs5 ?_); conv => whnf) | ((first | apply zi1 | apply zi2 | apply zi3 | apply zi4 | apply zi5) <;> intro _ <;> conv => whnf))
                  all_goals try (exfalso; omega)
                  refine LEnd.intro (p + 1) ⟨by omega, by rw [show 16 * (p + 1) = 16 * p + 16 by omega]; exact s2⟩ (by omega) ?_
                  conv => whnf
                  refine Retell.turn ⟨[0,1], 2, [], []⟩ (TurnOk.mk' _ _ [] [] (OutOk.lift _) rfl (by decide) zb trivial trivial rfl) zw zm
            · obtain rfl : p = n := by omega
              have hyes := holds_yes hown p2
              rw [hyes, if_pos rfl] at hE
              by_cases ht : 0 ≤ to ∧ to ≤ N.p - 1
              · rw [if_pos ht] at hE
                subst hE
                rw [if_pos rfl] at hV
                obtain ⟨t, rfl⟩ : ∃ t : Nat, to = t := ⟨to.toNat, by omega⟩
                obtain ⟨r, r1, r2, _⟩ := atR_mem hS (p := t) (s := 0) (by omega) (by omega)
                rw [dayOf_row r1] at hV
                have cM := fun h => vc_Min r h (by omega) (by omega)
                rw [show r.length - 1 = 15 by omega, ← hV] at cM
                conv => whnf
                repeat' (first | ((first | refine zs1 ?_ | refine zs2 ?_ | refine zs3 ?_ | refine zs4 ?_ | refine zs5 ?_); conv => whnf) | ((first | apply zi1 | apply zi2 | apply zi3 | apply zi4 | apply zi5) <;> intro _ <;> conv => whnf) | (refine VCall.intro (vc_posted N t _ (by omega)) ?_; conv => whnf) | (refine VAny.ix encL_len t rfl rfl r1 ?_; conv => whnf) | (refine VCall.intro (cM _) ?_; conv => whnf))
                all_goals try contradiction
                all_goals try (exfalso; omega)
                exact VOut.same rfl
              · rw [if_neg ht] at hE
                subst hE
                rw [if_neg (by decide)] at hV
                subst hV
                conv => whnf
                repeat' (first | ((first | refine zs1 ?_ | refine zs2 ?_ | refine zs3 ?_ | refine zs4 ?_ | refine zs5 ?_); conv => whnf) | ((first | apply zi1 | apply zi2 | apply zi3 | apply zi4 | apply zi5) <;> intro _ <;> conv => whnf) | (refine VCall.intro (vc_posted N to _ (by omega)) ?_; conv => whnf))
                all_goals try contradiction
                all_goals try (exfalso; omega)
                exact VOut.same rfl
        · have hno := holds_own (n := n) (ws := N.ws) h3
          rw [hno, if_neg (by decide)] at hE
          subst hE
          rw [if_neg (by decide)] at hV
          subst hV
          conv => whnf
          repeat' (first | ((first | refine zs1 ?_ | refine zs2 ?_ | refine zs3 ?_ | refine zs4 ?_ | refine zs5 ?_); conv => whnf) | ((first | apply zi1 | apply zi2 | apply zi3 | apply zi4 | apply zi5) <;> intro _ <;> conv => whnf) | (refine VCall.intro (cH _) ?_; conv => whnf) | (refine VCall.intro (cA _) ?_; conv => whnf) | (refine VCall.intro (cV _) ?_; conv => whnf))
          all_goals try contradiction
          all_goals try (exfalso; omega)
          refine zs6 [] ?_
          conv => whnf
          repeat' (first | ((first | refine zs1 ?_ | refine zs2 ?_ | refine zs3 ?_ | refine zs4 ?_ | refine zs5 ?_); conv => whnf) | ((first | apply zi1 | apply zi2 | apply zi3 | apply zi4 | apply zi5) <;> intro _ <;> conv => whnf) | (refine VAny.ix encL_len x.p.toNat (by omega) rfl k1 ?_; conv => whnf) | (refine VAny.ix encI_len x.s.toNat (by omega) rfl k3 ?_; conv => whnf))
          all_goals try contradiction
          all_goals try (exfalso; omega)
          exact VOut.same rfl
      · rw [if_neg h2] at hE
        rw [Bool.not_eq_true] at h2
        rw [h2] at cV
        subst hE
        rw [if_neg (by decide)] at hV
        subst hV
        conv => whnf
        repeat' (first | ((first | refine zs1 ?_ | refine zs2 ?_ | refine zs3 ?_ | refine zs4 ?_ | refine zs5 ?_); conv => whnf) | ((first | apply zi1 | apply zi2 | apply zi3 | apply zi4 | apply zi5) <;> intro _ <;> conv => whnf) | (refine VCall.intro (cH _) ?_; conv => whnf) | (refine VCall.intro (cA _) ?_; conv => whnf) | (refine VCall.intro (cV _) ?_; conv => whnf))
        all_goals try contradiction
        all_goals try (exfalso; omega)
        exact VOut.same rfl
    · rw [if_neg h1] at hE
      subst hE
      rw [if_neg (by decide)] at hV
      subst hV
      rw [hsz, Bool.and_eq_true, decide_eq_true_eq] at h1
      by_cases h2 : (R.length : Int) = N.p
      · have h3 : (R.all fun r => decide (r.length = 16)) = false := by
          rw [Bool.eq_false_iff]; exact fun h => h1 ⟨h2, h⟩
        rw [h3] at cA
        conv => whnf
        repeat' (first | ((first | refine zs1 ?_ | refine zs2 ?_ | refine zs3 ?_ | refine zs4 ?_ | refine zs5 ?_); conv => whnf) | ((first | apply zi1 | apply zi2 | apply zi3 | apply zi4 | apply zi5) <;> intro _ <;> conv => whnf) | (refine VCall.intro (cH _) ?_; conv => whnf) | (refine VCall.intro (cA _) ?_; conv => whnf))
        all_goals try contradiction
        all_goals try (exfalso; omega)
        exact VOut.same rfl
      · conv => whnf
        repeat' (first | ((first | refine zs1 ?_ | refine zs2 ?_ | refine zs3 ?_ | refine zs4 ?_ | refine zs5 ?_); conv => whnf) | ((first | apply zi1 | apply zi2 | apply zi3 | apply zi4 | apply zi5) <;> intro _ <;> conv => whnf) | (refine VCall.intro (cH _) ?_; conv => whnf))
        all_goals try contradiction
        all_goals try (exfalso; omega)
        exact VOut.same rfl
  · rw [if_neg h0] at hE
    rw [← hE] at cH h0
    rw [if_neg h0] at hV
    subst hV
    refine VC.body Try.func53 rfl Try.ntmps53 Try.call53 (h.grows_refl) rfl ?_; conv => whnf
    repeat' (first | ((first | refine zs1 ?_ | refine zs2 ?_ | refine zs3 ?_ | refine zs4 ?_ | refine zs5 ?_ | refine zs6 [] ?_); conv => whnf) | ((first | apply zi1 | apply zi2 | apply zi3 | apply zi4 | apply zi5) <;> intro _ <;> conv => whnf) | (refine VCall.intro (cH _) ?_; conv => whnf))
    · exact VOut.same rfl
    all_goals (rename_i hh; exact absurd (by omega) h0)
end Go.Proofs.Ytoeendggmalcpaa

open Go.Vm
open Psg
namespace Go.Proofs.Ytoeendggmalcpaa
set_option maxRecDepth 20000
set_option maxHeartbeats 4000000
def dyU (N : Nt) (x : Hd) (p : Nat) : Int := if dyP N x p = -1 then 1001 else dyP N x p
theorem dyU_eq {n : Nat} {N : Nt} {x : Hd} (hN : NOk n N) (hx : HOk n x) {p : Nat} (hp : p < n) : dayOf (atD (bgn N.ws x).D) p = dyU N x p := by
  have hc := dayOf_cap (bgn_lst hN.n1.2 hN.ws hx) (p := (p : Int)) (by omega)
  unfold dyU dyP tell
  split <;> split <;> omega
end Go.Proofs.Ytoeendggmalcpaa

open Go.Vm
open Psg
namespace Go.Proofs.Ytoeendggmalcpaa
set_option maxRecDepth 20000
set_option maxHeartbeats 4000000
theorem vc_kcloneO (l : List Int) (h : Hp) (hl : l.length ≤ 4000000) : VC Try.prog 29 [ints l] h (.gl h.fresh 1 l.length) (h.push (.flat true (l.flatMap Vm.encI))) := by
  refine VC.body Try.func29 rfl Try.ntmps29 Try.call29 (h.grows_push _) rfl ?_; conv => whnf
  repeat' (first | ((first | refine zs1 ?_ | refine zs2 ?_ | refine zs3 ?_ | refine zs4 ?_ | refine zs5 ?_); conv => whnf) | ((first | apply zi1 | apply zi2 | apply zi3 | apply zi4 | apply zi5) <;> intro _ <;> conv => whnf))
  refine VMem.appNil encI_len rfl rfl rfl (by omega) ?_
  conv => whnf
  repeat' (first | ((first | refine zs1 ?_ | refine zs2 ?_ | refine zs3 ?_ | refine zs4 ?_ | refine zs5 ?_); conv => whnf) | ((first | apply zi1 | apply zi2 | apply zi3 | apply zi4 | apply zi5) <;> intro _ <;> conv => whnf))
  exact VOut.own1 (h := h) (loc := [.flat true (l.flatMap Vm.encI)]) (ds := l.flatMap Vm.encI) 0 1 rfl rfl
end Go.Proofs.Ytoeendggmalcpaa

open Go.Vm
open Psg
namespace Psg
theorem pand_pp {a b : Int} (ha : Pp a) (hb : Pp b) : Pp (pand a b) := by
  unfold Pp pand at *
  have := Nat.and_le_left (n := a.toNat) (m := b.toNat)
  omega
theorem pand_self {a : Int} (ha : Pp a) : pand a a = a := by
  unfold Pp pand at *
  rw [Nat.and_self]; omega
theorem fol_sub {n : Nat} {ws : List Wy} (hw : ∀ w ∈ ws, WOk n w) {m : Int} (hm : Pp m) : ∀ (r : List Nat) (x y : Hd), Pp x.s → sub m x.s = true → fol ws x r = some y → sub m y.s = true
  | [], x, y, _, h2, he => by
    simp only [fol, Option.some.injEq] at he
    subst he; exact h2
  | i :: r, x, y, h1, h2, he => by
    simp only [fol] at he
    cases hi : ws[i]? with
    | none => rw [hi] at he; cases he
    | some w =>
      rw [hi] at he
      dsimp only at he
      have hwo := hw w (List.mem_of_getElem? hi)
      cases hg : gone w x with
      | none => rw [hg] at he; cases he
      | some z =>
        rw [hg] at he
        have hz := gone_ok hwo h1 hg
        have hs : z.s = por x.s w.g := by
          unfold gone at hg
          split at hg
          · injection hg with hg; subst hg; rfl
          · cases hg
        have hz2 := hz.2.2.2.2.2.2
        refine fol_sub hw hm r z y hz2 ?_ he
        rw [hs] at hz2 ⊢
        exact has_sub hm h1 hz2 (has_or h1 hwo.g) h2
end Psg
namespace Go.Proofs.Ytoeendggmalcpaa
set_option maxRecDepth 20000
set_option maxHeartbeats 4000000
theorem hrN_ok (bs : List Int) (d : DS) {n : Nat} (hn : 1 ≤ n) : HOk n (hrN bs d n).1 ∧ (hrN bs d n).2.1 ≤ d.1 + 4 := by
  have a := dNx_bd bs d n
  have b := dNx_bd bs (hr1 bs d n).2 20
  have c := dNx_bd bs (hr2 bs d n).2 16
  have e := dNx_bd bs (hr3 bs d n).2 16
  rw [show dNx bs d n = hr1 bs d n from rfl] at a
  rw [show dNx bs (hr1 bs d n).2 20 = hr2 bs d n from rfl] at b
  rw [show dNx bs (hr2 bs d n).2 16 = hr3 bs d n from rfl] at c
  rw [show dNx bs (hr3 bs d n).2 16 = hr4 bs d n from rfl] at e
  unfold hrN
  refine ⟨⟨⟨a.1, by dsimp only; omega⟩, ⟨b.1, by dsimp only; omega⟩, pand_pp ⟨c.1, by omega⟩ ⟨e.1, by omega⟩⟩, by dsimp only; omega⟩
theorem rt_pap {n : Nat} {N : Nt} {x : Hd} {to : Int} {L : List Int} (hN : NOk n N) (hx : HOk n x) (h : rtE N x to = 0) (hL : RtR N x to L) : ∃ s, Pp s ∧ pand s x.s = x.s ∧ flw N x L = (⟨to, dyP N x to.toNat, s⟩, 0) := by
  obtain ⟨s, hs, hf⟩ := hL.fol
  have h2 := fol_sub hN.ws hx.s (L.map Int.toNat) x _ hx.s (by unfold Psg.sub; rw [pand_self hx.s]; exact decide_eq_true rfl) (by rw [← folI_eq]; exact hf)
  refine ⟨s, hs, ?_, ?_⟩
  · unfold Psg.sub at h2; exact of_decide_eq_true h2
  · unfold flw
    rw [if_pos (hN.hrd hx), if_pos hL.ok, hf]
    rfl
structure HdI (n : Nat) (D : Tb) (y : Hd) : Prop where
  ok : HOk n y
  le : D y.p y.s ≤ y.d
theorem flw_one {n : Nat} {N : Nt} {D : Tb} {y x : Hd} {i : Int} (hN : NOk n N) (hD : Hol n N.ws x D) (hy : HdI n D y) (hi : 0 ≤ i ∧ i < N.ws.length) : flw N y [i] = (zHd, 9) ∨ ∃ z, flw N y [i] = (z, 0) ∧ HdI n D z := by
  have hw : N.ws[i.toNat]? = some (N.ws[i.toNat]'(by omega)) := List.getElem?_eq_getElem _
  have hwo := hN.ws _ (List.mem_of_getElem? hw)
  have hok : [i].all (okI N) = true := by
    rw [List.all_cons, List.all_nil, Bool.and_true]
    exact decide_eq_true (by omega)
  have e : flw N y [i] = flE (folI N.ws y [i]) := by unfold flw; rw [if_pos (hN.hrd hy.ok), if_pos hok]
  rw [e, folI_eq]
  have e3 : fol N.ws y (List.map Int.toNat [i]) = gone (N.ws[i.toNat]'(by omega)) y := by
    show fol N.ws y [i.toNat] = _
    simp only [fol, hw]
    cases gone (N.ws[i.toNat]'(by omega)) y <;> rfl
  rw [e3]
  cases hg : gone (N.ws[i.toNat]'(by omega)) y with
  | none => left; rfl
  | some z =>
    right
    refine ⟨z, rfl, ?_⟩
    have h1 := gone_ok hwo hy.ok.s hg
    obtain ⟨e2, h4, h5⟩ := gone_mono hy.le hg
    have h6 := hD.clo _ _ hy.ok.p hy.ok.s _ (List.mem_of_getElem? hw) _ h4
    exact ⟨⟨h1.2.2.1, ⟨h1.2.2.2.2.1, h1.2.2.2.2.2.1⟩, h1.2.2.2.2.2.2⟩, Int.le_trans h6 h5⟩
def canL (N : Nt) (p : Int) : Nat → List Int
  | 0 => []
  | k + 1 => if (N.ws.getD k wy0).f = p then canL N p k ++ [(k : Int)] else canL N p k
theorem canL_ok (N : Nt) (p : Int) : ∀ k, (canL N p k).length ≤ k ∧ ∀ i ∈ canL N p k, 0 ≤ i ∧ i < k
  | 0 => ⟨Nat.le_refl _, fun i h => by simp [canL] at h⟩
  | k + 1 => by
    have ih := canL_ok N p k
    rw [canL]
    split
    · refine ⟨by rw [List.length_append]; simp; exact ih.1, fun i h => ?_⟩
      rcases List.mem_append.1 h with h | h
      · have := ih.2 i h; omega
      · rw [List.mem_singleton.1 h]; omega
    · exact ⟨by omega, fun i h => by have := ih.2 i h; omega⟩
end Go.Proofs.Ytoeendggmalcpaa

open Go.Vm
open Psg
namespace Go.Proofs.Ytoeendggmalcpaa
set_option maxRecDepth 20000
set_option maxHeartbeats 4000000
/-! ### Calendars that are changed -/
theorem pv_val {n : Nat} {R : Rw} {p s : Nat} {v : Int} (hs : Sz n R) (hv : valR R = true) (hp : p < n) (h : 0 ≤ v ∧ v ≤ 1001) : valR (setR R p s v) = true := by
  rw [valR_iff] at hv ⊢
  intro r hr d hd
  unfold setR at hr
  rcases List.mem_or_eq_of_mem_set hr with hr | hr
  · exact hv r hr d hd
  · subst hr
    rcases List.mem_or_eq_of_mem_set hd with hd | hd
    · have hpl : p < R.length := by rw [hs.len]; exact hp
      have e : R.getD p [] = R[p] := by rw [List.getD_eq_getElem?_getD, List.getElem?_eq_getElem hpl]; rfl
      rw [e] at hd
      exact hv _ (List.getElem_mem hpl) d hd
    · subst hd; exact h
theorem pv_law {n : Nat} {N : Nt} {x : Hd} {R : Rw} {p : Nat} (hN : NOk n N) (hx : HOk n x) (hs : Sz n R) (hv : valR R = true) (hp : p < n) : (prE N x R p = 0 ∨ prE N x R p = 9) ∧ (prE N x R p = 0 → dyP N x p ≠ -1 → prV N x R p ≤ dyP N x p) := by
  have hpn := hN.p
  have hsz : szR N.p R = true := szR_iff.2 ⟨by rw [hs.len, hpn], hs.row⟩
  have e : prE N x R p = if holds n N.ws x R = true then 0 else 9 := by
    unfold prE
    rw [if_pos (hN.hrd hx), if_pos hsz, if_pos hv, nok_nat hN, if_pos (show 0 ≤ (p : Int) ∧ (p : Int) ≤ N.p - 1 by omega)]
  refine ⟨by rw [e]; split; exact .inl rfl; exact .inr rfl, fun h0 hd => ?_⟩
  have hh : holds n N.ws x R = true := by
    rw [e] at h0
    split at h0
    · assumption
    · cases h0
  have h1 := cal_le hN.ws hx (bgn_lst hN.n1.2 hN.ws hx) hh (fun q s hq hs2 => by
    obtain ⟨q', rfl⟩ : ∃ q' : Nat, q = q' := ⟨q.toNat, by omega⟩
    have hs3 : 0 ≤ s ∧ s ≤ 15 := by unfold Pp at hs2; omega
    obtain ⟨s', rfl⟩ : ∃ s' : Nat, s = s' := ⟨s.toNat, by omega⟩
    exact (atR_bd hs hv (by omega) (by omega)).2) (p := (p : Int)) (by omega)
  unfold prV
  rw [if_pos h0]
  have h2 := dyU_eq hN hx hp
  unfold dyU at h2
  rw [if_neg hd] at h2
  omega
theorem pv_last {n : Nat} {N : Nt} {x : Hd} {R : Rw} {a b : Nat} (hN : NOk n N) (hx : HOk n x) (hs : Sz n R) (hv : valR R = true) (ha : x.p = a) (hb : x.s = b) : prE N x (setR R a b (x.d + 1)) x.p = 9 := by
  have hpn := hN.p
  have hxp := hx.p
  have hxd := hx.d
  have han : a < n := by omega
  have hb16 : b < 16 := by have := hx.s; unfold Pp at this; omega
  have hs2 := hs.set (s := b) (v := x.d + 1) han
  have hv2 := pv_val (s := b) (v := x.d + 1) hs hv han (by omega)
  have hsz : szR N.p (setR R a b (x.d + 1)) = true := szR_iff.2 ⟨by rw [hs2.len, hpn], hs2.row⟩
  have hat : atR (setR R a b (x.d + 1)) x.p x.s = x.d + 1 := by
    have h := atR_set (n := n) (R := R) (k := (x.p, x.s)) (j := (x.p, x.s)) (v := x.d + 1) hs ⟨hxp, hx.s⟩ ⟨hxp, hx.s⟩
    rw [if_pos rfl] at h
    dsimp only at h
    rw [show x.p.toNat = a by omega, show x.s.toNat = b by omega] at h
    exact h
  have hno : holds n N.ws x (setR R a b (x.d + 1)) = false := holds_own (by rw [hat]; omega)
  unfold prE
  rw [if_pos (hN.hrd hx), if_pos hsz, if_pos hv2, nok_nat hN, hno, if_neg (by decide)]
end Go.Proofs.Ytoeendggmalcpaa


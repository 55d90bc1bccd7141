/- Part 5 of the proof that PassageRoutes holds: nets, routes, earliest days and barred herds are as the reference says. No condition. -/
import Derived.Test.YtoeendggmalcpaaRo4
import Derived.Shelf.Sort.AssemblyIn
import Derived.Sort.EveryDepth
set_option linter.unusedVariables false
set_option linter.unusedSimpArgs false
namespace Go.Vm
open Go.Sort (grow putRow putCells Holds onCells mapBlock)

theorem Rel.growS {σ : Sig} {h : Hp} {w : World} (hr : Rel σ h w) (os : Array Obj) : Rel σ h (grow w os) where
  blk := fun i e b hi hb => by
    obtain ⟨h1, o, h2, h3⟩ := hr.blk i e b hi hb
    refine ⟨by show e.rid < (w.heap ++ os).size; rw [Array.size_append]; omega, o, ?_, h3⟩
    show (w.heap ++ os)[e.rid]? = some o
    rw [Array.getElem?_append_left h1]; exact h2
  apart := hr.apart
  dom := hr.dom
  nmd := hr.nmd
  fz := fun r o hro => by
    obtain ⟨h1, h2⟩ := hr.fz r o hro
    refine ⟨?_, h2⟩
    show (w.heap ++ os)[r]? = some o
    rw [Array.getElem?_append_left (Array.getElem?_eq_some_iff.1 h1).1]; exact h1
theorem Ext.growS {σ : Sig} {h : Hp} {w : World} (os : Array Obj) : Ext σ h w σ h (grow w os) where
  le := Sig.le_refl σ
  lo := rfl
  fzn := fun _ _ h => h
  size := by show w.heap.size ≤ (w.heap ++ os).size; rw [Array.size_append]; omega
  os := rfl
  tape := rfl
  output := rfl
  frame := fun r hr _ => by show (w.heap ++ os)[r]? = w.heap[r]?; rw [Array.getElem?_append_left hr]
  new := fun j ej hj hn => by rw [hj] at hn; cases hn
  down := fun j ej bj _ hbj hwj => ⟨bj, hbj, hwj⟩
  ro := fun j ej bj hj hbj hwj hal => ⟨hj, bj, hbj, hal, hwj⟩
  old := fun j hj => ⟨hj, fun x => x⟩
  oldn := fun j _ hx => hx
theorem flatI_get {l : List Int} {j : Nat} : (l.flatMap encI)[j]? = (l[j]?).map DI := by
  induction l generalizing j with
  | nil => rfl
  | cons a l ih =>
    cases j with
    | zero => rfl
    | succ j => rw [List.flatMap_cons]; exact ih
def srtI (n : Nat) (l : List Int) : List Int := ((l.take n).mergeSort fun x y => decide (x ≤ y)) ++ l.drop n
theorem VC.sortI {P : Program} {f : FuncId} {h : Hp} {i : Id} {n : Nat} {l : List Int} (hent : ∀ as0 w, (callFunc f as0).run P w = .ok (.enter f as0) w) (hb : h.get i = some (.flat true (l.flatMap encI))) (hn : n ≤ l.length) (h0 : 0 < n) (hl : l.length ≤ 4000000) (R : List Int) (hR : R <+: srtI n l)
    (hc : ∀ (blk off cap : Nat) (zs : List Int) (w : World), Holds (Value.int .i64) w blk off zs.toArray → blk < w.heap.size → zs.length < 4611686018427387904 → Calls P f #[.slice (some ⟨blk, off, none⟩) zs.length cap] w fun e w' => e = .returned (.tuple #[]) ∧ ∃ n os, w' = grow (putRow (Value.int .i64) (Sort.ahead w n) blk off (zs.mergeSort fun x y => decide (x ≤ y)).toArray) os) :
    VC P f [.gl i 1 n] h (.tuple []) (h.set i (.flat true (R.flatMap encI))) := by
  refine ⟨hent, Hp.grows_set h i _, fun σ w xs hr hxs => ?_⟩
  rw [callsIn_wide]
  obtain ⟨x, rfl, hx⟩ := VRs_one hxs
  simp only [VR] at hx
  obtain ⟨_, hx⟩ := hx
  rcases hx with ⟨hz, _⟩ | ⟨e, cap, o, hi, h1, h2, h3, rfl⟩
  · omega
  obtain ⟨hlt, ob, hob, hrel⟩ := hr.blk i e _ hi hb
  simp only [BlkRel] at hrel
  obtain ⟨cur, TT, fz, rfl, hs1, hs2, hfz, hcell⟩ := hrel
  have hfz := hfz rfl
  subst hfz
  rw [Nat.mul_one] at h2
  have h3 := h3 (by omega)
  subst h3
  have hcur : ∀ j x, l[j]? = some x → cur[e.base + j]? = some (.int .i64 x) := fun j x hj => by
    obtain ⟨y, hy, hv, _⟩ := hcell j (.s (.int .i64 x)) (by simp only [flatI_get, hj, Option.map_some]; rfl)
    simp only [VR, S.val] at hv
    rw [hy, hv]
  rw [flat_len encI_len, Nat.mul_one] at hs2
  have hlen : (l.take n).length = n := by rw [List.length_take]; omega
  have hH : Holds (Value.int .i64) w e.rid e.base (l.take n).toArray := by
    intro j hj
    have hj' : j < n := by simpa [hlen] using hj
    have hg : l[j]? = some (l[j]'(by omega)) := List.getElem?_eq_getElem _
    refine ⟨?_, by simp [World.frozen?, hob]⟩
    have := hcur j _ hg
    simp only [World.cell?, hob]
    simp only [Option.isSome_none, Bool.false_eq_true, if_false]
    rw [this]
    have hj2 : j < (l.take n).toArray.size := hj
    rw [getElem!_pos _ j hj2]
    simp
  have hcall := hc e.rid e.base cap (l.take n) w hH hlt (by omega)
  rw [hlen] at hcall
  refine Calls.mono hcall ?_
  rintro en w' ⟨rfl, q, os, rfl⟩
  obtain ⟨T, hT⟩ : ∃ T, T = (l.take n).mergeSort (fun x y => decide (x ≤ y)) := ⟨_, rfl⟩
  have hTl : T.length = n := by rw [hT, List.length_mergeSort, hlen]
  rw [← hT]
  have hcs : e.base + n ≤ cur.size := by omega
  obtain ⟨w1, hw1⟩ : ∃ w1, w1 = putRow (Value.int .i64) (Sort.ahead w q) e.rid e.base T.toArray := ⟨_, rfl⟩
  rw [← hw1]
  have hheap : w1.heap = w.heap.modify e.rid (onCells (putCells (Value.int .i64) e.base T.toArray)) := by rw [hw1]; rfl
  have hsz : w1.heap.size = w.heap.size := by rw [hheap, Array.size_modify]
  have hsame : ∀ r, r ≠ e.rid → w1.heap[r]? = w.heap[r]? := fun r hne => by rw [hheap, Array.getElem?_modify, if_neg (Ne.symm hne)]
  have hnew : w1.heap[e.rid]? = some (.cells (putCells (Value.int .i64) e.base T.toArray cur) TT (0, 0)) := by rw [hheap, Array.getElem?_modify, if_pos rfl, hob]; rfl
  have hput : ∀ k, (putCells (Value.int .i64) e.base T.toArray cur)[k]? = (cur[k]?).map fun x => if e.base ≤ k ∧ k < e.base + T.length then Value.int .i64 (T.getD (k - e.base) 0) else x := fun k => by
    unfold putCells
    rw [Array.getElem?_mapIdx]
    cases hk : cur[k]? with
    | none => rfl
    | some x =>
      simp only [Option.map_some, Option.some.injEq, List.size_toArray]
      split
      · rename_i hh
        congr 1
        rw [getElem!_pos _ (k - e.base) (by simp; omega)]
        simp [List.getD_eq_getElem?_getD, List.getElem?_eq_getElem (show k - e.base < T.length by omega)]
      · rfl
  have hrel' : BlkRel σ e (.flat true (R.flatMap encI)) (.cells (putCells (Value.int .i64) e.base T.toArray cur) TT (0, 0)) := by
    have hsl : (srtI n l).length = l.length := by unfold srtI; rw [List.length_append, List.length_mergeSort, hlen, List.length_drop]; omega
    refine ⟨_, TT, (0, 0), rfl, by simp [putCells]; exact hs1, by rw [flat_len encI_len, Nat.mul_one]; have := hR.length_le; omega, fun _ => rfl, ?_⟩
    intro j v hv
    dsimp only at hv
    rw [flatI_get] at hv
    have hjR : j < R.length := by
      rcases Nat.lt_or_ge j R.length with h | h
      · exact h
      · rw [List.getElem?_eq_none h] at hv; cases hv
    have hjl : j < (srtI n l).length := by have := hR.length_le; omega
    rw [show R[j]? = (srtI n l)[j]? by
      obtain ⟨t, ht⟩ := hR
      rw [← ht, List.getElem?_append_left hjR]] at hv
    have hcj : cur[e.base + j]? = some (.int .i64 (l[j]'(by omega))) := hcur j _ (List.getElem?_eq_getElem _)
    rw [hput, hcj, Option.map_some]
    refine ⟨_, rfl, ?_, ?_⟩
    · have hsr : (srtI n l)[j]? = some (if j < n then T.getD j 0 else l[j]'(by omega)) := by
        unfold srtI
        rw [← hT]
        by_cases hjn : j < n
        · rw [if_pos hjn, List.getElem?_append_left (by omega), List.getElem?_eq_getElem (by omega)]
          simp [List.getD_eq_getElem?_getD, List.getElem?_eq_getElem (show j < T.length by omega)]
        · rw [if_neg hjn, List.getElem?_append_right (by omega), hTl, List.getElem?_drop, show n + (j - n) = j by omega, List.getElem?_eq_getElem]
      rw [hsr] at hv
      cases hv
      simp only [VR, S.val, D.v]
      by_cases hjn : j < n
      · rw [if_pos (by omega), if_pos hjn, show e.base + j - e.base = j by omega]
      · rw [if_neg (by omega), if_neg hjn]
    · split <;> rfl
  have hrel2 := hr.upd hi hb rfl (fun _ => rfl) hsz hsame hnew hrel'
  have hext := Ext.upd (h := h) (b' := .flat true (R.flatMap encI)) hi hb rfl (fun _ => rfl) hsz (by rw [hw1]; rfl) (by rw [hw1]; rfl) (by rw [hw1]; rfl) hsame
  exact ⟨σ, .tuple #[], rfl, by simp only [VR]; exact ⟨#[], rfl, rfl⟩, hrel2.growS os, (hext.trans (Ext.growS os)).toK⟩
end Go.Vm

namespace Go.Proofs.Ytoeendggmalcpaa
open Go.Shelf
def srtRen : Ren := ⟨fun | 125 => 65 | 128 => 119 | 129 => 120 | 189 => 21 | 215 => 143 | 216 => 116 | 257 => 64 | 294 => 110 | 295 => 111 | 296 => 112 | 297 => 113 | 298 => 114 | 299 => 115 | 300 => 117 | 301 => 118 | 328 => 138 | 329 => 139 | 330 => 140 | 331 => 141 | 332 => 142 | 343 => 158 | n => n, fun | 0 => 0 | 3 => 3 | 4 => 4 | 5 => 5 | 9 => 9 | 28 => 32 | 46 => 119 | 51 => 113 | 53 => 184 | 131 => 180 | 182 => 174 | 183 => 175 | 218 => 206 | 222 => 210 | 228 => 227 | 229 => 218 | n => n, fun n => n⟩
theorem srtLays : Lays.n189 Try.prog srtRen := {
  mixed := by kernel_rfl
  f125 := by kernel_rfl
  f128 := by kernel_rfl
  f129 := by kernel_rfl
  f189 := by kernel_rfl
  f215 := by kernel_rfl
  f216 := by kernel_rfl
  f257 := by kernel_rfl
  f294 := by kernel_rfl
  f295 := by kernel_rfl
  f296 := by kernel_rfl
  f297 := by kernel_rfl
  f298 := by kernel_rfl
  f299 := by kernel_rfl
  f300 := by kernel_rfl
  f301 := by kernel_rfl
  f328 := by kernel_rfl
  f329 := by kernel_rfl
  f330 := by kernel_rfl
  f331 := by kernel_rfl
  f332 := by kernel_rfl
  f343 := by kernel_rfl
  t0 := by kernel_rfl
  a0 := fun _ => by kernel_rfl
  z0 := fun _ => by kernel_rfl
  v0 := fun _ => by kernel_rfl
  t3 := by kernel_rfl
  a3 := fun _ => by kernel_rfl
  z3 := fun _ => by kernel_rfl
  v3 := fun _ => by kernel_rfl
  t4 := by kernel_rfl
  a4 := fun _ => by kernel_rfl
  z4 := fun _ => by kernel_rfl
  v4 := fun _ => by kernel_rfl
  t5 := by kernel_rfl
  a5 := fun _ => by kernel_rfl
  z5 := fun _ => by kernel_rfl
  v5 := fun _ => by kernel_rfl
  t9 := by kernel_rfl
  a9 := fun _ => by kernel_rfl
  z9 := fun _ => by kernel_rfl
  v9 := fun _ => by kernel_rfl
  t28 := by kernel_rfl
  a28 := fun _ => by kernel_rfl
  z28 := fun _ => by kernel_rfl
  v28 := fun _ => by kernel_rfl
  t46 := by kernel_rfl
  a46 := fun _ => by kernel_rfl
  z46 := fun _ => by kernel_rfl
  v46 := fun _ => by kernel_rfl
  t51 := by kernel_rfl
  a51 := fun _ => by kernel_rfl
  z51 := fun _ => by kernel_rfl
  v51 := fun _ => by kernel_rfl
  t53 := by kernel_rfl
  a53 := fun _ => by kernel_rfl
  z53 := fun _ => by kernel_rfl
  v53 := fun _ => by kernel_rfl
  t131 := by kernel_rfl
  a131 := fun _ => by kernel_rfl
  z131 := fun _ => by kernel_rfl
  v131 := fun _ => by kernel_rfl
  t182 := by kernel_rfl
  a182 := fun _ => by kernel_rfl
  z182 := fun _ => by kernel_rfl
  v182 := fun _ => by kernel_rfl
  t183 := by kernel_rfl
  a183 := fun _ => by kernel_rfl
  z183 := fun _ => by kernel_rfl
  v183 := fun _ => by kernel_rfl
  t218 := by kernel_rfl
  a218 := fun _ => by kernel_rfl
  z218 := fun _ => by kernel_rfl
  v218 := fun _ => by kernel_rfl
  t222 := by kernel_rfl
  a222 := fun _ => by kernel_rfl
  z222 := fun _ => by kernel_rfl
  v222 := fun _ => by kernel_rfl
  t228 := by kernel_rfl
  a228 := fun _ => by kernel_rfl
  z228 := fun _ => by kernel_rfl
  v228 := fun _ => by kernel_rfl
  t229 := by kernel_rfl
  a229 := fun _ => by kernel_rfl
  z229 := fun _ => by kernel_rfl
  v229 := fun _ => by kernel_rfl
}
theorem vc_Sort (n : Nat) (l : List Int) (i : Go.Vm.Id) (h : Go.Vm.Hp) (hb : h.get i = some (.flat true (l.flatMap Go.Vm.encI))) (hn : n ≤ l.length) (h0 : 0 < n) (hl : l.length ≤ 4000000) (R : List Int) (hR : R <+: Go.Vm.srtI n l) : Go.Vm.VC Try.prog 21 [.gl i 1 n] h (.tuple []) (h.set i (.flat true (R.flatMap Go.Vm.encI))) :=
  Go.Vm.VC.sortI Try.call21 hb hn h0 hl R hR fun blk off cap zs w h1 h2 h3 => calls_of_every_depth fun D => AnyS.slices_Sort_int_in srtLays D blk off cap zs w h1 h2 h3
end Go.Proofs.Ytoeendggmalcpaa

open Go.Vm
open Psg
namespace Psg
theorem one_0 (b : Bool) : one b 0 = 0 := by cases b <;> rfl
theorem bnd0 : ∀ ws : List Wy, (∀ w ∈ ws, 0 ≤ w.h ∧ w.h ≤ 1000) → Bnd ws (List.replicate ws.length 0)
  | [], _ => trivial
  | w :: ws, h => ⟨⟨Int.le_refl _, (h w List.mem_cons_self).1⟩, bnd0 ws fun v hv => h v (List.mem_cons_of_mem _ hv)⟩
theorem flux0 (S : Int → Bool) : ∀ ws : List Wy, flux S ws (List.replicate ws.length 0) = 0
  | [] => rfl
  | w :: ws => by
    rw [List.length_cons, List.replicate_succ, flux, one_0, one_0, flux0 S ws]; rfl
theorem dr0 {n : Nat} {ws : List Wy} {src gls : List Int} (hh : ∀ w ∈ ws, 0 ≤ w.h ∧ w.h ≤ 1000) : Dr n ws src gls (List.replicate ws.length 0) := ⟨bnd0 ws hh, fun p _ _ _ => flux0 (eqB p) ws⟩
theorem val0 {n : Nat} {ws : List Wy} {src : List Int} : val n ws src (List.replicate ws.length 0) = 0 := by
  unfold val
  rw [sumTo_congr (v := fun _ => 0) fun i _ => by unfold net; rw [flux0, one_0]]
  exact sumTo_zero n
theorem val_top {n : Nat} {ws : List Wy} {src gls hs : List Int} (hP : Ps n ws src gls) (hh : ∀ w ∈ ws, 0 ≤ w.h ∧ w.h ≤ 1000) (hl : ws.length ≤ 24) (hd : Dr n ws src gls hs) : val n ws src hs ≤ 24000 := by
  have hc : Cu src gls (fun q => decide (q ∈ src)) := ⟨fun p hp => decide_eq_true hp, fun p hp => decide_eq_false fun h => hP.dis p h hp⟩
  have := val_le hP.inN hd hc
  have := (bar_le (fun q => decide (q ∈ src)) ws hh).2
  omega
def dvN (n : Nat) (N : Nt) (src gls : List Int) : List Int × Int × List Int := drv gls N.ws src (n + 1) 24001 (List.replicate N.ws.length 0) 0
end Psg
namespace Go.Proofs.Ytoeendggmalcpaa
set_option maxRecDepth 20000
set_option maxHeartbeats 4000000
theorem pas_ok {N : Nt} {a b : List Int} (h : pas N a b = 0) : ∃ n, NOk n N ∧ Ps n N.ws a b ∧ 0 < a.length ∧ 0 < b.length ∧ a.Pairwise (· < ·) ∧ b.Pairwise (· < ·) := by
  unfold pas at h
  by_cases h1 : chk N = 0
  · rw [if_pos h1] at h
    by_cases h2 : a.all (pstB N) = true ∧ b.all (pstB N) = true
    · rw [if_pos h2] at h
      by_cases h3 : a.length = 0 ∨ b.length = 0
      · rw [if_pos h3] at h; cases h
      · rw [if_neg h3] at h
        by_cases h4 : risB a = true ∧ risB b = true
        · rw [if_pos h4] at h
          by_cases h5 : (a.all fun p => decide (¬ p ∈ b)) = true
          · obtain ⟨n, hN⟩ := chk_ok h1
            have hp := hN.p
            have ha := risB_pw.1 h4.1
            have hb := risB_pw.1 h4.2
            refine ⟨n, hN, ⟨hN.inN, ⟨List.nodup_iff_pairwise_ne.2 (ha.imp fun h => by omega), fun q hq => ?_⟩, fun q hq => ?_, fun q hq => ?_⟩, by omega, by omega, ha, hb⟩
            · have := List.all_eq_true.1 h2.1 q hq
              unfold pstB at this
              have := of_decide_eq_true this
              omega
            · have := List.all_eq_true.1 h2.2 q hq
              unfold pstB at this
              have := of_decide_eq_true this
              omega
            · exact of_decide_eq_true (List.all_eq_true.1 h5 q hq)
          · rw [if_neg h5] at h; cases h
        · rw [if_neg h4] at h; cases h
    · rw [if_neg h2] at h; cases h
  · rw [if_neg h1] at h; exact absurd h h1
theorem vc_driven {n : Nat} {N : Nt} {src gls : List Int} (hN : NOk n N) (hP : Ps n N.ws src gls) (h0 : 0 < src.length) (hg : gls.length ≤ 4000000) (h : Hp) :
    VC Try.prog 67 [vN N, ints src, ints gls] h (.tuple [ints (dvN n N src gls).1, I (dvN n N src gls).2.1, ints (dvN n N src gls).2.2]) h := by
  obtain ⟨R, hR⟩ : ∃ R, R = dvN n N src gls := ⟨_, rfl⟩
  rw [← hR]
  unfold dvN at hR
  have hwl := hN.len
  have hh : ∀ w ∈ N.ws, 0 ≤ w.h ∧ w.h ≤ 1000 := fun w hw => (hN.ws w hw).h
  refine VC.body Try.func67 rfl Try.ntmps67 Try.call67 (h.grows_refl) rfl ?_; conv => whnf
  repeat' (first | ((first | refine zs1 ?_ | refine zs2 ?_ | refine zs3 ?_ | refine zs4 ?_ | refine zs5 ?_); conv => whnf) | ((first | apply zi1 | apply zi2 | apply zi3 | apply zi4 | apply zi5) <;> intro _ <;> conv => whnf))
  refine zs6 [] ?_
  conv => whnf
  repeat' (first | ((first | refine zs1 ?_ | refine zs2 ?_ | refine zs3 ?_ | refine zs4 ?_ | refine zs5 ?_); conv => whnf) | ((first | apply zi1 | apply zi2 | apply zi3 | apply zi4 | apply zi5) <;> intro _ <;> conv => whnf) | (refine VMkD.makeI N.ws.length rfl rfl rfl rfl rfl (by decide) (by omega) ?_; conv => whnf))
  refine VCode.lp (outer := h.lift) (marks := []) (fun y : Nat × List Int × Int => [(1, ints src), (2, ints gls), (9, .ptr (.loc 1) 0), (10, I y.2.2)]) (fun y => [.flat true (y.2.1.flatMap Vm.encI), .cells true [I N.p, wys N.ws, .gl (.loc 0) 1 N.ws.length]]) (fun y => Dr n N.ws src gls y.2.1 ∧ val n N.ws src y.2.1 = y.2.2 ∧ 0 ≤ y.2.2 ∧ 24001 ≤ y.2.2 + y.1 ∧ R = drv gls N.ws src (n + 1) y.1 y.2.1 y.2.2) (fun y => y.1) (24001, List.replicate N.ws.length 0, 0) ⟨dr0 hh, val0, Int.le_refl _, by show (24001 : Int) ≤ 0 + ((24001 : Nat) : Int); omega, hR⟩ ?_ ?_
  · conv => whnf
    refine Retell.turn ⟨[1,2], 3, [], []⟩ (TurnOk.mk' _ _ [] [] (OutOk.lift _) rfl (by decide) zb trivial trivial rfl) zw zm
  · rintro ⟨K, hs, many⟩ ⟨d1, d2, d3, d4, d5⟩
    dsimp only at d1 d2 d3 d4 d5 ⊢
    have htop := val_top hP hh hwl d1
    cases K with
    | zero => exfalso; omega
    | succ K =>
      rw [drv] at d5
      have hlen := d1.bnd.len
      have hQ := pushed_ok hP d1
      have cP := vc_pushed hN hg h0 hP.smt d1.bnd (s := .loc 1) (hI := .loc 0) ⟨h.lift, [.flat true (hs.flatMap Vm.encI), .cells true [I N.p, wys N.ws, .gl (.loc 0) 1 N.ws.length]]⟩ (by rw [hlen]; rfl) rfl (by decide)
      generalize pushed gls N.ws (n + 1) src hs src = r at d5 hQ cP
      replace cP : VC Try.prog 122 [.ptr (.loc 1) 0, ints src, ints gls] ⟨h.lift, [.flat true (hs.flatMap Vm.encI), .cells true [I N.p, wys N.ws, .gl (.loc 0) 1 N.ws.length]]⟩ (.tuple [I r.1, .gl (.loc 2) 1 r.2.2.length]) ⟨h.lift, [.flat true (r.2.1.flatMap Vm.encI), .cells true [I N.p, wys N.ws, .gl (.loc 0) 1 N.ws.length], .flat true (r.2.2.flatMap Vm.encI)]⟩ := cP
      have hml := hQ.mt.len
      have hn1 := hN.n1
      by_cases hz : r.1 = 0
      · rw [if_pos hz] at d5
        have hpos : 0 < r.2.2.length := by
          have : src[0] ∈ r.2.2 := (hQ.zero hz).2.1 _ (List.getElem_mem h0)
          exact List.length_pos_of_mem this
        have cS := vc_Sort r.2.2.length r.2.2 (.loc 2) ⟨h.lift, [.flat true (r.2.1.flatMap Vm.encI), .cells true [I N.p, wys N.ws, .gl (.loc 0) 1 N.ws.length], .flat true (r.2.2.flatMap Vm.encI)]⟩ rfl (Nat.le_refl _) hpos (by omega) (srt r.2.2) (by unfold Go.Vm.srtI srt; rw [List.take_length]; exact List.prefix_append _ _)
        have hl1 : r.2.1.length = N.ws.length := hQ.len
        have hl2 : (srt r.2.2).length = r.2.2.length := srt_len _
        conv => whnf
        repeat' (first | ((first | refine zs1 ?_ | refine zs2 ?_ | refine zs3 ?_ | refine zs4 ?_ | refine zs5 ?_); conv => whnf) | ((first | apply zi1 | apply zi2 | apply zi3 | apply zi4 | apply zi5) <;> intro _ <;> conv => whnf) | (refine VCall.intro (cP) ?_; conv => whnf) | (refine VCall.intro (cS) ?_; conv => whnf))
        all_goals try (exfalso; omega)
        rw [d5]
        rw [← hl1, ← hl2]
        refine VOut.data 3 [(0, r.2.1.flatMap Vm.encI), (2, (srt r.2.2).flatMap Vm.encI)] [] rfl zf (by exact FmAll.nil) zw
      · rw [if_neg hz] at d5
        have hpos : 0 < r.1 := by have := hQ.low; omega
        obtain ⟨q1, q2⟩ := hQ.pos hpos
        have htop2 := val_top hP hh hwl q1
        conv => whnf
        repeat' (first | ((first | refine zs1 ?_ | refine zs2 ?_ | refine zs3 ?_ | refine zs4 ?_ | refine zs5 ?_); conv => whnf) | ((first | apply zi1 | apply zi2 | apply zi3 | apply zi4 | apply zi5) <;> intro _ <;> conv => whnf) | (refine VCall.intro (cP) ?_; conv => whnf))
        all_goals try (exfalso; omega)
        refine LEnd.intro (K, r.2.1, many + r.1) ⟨q1, by dsimp only; omega, by dsimp only; omega, by dsimp only; omega, d5⟩ (Nat.lt_succ_self _) ?_
        conv => whnf
        refine Retell.turn ⟨[0,1], 3, [], []⟩ (TurnOk.mk' _ _ [] [] (OutOk.lift _) rfl (by decide) zb trivial trivial rfl) zw zm
end Go.Proofs.Ytoeendggmalcpaa

open Go.Vm
open Psg
namespace Psg
def brL (S : Int → Bool) (ws : List Wy) : List Int := (ws.filter fun w => S w.f && !S w.t).map fun w => w.h
theorem brL_sum (S : Int → Bool) : ∀ ws : List Wy, (brL S ws).sum = bar S ws
  | [] => rfl
  | w :: ws => by
    have ih := brL_sum S ws
    unfold brL at ih ⊢
    rw [bar, List.filter_cons]
    cases S w.f && !S w.t
    · simp only [Bool.false_eq_true, if_false]; rw [ih]; simp [one]
    · simp only [if_true, List.map_cons, List.sum_cons]; rw [ih]; simp [one]
theorem brL_take {S : Int → Bool} {ws : List Wy} {k : Nat} {w : Wy} (h : ws[k]? = some w) : brL S (ws.take (k + 1)) = if (S w.f && !S w.t) = true then brL S (ws.take k) ++ [w.h] else brL S (ws.take k) := by
  unfold brL
  rw [List.take_add_one, h, List.filter_append, List.map_append]
  cases hc : S w.f && !S w.t <;> simp [List.filter, hc]
theorem brL_len (S : Int → Bool) (ws : List Wy) : (brL S ws).length ≤ ws.length := by unfold brL; rw [List.length_map]; exact List.length_filter_le _ _
theorem brL_mem {S : Int → Bool} {ws : List Wy} (hw : ∀ w ∈ ws, 0 ≤ w.h ∧ w.h ≤ 1000) : ∀ x ∈ brL S ws, -1000000 ≤ x ∧ x ≤ 1000000 := by
  intro x hx
  unfold brL at hx
  obtain ⟨w, h1, rfl⟩ := List.mem_map.1 hx
  have := hw w (List.mem_filter.1 h1).1
  omega
theorem take_sum {l : List Int} {k : Nat} {x : Int} (h : l[k]? = some x) : (l.take (k + 1)).sum = (l.take k).sum + x := by
  rw [List.take_add_one, h, List.sum_append]; simp
theorem sum_bd : ∀ (l : List Int) (b : Int), (∀ x ∈ l, -b ≤ x ∧ x ≤ b) → -(b * l.length) ≤ l.sum ∧ l.sum ≤ b * l.length
  | [], b, _ => by simp
  | x :: l, b, h => by
    have h1 := h x List.mem_cons_self
    have h2 := sum_bd l b fun y hy => h y (List.mem_cons_of_mem _ hy)
    rw [List.sum_cons, List.length_cons]
    have : b * ((l.length + 1 : Nat) : Int) = b * l.length + b := by rw [Int.natCast_add, Int.mul_add]; simp
    omega
end Psg
namespace Go.Proofs.Ytoeendggmalcpaa
set_option maxRecDepth 20000
set_option maxHeartbeats 4000000
theorem vc_sum (l : List Int) (h : Hp) (hl : l.length ≤ 1000) (hb : ∀ x ∈ l, -1000000 ≤ x ∧ x ≤ 1000000) : VC Try.prog 87 [ints l] h (I l.sum) h := by
  refine VC.body Try.func87 rfl Try.ntmps87 Try.call87 (h.grows_refl) rfl ?_; conv => whnf
  repeat' (first | ((first | refine zs1 ?_ | refine zs2 ?_ | refine zs3 ?_ | refine zs4 ?_ | refine zs5 ?_); conv => whnf) | ((first | apply zi1 | apply zi2 | apply zi3 | apply zi4 | apply zi5) <;> intro _ <;> conv => whnf))
  refine VCode.lp (outer := h.lift) (marks := []) (fun k : Nat => [(3, I (l.take k).sum), (6, ints l), (7, I l.length), (8, I k)]) (fun _ => []) (fun k => k ≤ l.length) (fun k => l.length - k) 0 (Nat.zero_le _) ?_ ?_
  · conv => whnf
    refine Retell.turn ⟨[], 0, [], []⟩ (TurnOk.mk' _ _ [] [] (OutOk.lift _) rfl (by decide) zb trivial trivial rfl) zw zm
  · intro k h1
    rcases Nat.lt_or_ge k l.length with h3 | h3
    · have ha : l[k]? = some l[k] := List.getElem?_eq_getElem h3
      have hx := hb l[k] (List.getElem_mem h3)
      have hs := take_sum ha
      have hs1 := sum_bd (l.take k) 1000000 fun x hx => hb x (List.mem_of_mem_take hx)
      rw [List.length_take, Nat.min_eq_left (by omega)] at hs1
      generalize l[k] = a at ha hx hs
      generalize hq : (l.take k).sum = s at hs hs1
      conv => whnf
      repeat' (first | ((first | refine zs1 ?_ | refine zs2 ?_ | refine zs3 ?_ | refine zs4 ?_ | refine zs5 ?_); conv => whnf) | ((first | apply zi1 | apply zi2 | apply zi3 | apply zi4 | apply zi5) <;> intro _ <;> conv => whnf) | (refine VAny.ix encI_len k rfl rfl ha ?_; conv => whnf))
      all_goals try (exfalso; omega)
      refine LEnd.intro (k + 1) (by omega) (by omega) ?_
      rw [hs]
      conv => whnf
      refine Retell.turn ⟨[], 0, [], []⟩ (TurnOk.mk' _ _ [] [] (OutOk.lift _) rfl (by decide) zb trivial trivial rfl) zw zm
    · conv => whnf
      repeat' (first | ((first | refine zs1 ?_ | refine zs2 ?_ | refine zs3 ?_ | refine zs4 ?_ | refine zs5 ?_); conv => whnf) | ((first | apply zi1 | apply zi2 | apply zi3 | apply zi4 | apply zi5) <;> intro _ <;> conv => whnf))
      all_goals try (exfalso; omega)
      rw [List.take_of_length_le h3]
      exact VOut.same rfl
theorem vc_bars1 (S : List Int) (p : Int) (h : Hp) (hb : S.length ≤ 4000000) : VC Try.prog 90 (D.vs [] ++ [I p] ++ D.vs [.pt [dints S]]) h (B (decide (p ∈ S))) h := by
  have c := fun h => vc_ContI S p h hb
  generalize decide (p ∈ S) = b at c
  refine VC.body Try.func90 rfl Try.ntmps90 Try.call90 (h.grows_refl) rfl ?_; conv => whnf
  repeat' (first | ((first | refine zs1 ?_ | refine zs2 ?_ | refine zs3 ?_ | refine zs4 ?_ | refine zs5 ?_ | refine zs6 [] ?_); conv => whnf) | ((first | apply zi1 | apply zi2 | apply zi3 | apply zi4 | apply zi5) <;> intro _ <;> conv => whnf) | (refine VCall.intro (c _) ?_; conv => whnf))
  exact VOut.same rfl
theorem vc_bars2 (S : List Int) (p : Int) (h : Hp) (hb : S.length ≤ 4000000) : VC Try.prog 92 (D.vs [] ++ [I p] ++ D.vs [.pt [.func (.func 90) [] [.pt [dints S]]]]) h (B (!decide (p ∈ S))) h := by
  have c := fun h => vc_bars1 S p h hb
  generalize decide (p ∈ S) = b at c
  refine VC.body Try.func92 rfl Try.ntmps92 Try.call92 (h.grows_refl) rfl ?_; conv => whnf
  repeat' (first | ((first | refine zs1 ?_ | refine zs2 ?_ | refine zs3 ?_ | refine zs4 ?_ | refine zs5 ?_ | refine zs6 [] ?_); conv => whnf) | ((first | apply zi1 | apply zi2 | apply zi3 | apply zi4 | apply zi5) <;> intro _ <;> conv => whnf) | (refine VCall.intro (c _) ?_; conv => whnf))
  exact VOut.same rfl
def brsN (N : Nt) (a b S : List Int) : Int × Int :=
  if pas N a b = 0 then (if S.all (pstB N) = true then (if risB S = true then (if (a.all fun p => decide (p ∈ S)) = true ∧ (b.all fun p => !decide (p ∈ S)) = true then (bar (fun q => decide (q ∈ S)) N.ws, 0) else (0, 9)) else (0, 5)) else (0, 2)) else (0, pas N a b)
theorem vc_Bars (N : Nt) (a b S : List Int) (h : Hp) (hn : N.ws.length ≤ 4000000) (ha : a.length ≤ 4000000) (hb : b.length ≤ 4000000) (hS : S.length ≤ 4000000) : VC Try.prog 48 [vN N, ints a, ints b, ints S] h (.tuple [I (brsN N a b S).1, I (brsN N a b S).2]) h := by
  obtain ⟨R, hR⟩ : ∃ R, R = brsN N a b S := ⟨_, rfl⟩
  rw [← hR]
  unfold brsN at hR
  have cP := fun h => vc_pastured N a b h hn ha hb
  by_cases h0 : pas N a b = 0
  · rw [if_pos h0] at hR
    rw [h0] at cP
    obtain ⟨n, hN, hPs, ha0, hb0, _, _⟩ := pas_ok h0
    have hp := hN.p
    have hn1 := hN.n1
    have hwl := hN.len
    have cA := fun h => vc_allA S (pstB N) 74 N hS (fun e _ h => vc_posted N e h (by omega)) h
    have cR := fun h => vc_rises S h hS
    have c1 := fun h => vc_allP a (fun p => decide (p ∈ S)) 90 [dints S] ha (fun e _ h => vc_bars1 S e h hS) h
    have c2 := fun h => vc_allP b (fun p => !decide (p ∈ S)) 92 [.func (.func 90) [] [.pt [dints S]]] hb (fun e _ h => vc_bars2 S e h hS) h
    generalize S.all (pstB N) = A at cA hR
    generalize risB S = RS at cR hR
    generalize (a.all fun p => decide (p ∈ S)) = A1 at c1 hR
    generalize (b.all fun p => !decide (p ∈ S)) = A2 at c2 hR
    refine VC.bodyC 3 Try.func48 rfl Try.ntmps48 Try.call48 (h.grows_refl) rfl ?_; conv => whnf
    repeat' (first | ((first | refine zs1 ?_ | refine zs2 ?_ | refine zs3 ?_ | refine zs4 ?_ | refine zs5 ?_); conv => whnf) | ((first | apply zi1 | apply zi2 | apply zi3 | apply zi4 | apply zi5) <;> intro _ <;> conv => whnf) | (refine VCall.intro (cP _) ?_; conv => whnf))
    refine VCut.at' (outer := h.lift) (marks := []) 99 [(1, ints a), (2, ints b), (4, .fp (encN N)), (7, .fp [dints S]), (10, I 0), (11, .fp [.func (.func 90) [] [.pt [dints S]]])] [] ?_ ?_
    · conv => whnf
      refine Retell.turn ⟨[], 3, [(0, encN N), (1, [dints S]), (2, [.func (.func 90) [] [.pt [dints S]]])], []⟩ (TurnOk.mk' _ _ [(0, encN N), (1, [dints S]), (2, [.func (.func 90) [] [.pt [dints S]]])] [] (OutOk.lift _) rfl (by decide) zb zr trivial rfl) zw zm
    · cases A
      · rw [if_neg (by simp)] at hR
        rw [hR]
        conv => whnf
        repeat' (first | ((first | refine zs1 ?_ | refine zs2 ?_ | refine zs3 ?_ | refine zs4 ?_ | refine zs5 ?_); conv => whnf) | ((first | apply zi1 | apply zi2 | apply zi3 | apply zi4 | apply zi5) <;> intro _ <;> conv => whnf) | (refine VCall.intro (cA _) ?_; conv => whnf))
        all_goals try (exfalso; omega)
        exact VOut.same rfl
      · rw [if_pos rfl] at hR
        cases RS
        · rw [if_neg (by simp)] at hR
          rw [hR]
          conv => whnf
          repeat' (first | ((first | refine zs1 ?_ | refine zs2 ?_ | refine zs3 ?_ | refine zs4 ?_ | refine zs5 ?_); conv => whnf) | ((first | apply zi1 | apply zi2 | apply zi3 | apply zi4 | apply zi5) <;> intro _ <;> conv => whnf) | (refine VCall.intro (cA _) ?_; conv => whnf) | (refine VCall.intro (cR _) ?_; conv => whnf))
          all_goals try (exfalso; omega)
          exact VOut.same rfl
        · rw [if_pos rfl] at hR
          cases A1
          · rw [if_neg (by simp)] at hR
            rw [hR]
            conv => whnf
            repeat' (first | ((first | refine zs1 ?_ | refine zs2 ?_ | refine zs3 ?_ | refine zs4 ?_ | refine zs5 ?_); conv => whnf) | ((first | apply zi1 | apply zi2 | apply zi3 | apply zi4 | apply zi5) <;> intro _ <;> conv => whnf) | (refine VCall.intro (cA _) ?_; conv => whnf) | (refine VCall.intro (cR _) ?_; conv => whnf) | (refine VCall.intro (c1 _) ?_; conv => whnf))
            all_goals try (exfalso; omega)
            exact VOut.same rfl
          · cases A2
            · rw [if_neg (by simp)] at hR
              rw [hR]
              conv => whnf
              repeat' (first | ((first | refine zs1 ?_ | refine zs2 ?_ | refine zs3 ?_ | refine zs4 ?_ | refine zs5 ?_); conv => whnf) | ((first | apply zi1 | apply zi2 | apply zi3 | apply zi4 | apply zi5) <;> intro _ <;> conv => whnf) | (refine VCall.intro (cA _) ?_; conv => whnf) | (refine VCall.intro (cR _) ?_; conv => whnf) | (refine VCall.intro (c1 _) ?_; conv => whnf) | (refine VCall.intro (c2 _) ?_; conv => whnf))
              all_goals try (exfalso; omega)
              exact VOut.same rfl
            · rw [if_pos ⟨rfl, rfl⟩] at hR
              rw [hR]
              clear hR
              have hh : ∀ w ∈ N.ws, 0 ≤ w.h ∧ w.h ≤ 1000 := fun w hw => (hN.ws w hw).h
              rw [← brL_sum]
              obtain ⟨SB, hSB⟩ : ∃ SB : Int → Bool, SB = fun q => decide (q ∈ S) := ⟨_, rfl⟩
              rw [← hSB]
              have c1' := fun p h => vc_bars1 S p h hS
              have c2' : ∀ (p : Int) (h : Hp), VC Try.prog 90 (D.vs [] ++ [I p] ++ D.vs [.pt [dints S]]) h (B (SB p)) h := fun p h => by rw [hSB]; exact c1' p h
              clear c1' hSB
              conv => whnf
              repeat' (first | ((first | refine zs1 ?_ | refine zs2 ?_ | refine zs3 ?_ | refine zs4 ?_ | refine zs5 ?_); conv => whnf) | ((first | apply zi1 | apply zi2 | apply zi3 | apply zi4 | apply zi5) <;> intro _ <;> conv => whnf) | (refine VCall.intro (cA _) ?_; conv => whnf) | (refine VCall.intro (cR _) ?_; conv => whnf) | (refine VCall.intro (c1 _) ?_; conv => whnf) | (refine VCall.intro (c2 _) ?_; conv => whnf))
              all_goals try (exfalso; omega)
              refine VCode.lp (outer := h.lift) (marks := []) (fun k : Nat => [(11, .fp [.func (.func 90) [] [.pt [dints S]]]), (12, .gl (.loc 0) 1 (brL SB (N.ws.take k)).length), (46, wys N.ws), (47, I N.ws.length), (48, I k)]) (fun k => [.flat true ((brL SB (N.ws.take k)).flatMap Vm.encI)]) (fun k => k ≤ N.ws.length) (fun k => N.ws.length - k) 0 (Nat.zero_le _) ?_ ?_
              · conv => whnf
                refine Retell.turn ⟨[0], 0, [], []⟩ (TurnOk.mk' _ _ [] [] (OutOk.lift _) rfl (by decide) zb trivial trivial rfl) zw zm
              · intro k hk
                rcases Nat.lt_or_ge k N.ws.length with h3 | h3
                · have ha : N.ws[k]? = some N.ws[k] := List.getElem?_eq_getElem h3
                  have hx := hh N.ws[k] (List.getElem_mem h3)
                  have ht := brL_take (S := SB) ha
                  have hl := brL_len SB (N.ws.take k)
                  rw [List.length_take, Nat.min_eq_left (by omega)] at hl
                  generalize N.ws[k] = w at ha hx ht
                  have cf := fun h => c2' w.f h
                  have ct := fun h => c2' w.t h
                  generalize SB w.f = B1 at cf ht
                  generalize SB w.t = B2 at ct ht
                  generalize brL SB (N.ws.take k) = L at ht hl ⊢
                  cases B1 <;> cases B2
                  all_goals (
                    simp only [Bool.true_and, Bool.false_and, Bool.not_true, Bool.not_false, Bool.false_eq_true, if_false, if_true] at ht
                    conv => whnf
                    repeat' (first | ((first | refine zs1 ?_ | refine zs2 ?_ | refine zs3 ?_ | refine zs4 ?_ | refine zs5 ?_); conv => whnf) | ((first | apply zi1 | apply zi2 | apply zi3 | apply zi4 | apply zi5) <;> intro _ <;> conv => whnf) | (refine VAny.ix encWy_len k rfl rfl ha ?_; conv => whnf) | (refine VCall.intro (cf _) ?_; conv => whnf) | (refine VCall.intro (ct _) ?_; conv => whnf) | (refine VMem.app1 (l := L) (w.h : Int) encI_len rfl rfl rfl rfl rfl (by omega) ?_; conv => whnf))
                    all_goals try (exfalso; omega)
                    refine LEnd.intro (k + 1) (by omega) (by omega) ?_
                    rw [ht]
                    try rw [List.length_append]
                    conv => whnf
                    first | (refine Retell.turn ⟨[0], 2, [], []⟩ (TurnOk.mk' _ _ [] [] (OutOk.lift _) rfl (by decide) zb trivial trivial rfl) zw zm) | (refine Retell.turn ⟨[3], 4, [], []⟩ (TurnOk.mk' _ _ [] [] (OutOk.lift _) rfl (by decide) zb trivial trivial rfl) zw zm))
                · have hl := brL_len SB N.ws
                  have cS := fun h => vc_sum (brL SB N.ws) h (by omega) (brL_mem hh)
                  rw [List.take_of_length_le h3]
                  conv => whnf
                  repeat' (first | ((first | refine zs1 ?_ | refine zs2 ?_ | refine zs3 ?_ | refine zs4 ?_ | refine zs5 ?_); conv => whnf) | ((first | apply zi1 | apply zi2 | apply zi3 | apply zi4 | apply zi5) <;> intro _ <;> conv => whnf))
                  all_goals try (exfalso; omega)
                  refine VCall.intro (VC.give (args' := [ints (brL SB N.ws)]) (loc' := [.dead]) [(0, (brL SB N.ws).flatMap Vm.encI)] [] (OutOk.lift _) zb zf (by exact FmAll.nil) rfl zw (cS _)) ?_
                  conv => whnf
                  repeat' (first | ((first | refine zs1 ?_ | refine zs2 ?_ | refine zs3 ?_ | refine zs4 ?_ | refine zs5 ?_); conv => whnf) | ((first | apply zi1 | apply zi2 | apply zi3 | apply zi4 | apply zi5) <;> intro _ <;> conv => whnf))
                  exact VOut.same rfl
  · rw [if_neg h0] at hR
    generalize pas N a b = E at *
    refine VC.bodyC 3 Try.func48 rfl Try.ntmps48 Try.call48 (h.grows_refl) rfl ?_; conv => whnf
    repeat' (first | ((first | refine zs1 ?_ | refine zs2 ?_ | refine zs3 ?_ | refine zs4 ?_ | refine zs5 ?_); conv => whnf) | ((first | apply zi1 | apply zi2 | apply zi3 | apply zi4 | apply zi5) <;> intro _ <;> conv => whnf) | (refine VCall.intro (cP _) ?_; conv => whnf))
    refine VCut.at' (outer := h.lift) (marks := []) 99 [(10, I E)] [] ?_ ?_
    · conv => whnf
      refine Retell.turn ⟨[], 3, [], []⟩ (TurnOk.mk' _ _ [] [] (OutOk.lift _) rfl (by decide) zb trivial trivial rfl) zw zm
    · conv => whnf
      repeat' (first | ((first | refine zs1 ?_ | refine zs2 ?_ | refine zs3 ?_ | refine zs4 ?_ | refine zs5 ?_); conv => whnf) | ((first | apply zi1 | apply zi2 | apply zi3 | apply zi4 | apply zi5) <;> intro _ <;> conv => whnf))
      all_goals try (exfalso; omega)
      rw [hR]
      exact VOut.same rfl
end Go.Proofs.Ytoeendggmalcpaa

open Go.Vm
open Psg
namespace Go.Proofs.Ytoeendggmalcpaa
set_option maxRecDepth 20000
set_option maxHeartbeats 4000000
def dvP (N : Nt) (a b : List Int) : List Int × Int × List Int := dvN N.p.toNat N a b
theorem nok_nat {n : Nat} {N : Nt} (h : NOk n N) : N.p.toNat = n := by have := h.p; omega
def drvV (N : Nt) (a b : List Int) : V := if pas N a b = 0 then .tuple [ints (dvP N a b).1, I (dvP N a b).2.1, I 0] else .tuple [.nilslice, I 0, I (pas N a b)]
theorem vc_Drive (N : Nt) (a b : List Int) (h : Hp) (hn : N.ws.length ≤ 4000000) (ha : a.length ≤ 4000000) (hb : b.length ≤ 4000000) : VC Try.prog 22 [vN N, ints a, ints b] h (drvV N a b) h := by
  have cP := fun h => vc_pastured N a b h hn ha hb
  unfold drvV
  by_cases h0 : pas N a b = 0
  · rw [if_pos h0]
    rw [h0] at cP
    obtain ⟨n, hN, hPs, ha0, hb0, _, _⟩ := pas_ok h0
    have cD := fun h => vc_driven hN hPs ha0 hb h
    have e : dvP N a b = dvN n N a b := by unfold dvP; rw [nok_nat hN]
    rw [e]
    generalize dvN n N a b = r at cD
    refine VC.body Try.func22 rfl Try.ntmps22 Try.call22 (h.grows_refl) rfl ?_; conv => whnf
    repeat' (first | ((first | refine zs1 ?_ | refine zs2 ?_ | refine zs3 ?_ | refine zs4 ?_ | refine zs5 ?_); conv => whnf) | ((first | apply zi1 | apply zi2 | apply zi3 | apply zi4 | apply zi5) <;> intro _ <;> conv => whnf) | (refine VCall.intro (cP _) ?_; conv => whnf) | (refine VCall.intro (cD _) ?_; conv => whnf))
    all_goals try (exfalso; omega)
    exact VOut.same rfl
  · rw [if_neg h0]
    generalize pas N a b = E at *
    refine VC.body Try.func22 rfl Try.ntmps22 Try.call22 (h.grows_refl) rfl ?_; conv => whnf
    repeat' (first | ((first | refine zs1 ?_ | refine zs2 ?_ | refine zs3 ?_ | refine zs4 ?_ | refine zs5 ?_); conv => whnf) | ((first | apply zi1 | apply zi2 | apply zi3 | apply zi4 | apply zi5) <;> intro _ <;> conv => whnf) | (refine VCall.intro (cP _) ?_; conv => whnf))
    all_goals try (exfalso; omega)
    exact VOut.same rfl
end Go.Proofs.Ytoeendggmalcpaa

open Go.Vm
open Psg
namespace Psg
def lessN (N : Nt) (i : Nat) (w : Wy) : Nt := { N with ws := N.ws.set i (lessW w) }
theorem nok_less {n : Nat} {N : Nt} {i : Nat} {w : Wy} (hN : NOk n N) (hi : N.ws[i]? = some w) (h1 : 1 ≤ w.h) : NOk n (lessN N i w) := by
  have hw := hN.ws w (List.mem_of_getElem? hi)
  have hne := hN.ne w (List.mem_of_getElem? hi)
  refine ⟨hN.p, hN.n1, by unfold lessN; simp only [List.length_set]; exact hN.len, fun v hv => ?_, fun v hv => ?_⟩
  · rcases List.mem_or_eq_of_mem_set hv with h | rfl
    · exact hN.ws v h
    · exact ⟨hw.f, hw.t, hw.d, by have := hw.h; show 0 ≤ w.h - 1 ∧ w.h - 1 ≤ 1000; omega, hw.n, hw.g, hw.lo, hw.hi⟩
  · rcases List.mem_or_eq_of_mem_set hv with h | rfl
    · exact hN.ne v h
    · exact hne
theorem ps_less {n : Nat} {N : Nt} {i : Nat} {w : Wy} {a b : List Int} (hP : Ps n N.ws a b) (hi : N.ws[i]? = some w) : Ps n (lessN N i w).ws a b := by
  refine ⟨fun v hv => ?_, hP.smt, hP.gin, hP.dis⟩
  rcases List.mem_or_eq_of_mem_set hv with h | rfl
  · exact hP.inN v h
  · exact hP.inN w (List.mem_of_getElem? hi)
end Psg
namespace Go.Proofs.Ytoeendggmalcpaa
set_option maxRecDepth 20000
set_option maxHeartbeats 4000000
def narB (N : Nt) (a b : List Int) (i : Nat) : Bool :=
  let w := N.ws.getD i ⟨0, 0, 0, 0, 0, 0, 0, 0⟩
  decide (1 ≤ w.h) && decide ((dvP (lessN N i w) a b).2.1 < (dvP N a b).2.1)
def narL (N : Nt) (a b : List Int) : Nat → List Int
  | 0 => []
  | k + 1 => if narB N a b k = true then narL N a b k ++ [(k : Int)] else narL N a b k
theorem narL_len (N : Nt) (a b : List Int) : ∀ k, (narL N a b k).length ≤ k
  | 0 => Nat.le_refl _
  | k + 1 => by
    have := narL_len N a b k
    rw [narL]
    split
    · rw [List.length_append]; simp; omega
    · omega
def narV (N : Nt) (a b : List Int) : V := if pas N a b = 0 then .tuple [ints (narL N a b N.ws.length), I 0] else .tuple [.nilslice, I (pas N a b)]
def wy0 : Wy := ⟨0, 0, 0, 0, 0, 0, 0, 0⟩
theorem encWy_s (w : Wy) : ∀ d ∈ encWy w, ∃ x, d = D.s x := by
  intro d hd
  simp only [encWy, List.mem_cons, List.not_mem_nil, or_false] at hd
  rcases hd with rfl | rfl | rfl | rfl | rfl | rfl | rfl | rfl <;> exact ⟨_, rfl⟩
theorem vc_Narrow (N : Nt) (a b : List Int) (h : Hp) (hn : N.ws.length ≤ 4000000) (ha : a.length ≤ 4000000) (hb : b.length ≤ 4000000) : VC Try.prog 26 [vN N, ints a, ints b] h (narV N a b) h := by
  have cP := fun h => vc_pastured N a b h hn ha hb
  unfold narV
  by_cases h0 : pas N a b = 0
  · rw [if_pos h0]
    rw [h0] at cP
    obtain ⟨n, hN, hPs, ha0, hb0, _, _⟩ := pas_ok h0
    have hwl := hN.len
    have cD := fun h => vc_driven hN hPs ha0 hb h
    have e : dvP N a b = dvN n N a b := by unfold dvP; rw [nok_nat hN]
    obtain ⟨r, hr⟩ : ∃ r, r = dvP N a b := ⟨_, rfl⟩
    rw [← e, ← hr] at cD
    refine VC.bodyC 1 Try.func26 rfl Try.ntmps26 Try.call26 (h.grows_refl) rfl ?_; conv => whnf
    refine VCut.at' (outer := h.lift) (marks := []) 99 [(1, ints a), (2, ints b), (3, .fp (encN N))] [] ?_ ?_
    · conv => whnf
      refine Retell.turn ⟨[], 1, [(0, encN N)], []⟩ (TurnOk.mk' _ _ [(0, encN N)] [] (OutOk.lift _) rfl (by decide) zb zf trivial rfl) zw zm
    · conv => whnf
      repeat' (first | ((first | refine zs1 ?_ | refine zs2 ?_ | refine zs3 ?_ | refine zs4 ?_ | refine zs5 ?_); conv => whnf) | ((first | apply zi1 | apply zi2 | apply zi3 | apply zi4 | apply zi5) <;> intro _ <;> conv => whnf) | (refine VCall.intro (cP _) ?_; conv => whnf) | (refine VCall.intro (cD _) ?_; conv => whnf))
      all_goals try (exfalso; omega)
      refine VCode.lp (outer := h.lift) (marks := []) (fun k : Nat => [(1, ints a), (2, ints b), (3, .fp (encN N)), (10, I r.2.1), (12, .gl (.loc 0) 1 (narL N a b k).length), (35, I N.ws.length), (36, I k)]) (fun k => [.flat true ((narL N a b k).flatMap Vm.encI)]) (fun k => k ≤ N.ws.length) (fun k => N.ws.length - k) 0 (Nat.zero_le _) ?_ ?_
      · conv => whnf
        refine Retell.turn ⟨[0], 0, [], []⟩ (TurnOk.mk' _ _ [] [] (OutOk.lift _) rfl (by decide) zb trivial trivial rfl) zw zm
      · intro k hk
        rcases Nat.lt_or_ge k N.ws.length with h3 | h3
        · have hw : N.ws[k]? = some N.ws[k] := List.getElem?_eq_getElem h3
          have hx := (hN.ws N.ws[k] (List.getElem_mem h3)).h
          have hl := narL_len N a b k
          have hB : narB N a b k = (decide (1 ≤ N.ws[k].h) && decide ((dvP (lessN N k N.ws[k]) a b).2.1 < r.2.1)) := by
            have : N.ws.getD k ⟨0, 0, 0, 0, 0, 0, 0, 0⟩ = N.ws[k] := by rw [List.getD_eq_getElem?_getD, hw]; rfl
            unfold narB
            rw [this, hr]
          have hL : narL N a b (k + 1) = if narB N a b k = true then narL N a b k ++ [(k : Int)] else narL N a b k := rfl
          rw [hB] at hL
          generalize N.ws[k] = w at hw hx hL
          generalize narL N a b k = L at hl hL ⊢
          have hw' : (N.ws.set k (lessW w))[k]? = some (lessW w) := by rw [List.getElem?_set_self h3]
          have hlh : (lessW w).h = w.h - 1 := rfl
          have hfl : ((N.ws.set k (lessW w)).flatMap encWy).length = N.ws.length * 8 := by rw [flat_len encWy_len, List.length_set]
          by_cases h1 : 1 ≤ w.h
          · have cE := fun h => vc_driven (nok_less hN hw h1) (ps_less hPs hw) ha0 hb h
            have e2 : dvP (lessN N k w) a b = dvN n (lessN N k w) a b := by unfold dvP; rw [nok_nat (nok_less hN hw h1)]
            rw [← e2] at cE
            rw [decide_eq_true h1, Bool.true_and] at hL
            generalize dvP (lessN N k w) a b = r2 at cE hL
            simp only [vN, wys, lessN, List.length_set] at cE
            conv => whnf
            repeat' (first | ((first | refine zs1 ?_ | refine zs2 ?_ | refine zs3 ?_ | refine zs4 ?_ | refine zs5 ?_); conv => whnf) | ((first | apply zi1 | apply zi2 | apply zi3 | apply zi4 | apply zi5) <;> intro _ <;> conv => whnf))
            all_goals try (exfalso; omega)
            refine zs6 [] ?_
            conv => whnf
            repeat' (first | ((first | refine zs1 ?_ | refine zs2 ?_ | refine zs3 ?_ | refine zs4 ?_ | refine zs5 ?_); conv => whnf) | ((first | apply zi1 | apply zi2 | apply zi3 | apply zi4 | apply zi5) <;> intro _ <;> conv => whnf) | (refine VMkD.makeR wy0 N.ws.length encWy_len (encWy_s _) rfl rfl rfl rfl rfl rfl rfl (by decide) (by omega) ?_; conv => whnf) | (refine VMem.copyFs (l := List.replicate N.ws.length wy0) (l2 := N.ws) encWy_len rfl rfl (by simp) rfl rfl ?_; conv => whnf) | (refine VLd.recc encWy_len k 3 rfl rfl rfl hw (by decide) rfl (by show (k : Int).toNat * 8 + 3 = k * 8 + 3; omega) ?_; conv => whnf) | (refine VMem.setRec encWy_len k 3 (lessW w) rfl rfl rfl hw (by decide) rfl (by show (k : Int).toNat * 8 + 3 = k * 8 + 3; omega) ?_; conv => whnf) | (refine VLd.recc encWy_len k 3 rfl rfl rfl hw' (by decide) rfl (by show (k : Int).toNat * 8 + 3 = k * 8 + 3; omega) ?_; conv => whnf))
            all_goals try (exfalso; omega)
            refine VCall.intro (VC.give (args' := [.agg [I N.p, .fs 8 N.ws.length ((N.ws.set k (lessW w)).flatMap encWy)], ints a, ints b]) (loc' := [.flat true (L.flatMap Vm.encI), .dead, .dead]) [(1, (N.ws.set k (lessW w)).flatMap encWy)] [] (OutOk.lift _) zb zf (by exact FmAll.nil) rfl zw (cE _)) ?_
            conv => whnf
            repeat' (first | ((first | refine zs1 ?_ | refine zs2 ?_ | refine zs3 ?_ | refine zs4 ?_ | refine zs5 ?_); conv => whnf) | ((first | apply zi1 | apply zi2 | apply zi3 | apply zi4 | apply zi5) <;> intro _ <;> conv => whnf) | (refine VMem.app1 (l := L) (k : Int) encI_len rfl rfl rfl rfl rfl (by omega) ?_; conv => whnf))
            · rename_i hlt
              rw [if_pos (decide_eq_true hlt)] at hL
              refine LEnd.intro (k + 1) (by omega) (by omega) ?_
              rw [hL, List.length_append]
              conv => whnf
              refine Retell.turn ⟨[4], 5, [], []⟩ (TurnOk.mk' _ _ [] [] (OutOk.lift _) rfl (by decide) zb trivial trivial rfl) zw zm
            · rename_i hlt
              rw [if_neg (by simpa using hlt)] at hL
              refine LEnd.intro (k + 1) (by omega) (by omega) ?_
              rw [hL]
              conv => whnf
              refine Retell.turn ⟨[0], 3, [], []⟩ (TurnOk.mk' _ _ [] [] (OutOk.lift _) rfl (by decide) zb trivial trivial rfl) zw zm
          · rw [decide_eq_false h1, Bool.false_and, if_neg (by simp)] at hL
            conv => whnf
            repeat' (first | ((first | refine zs1 ?_ | refine zs2 ?_ | refine zs3 ?_ | refine zs4 ?_ | refine zs5 ?_); conv => whnf) | ((first | apply zi1 | apply zi2 | apply zi3 | apply zi4 | apply zi5) <;> intro _ <;> conv => whnf))
            all_goals try (exfalso; omega)
            refine zs6 [] ?_
            conv => whnf
            repeat' (first | ((first | refine zs1 ?_ | refine zs2 ?_ | refine zs3 ?_ | refine zs4 ?_ | refine zs5 ?_); conv => whnf) | ((first | apply zi1 | apply zi2 | apply zi3 | apply zi4 | apply zi5) <;> intro _ <;> conv => whnf) | (refine VMkD.makeR wy0 N.ws.length encWy_len (encWy_s _) rfl rfl rfl rfl rfl rfl rfl (by decide) (by omega) ?_; conv => whnf) | (refine VMem.copyFs (l := List.replicate N.ws.length wy0) (l2 := N.ws) encWy_len rfl rfl (by simp) rfl rfl ?_; conv => whnf) | (refine VLd.recc encWy_len k 3 rfl rfl rfl hw (by decide) rfl (by show (k : Int).toNat * 8 + 3 = k * 8 + 3; omega) ?_; conv => whnf) | (refine VMem.setRec encWy_len k 3 (lessW w) rfl rfl rfl hw (by decide) rfl (by show (k : Int).toNat * 8 + 3 = k * 8 + 3; omega) ?_; conv => whnf) | (refine VLd.recc encWy_len k 3 rfl rfl rfl hw' (by decide) rfl (by show (k : Int).toNat * 8 + 3 = k * 8 + 3; omega) ?_; conv => whnf))
            all_goals try (exfalso; omega)
            refine LEnd.intro (k + 1) (by omega) (by omega) ?_
            rw [hL]
            conv => whnf
            refine Retell.turn ⟨[0], 3, [], []⟩ (TurnOk.mk' _ _ [] [] (OutOk.lift _) rfl (by decide) zb trivial trivial rfl) zw zm
        · have hkl : k = N.ws.length := by omega
          subst hkl
          generalize narL N a b N.ws.length = L
          conv => whnf
          repeat' (first | ((first | refine zs1 ?_ | refine zs2 ?_ | refine zs3 ?_ | refine zs4 ?_ | refine zs5 ?_); conv => whnf) | ((first | apply zi1 | apply zi2 | apply zi3 | apply zi4 | apply zi5) <;> intro _ <;> conv => whnf))
          all_goals try (exfalso; omega)
          refine VOut.data 1 [(0, L.flatMap Vm.encI)] [] rfl zf (by exact FmAll.nil) zw
  · rw [if_neg h0]
    generalize pas N a b = E at *
    refine VC.bodyC 1 Try.func26 rfl Try.ntmps26 Try.call26 (h.grows_refl) rfl ?_; conv => whnf
    refine VCut.at' (outer := h.lift) (marks := []) 99 [(1, ints a), (2, ints b), (3, .fp (encN N))] [] ?_ ?_
    · conv => whnf
      refine Retell.turn ⟨[], 1, [(0, encN N)], []⟩ (TurnOk.mk' _ _ [(0, encN N)] [] (OutOk.lift _) rfl (by decide) zb zf trivial rfl) zw zm
    · conv => whnf
      repeat' (first | ((first | refine zs1 ?_ | refine zs2 ?_ | refine zs3 ?_ | refine zs4 ?_ | refine zs5 ?_); conv => whnf) | ((first | apply zi1 | apply zi2 | apply zi3 | apply zi4 | apply zi5) <;> intro _ <;> conv => whnf) | (refine VCall.intro (cP _) ?_; conv => whnf))
      all_goals try (exfalso; omega)
      exact VOut.same rfl
end Go.Proofs.Ytoeendggmalcpaa

open Go.Vm
open Psg
namespace Psg
def upN (X : List Int) (w : Wy) (x : Int) : List Int :=
  (X.set w.f.toNat (X.getD w.f.toNat 0 + x)).set w.t.toNat ((X.set w.f.toNat (X.getD w.f.toNat 0 + x)).getD w.t.toNat 0 - x)
theorem getD_set {X : List Int} {i j : Nat} {v : Int} (hi : i < X.length) : (X.set i v).getD j 0 = if i = j then v else X.getD j 0 := by
  rw [List.getD_eq_getElem?_getD, List.getElem?_set, List.getD_eq_getElem?_getD]
  split
  · rename_i h; subst h; simp [hi]
  · rfl
theorem upN_get {n : Nat} {X : List Int} {w : Wy} {x : Int} (hn : n ≤ 10) (hX : X.length = 10) (hf : 0 ≤ w.f ∧ w.f < n) (ht : 0 ≤ w.t ∧ w.t < n) (p : Nat) : (upN X w x).getD p 0 = X.getD p 0 + one (eqB p w.f) x - one (eqB p w.t) x := by
  unfold upN
  rw [getD_set (by rw [List.length_set]; omega), getD_set (by omega), getD_set (by omega)]
  have e1 : eqB p w.f = decide (w.f.toNat = p) := decide_eq_decide.2 (by constructor <;> intro h <;> omega)
  have e2 : eqB p w.t = decide (w.t.toNat = p) := decide_eq_decide.2 (by constructor <;> intro h <;> omega)
  rw [e1, e2]
  by_cases h1 : w.f.toNat = p <;> by_cases h2 : w.t.toNat = p <;> simp [h1, h2, one] <;> (try (by_cases h3 : w.f.toNat = w.t.toNat <;> simp_all <;> omega)) <;> (try omega)
theorem flux_take (S : Int → Bool) : ∀ {ws : List Wy} {xs : List Int} {k : Nat} {w : Wy} {x : Int}, ws[k]? = some w → xs[k]? = some x → flux S (ws.take (k + 1)) (xs.take (k + 1)) = flux S (ws.take k) (xs.take k) + one (S w.f) x - one (S w.t) x
  | u :: ws, y :: xs, 0, w, x, h1, h2 => by
    simp only [List.getElem?_cons_zero, Option.some.injEq] at h1 h2
    subst h1 h2
    simp [flux]
  | u :: ws, y :: xs, k + 1, w, x, h1, h2 => by
    rw [List.getElem?_cons_succ] at h1 h2
    have := flux_take S h1 h2
    simp only [List.take_succ_cons, flux]
    rw [this]; omega
  | [], _, _, _, _, h1, _ => by simp at h1
  | _ :: _, [], _, _, _, _, h2 => by simp at h2
structure NI (ws : List Wy) (xs : List Int) (k : Nat) (X : List Int) : Prop where
  len : X.length = 10
  net : ∀ p : Nat, p < 10 → X.getD p 0 = net p (ws.take k) (xs.take k)
  bd : ∀ p : Nat, -(1000 * (k : Int)) ≤ X.getD p 0 ∧ X.getD p 0 ≤ 1000 * (k : Int)
theorem NI.step {n : Nat} {ws : List Wy} {xs : List Int} {k : Nat} {X : List Int} {w : Wy} {x : Int} (h : NI ws xs k X) (hn : n ≤ 10) (h1 : ws[k]? = some w) (h2 : xs[k]? = some x) (hf : 0 ≤ w.f ∧ w.f < n) (ht : 0 ≤ w.t ∧ w.t < n) (hx : 0 ≤ x ∧ x ≤ 1000) : NI ws xs (k + 1) (upN X w x) := by
  refine ⟨by unfold upN; rw [List.length_set, List.length_set]; exact h.len, fun p hp => ?_, fun p => ?_⟩
  · rw [upN_get hn h.len hf ht, h.net p hp]
    unfold Psg.net
    rw [flux_take _ h1 h2]
  · rw [upN_get hn h.len hf ht]
    have := h.bd p
    cases eqB p w.f <;> cases eqB p w.t <;> simp only [one, cond_true, cond_false] <;> push_cast <;> omega
end Psg
namespace Go.Proofs.Ytoeendggmalcpaa
set_option maxRecDepth 20000
set_option maxHeartbeats 4000000
end Go.Proofs.Ytoeendggmalcpaa

open Go.Vm
open Psg
namespace Go.Proofs.Ytoeendggmalcpaa
set_option maxRecDepth 20000
set_option maxHeartbeats 4000000
/-! ### Copies -/
theorem vc_kcloneI (l : List Int) (h : Hp) (hl : l.length ≤ 4000000) : VC Try.prog 29 [ints l] h (ints l) h := by
  refine VC.body Try.func29 rfl Try.ntmps29 Try.call29 (h.grows_refl) rfl ?_; conv => whnf
  repeat' (first | ((first | refine zs1 ?_ | refine zs2 ?_ | refine zs3 ?_ | refine zs4 ?_ | refine zs5 ?_); conv => whnf) | ((first | apply zi1 | apply zi2 | apply zi3 | apply zi4 | apply zi5) <;> intro _ <;> conv => whnf))
  refine VMem.appNil encI_len rfl rfl rfl (by omega) ?_
  conv => whnf
  repeat' (first | ((first | refine zs1 ?_ | refine zs2 ?_ | refine zs3 ?_ | refine zs4 ?_ | refine zs5 ?_); conv => whnf) | ((first | apply zi1 | apply zi2 | apply zi3 | apply zi4 | apply zi5) <;> intro _ <;> conv => whnf))
  refine VOut.data 1 [(0, l.flatMap Vm.encI)] [] rfl zf (by exact FmAll.nil) zw
theorem vc_kcloneH (l : List Hd) (h : Hp) (hl : l.length ≤ 4000000) : VC Try.prog 30 [hds l] h (hds l) h := by
  have hfl : (l.flatMap encHd).length = l.length * 3 := flat_len encHd_len _
  refine VC.body Try.func30 rfl Try.ntmps30 Try.call30 (h.grows_refl) rfl ?_; conv => whnf
  repeat' (first | ((first | refine zs1 ?_ | refine zs2 ?_ | refine zs3 ?_ | refine zs4 ?_ | refine zs5 ?_); conv => whnf) | ((first | apply zi1 | apply zi2 | apply zi3 | apply zi4 | apply zi5) <;> intro _ <;> conv => whnf))
  refine VMem.appNil encHd_len rfl rfl rfl (by omega) ?_
  conv => whnf
  repeat' (first | ((first | refine zs1 ?_ | refine zs2 ?_ | refine zs3 ?_ | refine zs4 ?_ | refine zs5 ?_); conv => whnf) | ((first | apply zi1 | apply zi2 | apply zi3 | apply zi4 | apply zi5) <;> intro _ <;> conv => whnf))
  refine VOut.data 1 [(0, l.flatMap encHd)] [] rfl zf (by exact FmAll.nil) zw
theorem vc_kcloneW (l : List Wy) (h : Hp) (hl : l.length ≤ 4000000) : VC Try.prog 63 [wys l] h (wys l) h := by
  have hfl : (l.flatMap encWy).length = l.length * 8 := flat_len encWy_len _
  refine VC.body Try.func63 rfl Try.ntmps63 Try.call63 (h.grows_refl) rfl ?_; conv => whnf
  repeat' (first | ((first | refine zs1 ?_ | refine zs2 ?_ | refine zs3 ?_ | refine zs4 ?_ | refine zs5 ?_); conv => whnf) | ((first | apply zi1 | apply zi2 | apply zi3 | apply zi4 | apply zi5) <;> intro _ <;> conv => whnf))
  refine VMem.appNil encWy_len rfl rfl rfl (by omega) ?_
  conv => whnf
  repeat' (first | ((first | refine zs1 ?_ | refine zs2 ?_ | refine zs3 ?_ | refine zs4 ?_ | refine zs5 ?_); conv => whnf) | ((first | apply zi1 | apply zi2 | apply zi3 | apply zi4 | apply zi5) <;> intro _ <;> conv => whnf))
  refine VOut.data 1 [(0, l.flatMap encWy)] [] rfl zf (by exact FmAll.nil) zw
theorem vc_CloneNet (N : Nt) (h : Hp) (hn : N.ws.length ≤ 4000000) : VC Try.prog 19 [vN N] h (vN N) h := by
  have c := fun h => vc_kcloneW N.ws h hn
  refine VC.body Try.func19 rfl Try.ntmps19 Try.call19 (h.grows_refl) rfl ?_; conv => whnf
  repeat' (first | ((first | refine zs1 ?_ | refine zs2 ?_ | refine zs3 ?_ | refine zs4 ?_ | refine zs5 ?_); conv => whnf) | ((first | apply zi1 | apply zi2 | apply zi3 | apply zi4 | apply zi5) <;> intro _ <;> conv => whnf))
  refine zs6 [(1, 4)] ?_
  conv => whnf
  repeat' (first | ((first | refine zs1 ?_ | refine zs2 ?_ | refine zs3 ?_ | refine zs4 ?_ | refine zs5 ?_); conv => whnf) | ((first | apply zi1 | apply zi2 | apply zi3 | apply zi4 | apply zi5) <;> intro _ <;> conv => whnf) | (refine VCall.intro (c _) ?_; conv => whnf))
  exact VOut.same rfl
end Go.Proofs.Ytoeendggmalcpaa

open Go.Vm
open Psg
namespace Go.Proofs.Ytoeendggmalcpaa
set_option maxRecDepth 20000
set_option maxHeartbeats 4000000
theorem drop_eq_dec {α : Type} [DecidableEq α] {a b : List α} {k : Nat} {x y : α} (hx : a[k]? = some x) (hy : b[k]? = some y) : decide (a.drop k = b.drop k) = (decide (x = y) && decide (a.drop (k + 1) = b.drop (k + 1))) := by
  obtain ⟨h1, rfl⟩ := List.getElem?_eq_some_iff.1 hx
  obtain ⟨h2, rfl⟩ := List.getElem?_eq_some_iff.1 hy
  rw [List.drop_eq_getElem_cons h1, List.drop_eq_getElem_cons h2, Bool.eq_iff_iff, Bool.and_eq_true, decide_eq_true_eq, decide_eq_true_eq, decide_eq_true_eq, List.cons.injEq]
theorem ne_I {x y : Int} (h : ¬ x = y) : ¬ x = y := h
theorem eq_I {x y : Int} (h : x = y) : x = y := h
theorem ne_X {α : Type} {x y : α} (h : ¬ x = y) : ¬ x = y := h
theorem eq_X {α : Type} {x y : α} (h : ¬ ¬ x = y) : x = y := Classical.not_not.1 h
theorem vc_kequalI (a b : List Int) (h : Hp) (ha : a.length ≤ 4000000) (hb : b.length ≤ 4000000) : VC Try.prog 37 [ints a, ints b] h (B (decide (a = b))) h := by
  obtain ⟨E, hE⟩ : ∃ E, E = decide (a = b) := ⟨_, rfl⟩
  rw [← hE]
  refine VC.body Try.func37 rfl Try.ntmps37 Try.call37 (h.grows_refl) rfl ?_; conv => whnf
  refine VCode.lp (fun k : Nat => [(0, ints a), (1, ints b), (4, B false), (7, I a.length), (8, I k)]) (fun _ => []) (fun k => k ≤ a.length ∧ k ≤ b.length ∧ E = decide (a.drop k = b.drop k)) (fun k => a.length - k) 0 ⟨Nat.zero_le _, Nat.zero_le _, hE⟩ ?_ ?_
  · conv => whnf
    refine Retell.turn ⟨[], 0, [], []⟩ (TurnOk.mk' _ _ [] [] (OutOk.lift _) rfl (by decide) zb trivial trivial rfl) zw zm
  · rintro k ⟨h1, h2, h3⟩
    conv => whnf
    refine VIte.dec (fun h4 => ?_) (fun h4 => ?_)
    · have hx : a[k]? = some a[k] := List.getElem?_eq_getElem (by omega)
      rcases Nat.eq_or_lt_of_le h2 with h5 | h5
      · have hF : E = false := by
          rw [h3, decide_eq_false_iff_not]
          intro hh
          have := congrArg List.length hh
          simp at this; omega
        rw [hF]
        conv => whnf
        repeat' (first | ((first | refine zs1 ?_ | refine zs2 ?_ | refine zs3 ?_ | refine zs4 ?_ | refine zs5 ?_ | refine zs6 [] ?_); conv => whnf) | ((first | apply zi1 | apply zi2 | apply zi3 | apply zi4 | apply zi5) <;> intro _ <;> conv => whnf))
        · exact VOut.same rfl
        all_goals omega
      · have hy : b[k]? = some b[k] := List.getElem?_eq_getElem h5
        rw [drop_eq_dec hx hy] at h3
        generalize a[k] = x at hx h3
        generalize b[k] = y at hy h3
        conv => whnf
        repeat' (first | ((first | refine zs1 ?_ | refine zs2 ?_ | refine zs3 ?_ | refine zs4 ?_ | refine zs5 ?_ | refine zs6 [] ?_); conv => whnf) | ((first | apply zi1 | apply zi2 | apply zi3 | apply zi4 | apply zi5) <;> intro _ <;> conv => whnf) | (refine VAny.ix encI_len k rfl rfl hx ?_; conv => whnf) | (refine VAny.ix encI_len k rfl rfl hy ?_; conv => whnf))
        all_goals (try omega)
        all_goals first
          | (rw [decide_eq_false (ne_I (by first | assumption | omega)), Bool.false_and] at h3; rw [h3]; exact VOut.same rfl)
          | (rw [decide_eq_true (eq_I (by first | assumption | omega)), Bool.true_and] at h3
             refine LEnd.intro (k + 1) ⟨by omega, by omega, h3⟩ (by omega) ?_
             conv => whnf
             refine Retell.turn ⟨[], 0, [], []⟩ (TurnOk.mk' _ _ [] [] (OutOk.lift _) rfl (by decide) zb trivial trivial rfl) zw zm)
    · have hk : k = a.length := by omega
      rw [h3, hk, List.drop_length]
      conv => whnf
      repeat' (first | ((first | refine zs1 ?_ | refine zs2 ?_ | refine zs3 ?_ | refine zs4 ?_ | refine zs5 ?_ | refine zs6 [] ?_); conv => whnf) | ((first | apply zi1 | apply zi2 | apply zi3 | apply zi4 | apply zi5) <;> intro _ <;> conv => whnf))
      refine VOut.same ?_
      have : ((a.length : Int) == b.length) = decide ([] = b.drop a.length) := by
        rw [Bool.eq_iff_iff, decide_eq_true_eq, beq_iff_eq]
        constructor
        · intro hh; rw [List.drop_of_length_le (by omega)]
        · intro hh
          have := congrArg List.length hh
          simp at this; omega
      simp only [V.ren, this]
end Go.Proofs.Ytoeendggmalcpaa

open Go.Vm
open Psg
namespace Go.Proofs.Ytoeendggmalcpaa
set_option maxRecDepth 20000
set_option maxHeartbeats 4000000
theorem top30 : eqTop Try.prog 30 = some (Sh.cons 0 1 false Sh.int (Sh.cons 1 1 false Sh.int (Sh.cons 2 1 false Sh.int (Sh.nil)))) := by kernel_rfl
theorem vneqH (x y : Hd) : vaggeq Try.prog .neq 30 (vHd x) (vHd y) = some (B (decide (¬ x = y))) := by
  have : (!((x.p == y.p) && ((x.d == y.d) && ((x.s == y.s) && true)))) = decide (¬ x = y) := by
    obtain ⟨a0, a1, a2⟩ := x; obtain ⟨b0, b1, b2⟩ := y
    rw [Bool.eq_iff_iff, decide_eq_true_eq]; simp [-not_and, and_assoc]; omega
  rw [← this]
  unfold vaggeq
  rw [top30]
  rfl
theorem top40 : eqTop Try.prog 40 = some (Sh.cons 0 1 false Sh.int (Sh.cons 1 1 false Sh.int (Sh.cons 2 1 false Sh.int (Sh.cons 3 1 false Sh.int (Sh.cons 4 1 false Sh.int (Sh.cons 5 1 false Sh.int (Sh.cons 6 2 true (Sh.cons 0 1 false Sh.int (Sh.cons 1 1 false Sh.int Sh.nil)) Sh.nil))))))) := by kernel_rfl
theorem vneqW (x y : Wy) : vaggeq Try.prog .neq 40 (vWy x) (vWy y) = some (B (decide (¬ x = y))) := by
  have : (!((x.f == y.f) && ((x.t == y.t) && ((x.d == y.d) && ((x.h == y.h) && ((x.n == y.n) && ((x.g == y.g) && (((x.lo == y.lo) && ((x.hi == y.hi) && true)) && true)))))))) = decide (¬ x = y) := by
    obtain ⟨a0, a1, a2, a3, a4, a5, a6, a7⟩ := x; obtain ⟨b0, b1, b2, b3, b4, b5, b6, b7⟩ := y
    rw [Bool.eq_iff_iff, decide_eq_true_eq]; simp [-not_and, and_assoc]; omega
  rw [← this]
  unfold vaggeq
  rw [top40]
  rfl
theorem vc_kequalH (a b : List Hd) (h : Hp) (ha : a.length ≤ 4000000) (hb : b.length ≤ 4000000) : VC Try.prog 43 [hds a, hds b] h (B (decide (a = b))) h := by
  obtain ⟨E, hE⟩ : ∃ E, E = decide (a = b) := ⟨_, rfl⟩
  rw [← hE]
  refine VC.body Try.func43 rfl Try.ntmps43 Try.call43 (h.grows_refl) rfl ?_; conv => whnf
  refine VCode.lp (fun k : Nat => [(0, hds a), (1, hds b), (4, B false), (7, I a.length), (8, I k)]) (fun _ => []) (fun k => k ≤ a.length ∧ k ≤ b.length ∧ E = decide (a.drop k = b.drop k)) (fun k => a.length - k) 0 ⟨Nat.zero_le _, Nat.zero_le _, hE⟩ ?_ ?_
  · conv => whnf
    refine Retell.turn ⟨[], 0, [], []⟩ (TurnOk.mk' _ _ [] [] (OutOk.lift _) rfl (by decide) zb trivial trivial rfl) zw zm
  · rintro k ⟨h1, h2, h3⟩
    conv => whnf
    refine VIte.dec (fun h4 => ?_) (fun h4 => ?_)
    · have hx : a[k]? = some a[k] := List.getElem?_eq_getElem (by omega)
      rcases Nat.eq_or_lt_of_le h2 with h5 | h5
      · have hF : E = false := by
          rw [h3, decide_eq_false_iff_not]
          intro hh
          have := congrArg List.length hh
          simp at this; omega
        rw [hF]
        conv => whnf
        repeat' (first | ((first | refine zs1 ?_ | refine zs2 ?_ | refine zs3 ?_ | refine zs4 ?_ | refine zs5 ?_ | refine zs6 [] ?_); conv => whnf) | ((first | apply zi1 | apply zi2 | apply zi3 | apply zi4 | apply zi5) <;> intro _ <;> conv => whnf))
        · exact VOut.same rfl
        all_goals omega
      · have hy : b[k]? = some b[k] := List.getElem?_eq_getElem h5
        rw [drop_eq_dec hx hy] at h3
        generalize a[k] = x at hx h3
        generalize b[k] = y at hy h3
        conv => whnf
        repeat' (first | ((first | refine zs1 ?_ | refine zs2 ?_ | refine zs3 ?_ | refine zs4 ?_ | refine zs5 ?_ | refine zs6 [] ?_); conv => whnf) | ((first | apply zi1 | apply zi2 | apply zi3 | apply zi4 | apply zi5) <;> intro _ <;> conv => whnf) | (refine VAny.ix encHd_len k rfl rfl hx ?_; conv => whnf) | (refine VAny.ix encHd_len k rfl rfl hy ?_; conv => whnf) | (refine VAgg.intro (vneqH _ _) ?_; conv => whnf))
        all_goals (try omega)
        all_goals first
          | (rw [decide_eq_false (ne_X (by first | assumption | omega)), Bool.false_and] at h3; rw [h3]; exact VOut.same rfl)
          | (rw [decide_eq_true (eq_X (by first | assumption | omega)), Bool.true_and] at h3
             refine LEnd.intro (k + 1) ⟨by omega, by omega, h3⟩ (by omega) ?_
             conv => whnf
             refine Retell.turn ⟨[], 0, [], []⟩ (TurnOk.mk' _ _ [] [] (OutOk.lift _) rfl (by decide) zb trivial trivial rfl) zw zm)
    · have hk : k = a.length := by omega
      rw [h3, hk, List.drop_length]
      conv => whnf
      repeat' (first | ((first | refine zs1 ?_ | refine zs2 ?_ | refine zs3 ?_ | refine zs4 ?_ | refine zs5 ?_ | refine zs6 [] ?_); conv => whnf) | ((first | apply zi1 | apply zi2 | apply zi3 | apply zi4 | apply zi5) <;> intro _ <;> conv => whnf))
      refine VOut.same ?_
      have : ((a.length : Int) == b.length) = decide ([] = b.drop a.length) := by
        rw [Bool.eq_iff_iff, decide_eq_true_eq, beq_iff_eq]
        constructor
        · intro hh; rw [List.drop_of_length_le (by omega)]
        · intro hh
          have := congrArg List.length hh
          simp at this; omega
      simp only [V.ren, this]
theorem vc_kequalW (a b : List Wy) (h : Hp) (ha : a.length ≤ 4000000) (hb : b.length ≤ 4000000) : VC Try.prog 86 [wys a, wys b] h (B (decide (a = b))) h := by
  obtain ⟨E, hE⟩ : ∃ E, E = decide (a = b) := ⟨_, rfl⟩
  rw [← hE]
  refine VC.body Try.func86 rfl Try.ntmps86 Try.call86 (h.grows_refl) rfl ?_; conv => whnf
  refine VCode.lp (fun k : Nat => [(0, wys a), (1, wys b), (4, B false), (7, I a.length), (8, I k)]) (fun _ => []) (fun k => k ≤ a.length ∧ k ≤ b.length ∧ E = decide (a.drop k = b.drop k)) (fun k => a.length - k) 0 ⟨Nat.zero_le _, Nat.zero_le _, hE⟩ ?_ ?_
  · conv => whnf
    refine Retell.turn ⟨[], 0, [], []⟩ (TurnOk.mk' _ _ [] [] (OutOk.lift _) rfl (by decide) zb trivial trivial rfl) zw zm
  · rintro k ⟨h1, h2, h3⟩
    conv => whnf
    refine VIte.dec (fun h4 => ?_) (fun h4 => ?_)
    · have hx : a[k]? = some a[k] := List.getElem?_eq_getElem (by omega)
      rcases Nat.eq_or_lt_of_le h2 with h5 | h5
      · have hF : E = false := by
          rw [h3, decide_eq_false_iff_not]
          intro hh
          have := congrArg List.length hh
          simp at this; omega
        rw [hF]
        conv => whnf
        repeat' (first | ((first | refine zs1 ?_ | refine zs2 ?_ | refine zs3 ?_ | refine zs4 ?_ | refine zs5 ?_ | refine zs6 [] ?_); conv => whnf) | ((first | apply zi1 | apply zi2 | apply zi3 | apply zi4 | apply zi5) <;> intro _ <;> conv => whnf))
        · exact VOut.same rfl
        all_goals omega
      · have hy : b[k]? = some b[k] := List.getElem?_eq_getElem h5
        rw [drop_eq_dec hx hy] at h3
        generalize a[k] = x at hx h3
        generalize b[k] = y at hy h3
        conv => whnf
        repeat' (first | ((first | refine zs1 ?_ | refine zs2 ?_ | refine zs3 ?_ | refine zs4 ?_ | refine zs5 ?_ | refine zs6 [] ?_); conv => whnf) | ((first | apply zi1 | apply zi2 | apply zi3 | apply zi4 | apply zi5) <;> intro _ <;> conv => whnf) | (refine VAny.ix encWy_len k rfl rfl hx ?_; conv => whnf) | (refine VAny.ix encWy_len k rfl rfl hy ?_; conv => whnf) | (refine VAgg.intro (vneqW _ _) ?_; conv => whnf))
        all_goals (try omega)
        all_goals first
          | (rw [decide_eq_false (ne_X (by first | assumption | omega)), Bool.false_and] at h3; rw [h3]; exact VOut.same rfl)
          | (rw [decide_eq_true (eq_X (by first | assumption | omega)), Bool.true_and] at h3
             refine LEnd.intro (k + 1) ⟨by omega, by omega, h3⟩ (by omega) ?_
             conv => whnf
             refine Retell.turn ⟨[], 0, [], []⟩ (TurnOk.mk' _ _ [] [] (OutOk.lift _) rfl (by decide) zb trivial trivial rfl) zw zm)
    · have hk : k = a.length := by omega
      rw [h3, hk, List.drop_length]
      conv => whnf
      repeat' (first | ((first | refine zs1 ?_ | refine zs2 ?_ | refine zs3 ?_ | refine zs4 ?_ | refine zs5 ?_ | refine zs6 [] ?_); conv => whnf) | ((first | apply zi1 | apply zi2 | apply zi3 | apply zi4 | apply zi5) <;> intro _ <;> conv => whnf))
      refine VOut.same ?_
      have : ((a.length : Int) == b.length) = decide ([] = b.drop a.length) := by
        rw [Bool.eq_iff_iff, decide_eq_true_eq, beq_iff_eq]
        constructor
        · intro hh; rw [List.drop_of_length_le (by omega)]
        · intro hh
          have := congrArg List.length hh
          simp at this; omega
      simp only [V.ren, this]
end Go.Proofs.Ytoeendggmalcpaa

open Go.Vm
open Psg
namespace Go.Proofs.Ytoeendggmalcpaa
set_option maxRecDepth 20000
set_option maxHeartbeats 4000000
theorem nt_eq (a b : Nt) : decide (a = b) = (decide (a.p = b.p) && decide (a.ws = b.ws)) := by
  rw [Bool.eq_iff_iff, Bool.and_eq_true, decide_eq_true_eq, decide_eq_true_eq, decide_eq_true_eq]
  cases a; cases b; simp
theorem vc_equal (a b : Nt) (h : Hp) (h1 : a.ws.length ≤ 4000000) (h2 : b.ws.length ≤ 4000000) : VC Try.prog 42 [vN a, vN b] h (B (decide (a = b))) h := by
  have c := fun h => vc_kequalW a.ws b.ws h h1 h2
  rw [nt_eq]
  generalize decide (a.ws = b.ws) = y at *
  by_cases hp : a.p = b.p
  · rw [decide_eq_true hp, Bool.true_and]
    refine VC.body Try.func42 rfl Try.ntmps42 Try.call42 (h.grows_refl) rfl ?_; conv => whnf
    repeat' (first | ((first | refine zs1 ?_ | refine zs2 ?_ | refine zs3 ?_ | refine zs4 ?_ | refine zs5 ?_); conv => whnf) | ((first | apply zi1 | apply zi2 | apply zi3 | apply zi4 | apply zi5) <;> intro _ <;> conv => whnf) | (refine VCall.intro (c _) ?_; conv => whnf))
    all_goals first | contradiction | (exfalso; omega) | skip
    exact VOut.same rfl
  · rw [decide_eq_false hp, Bool.false_and]
    refine VC.body Try.func42 rfl Try.ntmps42 Try.call42 (h.grows_refl) rfl ?_; conv => whnf
    repeat' (first | ((first | refine zs1 ?_ | refine zs2 ?_ | refine zs3 ?_ | refine zs4 ?_ | refine zs5 ?_); conv => whnf) | ((first | apply zi1 | apply zi2 | apply zi3 | apply zi4 | apply zi5) <;> intro _ <;> conv => whnf))
    all_goals first | contradiction | (exfalso; omega) | skip
    exact VOut.same rfl
end Go.Proofs.Ytoeendggmalcpaa

open Go.Vm
open Psg
namespace Go.Proofs.Ytoeendggmalcpaa
set_option maxRecDepth 20000
set_option maxHeartbeats 4000000
theorem vc_Led (a b c d e f g i : Int) (h : Hp) : VC Try.prog 20 [I a, I b, I c, I d, I e, I f, I g, I i] h (vWy ⟨a, b, c, d, e, f, g, i⟩) h := by
  refine VC.body Try.func20 rfl Try.ntmps20 Try.call20 (h.grows_refl) rfl ?_; conv => whnf
  repeat' (first | ((first | refine zs1 ?_ | refine zs2 ?_ | refine zs3 ?_ | refine zs4 ?_ | refine zs5 ?_); conv => whnf) | ((first | apply zi1 | apply zi2 | apply zi3 | apply zi4 | apply zi5) <;> intro _ <;> conv => whnf))
  exact VOut.same rfl
theorem vc_Net (N : Nt) (h : Hp) (hn : N.ws.length ≤ 4000000) : VC Try.prog 31 [vN N] h (vN N) h := by
  refine VC.body Try.func31 rfl Try.ntmps31 Try.call31 (h.grows_refl) rfl ?_; conv => whnf
  repeat' (first | ((first | refine zs1 ?_ | refine zs2 ?_ | refine zs3 ?_ | refine zs4 ?_ | refine zs5 ?_); conv => whnf) | ((first | apply zi1 | apply zi2 | apply zi3 | apply zi4 | apply zi5) <;> intro _ <;> conv => whnf))
  refine VCode.lp (outer := h.lift) (marks := []) (fun k : Nat => [(2, .ptr (.loc 0) 0), (3, .ptr (.loc 1) 0), (10, wys N.ws), (11, I N.ws.length), (12, I k)]) (fun k => [.flat true [DI 0, .nilslice], .cells true [I N.p, .gl (.loc 2) 8 (N.ws.take k).length], .flat true ((N.ws.take k).flatMap encWy)]) (fun k => k ≤ N.ws.length) (fun k => N.ws.length - k) 0 (Nat.zero_le _) ?_ ?_
  · conv => whnf
    refine Retell.turn ⟨[1,2,3], 3, [], []⟩ (TurnOk.mk' _ _ [] [] (OutOk.lift _) rfl (by decide) zb trivial trivial rfl) zw zm
  · intro k hk
    rcases Nat.lt_or_ge k N.ws.length with h3 | h3
    · have hw : N.ws[k]? = some N.ws[k] := List.getElem?_eq_getElem h3
      have ht : N.ws.take (k + 1) = N.ws.take k ++ [N.ws[k]] := by rw [List.take_add_one, hw]; rfl
      have hl : (N.ws.take k).length ≤ 4000000 := by rw [List.length_take]; omega
      generalize N.ws[k] = w at hw ht
      generalize N.ws.take k = W at ht hl ⊢
      conv => whnf
      repeat' (first | ((first | refine zs1 ?_ | refine zs2 ?_ | refine zs3 ?_ | refine zs4 ?_ | refine zs5 ?_); conv => whnf) | ((first | apply zi1 | apply zi2 | apply zi3 | apply zi4 | apply zi5) <;> intro _ <;> conv => whnf) | (refine VAny.ix encWy_len k rfl rfl hw ?_; conv => whnf) | (refine VMem.app1 (l := W) w encWy_len rfl rfl rfl rfl rfl (by omega) ?_; conv => whnf))
      all_goals try (exfalso; omega)
      refine LEnd.intro (k + 1) (by omega) (by omega) ?_
      rw [ht, List.length_append]
      conv => whnf
      refine Retell.turn ⟨[0,1,5], 6, [], []⟩ (TurnOk.mk' _ _ [] [] (OutOk.lift _) rfl (by decide) zb trivial trivial rfl) zw zm
    · rw [List.take_of_length_le h3]
      have hfl : (N.ws.flatMap encWy).length = N.ws.length * 8 := flat_len encWy_len _
      conv => whnf
      repeat' (first | ((first | refine zs1 ?_ | refine zs2 ?_ | refine zs3 ?_ | refine zs4 ?_ | refine zs5 ?_); conv => whnf) | ((first | apply zi1 | apply zi2 | apply zi3 | apply zi4 | apply zi5) <;> intro _ <;> conv => whnf))
      all_goals try (exfalso; omega)
      refine VOut.data 3 [(2, N.ws.flatMap encWy)] [] rfl zf (by exact FmAll.nil) zw
end Go.Proofs.Ytoeendggmalcpaa

open Go.Vm
open Psg
namespace Go.Proofs.Ytoeendggmalcpaa
set_option maxRecDepth 20000
set_option maxHeartbeats 4000000
def lngB (N : Nt) (T : List (List Int)) : Bool := decide (28 < N.ws.length) || T.any fun l => decide (30 < l.length)
theorem any_at {T : List (List Int)} {k : Nat} {x : List Int} (q : List Int → Bool) (h : T[k]? = some x) : (T.drop k).any q = (q x || (T.drop (k + 1)).any q) := by
  obtain ⟨h1, rfl⟩ := List.getElem?_eq_some_iff.1 h
  rw [List.drop_eq_getElem_cons h1, List.any_cons]
theorem vc_long (N : Nt) (T : List (List Int)) (h : Hp) (hT : T.length ≤ 4000000) : VC Try.prog 28 [vN N, intss T] h (B (lngB N T)) h := by
  obtain ⟨E, hE⟩ : ∃ E, E = lngB N T := ⟨_, rfl⟩
  rw [← hE]
  unfold lngB at hE
  by_cases h1 : 28 < N.ws.length
  · rw [decide_eq_true h1, Bool.true_or] at hE
    rw [hE]
    refine VC.body Try.func28 rfl Try.ntmps28 Try.call28 (h.grows_refl) rfl ?_; conv => whnf
    repeat' (first | ((first | refine zs1 ?_ | refine zs2 ?_ | refine zs3 ?_ | refine zs4 ?_ | refine zs5 ?_); conv => whnf) | ((first | apply zi1 | apply zi2 | apply zi3 | apply zi4 | apply zi5) <;> intro _ <;> conv => whnf))
    all_goals try (exfalso; omega)
    exact VOut.same rfl
  · rw [decide_eq_false h1, Bool.false_or] at hE
    refine VC.body Try.func28 rfl Try.ntmps28 Try.call28 (h.grows_refl) rfl ?_; conv => whnf
    repeat' (first | ((first | refine zs1 ?_ | refine zs2 ?_ | refine zs3 ?_ | refine zs4 ?_ | refine zs5 ?_); conv => whnf) | ((first | apply zi1 | apply zi2 | apply zi3 | apply zi4 | apply zi5) <;> intro _ <;> conv => whnf))
    all_goals try (exfalso; omega)
    refine VCode.lp (outer := h.lift) (marks := []) (fun k : Nat => [(11, intss T), (12, I T.length), (13, I k)]) (fun _ => []) (fun k => k ≤ T.length ∧ E = (T.drop k).any fun l => decide (30 < l.length)) (fun k => T.length - k) 0 ⟨Nat.zero_le _, hE⟩ ?_ ?_
    · conv => whnf
      refine Retell.turn ⟨[], 1, [], []⟩ (TurnOk.mk' _ _ [] [] (OutOk.lift _) rfl (by decide) zb trivial trivial rfl) zw zm
    · rintro k ⟨k1, k2⟩
      rcases Nat.lt_or_ge k T.length with h3 | h3
      · have hw : T[k]? = some T[k] := List.getElem?_eq_getElem h3
        rw [any_at _ hw] at k2
        generalize T[k] = w at hw k2
        by_cases h5 : 30 < w.length
        · rw [decide_eq_true h5, Bool.true_or] at k2
          rw [k2]
          conv => whnf
          repeat' (first | ((first | refine zs1 ?_ | refine zs2 ?_ | refine zs3 ?_ | refine zs4 ?_ | refine zs5 ?_); conv => whnf) | ((first | apply zi1 | apply zi2 | apply zi3 | apply zi4 | apply zi5) <;> intro _ <;> conv => whnf) | (refine VAny.ix encL_len k rfl rfl hw ?_; conv => whnf))
          all_goals try (exfalso; omega)
          exact VOut.same rfl
        · rw [decide_eq_false h5, Bool.false_or] at k2
          conv => whnf
          repeat' (first | ((first | refine zs1 ?_ | refine zs2 ?_ | refine zs3 ?_ | refine zs4 ?_ | refine zs5 ?_); conv => whnf) | ((first | apply zi1 | apply zi2 | apply zi3 | apply zi4 | apply zi5) <;> intro _ <;> conv => whnf) | (refine VAny.ix encL_len k rfl rfl hw ?_; conv => whnf))
          all_goals try (exfalso; omega)
          refine LEnd.intro (k + 1) ⟨by omega, k2⟩ (by omega) ?_
          conv => whnf
          refine Retell.turn ⟨[], 0, [], []⟩ (TurnOk.mk' _ _ [] [] (OutOk.lift _) rfl (by decide) zb trivial trivial rfl) zw zm
      · rw [List.drop_of_length_le h3, List.any_nil] at k2
        rw [k2]
        conv => whnf
        repeat' (first | ((first | refine zs1 ?_ | refine zs2 ?_ | refine zs3 ?_ | refine zs4 ?_ | refine zs5 ?_); conv => whnf) | ((first | apply zi1 | apply zi2 | apply zi3 | apply zi4 | apply zi5) <;> intro _ <;> conv => whnf))
        all_goals try (exfalso; omega)
        exact VOut.same rfl
end Go.Proofs.Ytoeendggmalcpaa

open Go.Vm
namespace Go.Proofs.Ytoeendggmalcpaa
set_option maxRecDepth 20000
set_option maxHeartbeats 4000000
def dRd (bs : List Int) (N : Nat) : Int := IntKind.u32.wrap (IntKind.i64.wrap ((N : Int).tdiv (bs.length : Int)))
def dkS (bs : List Int) (N : Nat) (s c : Int) : Int := (IntKind.u32.wrap (IntKind.u32.wrap (IntKind.u32.wrap (s * 37) + IntKind.u32.wrap c) + IntKind.u32.wrap (101 * dRd bs N))).tmod 65521
def dR (bs : List Int) (N : Nat) (s k c : Int) : Int := if k ≤ 256 ∧ dRd bs N = 0 then (IntKind.i64.wrap (IntKind.u32.wrap c)).tmod k else (IntKind.i64.wrap (IntKind.u32.wrap (IntKind.u32.wrap (dkS bs N s c * 256) + IntKind.u32.wrap c))).tmod k
def dNx (bs : List Int) (d : Nat × Int) (k : Int) : Int × (Nat × Int) :=
  if k ≤ 1 ∨ bs = [] then (0, d) else (dR bs d.1 d.2 k (bs.getD (d.1 % bs.length) 0), (d.1 + 1, dkS bs d.1 d.2 (bs.getD (d.1 % bs.length) 0)))
end Go.Proofs.Ytoeendggmalcpaa

open Go.Vm
namespace Go.Vm
end Go.Vm
namespace Go.Vm
end Go.Vm
namespace Go.Proofs.Ytoeendggmalcpaa
set_option maxRecDepth 20000
set_option maxHeartbeats 4000000

/-! A deck that is shuffled. -/
abbrev DS := Nat × Int
structure Prm (n : Nat) (l : List Int) : Prop where
  perm : l.Perm ((List.range n).map (fun i : Nat => (i : Int)))
theorem Prm.len {n : Nat} {l : List Int} (h : Prm n l) : l.length = n := by
  rw [h.perm.length_eq]; simp
end Go.Proofs.Ytoeendggmalcpaa

open Go.Vm
open Psg
namespace Go.Proofs.Ytoeendggmalcpaa
set_option maxRecDepth 20000
set_option maxHeartbeats 4000000
/-! ### A herd that is dealt -/
def hr1 (bs : List Int) (d : DS) (p : Int) : Int × DS := dNx bs d p
def hr2 (bs : List Int) (d : DS) (p : Int) : Int × DS := dNx bs (hr1 bs d p).2 20
def hr3 (bs : List Int) (d : DS) (p : Int) : Int × DS := dNx bs (hr2 bs d p).2 16
end Go.Proofs.Ytoeendggmalcpaa

open Go.Vm
open Psg
namespace Go.Proofs.Ytoeendggmalcpaa
set_option maxRecDepth 20000
set_option maxHeartbeats 4000000
def fourN : Nt := ⟨4, [⟨0, 1, 2, 50, 0, 0, 0, 100⟩, ⟨1, 3, 3, 30, 1, 0, 20, 40⟩, ⟨1, 2, 1, 40, 0, 1, 0, 100⟩, ⟨2, 1, 1, 40, 0, 0, 0, 100⟩, ⟨2, 3, 9, 10, 0, 0, 0, 100⟩]⟩
theorem b01 : hrd fourN ⟨0, 5, 0⟩ = 0 := by kernel_rfl
theorem b02 : eaL fourN ⟨0, 5, 0⟩ = [5, 7, 8, 17] := by kernel_rfl
theorem b03 : flw fourN ⟨0, 5, 0⟩ [0, 2, 3, 1] = (⟨3, 23, 1⟩, 0) := by kernel_rfl
theorem b04 : hrd fourN ⟨0, 99, 0⟩ = 0 := by kernel_rfl
theorem b05 : eaL fourN ⟨0, 99, 0⟩ = [99, 101, -1, -1] := by kernel_rfl
theorem b06 : rtE fourN ⟨0, 60, 0⟩ 3 = 0 := by kernel_rfl
theorem b07 : lsG (fun s : Nat => atD (bgn fourN.ws ⟨0, 60, 0⟩).D 3 s) 16 = 1 := by kernel_rfl
theorem b08 : Psg.look (bgn fourN.ws ⟨0, 60, 0⟩).c (3, 1) = some (2, 1, 4) := by kernel_rfl
theorem b09 : Psg.look (bgn fourN.ws ⟨0, 60, 0⟩).c (2, 1) = some (1, 0, 2) := by kernel_rfl
theorem b10 : Psg.look (bgn fourN.ws ⟨0, 60, 0⟩).c (1, 0) = some (0, 0, 0) := by kernel_rfl
theorem b11 : Path (bgn fourN.ws ⟨0, 60, 0⟩).c (0, 0) (3, 1) [4, 2, 0] :=
  Path.step b08 (by decide) (Path.step b09 (by decide) (Path.step b10 (by decide) Path.base))
theorem b12 {L : List Int} (h : RtR fourN ⟨0, 60, 0⟩ 3 L) : L = [0, 2, 4] := by
  have := h.uni [4, 2, 0] (by rw [b07]; exact b11)
  rw [this]; rfl
theorem b13 : pas fourN [0] [3] = 0 := by kernel_rfl
theorem b14 : (dvP fourN [0] [3]).2.1 = 40 := by kernel_rfl
theorem b15 : brsN fourN [0] [3] [0, 1, 2] = (40, 0) := by kernel_rfl
theorem b16 : narL fourN [0] [3] 5 = [1, 4] := by kernel_rfl
end Go.Proofs.Ytoeendggmalcpaa

open Go.Vm
open Psg
namespace Go.Proofs.Ytoeendggmalcpaa
set_option maxRecDepth 20000
set_option maxHeartbeats 4000000
theorem vc_Four (h : Hp) : VC Try.prog 71 [] h (vN fourN) h := by
  have p1 := fun h => vc_Led 0 1 2 50 0 0 0 100 h
  have p2 := fun h => vc_Led 1 3 3 30 1 0 20 40 h
  have p3 := fun h => vc_Led 1 2 1 40 0 1 0 100 h
  have p4 := fun h => vc_Led 2 1 1 40 0 0 0 100 h
  have p5 := fun h => vc_Led 2 3 9 10 0 0 0 100 h
  refine VC.body Try.func71 rfl Try.ntmps71 Try.call71 (h.grows_refl) rfl ?_; conv => whnf
  repeat' (first | ((first | refine zs1 ?_ | refine zs2 ?_ | refine zs3 ?_ | refine zs4 ?_ | refine zs5 ?_ | refine zs6 [] ?_); conv => whnf) | ((first | apply zi1 | apply zi2 | apply zi3 | apply zi4 | apply zi5) <;> intro _ <;> conv => whnf) | (refine VCall.intro (p1 _) ?_; conv => whnf) | (refine VCall.intro (p2 _) ?_; conv => whnf) | (refine VCall.intro (p3 _) ?_; conv => whnf) | (refine VCall.intro (p4 _) ?_; conv => whnf) | (refine VCall.intro (p5 _) ?_; conv => whnf))
  refine VOut.data 2 [(1, fourN.ws.flatMap encWy)] [] rfl zf (by exact FmAll.nil) zw
theorem vc_awake (h : Hp) : VC Try.prog 24 [] h (B true) h := by
  have c1 := fun h => vc_Earliest fourN ⟨0, 5, 0⟩ h (by decide)
  have c2 := fun h => vc_Follow fourN ⟨0, 5, 0⟩ [0, 2, 3, 1] h (by decide) (by decide)
  have c3 := fun h => vc_Earliest fourN ⟨0, 99, 0⟩ h (by decide)
  obtain ⟨L, hL, _, c4⟩ := vc_Route fourN ⟨0, 60, 0⟩ 3 (by decide)
  have hL2 := b12 (hL b06)
  subst hL2
  rw [b06] at c4
  have c5 := fun h => vc_Drive fourN [0] [3] h (by decide) (by decide) (by decide)
  have c6 := fun h => vc_Bars fourN [0] [3] [0, 1, 2] h (by decide) (by decide) (by decide) (by decide)
  have c7 := fun h => vc_Narrow fourN [0] [3] h (by decide) (by decide) (by decide)
  rw [b02, b01] at c1
  rw [b03] at c2
  rw [b05, b04] at c3
  unfold drvV at c5
  rw [if_pos b13, b14] at c5
  rw [b15] at c6
  unfold narV at c7
  rw [if_pos b13, show fourN.ws.length = 5 from rfl, b16] at c7
  generalize (dvP fourN [0] [3]).1 = X at c5
  have q1 := fun h => vc_kequalI [5, 7, 8, 17] [5, 7, 8, 17] h (by decide) (by decide)
  have q2 := fun h => vc_kequalI [99, 101, -1, -1] [99, 101, -1, -1] h (by decide) (by decide)
  have q3 := fun h => vc_kequalI [0, 2, 4] [0, 2, 4] h (by decide) (by decide)
  have q4 := fun h => vc_kequalI [1, 4] [1, 4] h (by decide) (by decide)
  rw [decide_eq_true rfl] at q1 q2 q3 q4
  refine VC.bodyC 2 Try.func24 rfl Try.ntmps24 Try.call24 (h.grows_refl) rfl ?_; conv => whnf
  repeat' (first | ((first | refine zs1 ?_ | refine zs2 ?_ | refine zs3 ?_ | refine zs4 ?_ | refine zs5 ?_); conv => whnf) | ((first | apply zi1 | apply zi2 | apply zi3 | apply zi4 | apply zi5) <;> intro _ <;> conv => whnf) | (refine VCall.intro (vc_Four _) ?_; conv => whnf) | (refine VCall.intro (c1 _) ?_; conv => whnf))
  refine VCut.at' (outer := h.lift) (marks := []) 1 [(1, ints [5, 7, 8, 17]), (2, I 0)] [] ?_ ?_
  · conv => whnf
    refine Retell.turn ⟨[], 0, [], []⟩ (TurnOk.mk' _ _ [] [] (OutOk.lift _) rfl (by decide) zb trivial trivial rfl) zw zm
  conv => whnf
  repeat' (first | ((first | refine zs1 ?_ | refine zs2 ?_ | refine zs3 ?_ | refine zs4 ?_ | refine zs5 ?_); conv => whnf) | ((first | apply zi1 | apply zi2 | apply zi3 | apply zi4 | apply zi5) <;> intro _ <;> conv => whnf) | (refine VCall.intro (vc_Four _) ?_; conv => whnf))
  refine VCall.intro (VC.give (args' := [vN fourN, vHd ⟨0, 5, 0⟩, ints [0, 2, 3, 1]]) (loc' := [.dead]) [(0, [DI 0, DI 2, DI 3, DI 1])] [] (OutOk.lift _) zb zf (by exact FmAll.nil) rfl zv (c2 _)) ?_
  conv => whnf
  repeat' (first | ((first | refine zs1 ?_ | refine zs2 ?_ | refine zs3 ?_ | refine zs4 ?_ | refine zs5 ?_); conv => whnf) | ((first | apply zi1 | apply zi2 | apply zi3 | apply zi4 | apply zi5) <;> intro _ <;> conv => whnf))
  refine VCut.at' (outer := h.lift) (marks := []) 1 [(1, ints [5, 7, 8, 17]), (2, I 0), (3, .fp (encHd ⟨3, 23, 1⟩)), (4, I 0)] [] ?_ ?_
  · conv => whnf
    refine Retell.turn ⟨[], 2, [(1, encHd ⟨3, 23, 1⟩)], []⟩ (TurnOk.mk' _ _ [(1, encHd ⟨3, 23, 1⟩)] [] (OutOk.lift _) rfl (by decide) zb zf trivial rfl) zw zm
  conv => whnf
  repeat' (first | ((first | refine zs1 ?_ | refine zs2 ?_ | refine zs3 ?_ | refine zs4 ?_ | refine zs5 ?_); conv => whnf) | ((first | apply zi1 | apply zi2 | apply zi3 | apply zi4 | apply zi5) <;> intro _ <;> conv => whnf) | (refine VCall.intro (vc_Four _) ?_; conv => whnf) | (refine VCall.intro (c3 _) ?_; conv => whnf))
  refine VCut.at' (outer := h.lift) (marks := []) 1 [(1, ints [5, 7, 8, 17]), (2, I 0), (3, .fp (encHd ⟨3, 23, 1⟩)), (4, I 0), (5, ints [99, 101, -1, -1]), (6, I 0)] [] ?_ ?_
  · conv => whnf
    refine Retell.turn ⟨[], 0, [], []⟩ (TurnOk.mk' _ _ [] [] (OutOk.lift _) rfl (by decide) zb trivial trivial rfl) zw zm
  conv => whnf
  repeat' (first | ((first | refine zs1 ?_ | refine zs2 ?_ | refine zs3 ?_ | refine zs4 ?_ | refine zs5 ?_); conv => whnf) | ((first | apply zi1 | apply zi2 | apply zi3 | apply zi4 | apply zi5) <;> intro _ <;> conv => whnf) | (refine VCall.intro (vc_Four _) ?_; conv => whnf) | (refine VCall.intro (c4 _) ?_; conv => whnf))
  refine VCut.at' (outer := h.lift) (marks := []) 1 [(1, ints [5, 7, 8, 17]), (2, I 0), (3, .fp (encHd ⟨3, 23, 1⟩)), (4, I 0), (5, ints [99, 101, -1, -1]), (6, I 0), (7, ints [0, 2, 4]), (8, I 0)] [] ?_ ?_
  · conv => whnf
    refine Retell.turn ⟨[], 0, [], []⟩ (TurnOk.mk' _ _ [] [] (OutOk.lift _) rfl (by decide) zb trivial trivial rfl) zw zm
  conv => whnf
  repeat' (first | ((first | refine zs1 ?_ | refine zs2 ?_ | refine zs3 ?_ | refine zs4 ?_ | refine zs5 ?_); conv => whnf) | ((first | apply zi1 | apply zi2 | apply zi3 | apply zi4 | apply zi5) <;> intro _ <;> conv => whnf))
  refine VCall.intro (VC.give (args' := [ints [5, 7, 8, 17], ints [5, 7, 8, 17]]) (loc' := [.dead]) [(0, [DI 5, DI 7, DI 8, DI 17])] [] (OutOk.lift _) zb zf (by exact FmAll.nil) rfl zv (q1 _)) ?_
  conv => whnf
  repeat' (first | ((first | refine zs1 ?_ | refine zs2 ?_ | refine zs3 ?_ | refine zs4 ?_ | refine zs5 ?_); conv => whnf) | ((first | apply zi1 | apply zi2 | apply zi3 | apply zi4 | apply zi5) <;> intro _ <;> conv => whnf) | (refine VAgg.intro (vneqH ⟨3, 23, 1⟩ ⟨3, 23, 1⟩) ?_; conv => whnf))
  refine VCall.intro (VC.give (args' := [ints [99, 101, -1, -1], ints [99, 101, -1, -1]]) (loc' := [.dead, .dead]) [(1, [DI 99, DI 101, DI (-1), DI (-1)])] [] (OutOk.lift _) zb zf (by exact FmAll.nil) rfl zv (q2 _)) ?_
  conv => whnf
  repeat' (first | ((first | refine zs1 ?_ | refine zs2 ?_ | refine zs3 ?_ | refine zs4 ?_ | refine zs5 ?_); conv => whnf) | ((first | apply zi1 | apply zi2 | apply zi3 | apply zi4 | apply zi5) <;> intro _ <;> conv => whnf))
  refine VCall.intro (VC.give (args' := [ints [0, 2, 4], ints [0, 2, 4]]) (loc' := [.dead, .dead, .dead]) [(2, [DI 0, DI 2, DI 4])] [] (OutOk.lift _) zb zf (by exact FmAll.nil) rfl zv (q3 _)) ?_
  conv => whnf
  repeat' (first | ((first | refine zs1 ?_ | refine zs2 ?_ | refine zs3 ?_ | refine zs4 ?_ | refine zs5 ?_); conv => whnf) | ((first | apply zi1 | apply zi2 | apply zi3 | apply zi4 | apply zi5) <;> intro _ <;> conv => whnf))
  refine VCut.at' (outer := h.lift) (marks := []) 1 [] [] ?_ ?_
  · conv => whnf
    refine Retell.turn ⟨[], 3, [], []⟩ (TurnOk.mk' _ _ [] [] (OutOk.lift _) rfl (by decide) zb trivial trivial rfl) zw zm
  conv => whnf
  repeat' (first | ((first | refine zs1 ?_ | refine zs2 ?_ | refine zs3 ?_ | refine zs4 ?_ | refine zs5 ?_); conv => whnf) | ((first | apply zi1 | apply zi2 | apply zi3 | apply zi4 | apply zi5) <;> intro _ <;> conv => whnf) | (refine VCall.intro (vc_Four _) ?_; conv => whnf))
  refine VCall.intro (VC.give (args' := [vN fourN, ints [0], ints [3]]) (loc' := [.dead, .dead]) [(0, [DI 0]), (1, [DI 3])] [] (OutOk.lift _) zb zf (by exact FmAll.nil) rfl zv (c5 _)) ?_
  conv => whnf
  repeat' (first | ((first | refine zs1 ?_ | refine zs2 ?_ | refine zs3 ?_ | refine zs4 ?_ | refine zs5 ?_); conv => whnf) | ((first | apply zi1 | apply zi2 | apply zi3 | apply zi4 | apply zi5) <;> intro _ <;> conv => whnf))
  refine VCut.at' (outer := h.lift) (marks := []) 1 [(2, I 0), (10, I 40)] [] ?_ ?_
  · conv => whnf
    refine Retell.turn ⟨[], 2, [], []⟩ (TurnOk.mk' _ _ [] [] (OutOk.lift _) rfl (by decide) zb trivial trivial rfl) zw zm
  conv => whnf
  repeat' (first | ((first | refine zs1 ?_ | refine zs2 ?_ | refine zs3 ?_ | refine zs4 ?_ | refine zs5 ?_); conv => whnf) | ((first | apply zi1 | apply zi2 | apply zi3 | apply zi4 | apply zi5) <;> intro _ <;> conv => whnf) | (refine VCall.intro (vc_Four _) ?_; conv => whnf))
  refine VCall.intro (VC.give (args' := [vN fourN, ints [0], ints [3], ints [0, 1, 2]]) (loc' := [.dead, .dead, .dead]) [(0, [DI 0]), (1, [DI 3]), (2, [DI 0, DI 1, DI 2])] [] (OutOk.lift _) zb zf (by exact FmAll.nil) rfl zv (c6 _)) ?_
  conv => whnf
  repeat' (first | ((first | refine zs1 ?_ | refine zs2 ?_ | refine zs3 ?_ | refine zs4 ?_ | refine zs5 ?_); conv => whnf) | ((first | apply zi1 | apply zi2 | apply zi3 | apply zi4 | apply zi5) <;> intro _ <;> conv => whnf))
  refine VCut.at' (outer := h.lift) (marks := []) 1 [(2, I 0), (4, I 0), (10, I 40), (11, I 40)] [] ?_ ?_
  · conv => whnf
    refine Retell.turn ⟨[], 3, [], []⟩ (TurnOk.mk' _ _ [] [] (OutOk.lift _) rfl (by decide) zb trivial trivial rfl) zw zm
  conv => whnf
  repeat' (first | ((first | refine zs1 ?_ | refine zs2 ?_ | refine zs3 ?_ | refine zs4 ?_ | refine zs5 ?_); conv => whnf) | ((first | apply zi1 | apply zi2 | apply zi3 | apply zi4 | apply zi5) <;> intro _ <;> conv => whnf) | (refine VCall.intro (vc_Four _) ?_; conv => whnf))
  refine VCall.intro (VC.give (args' := [vN fourN, ints [0], ints [3]]) (loc' := [.dead, .dead]) [(0, [DI 0]), (1, [DI 3])] [] (OutOk.lift _) zb zf (by exact FmAll.nil) rfl zv (c7 _)) ?_
  conv => whnf
  repeat' (first | ((first | refine zs1 ?_ | refine zs2 ?_ | refine zs3 ?_ | refine zs4 ?_ | refine zs5 ?_); conv => whnf) | ((first | apply zi1 | apply zi2 | apply zi3 | apply zi4 | apply zi5) <;> intro _ <;> conv => whnf))
  refine VCut.at' (outer := h.lift) (marks := []) 99 [(2, I 0), (4, I 0), (6, I 0), (10, I 40), (11, I 40), (12, ints [1, 4])] [] ?_ ?_
  · conv => whnf
    refine Retell.turn ⟨[], 2, [], []⟩ (TurnOk.mk' _ _ [] [] (OutOk.lift _) rfl (by decide) zb trivial trivial rfl) zw zm
  conv => whnf
  repeat' (first | ((first | refine zs1 ?_ | refine zs2 ?_ | refine zs3 ?_ | refine zs4 ?_ | refine zs5 ?_); conv => whnf) | ((first | apply zi1 | apply zi2 | apply zi3 | apply zi4 | apply zi5) <;> intro _ <;> conv => whnf))
  refine VCall.intro (VC.give (args' := [ints [1, 4], ints [1, 4]]) (loc' := [.dead]) [(0, [DI 1, DI 4])] [] (OutOk.lift _) zb zf (by exact FmAll.nil) rfl zv (q4 _)) ?_
  conv => whnf
  repeat' (first | ((first | refine zs1 ?_ | refine zs2 ?_ | refine zs3 ?_ | refine zs4 ?_ | refine zs5 ?_); conv => whnf) | ((first | apply zi1 | apply zi2 | apply zi3 | apply zi4 | apply zi5) <;> intro _ <;> conv => whnf))
  exact VOut.same rfl
end Go.Proofs.Ytoeendggmalcpaa

open Go.Vm
open Psg
namespace Go.Proofs.Ytoeendggmalcpaa
set_option maxRecDepth 20000
set_option maxHeartbeats 4000000
/-! ### Herds that are barred -/
def hrdL (N : Nt) : List Hd → Int
  | [] => 0
  | x :: r => if hrd N x = 0 then hrdL N r else hrd N x
theorem hrdL_at {N : Nt} {l : List Hd} {k : Nat} {x : Hd} (h : l[k]? = some x) : hrdL N (l.drop k) = if hrd N x = 0 then hrdL N (l.drop (k + 1)) else hrd N x := by
  obtain ⟨hlt, rfl⟩ := List.getElem?_eq_some_iff.1 h
  rw [List.drop_eq_getElem_cons hlt, hrdL]
theorem hrdL_ok {N : Nt} : ∀ {l : List Hd}, hrdL N l = 0 → ∀ x ∈ l, hrd N x = 0
  | y :: l, h, x, hx => by
    rw [hrdL] at h
    by_cases h1 : hrd N y = 0
    · rw [if_pos h1] at h
      rcases List.mem_cons.1 hx with rfl | hx
      · exact h1
      · exact hrdL_ok h x hx
    · rw [if_neg h1] at h; exact absurd h h1
def bdE (N : Nt) (l : List Hd) (to : List Int) : Int := if chk N = 0 then (if l.length ≤ 12 ∧ l.length = to.length then (if hrdL N l = 0 then (if to.all (pstB N) = true then 0 else 2) else hrdL N l) else 3) else chk N
def bdB (N : Nt) (l : List Hd) (to : List Int) (i : Nat) : Bool := decide (dyP N (l.getD i zHd) (to.getD i 0).toNat = -1)
def bdL (N : Nt) (l : List Hd) (to : List Int) : Nat → List Int
  | 0 => []
  | k + 1 => if bdB N l to k = true then bdL N l to k ++ [(k : Int)] else bdL N l to k
theorem bdL_len (N : Nt) (l : List Hd) (to : List Int) : ∀ k, (bdL N l to k).length ≤ k
  | 0 => Nat.le_refl _
  | k + 1 => by
    have := bdL_len N l to k
    rw [bdL]
    split
    · rw [List.length_append]; simp; omega
    · omega
def bdR (N : Nt) (l : List Hd) (to : List Int) : List Int := if bdE N l to = 0 then bdL N l to l.length else []
theorem vc_Barred (N : Nt) (l : List Hd) (to : List Int) (h : Hp) (hn : N.ws.length ≤ 4000000) (hl : l.length ≤ 4000000) (ht : to.length ≤ 4000000) : VC Try.prog 40 [vN N, hds l, ints to] h (.tuple [ints (bdR N l to), I (bdE N l to)]) h := by
  obtain ⟨E, hE⟩ : ∃ E, E = bdE N l to := ⟨_, rfl⟩
  obtain ⟨L, hL⟩ : ∃ L, L = bdR N l to := ⟨_, rfl⟩
  rw [← hE, ← hL]
  unfold bdR at hL
  rw [← hE] at hL
  unfold bdE at hE
  have cC := fun h => vc_check N h hn
  by_cases h0 : chk N = 0
  · obtain ⟨n, hN⟩ := chk_ok h0
    have hp := hN.p
    have hn1 := hN.n1
    rw [h0] at cC
    rw [if_pos h0] at hE
    refine VC.bodyC 1 Try.func40 rfl Try.ntmps40 Try.call40 (h.grows_refl) rfl ?_; conv => whnf
    refine VCut.at' (outer := h.lift) (marks := []) 99 [(1, hds l), (2, ints to), (3, .fp (encN N))] [] ?_ ?_
    · conv => whnf
      refine Retell.turn ⟨[], 1, [(0, encN N)], []⟩ (TurnOk.mk' _ _ [(0, encN N)] [] (OutOk.lift _) rfl (by decide) zb zf trivial rfl) zw zm
    by_cases h1 : l.length ≤ 12 ∧ l.length = to.length
    · rw [if_pos h1] at hE
      by_cases h2 : hrdL N l = 0
      · rw [if_pos h2] at hE
        have hall := hrdL_ok h2
        have cA := fun h => vc_allA to (pstB N) 74 N ht (fun e _ h => vc_posted N e h (by omega)) h
        have hA : to.all (pstB N) = true → ∀ p ∈ to, 0 ≤ p ∧ p ≤ N.p - 1 := fun h p hp => by
          have := List.all_eq_true.1 h p hp
          exact of_decide_eq_true this
        generalize to.all (pstB N) = A at cA hE hA
        conv => whnf
        repeat' (first | ((first | refine zs1 ?_ | refine zs2 ?_ | refine zs3 ?_ | refine zs4 ?_ | refine zs5 ?_); conv => whnf) | ((first | apply zi1 | apply zi2 | apply zi3 | apply zi4 | apply zi5) <;> intro _ <;> conv => whnf) | (refine VCall.intro (cC _) ?_; conv => whnf))
        all_goals try (exfalso; omega)
        refine VCode.lp (outer := h.lift) (marks := []) (fun k : Nat => [(1, hds l), (2, ints to), (3, .fp (encN N)), (30, hds l), (31, I l.length), (32, I k)]) (fun _ => []) (fun k => k ≤ l.length) (fun k => l.length - k) 0 (Nat.zero_le _) ?_ ?_
        · conv => whnf
          refine Retell.turn ⟨[], 0, [], []⟩ (TurnOk.mk' _ _ [] [] (OutOk.lift _) rfl (by decide) zb trivial trivial rfl) zw zm
        · intro k k1
          rcases Nat.lt_or_ge k l.length with h3 | h3
          · have hx : l[k]? = some l[k] := List.getElem?_eq_getElem h3
            have hr := hall _ (List.mem_of_getElem? hx)
            have cH := fun h => vc_herded N l[k] h hn
            rw [hr] at cH
            generalize l[k] = x at hx cH
            conv => whnf
            repeat' (first | ((first | refine zs1 ?_ | refine zs2 ?_ | refine zs3 ?_ | refine zs4 ?_ | refine zs5 ?_); conv => whnf) | ((first | apply zi1 | apply zi2 | apply zi3 | apply zi4 | apply zi5) <;> intro _ <;> conv => whnf) | (refine VAny.ix encHd_len k rfl rfl hx ?_; conv => whnf) | (refine VCall.intro (cH _) ?_; conv => whnf))
            all_goals try (exfalso; omega)
            refine LEnd.intro (k + 1) (by omega) (by omega) ?_
            conv => whnf
            refine Retell.turn ⟨[], 1, [], []⟩ (TurnOk.mk' _ _ [] [] (OutOk.lift _) rfl (by decide) zb trivial trivial rfl) zw zm
          · cases A with
            | false =>
              rw [if_neg (by decide)] at hE
              subst hE
              rw [if_neg (by decide)] at hL
              subst hL
              conv => whnf
              repeat' (first | ((first | refine zs1 ?_ | refine zs2 ?_ | refine zs3 ?_ | refine zs4 ?_ | refine zs5 ?_); conv => whnf) | ((first | apply zi1 | apply zi2 | apply zi3 | apply zi4 | apply zi5) <;> intro _ <;> conv => whnf) | (refine VCall.intro (cA _) ?_; conv => whnf))
              all_goals try (exfalso; omega)
              refine VOut.data 1 [] [] rfl zf (by exact FmAll.nil) zw
            | true =>
              rw [if_pos rfl] at hE
              subst hE
              rw [if_pos rfl] at hL
              have hA := hA rfl
              conv => whnf
              repeat' (first | ((first | refine zs1 ?_ | refine zs2 ?_ | refine zs3 ?_ | refine zs4 ?_ | refine zs5 ?_); conv => whnf) | ((first | apply zi1 | apply zi2 | apply zi3 | apply zi4 | apply zi5) <;> intro _ <;> conv => whnf) | (refine VCall.intro (cA _) ?_; conv => whnf))
              all_goals try (exfalso; omega)
              refine VCode.lp (outer := h.lift) (marks := []) (fun k : Nat => [(2, ints to), (3, .fp (encN N)), (12, .gl (.loc 0) 1 (bdL N l to k).length), (48, hds l), (49, I l.length), (50, I k)]) (fun k => [.flat true ((bdL N l to k).flatMap Vm.encI)]) (fun k => k ≤ l.length) (fun k => l.length - k) 0 (Nat.zero_le _) ?_ ?_
              · rw [show bdL N l to 0 = [] from rfl]
                conv => whnf
                refine Retell.turn ⟨[0], 0, [], []⟩ (TurnOk.mk' _ _ [] [] (OutOk.lift _) rfl (by decide) zb trivial trivial rfl) zw zm
              · intro k k1
                have hbl := bdL_len N l to k
                rcases Nat.lt_or_ge k l.length with h3 | h3
                · have hx : l[k]? = some l[k] := List.getElem?_eq_getElem h3
                  have hq : to[k]? = some to[k] := List.getElem?_eq_getElem (by omega)
                  have hp1 := hA _ (List.mem_of_getElem? hq)
                  have hr := hall _ (List.mem_of_getElem? hx)
                  have hst : bdL N l to (k + 1) = if bdB N l to k = true then bdL N l to k ++ [(k : Int)] else bdL N l to k := rfl
                  have hbb : bdB N l to k = decide (dyP N l[k] to[k].toNat = -1) := by
                    unfold bdB
                    rw [List.getD_eq_getElem?_getD, List.getD_eq_getElem?_getD, hx, hq]; rfl
                  rw [hbb] at hst
                  clear hbb
                  generalize l[k] = x at hx hr hst
                  generalize to[k] = p at hq hp1 hst
                  obtain ⟨p, rfl⟩ : ∃ q : Nat, p = q := ⟨p.toNat, by omega⟩
                  rw [Int.toNat_natCast] at hst
                  obtain ⟨n', hN', hxo⟩ := hrd_ok hr
                  have : n' = n := by have := hN'.p; omega
                  subst this
                  have cB := fun h => vc_begun0 N x h hN hxo
                  have hbl2 := bgn_len hN hxo
                  have hdy : dyP N x p = tell (dayOf (atD (bgn N.ws x).D) p) := rfl
                  rw [hdy] at hst
                  clear hdy
                  generalize bgn N.ws x = b at *
                  obtain ⟨D, c, q⟩ := b
                  dsimp only at *
                  have cD := fun h hb => vc_day N x D (.loc 2) (.loc 3) p h hb hbl2 (by omega)
                  generalize bdL N l to k = W at hst hbl ⊢
                  generalize tell (dayOf (atD D) p) = d at cD hst
                  by_cases hd : d = -1
                  · rw [decide_eq_true hd, if_pos rfl] at hst
                    conv => whnf
                    repeat' (first | ((first | refine zs1 ?_ | refine zs2 ?_ | refine zs3 ?_ | refine zs4 ?_ | refine zs5 ?_); conv => whnf) | ((first | apply zi1 | apply zi2 | apply zi3 | apply zi4 | apply zi5) <;> intro _ <;> conv => whnf) | (refine VAny.ix encHd_len k rfl rfl hx ?_; conv => whnf))
                    all_goals try (exfalso; omega)
                    refine zs6 [(2, 6)] ?_
                    conv => whnf
                    repeat' (first | ((first | refine zs1 ?_ | refine zs2 ?_ | refine zs3 ?_ | refine zs4 ?_ | refine zs5 ?_); conv => whnf) | ((first | apply zi1 | apply zi2 | apply zi3 | apply zi4 | apply zi5) <;> intro _ <;> conv => whnf) | (refine VCall.intro (cB _) ?_; conv => whnf) | (refine VAny.ix encI_len k rfl rfl hq ?_; conv => whnf) | (refine VCall.intro (cD _ rfl) ?_; conv => whnf) | (refine VMem.app1 (l := W) (k : Int) encI_len rfl rfl rfl rfl rfl (by omega) ?_; conv => whnf))
                    all_goals try (exfalso; omega)
                    refine LEnd.intro (k + 1) (by omega) (by omega) ?_
                    rw [hst, List.length_append]
                    conv => whnf
                    refine Retell.turn ⟨[5], 6, [], []⟩ (TurnOk.mk' _ _ [] [] (OutOk.lift _) rfl (by decide) zb trivial trivial rfl) zw zm
                  · rw [decide_eq_false hd, if_neg (by decide)] at hst
                    conv => whnf
                    repeat' (first | ((first | refine zs1 ?_ | refine zs2 ?_ | refine zs3 ?_ | refine zs4 ?_ | refine zs5 ?_); conv => whnf) | ((first | apply zi1 | apply zi2 | apply zi3 | apply zi4 | apply zi5) <;> intro _ <;> conv => whnf) | (refine VAny.ix encHd_len k rfl rfl hx ?_; conv => whnf))
                    all_goals try (exfalso; omega)
                    refine zs6 [(2, 6)] ?_
                    conv => whnf
                    repeat' (first | ((first | refine zs1 ?_ | refine zs2 ?_ | refine zs3 ?_ | refine zs4 ?_ | refine zs5 ?_); conv => whnf) | ((first | apply zi1 | apply zi2 | apply zi3 | apply zi4 | apply zi5) <;> intro _ <;> conv => whnf) | (refine VCall.intro (cB _) ?_; conv => whnf) | (refine VAny.ix encI_len k rfl rfl hq ?_; conv => whnf) | (refine VCall.intro (cD _ rfl) ?_; conv => whnf))
                    all_goals try (exfalso; omega)
                    refine LEnd.intro (k + 1) (by omega) (by omega) ?_
                    rw [hst]
                    conv => whnf
                    refine Retell.turn ⟨[0], 4, [], []⟩ (TurnOk.mk' _ _ [] [] (OutOk.lift _) rfl (by decide) zb trivial trivial rfl) zw zm
                · obtain rfl : k = l.length := by omega
                  rw [← hL]
                  conv => whnf
                  repeat' (first | ((first | refine zs1 ?_ | refine zs2 ?_ | refine zs3 ?_ | refine zs4 ?_ | refine zs5 ?_); conv => whnf) | ((first | apply zi1 | apply zi2 | apply zi3 | apply zi4 | apply zi5) <;> intro _ <;> conv => whnf))
                  all_goals try (exfalso; omega)
                  refine VOut.data 1 [(0, L.flatMap Vm.encI)] [] rfl zf (by exact FmAll.nil) zw
      · rw [if_neg h2] at hE
        rw [if_neg (by omega)] at hL
        subst hL
        conv => whnf
        repeat' (first | ((first | refine zs1 ?_ | refine zs2 ?_ | refine zs3 ?_ | refine zs4 ?_ | refine zs5 ?_); conv => whnf) | ((first | apply zi1 | apply zi2 | apply zi3 | apply zi4 | apply zi5) <;> intro _ <;> conv => whnf) | (refine VCall.intro (cC _) ?_; conv => whnf))
        all_goals try (exfalso; omega)
        refine VCode.lp (outer := h.lift) (marks := []) (fun k : Nat => [(1, hds l), (2, ints to), (3, .fp (encN N)), (30, hds l), (31, I l.length), (32, I k)]) (fun _ => []) (fun k => k ≤ l.length ∧ E = hrdL N (l.drop k)) (fun k => l.length - k) 0 ⟨Nat.zero_le _, hE⟩ ?_ ?_
        · conv => whnf
          refine Retell.turn ⟨[], 0, [], []⟩ (TurnOk.mk' _ _ [] [] (OutOk.lift _) rfl (by decide) zb trivial trivial rfl) zw zm
        · rintro k ⟨k1, k2⟩
          rcases Nat.lt_or_ge k l.length with h3 | h3
          · have hx : l[k]? = some l[k] := List.getElem?_eq_getElem h3
            rw [hrdL_at hx] at k2
            have cH := fun h => vc_herded N l[k] h hn
            generalize l[k] = x at hx cH k2
            by_cases hr : hrd N x = 0
            · rw [if_pos hr] at k2
              rw [hr] at cH
              conv => whnf
              repeat' (first | ((first | refine zs1 ?_ | refine zs2 ?_ | refine zs3 ?_ | refine zs4 ?_ | refine zs5 ?_); conv => whnf) | ((first | apply zi1 | apply zi2 | apply zi3 | apply zi4 | apply zi5) <;> intro _ <;> conv => whnf) | (refine VAny.ix encHd_len k rfl rfl hx ?_; conv => whnf) | (refine VCall.intro (cH _) ?_; conv => whnf))
              all_goals try (exfalso; omega)
              refine LEnd.intro (k + 1) ⟨by omega, k2⟩ (by omega) ?_
              conv => whnf
              refine Retell.turn ⟨[], 1, [], []⟩ (TurnOk.mk' _ _ [] [] (OutOk.lift _) rfl (by decide) zb trivial trivial rfl) zw zm
            · rw [if_neg hr] at k2
              rw [← k2] at cH hr
              conv => whnf
              repeat' (first | ((first | refine zs1 ?_ | refine zs2 ?_ | refine zs3 ?_ | refine zs4 ?_ | refine zs5 ?_); conv => whnf) | ((first | apply zi1 | apply zi2 | apply zi3 | apply zi4 | apply zi5) <;> intro _ <;> conv => whnf) | (refine VAny.ix encHd_len k rfl rfl hx ?_; conv => whnf) | (refine VCall.intro (cH _) ?_; conv => whnf))
              all_goals try (exfalso; omega)
              all_goals try (rename_i hh; exact absurd (by omega) hr)
              refine VOut.data 1 [] [] rfl zf (by exact FmAll.nil) zw
          · exfalso
            rw [List.drop_of_length_le h3, hrdL] at k2
            exact h2 (by rw [← hE]; exact k2)
    · rw [if_neg h1] at hE
      subst hE
      rw [if_neg (by decide)] at hL
      subst hL
      conv => whnf
      repeat' (first | ((first | refine zs1 ?_ | refine zs2 ?_ | refine zs3 ?_ | refine zs4 ?_ | refine zs5 ?_); conv => whnf) | ((first | apply zi1 | apply zi2 | apply zi3 | apply zi4 | apply zi5) <;> intro _ <;> conv => whnf) | (refine VCall.intro (cC _) ?_; conv => whnf))
      all_goals try (exfalso; omega)
      all_goals refine VOut.data 0 [] [] rfl zf (by exact FmAll.nil) zw
  · rw [if_neg h0] at hE
    rw [← hE] at cC h0
    rw [if_neg h0] at hL
    subst hL
    refine VC.body Try.func40 rfl Try.ntmps40 Try.call40 (h.grows_refl) rfl ?_; conv => whnf
    repeat' (first | ((first | refine zs1 ?_ | refine zs2 ?_ | refine zs3 ?_ | refine zs4 ?_ | refine zs5 ?_ | refine zs6 [] ?_); conv => whnf) | ((first | apply zi1 | apply zi2 | apply zi3 | apply zi4 | apply zi5) <;> intro _ <;> conv => whnf) | (refine VCall.intro (cC _) ?_; conv => whnf))
    · refine VOut.data 1 [] [] rfl zf (by exact FmAll.nil) zw
    all_goals (rename_i hh; exact absurd (by omega) h0)
end Go.Proofs.Ytoeendggmalcpaa

open Go.Vm
open Psg
namespace Go.Proofs.Ytoeendggmalcpaa
set_option maxRecDepth 20000
set_option maxHeartbeats 4000000
theorem day_no {n : Nat} {N : Nt} {x : Hd} (hN : NOk n N) (hx : HOk n x) {p : Nat} (hp : p < n) : (dayOf (atD (bgn N.ws x).D) p = 1001 ↔ dyP N x p = -1) := by
  have hc := dayOf_cap (bgn_lst hN.n1.2 hN.ws hx) (p := (p : Int)) (by omega)
  unfold dyP tell
  split <;> omega
theorem vc_rBarred (N : Nt) (l : List Hd) (to : List Int) (h : Hp) (hn : N.ws.length ≤ 4000000) (hl : l.length ≤ 4000000) (ht : to.length ≤ 4000000) : VC Try.prog 41 [vN N, hds l, ints to] h (.tuple [ints (bdR N l to), I (bdE N l to)]) h := by
  obtain ⟨E, hE⟩ : ∃ E, E = bdE N l to := ⟨_, rfl⟩
  obtain ⟨L, hL⟩ : ∃ L, L = bdR N l to := ⟨_, rfl⟩
  rw [← hE, ← hL]
  unfold bdR at hL
  rw [← hE] at hL
  unfold bdE at hE
  have cC := fun h => vc_rcheck N h hn
  by_cases h0 : chk N = 0
  · obtain ⟨n, hN⟩ := chk_ok h0
    have hp := hN.p
    have hn1 := hN.n1
    rw [h0] at cC
    rw [if_pos h0] at hE
    refine VC.bodyC 1 Try.func41 rfl Try.ntmps41 Try.call41 (h.grows_refl) rfl ?_; conv => whnf
    refine VCut.at' (outer := h.lift) (marks := []) 99 [(1, hds l), (2, ints to), (3, .fp (encN N))] [] ?_ ?_
    · conv => whnf
      refine Retell.turn ⟨[], 1, [(0, encN N)], []⟩ (TurnOk.mk' _ _ [(0, encN N)] [] (OutOk.lift _) rfl (by decide) zb zf trivial rfl) zw zm
    by_cases h1 : l.length ≤ 12 ∧ l.length = to.length
    · rw [if_pos h1] at hE
      by_cases h2 : hrdL N l = 0
      · rw [if_pos h2] at hE
        have hall := hrdL_ok h2
        conv => whnf
        repeat' (first | ((first | refine zs1 ?_ | refine zs2 ?_ | refine zs3 ?_ | refine zs4 ?_ | refine zs5 ?_); conv => whnf) | ((first | apply zi1 | apply zi2 | apply zi3 | apply zi4 | apply zi5) <;> intro _ <;> conv => whnf) | (refine VCall.intro (cC _) ?_; conv => whnf))
        all_goals try (exfalso; omega)
        refine VCode.lp (outer := h.lift) (marks := []) (fun k : Nat => [(1, hds l), (2, ints to), (3, .fp (encN N)), (9, I k)]) (fun _ => []) (fun k => k ≤ l.length) (fun k => l.length - k) 0 (Nat.zero_le _) ?_ ?_
        · conv => whnf
          refine Retell.turn ⟨[], 0, [], []⟩ (TurnOk.mk' _ _ [] [] (OutOk.lift _) rfl (by decide) zb trivial trivial rfl) zw zm
        · intro k k1
          rcases Nat.lt_or_ge k l.length with h3 | h3
          · have hx : l[k]? = some l[k] := List.getElem?_eq_getElem h3
            have hr := hall _ (List.mem_of_getElem? hx)
            have cH := fun h => vc_rherded N l[k] h hn
            rw [hr] at cH
            generalize l[k] = x at hx cH
            conv => whnf
            repeat' (first | ((first | refine zs1 ?_ | refine zs2 ?_ | refine zs3 ?_ | refine zs4 ?_ | refine zs5 ?_); conv => whnf) | ((first | apply zi1 | apply zi2 | apply zi3 | apply zi4 | apply zi5) <;> intro _ <;> conv => whnf))
            all_goals try (exfalso; omega)
            refine zs6 [] ?_
            conv => whnf
            repeat' (first | ((first | refine zs1 ?_ | refine zs2 ?_ | refine zs3 ?_ | refine zs4 ?_ | refine zs5 ?_); conv => whnf) | ((first | apply zi1 | apply zi2 | apply zi3 | apply zi4 | apply zi5) <;> intro _ <;> conv => whnf) | (refine VAny.ix encHd_len k rfl rfl hx ?_; conv => whnf) | (refine VCall.intro (cH _) ?_; conv => whnf))
            all_goals try (exfalso; omega)
            refine LEnd.intro (k + 1) (by omega) (by omega) ?_
            conv => whnf
            refine Retell.turn ⟨[], 0, [], []⟩ (TurnOk.mk' _ _ [] [] (OutOk.lift _) rfl (by decide) zb trivial trivial rfl) zw zm
          · conv => whnf
            repeat' (first | ((first | refine zs1 ?_ | refine zs2 ?_ | refine zs3 ?_ | refine zs4 ?_ | refine zs5 ?_); conv => whnf) | ((first | apply zi1 | apply zi2 | apply zi3 | apply zi4 | apply zi5) <;> intro _ <;> conv => whnf))
            all_goals try (exfalso; omega)
            refine VCode.lp (outer := h.lift) (marks := []) (fun k : Nat => [(1, hds l), (2, ints to), (3, .fp (encN N)), (11, I k)]) (fun _ => []) (fun k => k ≤ to.length ∧ to.all (pstB N) = (to.drop k).all (pstB N)) (fun k => to.length - k) 0 ⟨Nat.zero_le _, rfl⟩ ?_ ?_
            · conv => whnf
              refine Retell.turn ⟨[], 0, [], []⟩ (TurnOk.mk' _ _ [] [] (OutOk.lift _) rfl (by decide) zb trivial trivial rfl) zw zm
            · rintro k ⟨k1, k2⟩
              rcases Nat.lt_or_ge k to.length with h3 | h3
              · have hx : to[k]? = some to[k] := List.getElem?_eq_getElem h3
                have hdr : (to.drop k).all (pstB N) = (pstB N to[k] && (to.drop (k + 1)).all (pstB N)) := by rw [List.drop_eq_getElem_cons h3, List.all_cons]
                rw [hdr] at k2
                clear hdr
                generalize to[k] = p at hx k2
                by_cases hq : 0 ≤ p ∧ p ≤ N.p - 1
                · rw [show pstB N p = true from decide_eq_true hq, Bool.true_and] at k2
                  have cB := fun h => vc_beside p 0 (N.p - 1) h
                  rw [decide_eq_false (by omega)] at cB
                  conv => whnf
                  repeat' (first | ((first | refine zs1 ?_ | refine zs2 ?_ | refine zs3 ?_ | refine zs4 ?_ | refine zs5 ?_); conv => whnf) | ((first | apply zi1 | apply zi2 | apply zi3 | apply zi4 | apply zi5) <;> intro _ <;> conv => whnf))
                  all_goals try (exfalso; omega)
                  refine zs6 [] ?_
                  conv => whnf
                  repeat' (first | ((first | refine zs1 ?_ | refine zs2 ?_ | refine zs3 ?_ | refine zs4 ?_ | refine zs5 ?_); conv => whnf) | ((first | apply zi1 | apply zi2 | apply zi3 | apply zi4 | apply zi5) <;> intro _ <;> conv => whnf) | (refine VAny.ix encI_len k rfl rfl hx ?_; conv => whnf) | (refine VCall.intro (cB _) ?_; conv => whnf))
                  all_goals try (exfalso; omega)
                  refine LEnd.intro (k + 1) ⟨by omega, k2⟩ (by omega) ?_
                  conv => whnf
                  refine Retell.turn ⟨[], 0, [], []⟩ (TurnOk.mk' _ _ [] [] (OutOk.lift _) rfl (by decide) zb trivial trivial rfl) zw zm
                · rw [show pstB N p = false from decide_eq_false hq, Bool.false_and] at k2
                  rw [k2, if_neg (by decide)] at hE
                  subst hE
                  rw [if_neg (by decide)] at hL
                  subst hL
                  have cB := fun h => vc_beside p 0 (N.p - 1) h
                  rw [decide_eq_true (by omega)] at cB
                  conv => whnf
                  repeat' (first | ((first | refine zs1 ?_ | refine zs2 ?_ | refine zs3 ?_ | refine zs4 ?_ | refine zs5 ?_); conv => whnf) | ((first | apply zi1 | apply zi2 | apply zi3 | apply zi4 | apply zi5) <;> intro _ <;> conv => whnf))
                  all_goals try (exfalso; omega)
                  refine zs6 [] ?_
                  conv => whnf
                  repeat' (first | ((first | refine zs1 ?_ | refine zs2 ?_ | refine zs3 ?_ | refine zs4 ?_ | refine zs5 ?_); conv => whnf) | ((first | apply zi1 | apply zi2 | apply zi3 | apply zi4 | apply zi5) <;> intro _ <;> conv => whnf) | (refine VAny.ix encI_len k rfl rfl hx ?_; conv => whnf) | (refine VCall.intro (cB _) ?_; conv => whnf))
                  all_goals try (exfalso; omega)
                  refine VOut.data 0 [] [] rfl zf (by exact FmAll.nil) zw
              · rw [List.drop_of_length_le h3, List.all_nil] at k2
                rw [if_pos k2] at hE
                subst hE
                rw [if_pos rfl] at hL
                have hA : ∀ p ∈ to, 0 ≤ p ∧ p ≤ N.p - 1 := fun p hp => of_decide_eq_true (List.all_eq_true.1 k2 p hp)
                conv => whnf
                repeat' (first | ((first | refine zs1 ?_ | refine zs2 ?_ | refine zs3 ?_ | refine zs4 ?_ | refine zs5 ?_); conv => whnf) | ((first | apply zi1 | apply zi2 | apply zi3 | apply zi4 | apply zi5) <;> intro _ <;> conv => whnf))
                all_goals try (exfalso; omega)
                refine VCode.lp (outer := h.lift) (marks := []) (fun k : Nat => [(1, hds l), (2, ints to), (3, .fp (encN N)), (12, .gl (.loc 0) 1 (bdL N l to k).length), (13, I k)]) (fun k => [.flat true ((bdL N l to k).flatMap Vm.encI)]) (fun k => k ≤ l.length) (fun k => l.length - k) 0 (Nat.zero_le _) ?_ ?_
                · rw [show bdL N l to 0 = [] from rfl]
                  conv => whnf
                  refine Retell.turn ⟨[0], 0, [], []⟩ (TurnOk.mk' _ _ [] [] (OutOk.lift _) rfl (by decide) zb trivial trivial rfl) zw zm
                · intro k k1
                  have hbl := bdL_len N l to k
                  rcases Nat.lt_or_ge k l.length with h3 | h3
                  · have hx : l[k]? = some l[k] := List.getElem?_eq_getElem h3
                    have hq : to[k]? = some to[k] := List.getElem?_eq_getElem (by omega)
                    have hp1 := hA _ (List.mem_of_getElem? hq)
                    have hr := hall _ (List.mem_of_getElem? hx)
                    have hst : bdL N l to (k + 1) = if bdB N l to k = true then bdL N l to k ++ [(k : Int)] else bdL N l to k := rfl
                    have hbb : bdB N l to k = decide (dyP N l[k] to[k].toNat = -1) := by
                      unfold bdB
                      rw [List.getD_eq_getElem?_getD, List.getD_eq_getElem?_getD, hx, hq]; rfl
                    rw [hbb] at hst
                    clear hbb
                    generalize l[k] = x at hx hr hst
                    generalize to[k] = p at hq hp1 hst
                    obtain ⟨p, rfl⟩ : ∃ q : Nat, p = q := ⟨p.toNat, by omega⟩
                    rw [Int.toNat_natCast] at hst
                    obtain ⟨n', hN', hxo⟩ := hrd_ok hr
                    have : n' = n := by have := hN'.p; omega
                    subst this
                    have cT := fun h => vc_rtab N x h hN hxo
                    obtain ⟨r, hr1, hr2, hr3⟩ := rtab_row hN hxo (p := p) (by omega)
                    have hdy := day_no hN hxo (p := p) (by omega)
                    rw [← hr3] at hdy
                    have cF := fun h => vc_first r h (by omega) (by omega)
                    rw [show r.length - 1 = 15 by omega] at cF
                    generalize bdL N l to k = W at hst hbl ⊢
                    generalize mn (fun s => r.getD s 1001) 15 = d at cF hdy
                    generalize dyP N x p = e at hdy hst
                    generalize rtab n' N.ws x = T at cT hr1
                    by_cases hd : d = 1001
                    · rw [decide_eq_true (hdy.1 hd), if_pos rfl] at hst
                      conv => whnf
                      repeat' (first | ((first | refine zs1 ?_ | refine zs2 ?_ | refine zs3 ?_ | refine zs4 ?_ | refine zs5 ?_); conv => whnf) | ((first | apply zi1 | apply zi2 | apply zi3 | apply zi4 | apply zi5) <;> intro _ <;> conv => whnf))
                      all_goals try (exfalso; omega)
                      refine zs6 [(5, 9)] ?_
                      conv => whnf
                      repeat' (first | ((first | refine zs1 ?_ | refine zs2 ?_ | refine zs3 ?_ | refine zs4 ?_ | refine zs5 ?_); conv => whnf) | ((first | apply zi1 | apply zi2 | apply zi3 | apply zi4 | apply zi5) <;> intro _ <;> conv => whnf) | (refine VAny.ix encHd_len k rfl rfl hx ?_; conv => whnf) | (refine VCall.intro (cT _) ?_; conv => whnf) | (refine VAny.ix encI_len k rfl rfl hq ?_; conv => whnf) | (refine VAny.ix encL_len p rfl rfl hr1 ?_; conv => whnf) | (refine VCall.intro (cF _) ?_; conv => whnf) | (refine VMem.app1 (l := W) (k : Int) encI_len rfl rfl rfl rfl rfl (by omega) ?_; conv => whnf))
                      all_goals try (exfalso; omega)
                      refine LEnd.intro (k + 1) (by omega) (by omega) ?_
                      rw [hst, List.length_append]
                      conv => whnf
                      refine Retell.turn ⟨[2], 3, [], []⟩ (TurnOk.mk' _ _ [] [] (OutOk.lift _) rfl (by decide) zb trivial trivial rfl) zw zm
                    · rw [decide_eq_false (fun h => hd (hdy.2 h)), if_neg (by decide)] at hst
                      conv => whnf
                      repeat' (first | ((first | refine zs1 ?_ | refine zs2 ?_ | refine zs3 ?_ | refine zs4 ?_ | refine zs5 ?_); conv => whnf) | ((first | apply zi1 | apply zi2 | apply zi3 | apply zi4 | apply zi5) <;> intro _ <;> conv => whnf))
                      all_goals try (exfalso; omega)
                      refine zs6 [(5, 9)] ?_
                      conv => whnf
                      repeat' (first | ((first | refine zs1 ?_ | refine zs2 ?_ | refine zs3 ?_ | refine zs4 ?_ | refine zs5 ?_); conv => whnf) | ((first | apply zi1 | apply zi2 | apply zi3 | apply zi4 | apply zi5) <;> intro _ <;> conv => whnf) | (refine VAny.ix encHd_len k rfl rfl hx ?_; conv => whnf) | (refine VCall.intro (cT _) ?_; conv => whnf) | (refine VAny.ix encI_len k rfl rfl hq ?_; conv => whnf) | (refine VAny.ix encL_len p rfl rfl hr1 ?_; conv => whnf) | (refine VCall.intro (cF _) ?_; conv => whnf))
                      all_goals try (exfalso; omega)
                      refine LEnd.intro (k + 1) (by omega) (by omega) ?_
                      rw [hst]
                      conv => whnf
                      refine Retell.turn ⟨[0], 1, [], []⟩ (TurnOk.mk' _ _ [] [] (OutOk.lift _) rfl (by decide) zb trivial trivial rfl) zw zm
                  · obtain rfl : k = l.length := by omega
                    rw [← hL]
                    conv => whnf
                    repeat' (first | ((first | refine zs1 ?_ | refine zs2 ?_ | refine zs3 ?_ | refine zs4 ?_ | refine zs5 ?_); conv => whnf) | ((first | apply zi1 | apply zi2 | apply zi3 | apply zi4 | apply zi5) <;> intro _ <;> conv => whnf))
                    all_goals try (exfalso; omega)
                    refine VOut.data 1 [(0, L.flatMap Vm.encI)] [] rfl zf (by exact FmAll.nil) zw
      · rw [if_neg h2] at hE
        rw [if_neg (by omega)] at hL
        subst hL
        conv => whnf
        repeat' (first | ((first | refine zs1 ?_ | refine zs2 ?_ | refine zs3 ?_ | refine zs4 ?_ | refine zs5 ?_); conv => whnf) | ((first | apply zi1 | apply zi2 | apply zi3 | apply zi4 | apply zi5) <;> intro _ <;> conv => whnf) | (refine VCall.intro (cC _) ?_; conv => whnf))
        all_goals try (exfalso; omega)
        refine VCode.lp (outer := h.lift) (marks := []) (fun k : Nat => [(1, hds l), (2, ints to), (3, .fp (encN N)), (9, I k)]) (fun _ => []) (fun k => k ≤ l.length ∧ E = hrdL N (l.drop k)) (fun k => l.length - k) 0 ⟨Nat.zero_le _, hE⟩ ?_ ?_
        · conv => whnf
          refine Retell.turn ⟨[], 0, [], []⟩ (TurnOk.mk' _ _ [] [] (OutOk.lift _) rfl (by decide) zb trivial trivial rfl) zw zm
        · rintro k ⟨k1, k2⟩
          rcases Nat.lt_or_ge k l.length with h3 | h3
          · have hx : l[k]? = some l[k] := List.getElem?_eq_getElem h3
            rw [hrdL_at hx] at k2
            have cH := fun h => vc_rherded N l[k] h hn
            generalize l[k] = x at hx cH k2
            by_cases hr : hrd N x = 0
            · rw [if_pos hr] at k2
              rw [hr] at cH
              conv => whnf
              repeat' (first | ((first | refine zs1 ?_ | refine zs2 ?_ | refine zs3 ?_ | refine zs4 ?_ | refine zs5 ?_); conv => whnf) | ((first | apply zi1 | apply zi2 | apply zi3 | apply zi4 | apply zi5) <;> intro _ <;> conv => whnf))
              all_goals try (exfalso; omega)
              refine zs6 [] ?_
              conv => whnf
              repeat' (first | ((first | refine zs1 ?_ | refine zs2 ?_ | refine zs3 ?_ | refine zs4 ?_ | refine zs5 ?_); conv => whnf) | ((first | apply zi1 | apply zi2 | apply zi3 | apply zi4 | apply zi5) <;> intro _ <;> conv => whnf) | (refine VAny.ix encHd_len k rfl rfl hx ?_; conv => whnf) | (refine VCall.intro (cH _) ?_; conv => whnf))
              all_goals try (exfalso; omega)
              refine LEnd.intro (k + 1) ⟨by omega, k2⟩ (by omega) ?_
              conv => whnf
              refine Retell.turn ⟨[], 0, [], []⟩ (TurnOk.mk' _ _ [] [] (OutOk.lift _) rfl (by decide) zb trivial trivial rfl) zw zm
            · rw [if_neg hr] at k2
              rw [← k2] at cH hr
              conv => whnf
              repeat' (first | ((first | refine zs1 ?_ | refine zs2 ?_ | refine zs3 ?_ | refine zs4 ?_ | refine zs5 ?_); conv => whnf) | ((first | apply zi1 | apply zi2 | apply zi3 | apply zi4 | apply zi5) <;> intro _ <;> conv => whnf))
              all_goals try (exfalso; omega)
              refine zs6 [] ?_
              conv => whnf
              repeat' (first | ((first | refine zs1 ?_ | refine zs2 ?_ | refine zs3 ?_ | refine zs4 ?_ | refine zs5 ?_); conv => whnf) | ((first | apply zi1 | apply zi2 | apply zi3 | apply zi4 | apply zi5) <;> intro _ <;> conv => whnf) | (refine VAny.ix encHd_len k rfl rfl hx ?_; conv => whnf) | (refine VCall.intro (cH _) ?_; conv => whnf))
              all_goals try (exfalso; omega)
              all_goals try (rename_i hh; exact absurd (by omega) hr)
              refine VOut.data 0 [] [] rfl zf (by exact FmAll.nil) zw
          · exfalso
            rw [List.drop_of_length_le h3, hrdL] at k2
            exact h2 (by rw [← hE]; exact k2)
    · rw [if_neg h1] at hE
      subst hE
      rw [if_neg (by decide)] at hL
      subst hL
      conv => whnf
      repeat' (first | ((first | refine zs1 ?_ | refine zs2 ?_ | refine zs3 ?_ | refine zs4 ?_ | refine zs5 ?_); conv => whnf) | ((first | apply zi1 | apply zi2 | apply zi3 | apply zi4 | apply zi5) <;> intro _ <;> conv => whnf) | (refine VCall.intro (cC _) ?_; conv => whnf))
      all_goals try (exfalso; omega)
      all_goals refine VOut.data 0 [] [] rfl zf (by exact FmAll.nil) zw
  · rw [if_neg h0] at hE
    rw [← hE] at cC h0
    rw [if_neg h0] at hL
    subst hL
    refine VC.body Try.func41 rfl Try.ntmps41 Try.call41 (h.grows_refl) rfl ?_; conv => whnf
    repeat' (first | ((first | refine zs1 ?_ | refine zs2 ?_ | refine zs3 ?_ | refine zs4 ?_ | refine zs5 ?_ | refine zs6 [] ?_); conv => whnf) | ((first | apply zi1 | apply zi2 | apply zi3 | apply zi4 | apply zi5) <;> intro _ <;> conv => whnf) | (refine VCall.intro (cC _) ?_; conv => whnf))
    · refine VOut.data 1 [] [] rfl zf (by exact FmAll.nil) zw
    all_goals (rename_i hh; exact absurd (by omega) h0)
end Go.Proofs.Ytoeendggmalcpaa

open Go.Vm
open Psg
namespace Go.Proofs.Ytoeendggmalcpaa
set_option maxRecDepth 20000
set_option maxHeartbeats 4000000
theorem top61 : eqTop Try.prog 61 = some (Sh.cons 0 1 false Sh.int (Sh.cons 1 1 false Sh.int (Sh.cons 2 1 false Sh.int (Sh.nil)))) := by kernel_rfl
theorem vneqR (x y : Hd) : vaggeq Try.prog .neq 61 (vHd x) (vHd y) = some (B (decide (¬ x = y))) := by
  have := vneqH x y
  unfold vaggeq at this ⊢
  rw [top30] at this
  rw [top61]
  exact this
theorem rt_dy {N : Nt} {x : Hd} {to : Int} (h : rtE N x to = 0) : rdD N x to = dyP N x to.toNat := by unfold rdD; rw [if_pos h]
theorem rt_flw {N : Nt} {x : Hd} {to : Int} {L : List Int} (h : rtE N x to = 0) (hL : RtR N x to L) : ∃ s, Pp s ∧ flw N x L = (⟨to, rdD N x to, s⟩, 0) := by
  obtain ⟨s, hs, hf⟩ := hL.fol
  have h0 : hrd N x = 0 := by
    unfold rtE at h
    by_cases h1 : hrd N x = 0
    · exact h1
    · rw [if_neg h1] at h; exact absurd h h1
  refine ⟨s, hs, ?_⟩
  unfold flw
  rw [if_pos h0, if_pos hL.ok, hf, rt_dy h]
  rfl
theorem bdR_len (N : Nt) (l : List Hd) (to : List Int) : (bdR N l to).length ≤ l.length := by
  unfold bdR
  split
  · exact bdL_len _ _ _ _
  · simp
theorem eaL_len (N : Nt) (x : Hd) : (eaL N x).length ≤ 10 := by
  unfold eaL
  split
  · rename_i h
    obtain ⟨n, hN, _⟩ := hrd_ok h
    have := hN.p; have := hN.n1
    rw [List.length_map, List.length_range]; omega
  · simp
theorem vc_Routes (N : Nt) (x : Hd) (rt : List Int) (to : Int) (l : List Hd) (ps : List Int) (h : Hp) : VC Try.prog 5 [vN N, vHd x, ints rt, I to, hds l, ints ps] h (B true) h := by
  have cL := fun h => vc_long N [rt, ps] h (by simp)
  have hlg : lngB N [rt, ps] = false → N.ws.length ≤ 28 ∧ rt.length ≤ 30 ∧ ps.length ≤ 30 := by
    unfold lngB
    simp only [List.any_cons, List.any_nil, Bool.or_false, Bool.or_eq_false_iff, decide_eq_false_iff_not]
    omega
  generalize lngB N [rt, ps] = lb at cL hlg
  refine VC.bodyC 1 Try.func5 rfl Try.ntmps5 Try.call5 (h.grows_refl) rfl ?_; conv => whnf
  refine VCut.at' (outer := h.lift) (marks := []) 1 [(2, ints rt), (3, I to), (4, hds l), (5, ints ps), (6, .fp (encN N)), (7, .fp (encHd x))] [] ?_ ?_
  · conv => whnf
    refine Retell.turn ⟨[], 2, [(0, encN N), (1, encHd x)], []⟩ (TurnOk.mk' _ _ [(0, encN N), (1, encHd x)] [] (OutOk.lift _) rfl (by decide) zb zf trivial rfl) zw zm
  by_cases hb : lb = true ∨ 14 < l.length
  · cases lb with
    | true =>
      conv => whnf
      repeat' (first | ((first | refine zs1 ?_ | refine zs2 ?_ | refine zs3 ?_ | refine zs4 ?_ | refine zs5 ?_); conv => whnf) | ((first | apply zi1 | apply zi2 | apply zi3 | apply zi4 | apply zi5) <;> intro _ <;> conv => whnf))
      refine VCall.intro (VC.give (args' := [vN N, intss [rt, ps]]) (loc' := [.dead]) [(0, [rt, ps].flatMap encL)] [] (OutOk.lift _) zb zf (by exact FmAll.nil) rfl zv (cL _)) ?_
      conv => whnf
      repeat' (first | ((first | refine zs1 ?_ | refine zs2 ?_ | refine zs3 ?_ | refine zs4 ?_ | refine zs5 ?_); conv => whnf) | ((first | apply zi1 | apply zi2 | apply zi3 | apply zi4 | apply zi5) <;> intro _ <;> conv => whnf) | (refine VCall.intro (vc_awake _) ?_; conv => whnf))
      all_goals try (exfalso; omega)
      exact VOut.same rfl
    | false =>
      have hb2 : 14 < l.length := by rcases hb with h | h; cases h; exact h
      conv => whnf
      repeat' (first | ((first | refine zs1 ?_ | refine zs2 ?_ | refine zs3 ?_ | refine zs4 ?_ | refine zs5 ?_); conv => whnf) | ((first | apply zi1 | apply zi2 | apply zi3 | apply zi4 | apply zi5) <;> intro _ <;> conv => whnf))
      refine VCall.intro (VC.give (args' := [vN N, intss [rt, ps]]) (loc' := [.dead]) [(0, [rt, ps].flatMap encL)] [] (OutOk.lift _) zb zf (by exact FmAll.nil) rfl zv (cL _)) ?_
      conv => whnf
      repeat' (first | ((first | refine zs1 ?_ | refine zs2 ?_ | refine zs3 ?_ | refine zs4 ?_ | refine zs5 ?_); conv => whnf) | ((first | apply zi1 | apply zi2 | apply zi3 | apply zi4 | apply zi5) <;> intro _ <;> conv => whnf) | (refine VCall.intro (vc_awake _) ?_; conv => whnf))
      all_goals try (exfalso; omega)
      exact VOut.same rfl
  · have hl14 : l.length ≤ 14 := by omega
    have hlb : lb = false := by cases lb; rfl; exact absurd (.inl rfl) hb
    subst hlb
    obtain ⟨n28, n30, p30⟩ := hlg rfl
    have c1 := fun h => vc_CloneNet N h (by omega)
    have c2 := fun h => vc_kcloneI rt h (by omega)
    have c3 := fun h => vc_kcloneI ps h (by omega)
    have c4 := fun h => vc_kcloneH l h (by omega)
    have c5 := fun h => vc_Net N h (by omega)
    have c6 := fun h => vc_check N h (by omega)
    have c7 := fun h => vc_rcheck N h (by omega)
    have c8 := fun h => vc_Follow N x rt h (by omega) (by omega)
    have c9 := fun h => vc_rFollow N x rt h (by omega) (by omega)
    have c10 := fun h => vc_Earliest N x h (by omega)
    have c11 := fun h => vc_rEarliest N x h (by omega)
    have c12 := fun h => vc_kequalI (eaL N x) (eaL N x) h (by have := eaL_len N x; omega) (by have := eaL_len N x; omega)
    obtain ⟨L, hL1, hL2, c13⟩ := vc_Route N x to (by omega)
    have c14 := fun h => vc_Routed N x to h (by omega)
    have c15 := fun h => vc_Barred N l ps h (by omega) (by omega) (by omega)
    have c16 := fun h => vc_rBarred N l ps h (by omega) (by omega) (by omega)
    have c17 := fun h => vc_kequalI (bdR N l ps) (bdR N l ps) h (by have := bdR_len N l ps; omega) (by have := bdR_len N l ps; omega)
    have c18 := fun h => vc_equal N N h (by omega) (by omega)
    have c19 := fun h => vc_kequalI rt rt h (by omega) (by omega)
    have c20 := fun h => vc_kequalI ps ps h (by omega) (by omega)
    have c21 := fun h => vc_kequalH l l h (by omega) (by omega)
    rw [decide_eq_true rfl] at c12 c17 c18 c19 c20 c21
    generalize flw N x rt = F at c8 c9
    generalize eaL N x = A at c10 c11 c12
    generalize bdR N l ps = Bd at c15 c16 c17
    generalize bdE N l ps = E3 at c15 c16
    generalize chk N = E1 at c6 c7
    generalize hrd N x = E2 at c10 c11
    conv => whnf
    repeat' (first | ((first | refine zs1 ?_ | refine zs2 ?_ | refine zs3 ?_ | refine zs4 ?_ | refine zs5 ?_); conv => whnf) | ((first | apply zi1 | apply zi2 | apply zi3 | apply zi4 | apply zi5) <;> intro _ <;> conv => whnf))
    refine VCall.intro (VC.give (args' := [vN N, intss [rt, ps]]) (loc' := [.dead]) [(0, [rt, ps].flatMap encL)] [] (OutOk.lift _) zb zf (by exact FmAll.nil) rfl zv (cL _)) ?_
    conv => whnf
    repeat' (first | ((first | refine zs1 ?_ | refine zs2 ?_ | refine zs3 ?_ | refine zs4 ?_ | refine zs5 ?_); conv => whnf) | ((first | apply zi1 | apply zi2 | apply zi3 | apply zi4 | apply zi5) <;> intro _ <;> conv => whnf))
    all_goals try (exfalso; omega)
    refine VCut.at' (outer := h.lift) (marks := []) 2 [(2, ints rt), (3, I to), (4, hds l), (5, ints ps), (6, .fp (encN N)), (7, .fp (encHd x))] [] ?_ ?_
    · conv => whnf
      refine Retell.turn ⟨[], 1, [], []⟩ (TurnOk.mk' _ _ [] [] (OutOk.lift _) rfl (by decide) zb trivial trivial rfl) zw zm
    conv => whnf
    refine zs6 [(1, 8), (3, 8), (5, 8), (7, 8)] ?_
    conv => whnf
    repeat' (first | ((first | refine zs1 ?_ | refine zs2 ?_ | refine zs3 ?_ | refine zs4 ?_ | refine zs5 ?_); conv => whnf) | ((first | apply zi1 | apply zi2 | apply zi3 | apply zi4 | apply zi5) <;> intro _ <;> conv => whnf) | (refine VCall.intro (c1 _) ?_; conv => whnf) | (refine VCall.intro (c2 _) ?_; conv => whnf) | (refine VCall.intro (c3 _) ?_; conv => whnf) | (refine VCall.intro (c4 _) ?_; conv => whnf) | (refine VCall.intro (c5 _) ?_; conv => whnf))
    refine VCut.at' (outer := h.lift) (marks := []) 1 [(2, ints rt), (3, I to), (4, hds l), (5, ints ps), (6, .fp (encN N)), (7, .fp (encHd x)), (13, .fp (encN N)), (14, ints rt), (15, ints ps), (16, hds l), (17, .fp (encN N)), (18, .fp (encHd x))] [] ?_ ?_
    · conv => whnf
      refine Retell.turn ⟨[], 3, [(0, encN N), (1, encN N), (2, encHd x)], []⟩ (TurnOk.mk' _ _ [(0, encN N), (1, encN N), (2, encHd x)] [] (OutOk.lift _) rfl (by decide) zb zf trivial rfl) zw zm
    conv => whnf
    refine zs6 [(1, 2)] ?_
    conv => whnf
    repeat' (first | ((first | refine zs1 ?_ | refine zs2 ?_ | refine zs3 ?_ | refine zs4 ?_ | refine zs5 ?_); conv => whnf) | ((first | apply zi1 | apply zi2 | apply zi3 | apply zi4 | apply zi5) <;> intro _ <;> conv => whnf) | (refine VCall.intro (c6 _) ?_; conv => whnf) | (refine VCall.intro (c7 _) ?_; conv => whnf))
    all_goals try contradiction
    all_goals try (exfalso; omega)
    refine VCut.at' (outer := h.lift) (marks := []) 3 [(2, ints rt), (3, I to), (4, hds l), (5, ints ps), (6, .fp (encN N)), (7, .fp (encHd x)), (13, .fp (encN N)), (14, ints rt), (15, ints ps), (16, hds l), (17, .fp (encN N)), (18, .fp (encHd x))] [] ?_ ?_
    · conv => whnf
      refine Retell.turn ⟨[], 0, [], []⟩ (TurnOk.mk' _ _ [] [] (OutOk.lift _) rfl (by decide) zb trivial trivial rfl) zw zm
    conv => whnf
    repeat' (first | ((first | refine zs1 ?_ | refine zs2 ?_ | refine zs3 ?_ | refine zs4 ?_ | refine zs5 ?_); conv => whnf) | ((first | apply zi1 | apply zi2 | apply zi3 | apply zi4 | apply zi5) <;> intro _ <;> conv => whnf) | (refine VCall.intro (c8 _) ?_; conv => whnf) | (refine VCall.intro (c9 _) ?_; conv => whnf) | (refine VAgg.intro (vneqR F.1 F.1) ?_; conv => whnf))
    all_goals try contradiction
    all_goals try (exfalso; omega)
    refine VCut.at' (outer := h.lift) (marks := []) 3 [(2, ints rt), (3, I to), (4, hds l), (5, ints ps), (6, .fp (encN N)), (7, .fp (encHd x)), (13, .fp (encN N)), (14, ints rt), (15, ints ps), (16, hds l), (17, .fp (encN N)), (18, .fp (encHd x))] [] ?_ ?_
    · conv => whnf
      refine Retell.turn ⟨[], 2, [], []⟩ (TurnOk.mk' _ _ [] [] (OutOk.lift _) rfl (by decide) zb trivial trivial rfl) zw zm
    conv => whnf
    repeat' (first | ((first | refine zs1 ?_ | refine zs2 ?_ | refine zs3 ?_ | refine zs4 ?_ | refine zs5 ?_); conv => whnf) | ((first | apply zi1 | apply zi2 | apply zi3 | apply zi4 | apply zi5) <;> intro _ <;> conv => whnf) | (refine VCall.intro (c10 _) ?_; conv => whnf) | (refine VCall.intro (c11 _) ?_; conv => whnf) | (refine VCall.intro (c12 _) ?_; conv => whnf))
    all_goals try contradiction
    all_goals try (exfalso; omega)
    refine VCut.at' (outer := h.lift) (marks := []) 3 [(2, ints rt), (3, I to), (4, hds l), (5, ints ps), (6, .fp (encN N)), (7, .fp (encHd x)), (13, .fp (encN N)), (14, ints rt), (15, ints ps), (16, hds l), (17, .fp (encN N)), (18, .fp (encHd x))] [] ?_ ?_
    · conv => whnf
      refine Retell.turn ⟨[], 0, [], []⟩ (TurnOk.mk' _ _ [] [] (OutOk.lift _) rfl (by decide) zb trivial trivial rfl) zw zm
    apply suffices_
    · intro hrest
      by_cases hr : rtE N x to = 0
      · have hL := hL1 hr
        obtain ⟨s, hs, hfl⟩ := rt_flw hr hL
        have hll := hL.len
        have c22 := fun h => vc_rFollow N x L h (by omega) (by omega)
        rw [hfl] at c22
        rw [hr] at c13 c14
        generalize rdD N x to = dd at c14 c22
        conv => whnf
        repeat' (first | ((first | refine zs1 ?_ | refine zs2 ?_ | refine zs3 ?_ | refine zs4 ?_ | refine zs5 ?_); conv => whnf) | ((first | apply zi1 | apply zi2 | apply zi3 | apply zi4 | apply zi5) <;> intro _ <;> conv => whnf) | (refine VCall.intro (c13 _) ?_; conv => whnf) | (refine VCall.intro (c14 _) ?_; conv => whnf))
        all_goals try contradiction
        all_goals try (exfalso; omega)
        refine VCut.at' (outer := h.lift) (marks := []) 1 [(2, ints rt), (3, I to), (4, hds l), (5, ints ps), (6, .fp (encN N)), (7, .fp (encHd x)), (13, .fp (encN N)), (14, ints rt), (15, ints ps), (16, hds l), (17, .fp (encN N)), (18, .fp (encHd x)), (20, I 0), (23, ints L), (25, I dd)] [] ?_ ?_
        · conv => whnf
          refine Retell.turn ⟨[], 0, [], []⟩ (TurnOk.mk' _ _ [] [] (OutOk.lift _) rfl (by decide) zb trivial trivial rfl) zw zm
        conv => whnf
        repeat' (first | ((first | refine zs1 ?_ | refine zs2 ?_ | refine zs3 ?_ | refine zs4 ?_ | refine zs5 ?_); conv => whnf) | ((first | apply zi1 | apply zi2 | apply zi3 | apply zi4 | apply zi5) <;> intro _ <;> conv => whnf) | (refine VCall.intro (c22 _) ?_; conv => whnf))
        all_goals try contradiction
        all_goals try (exfalso; omega)
        refine VCut.at' (outer := h.lift) (marks := []) 99 [(2, ints rt), (3, I to), (4, hds l), (5, ints ps), (6, .fp (encN N)), (7, .fp (encHd x)), (13, .fp (encN N)), (14, ints rt), (15, ints ps), (16, hds l), (17, .fp (encN N)), (18, .fp (encHd x))] [] ?_ hrest.out
        · conv => whnf
          refine Retell.turn ⟨[], 1, [], []⟩ (TurnOk.mk' _ _ [] [] (OutOk.lift _) rfl (by decide) zb trivial trivial rfl) zw zm
      · have hL := hL2 hr
        subst hL
        generalize rtE N x to = e at c13 c14 hr
        generalize rdD N x to = dd at c14
        conv => whnf
        repeat' (first | ((first | refine zs1 ?_ | refine zs2 ?_ | refine zs3 ?_ | refine zs4 ?_ | refine zs5 ?_); conv => whnf) | ((first | apply zi1 | apply zi2 | apply zi3 | apply zi4 | apply zi5) <;> intro _ <;> conv => whnf) | (refine VCall.intro (c13 _) ?_; conv => whnf) | (refine VCall.intro (c14 _) ?_; conv => whnf))
        all_goals try contradiction
        all_goals try (exfalso; omega)
        refine VCut.at' (outer := h.lift) (marks := []) 1 [(2, ints rt), (3, I to), (4, hds l), (5, ints ps), (6, .fp (encN N)), (7, .fp (encHd x)), (13, .fp (encN N)), (14, ints rt), (15, ints ps), (16, hds l), (17, .fp (encN N)), (18, .fp (encHd x)), (20, I e), (23, ints []), (25, I dd)] [] ?_ ?_
        · conv => whnf
          refine Retell.turn ⟨[], 0, [], []⟩ (TurnOk.mk' _ _ [] [] (OutOk.lift _) rfl (by decide) zb trivial trivial rfl) zw zm
        conv => whnf
        repeat' (first | ((first | refine zs1 ?_ | refine zs2 ?_ | refine zs3 ?_ | refine zs4 ?_ | refine zs5 ?_); conv => whnf) | ((first | apply zi1 | apply zi2 | apply zi3 | apply zi4 | apply zi5) <;> intro _ <;> conv => whnf))
        all_goals try contradiction
        all_goals try (exfalso; omega)
        refine VCut.at' (outer := h.lift) (marks := []) 99 [(2, ints rt), (3, I to), (4, hds l), (5, ints ps), (6, .fp (encN N)), (7, .fp (encHd x)), (13, .fp (encN N)), (14, ints rt), (15, ints ps), (16, hds l), (17, .fp (encN N)), (18, .fp (encHd x))] [] ?_ hrest.out
        · conv => whnf
          refine Retell.turn ⟨[], 0, [], []⟩ (TurnOk.mk' _ _ [] [] (OutOk.lift _) rfl (by decide) zb trivial trivial rfl) zw zm
    · conv => whnf
      repeat' (first | ((first | refine zs1 ?_ | refine zs2 ?_ | refine zs3 ?_ | refine zs4 ?_ | refine zs5 ?_); conv => whnf) | ((first | apply zi1 | apply zi2 | apply zi3 | apply zi4 | apply zi5) <;> intro _ <;> conv => whnf))
      refine VCode.lp (outer := h.lift) (marks := []) (fun k : Nat => [(2, ints rt), (3, I to), (4, hds l), (5, ints ps), (6, .fp (encN N)), (13, .fp (encN N)), (14, ints rt), (15, ints ps), (16, hds l), (17, .fp (encN N)), (28, .gl (.loc 0) 3 (l.take k).length), (150, hds l), (151, I l.length), (152, I k)]) (fun k => [.flat true ((l.take k).flatMap encHd)]) (fun k => k ≤ l.length) (fun k => l.length - k) 0 (Nat.zero_le _) ?_ ?_
      · conv => whnf
        refine Retell.turn ⟨[0], 0, [], []⟩ (TurnOk.mk' _ _ [] [] (OutOk.lift _) rfl (by decide) zb trivial trivial rfl) zw zm
      · intro k hk
        rcases Nat.lt_or_ge k l.length with h3 | h3
        · have hw : l[k]? = some l[k] := List.getElem?_eq_getElem h3
          have ht : l.take (k + 1) = l.take k ++ [l[k]] := by rw [List.take_add_one, hw]; rfl
          have hl2 : (l.take k).length ≤ 14 := by rw [List.length_take]; omega
          generalize l[k] = w at hw ht
          generalize l.take k = W at ht hl2 ⊢
          conv => whnf
          repeat' (first | ((first | refine zs1 ?_ | refine zs2 ?_ | refine zs3 ?_ | refine zs4 ?_ | refine zs5 ?_); conv => whnf) | ((first | apply zi1 | apply zi2 | apply zi3 | apply zi4 | apply zi5) <;> intro _ <;> conv => whnf) | (refine VAny.ix encHd_len k rfl rfl hw ?_; conv => whnf) | (refine VMem.app1 (l := W) w encHd_len rfl rfl rfl rfl rfl (by omega) ?_; conv => whnf))
          all_goals try (exfalso; omega)
          refine LEnd.intro (k + 1) (by omega) (by omega) ?_
          rw [ht, List.length_append]
          conv => whnf
          refine Retell.turn ⟨[3], 4, [], []⟩ (TurnOk.mk' _ _ [] [] (OutOk.lift _) rfl (by decide) zb trivial trivial rfl) zw zm
        · rw [List.take_of_length_le h3]
          have hfl : (l.flatMap encHd).length = l.length * 3 := flat_len encHd_len _
          conv => whnf
          repeat' (first | ((first | refine zs1 ?_ | refine zs2 ?_ | refine zs3 ?_ | refine zs4 ?_ | refine zs5 ?_); conv => whnf) | ((first | apply zi1 | apply zi2 | apply zi3 | apply zi4 | apply zi5) <;> intro _ <;> conv => whnf))
          all_goals try (exfalso; omega)
          refine VCall.intro (c15 _) ?_
          conv => whnf
          repeat' (first | ((first | refine zs1 ?_ | refine zs2 ?_ | refine zs3 ?_ | refine zs4 ?_ | refine zs5 ?_); conv => whnf) | ((first | apply zi1 | apply zi2 | apply zi3 | apply zi4 | apply zi5) <;> intro _ <;> conv => whnf))
          refine VCall.intro (VC.give (args' := [vN N, hds l, ints ps]) (loc' := [.dead]) [(0, l.flatMap encHd)] [] (OutOk.lift _) zb zf (by exact FmAll.nil) rfl zv (c16 _)) ?_
          conv => whnf
          repeat' (first | ((first | refine zs1 ?_ | refine zs2 ?_ | refine zs3 ?_ | refine zs4 ?_ | refine zs5 ?_); conv => whnf) | ((first | apply zi1 | apply zi2 | apply zi3 | apply zi4 | apply zi5) <;> intro _ <;> conv => whnf) | (refine VCall.intro (c17 _) ?_; conv => whnf) | (refine VCall.intro (c18 _) ?_; conv => whnf) | (refine VCall.intro (c19 _) ?_; conv => whnf) | (refine VCall.intro (c20 _) ?_; conv => whnf) | (refine VCall.intro (c21 _) ?_; conv => whnf) | (refine VCall.intro (vc_awake _) ?_; conv => whnf))
          all_goals first | contradiction | (exfalso; omega) | exact VOut.same rfl
end Go.Proofs.Ytoeendggmalcpaa

open Go.Vm
open Psg
namespace Go.Joins
open Go.ChangeShapes Go.WideShapes Go.RowKit Go.Deep Go.WideElems Go.Maps
theorem trod_struct7 {H : Type} {enc : TypeId × Value → H} {P : Program} {w : World} {base : Nat} {spare : Nat → Bool} {held : Bool} {t : TypeId} {f0 f1 f2 f3 f4 f5 f6 : Field} {fuel : Nat} {cs : List Value} {x : DataW H × List MemPlace} (ht : P.underlying t = some (.struct #[f0, f1, f2, f3, f4, f5, f6])) (h : DataW.trod enc P w base spare held fuel t cs = some x) :
    ∃ y0 y1 y2 y3 y4 y5 y6 n, cs.length = P.cellsOf t ∧ DataW.trod enc P w base spare held n f0.type ((cs.drop f0.offset).take (P.cellsOf f0.type)) = some y0 ∧
      DataW.trod enc P w base spare held n f1.type ((cs.drop f1.offset).take (P.cellsOf f1.type)) = some y1 ∧ DataW.trod enc P w base spare held n f2.type ((cs.drop f2.offset).take (P.cellsOf f2.type)) = some y2 ∧
      DataW.trod enc P w base spare held n f3.type ((cs.drop f3.offset).take (P.cellsOf f3.type)) = some y3 ∧ DataW.trod enc P w base spare held n f4.type ((cs.drop f4.offset).take (P.cellsOf f4.type)) = some y4 ∧
      DataW.trod enc P w base spare held n f5.type ((cs.drop f5.offset).take (P.cellsOf f5.type)) = some y5 ∧ DataW.trod enc P w base spare held n f6.type ((cs.drop f6.offset).take (P.cellsOf f6.type)) = some y6 := by
  obtain ⟨xs, n, _, rfl, hl, hlen, hf⟩ := DataW.trod_struct ht h
  match xs, hlen with
  | [y0, y1, y2, y3, y4, y5, y6], _ => exact ⟨y0, y1, y2, y3, y4, y5, y6, n, hl, by simpa using hf 0 f0 rfl, by simpa using hf 1 f1 rfl, by simpa using hf 2 f2 rfl, by simpa using hf 3 f3 rfl, by simpa using hf 4 f4 rfl, by simpa using hf 5 f5 rfl, by simpa using hf 6 f6 rfl⟩
end Go.Joins
namespace Go.Vm
structure Seg (W : World) (a : List D) (cs : List Value) (o m : Nat) : Prop where
  dr : DRs (fzW W) a ((cs.drop o).take m)
  one : ∀ v ∈ (cs.drop o).take m, v.oneCell' = true
theorem Seg.app {W : World} {a b : List D} {cs : List Value} {o m k : Nat} (h : Seg W a cs o m) (g : Seg W b cs (o + m) k) : Seg W (a ++ b) cs o (m + k) := by
  have e : (cs.drop o).take (m + k) = (cs.drop o).take m ++ (cs.drop (o + m)).take k := by rw [List.take_add, List.drop_drop]
  refine ⟨by rw [e]; exact DRs.append h.dr g.dr, fun v hv => ?_⟩
  rw [e] at hv
  rcases List.mem_append.1 hv with hv | hv
  · exact h.one v hv
  · exact g.one v hv
theorem Seg.all {W : World} {a : List D} {cs : List Value} {m : Nat} (h : Seg W a cs 0 m) (hl : cs.length = m) : DRs (fzW W) a cs ∧ ∀ v ∈ cs, v.oneCell' = true := by
  have e : (cs.drop 0).take m = cs := by rw [List.drop_zero, List.take_of_length_le (by omega)]
  have h1 := h.dr
  have h2 := h.one
  rw [e] at h1 h2
  exact ⟨h1, h2⟩
end Go.Vm
namespace Go.Proofs.Ytoeendggmalcpaa
open Go.ChangeShapes Go.WideShapes Go.ChangeAt Go.RowKit

theorem open3 : Opens Try.prog 3 (fun n : Int => [DI n]) := Opens.int Try.underlying3
theorem open38 : Opens Try.prog 38 (fun x : Int × Int => [DI x.1, DI x.2]) := (Opens.struct2 1 1 Try.underlying38 (by kernel_rfl) rfl rfl (by kernel_rfl) (by kernel_rfl) open3 open3).as (fun x => x) (fun x => [DI x.1, DI x.2]) fun _ => rfl
theorem cells3 : Try.prog.cellsOf 3 = 1 := by kernel_rfl
theorem cells38 : Try.prog.cellsOf 38 = 2 := by kernel_rfl
theorem cells40 : Try.prog.cellsOf 40 = 8 := by kernel_rfl
theorem open40 : Opens Try.prog 40 encWy := by
  intro W H en sp hd fuel cs x h
  obtain ⟨y0, y1, y2, y3, y4, y5, y6, n, hl, g0, g1, g2, g3, g4, g5, g6⟩ := Go.Joins.trod_struct7 Try.underlying40 h
  rw [cells40] at hl
  have g0 : DataW.trod en Try.prog W 0 sp hd n 3 ((cs.drop 0).take (Try.prog.cellsOf 3)) = some y0 := g0
  have g1 : DataW.trod en Try.prog W 0 sp hd n 3 ((cs.drop 1).take (Try.prog.cellsOf 3)) = some y1 := g1
  have g2 : DataW.trod en Try.prog W 0 sp hd n 3 ((cs.drop 2).take (Try.prog.cellsOf 3)) = some y2 := g2
  have g3 : DataW.trod en Try.prog W 0 sp hd n 3 ((cs.drop 3).take (Try.prog.cellsOf 3)) = some y3 := g3
  have g4 : DataW.trod en Try.prog W 0 sp hd n 3 ((cs.drop 4).take (Try.prog.cellsOf 3)) = some y4 := g4
  have g5 : DataW.trod en Try.prog W 0 sp hd n 3 ((cs.drop 5).take (Try.prog.cellsOf 3)) = some y5 := g5
  have g6 : DataW.trod en Try.prog W 0 sp hd n 38 ((cs.drop 6).take (Try.prog.cellsOf 38)) = some y6 := g6
  rw [cells3] at g0 g1 g2 g3 g4 g5
  rw [cells38] at g6
  obtain ⟨a0, b0, c0⟩ := open3 W H en sp hd n _ _ g0
  obtain ⟨a1, b1, c1⟩ := open3 W H en sp hd n _ _ g1
  obtain ⟨a2, b2, c2⟩ := open3 W H en sp hd n _ _ g2
  obtain ⟨a3, b3, c3⟩ := open3 W H en sp hd n _ _ g3
  obtain ⟨a4, b4, c4⟩ := open3 W H en sp hd n _ _ g4
  obtain ⟨a5, b5, c5⟩ := open3 W H en sp hd n _ _ g5
  obtain ⟨⟨a6, a7⟩, b6, c6⟩ := open38 W H en sp hd n _ _ g6
  have s0 : Seg W [DI a0] cs 0 1 := ⟨b0, c0⟩
  have s1 : Seg W [DI a1] cs 1 1 := ⟨b1, c1⟩
  have s2 : Seg W [DI a2] cs 2 1 := ⟨b2, c2⟩
  have s3 : Seg W [DI a3] cs 3 1 := ⟨b3, c3⟩
  have s4 : Seg W [DI a4] cs 4 1 := ⟨b4, c4⟩
  have s5 : Seg W [DI a5] cs 5 1 := ⟨b5, c5⟩
  have s6 : Seg W [DI a6, DI a7] cs 6 2 := ⟨b6, c6⟩
  exact ⟨⟨a0, a1, a2, a3, a4, a5, a6, a7⟩, (((((((s0.app s1).app s2).app s3).app s4).app s5).app s6).all hl)⟩
theorem open25 : Opens Try.prog 25 (fun l : List Wy => [D.sl 8 l.length (l.flatMap encWy)]) := Opens.slice Try.underlying25 encWy_len (by kernel_rfl) (by decide) open40
theorem open27 : Opens Try.prog 27 encN := (Opens.struct2 1 1 Try.underlying27 (by kernel_rfl) rfl rfl (by kernel_rfl) (by kernel_rfl) open3 open25).as (fun x => ⟨x.1, x.2⟩) encN fun _ => rfl
theorem open30 : Opens Try.prog 30 encHd := (Opens.struct3 1 1 1 Try.underlying30 (by kernel_rfl) rfl rfl rfl (by kernel_rfl) (by kernel_rfl) (by kernel_rfl) open3 open3 open3).as (fun x => ⟨x.1, x.2.1, x.2.2⟩) encHd fun _ => rfl
theorem open32 : Opens Try.prog 32 (fun l : List Int => [dints l]) := Opens.slice Try.underlying32 encI_len (by kernel_rfl) (by decide) open3
theorem open53 : Opens Try.prog 53 (fun l : List Hd => [D.sl 3 l.length (l.flatMap encHd)]) := Opens.slice Try.underlying53 encHd_len (by kernel_rfl) (by decide) open30
def dN (l : Nt) : D := .agg (encN l)
def dH (x : Hd) : D := .agg (encHd x)
def dhs (l : List Hd) : D := .sl 3 l.length (l.flatMap encHd)
theorem openN : OpenV Try.prog 27 dN := OpenV.struct Try.underlying27 open27
theorem openH : OpenV Try.prog 30 dH := OpenV.struct Try.underlying30 open30
theorem openI : OpenV Try.prog 3 (fun n : Int => DI n) := OpenV.int Try.underlying3
theorem openL : OpenV Try.prog 32 dints := OpenV.slice Try.underlying32 open32
theorem openHs : OpenV Try.prog 53 dhs := OpenV.slice Try.underlying53 open53
theorem ownKn : ownKnob Try.prog.godebug = none := by kernel_rfl
theorem laidOut : laidOutB Try.prog = true := by kernel_rfl
end Go.Proofs.Ytoeendggmalcpaa

open Go.Vm
namespace Go.Proofs.Ytoeendggmalcpaa
open Go.ChangeShapes Go.WideShapes Go.ChangeAt Go.RowKit

theorem open5p : OpenAll Try.prog Try.f5.params.toList (fun x : Psg.Nt × Psg.Hd × List Int × Int × List Psg.Hd × List Int × Unit => [dN x.1, dH x.2.1, dints x.2.2.1, DI x.2.2.2.1, dhs x.2.2.2.2.1, dints x.2.2.2.2.2.1]) := by
  rw [Try.params5]
  exact OpenAll.cons openN (OpenAll.cons openH (OpenAll.cons openL (OpenAll.cons openI (OpenAll.cons openHs (OpenAll.cons openL (OpenAll.nil))))))
set_option maxRecDepth 100000 in
theorem contract5 (H : Type) (enc : TypeId × Value → H) (W : World) (base : Nat) (args : Array Value) (ds gs : List (DataW H)) (before : List MemPlace)
    (hval : ∀ (j : Nat) t v, Try.f5.params[j]? = some t → args[j]? = some v → Value.okWide Try.prog W .any base t v)
    (hW : DataW.Whole enc Try.prog Try.f5.params.toList Rows.passageRoutesSpec.vars false W args.toList ds gs before) :
    Calls Try.prog 5 args W fun e W' => ∃ v, e = .returned v ∧ Rows.passageRoutesSpec.post enc Try.prog Try.f5 false true false false W args v W' := by
  refine contract_of_vc open5p (fun g => vc_Routes g.1 g.2.1 g.2.2.1 g.2.2.2.1 g.2.2.2.2.1 g.2.2.2.2.2.1 Hp.bare) laidOut ?_ (tb := 4) (by kernel_rfl) Try.underlying4 rfl ?_ hval hW
  · rw [Try.params5]
    intro t ht
    simp only [List.mem_cons, List.not_mem_nil, or_false] at ht
    rcases ht with rfl | rfl | rfl | rfl | rfl | rfl
    all_goals exact ⟨by kernel_rfl, of_decide_eq_true (by kernel_rfl)⟩
  · intro H dd hl
    rw [Try.params5] at hl
    match dd, hl with
    | [d0, d1, d2, d3, d4, d5], _ => rfl
set_option maxRecDepth 100000 in
theorem lifted5 (os : Os) (started : os.Started) (H : Type) (enc : TypeId × Value → H) :
    ReturnsInHanded {} Try.checked os 5 .any (Rows.passageRoutesSpec.pre6 enc Try.prog Try.f5 Rows.passageRoutesRow.domain false) (Rows.passageRoutesSpec.post enc Try.prog Try.f5 false true false false) := by
  refine returnsInHanded_of_change (C := Try.checked) ownKn started (by kernel_rfl) Try.func5
    (ChangeSpec.witness6 (enc := enc) (C := Try.checked) false ⟨#[], #[.agg #[.int .i64 0, .slice none 0 0], .agg #[.int .i64 0, .int .i64 0, .int .i64 0], .slice none 0 0, .int .i64 0, .slice none 0 0, .slice none 0 0], []⟩ 8 (by kernel_rfl) (by kernel_rfl) (by kernel_rfl) (by kernel_rfl)) ?_
  intro W base args ds gs before hval hW _ _
  exact contract5 H enc W base args ds gs before hval hW
theorem passageRoutes_said : Rows.PassageRoutesSaid :=
  OpenClaim.holds_of_wide 5 Try.f5 rfl rfl rfl rfl rfl rfl rfl ⟨rfl, rfl, rfl, rfl, rfl⟩ rfl rfl rfl rfl rfl (by kernel_rfl) Try.func5 (by kernel_rfl)
    (of_decide_eq_true (by kernel_rfl)) (by unfold Func.isWrapper; first | (rw [if_pos (by decide +kernel)]; kernel_rfl) | (rw [if_neg (by decide +kernel)]; exact ⟨rfl, rfl⟩))
    (fun os started H enc _ => lifted5 os started H enc)
end Go.Proofs.Ytoeendggmalcpaa


/- Part 7 of the proof that passage's functions compute what is told. No condition. -/
import Derived.Test.YtoeendggmalcpaaBa6
import Derived.Shelf.Sort.AssemblyIn
import Derived.Sort.EveryDepth
set_option linter.unusedVariables false
set_option linter.unusedSimpArgs false
namespace Go.Vm
open Go.Sort (grow putRow putCells Holds onCells mapBlock)

theorem Rel.growS {σ : Sig} {h : Hp} {w : World} (hr : Rel σ h w) (os : Array Obj) : Rel σ h (grow w os) where
  blk := fun i e b hi hb => by
    obtain ⟨h1, o, h2, h3⟩ := hr.blk i e b hi hb
    refine ⟨by show e.rid < (w.heap ++ os).size; rw [Array.size_append]; omega, o, ?_, h3⟩
    show (w.heap ++ os)[e.rid]? = some o
    rw [Array.getElem?_append_left h1]; exact h2
  apart := hr.apart
  dom := hr.dom
  nmd := hr.nmd
  fz := fun r o hro => by
    obtain ⟨h1, h2⟩ := hr.fz r o hro
    refine ⟨?_, h2⟩
    show (w.heap ++ os)[r]? = some o
    rw [Array.getElem?_append_left (Array.getElem?_eq_some_iff.1 h1).1]; exact h1
theorem Ext.growS {σ : Sig} {h : Hp} {w : World} (os : Array Obj) : Ext σ h w σ h (grow w os) where
  le := Sig.le_refl σ
  lo := rfl
  fzn := fun _ _ h => h
  size := by show w.heap.size ≤ (w.heap ++ os).size; rw [Array.size_append]; omega
  os := rfl
  tape := rfl
  output := rfl
  frame := fun r hr _ => by show (w.heap ++ os)[r]? = w.heap[r]?; rw [Array.getElem?_append_left hr]
  new := fun j ej hj hn => by rw [hj] at hn; cases hn
  down := fun j ej bj _ hbj hwj => ⟨bj, hbj, hwj⟩
  ro := fun j ej bj hj hbj hwj hal => ⟨hj, bj, hbj, hal, hwj⟩
  old := fun j hj => ⟨hj, fun x => x⟩
  oldn := fun j _ hx => hx
theorem flatI_get {l : List Int} {j : Nat} : (l.flatMap encI)[j]? = (l[j]?).map DI := by
  induction l generalizing j with
  | nil => rfl
  | cons a l ih =>
    cases j with
    | zero => rfl
    | succ j => rw [List.flatMap_cons]; exact ih
def srtI (n : Nat) (l : List Int) : List Int := ((l.take n).mergeSort fun x y => decide (x ≤ y)) ++ l.drop n
theorem VC.sortI {P : Program} {f : FuncId} {h : Hp} {i : Id} {n : Nat} {l : List Int} (hent : ∀ as0 w, (callFunc f as0).run P w = .ok (.enter f as0) w) (hb : h.get i = some (.flat true (l.flatMap encI))) (hn : n ≤ l.length) (h0 : 0 < n) (hl : l.length ≤ 4000000) (R : List Int) (hR : R <+: srtI n l)
    (hc : ∀ (blk off cap : Nat) (zs : List Int) (w : World), Holds (Value.int .i64) w blk off zs.toArray → blk < w.heap.size → zs.length < 4611686018427387904 → Calls P f #[.slice (some ⟨blk, off, none⟩) zs.length cap] w fun e w' => e = .returned (.tuple #[]) ∧ ∃ n os, w' = grow (putRow (Value.int .i64) (Sort.ahead w n) blk off (zs.mergeSort fun x y => decide (x ≤ y)).toArray) os) :
    VC P f [.gl i 1 n] h (.tuple []) (h.set i (.flat true (R.flatMap encI))) := by
  refine ⟨hent, Hp.grows_set h i _, fun σ w xs hr hxs => ?_⟩
  rw [callsIn_wide]
  obtain ⟨x, rfl, hx⟩ := VRs_one hxs
  simp only [VR] at hx
  obtain ⟨_, hx⟩ := hx
  rcases hx with ⟨hz, _⟩ | ⟨e, cap, o, hi, h1, h2, h3, rfl⟩
  · omega
  obtain ⟨hlt, ob, hob, hrel⟩ := hr.blk i e _ hi hb
  simp only [BlkRel] at hrel
  obtain ⟨cur, TT, fz, rfl, hs1, hs2, hfz, hcell⟩ := hrel
  have hfz := hfz rfl
  subst hfz
  rw [Nat.mul_one] at h2
  have h3 := h3 (by omega)
  subst h3
  have hcur : ∀ j x, l[j]? = some x → cur[e.base + j]? = some (.int .i64 x) := fun j x hj => by
    obtain ⟨y, hy, hv, _⟩ := hcell j (.s (.int .i64 x)) (by simp only [flatI_get, hj, Option.map_some]; rfl)
    simp only [VR, S.val] at hv
    rw [hy, hv]
  rw [flat_len encI_len, Nat.mul_one] at hs2
  have hlen : (l.take n).length = n := by rw [List.length_take]; omega
  have hH : Holds (Value.int .i64) w e.rid e.base (l.take n).toArray := by
    intro j hj
    have hj' : j < n := by simpa [hlen] using hj
    have hg : l[j]? = some (l[j]'(by omega)) := List.getElem?_eq_getElem _
    refine ⟨?_, by simp [World.frozen?, hob]⟩
    have := hcur j _ hg
    simp only [World.cell?, hob]
    simp only [Option.isSome_none, Bool.false_eq_true, if_false]
    rw [this]
    have hj2 : j < (l.take n).toArray.size := hj
    rw [getElem!_pos _ j hj2]
    simp
  have hcall := hc e.rid e.base cap (l.take n) w hH hlt (by omega)
  rw [hlen] at hcall
  refine Calls.mono hcall ?_
  rintro en w' ⟨rfl, q, os, rfl⟩
  obtain ⟨T, hT⟩ : ∃ T, T = (l.take n).mergeSort (fun x y => decide (x ≤ y)) := ⟨_, rfl⟩
  have hTl : T.length = n := by rw [hT, List.length_mergeSort, hlen]
  rw [← hT]
  have hcs : e.base + n ≤ cur.size := by omega
  obtain ⟨w1, hw1⟩ : ∃ w1, w1 = putRow (Value.int .i64) (Sort.ahead w q) e.rid e.base T.toArray := ⟨_, rfl⟩
  rw [← hw1]
  have hheap : w1.heap = w.heap.modify e.rid (onCells (putCells (Value.int .i64) e.base T.toArray)) := by rw [hw1]; rfl
  have hsz : w1.heap.size = w.heap.size := by rw [hheap, Array.size_modify]
  have hsame : ∀ r, r ≠ e.rid → w1.heap[r]? = w.heap[r]? := fun r hne => by rw [hheap, Array.getElem?_modify, if_neg (Ne.symm hne)]
  have hnew : w1.heap[e.rid]? = some (.cells (putCells (Value.int .i64) e.base T.toArray cur) TT (0, 0)) := by rw [hheap, Array.getElem?_modify, if_pos rfl, hob]; rfl
  have hput : ∀ k, (putCells (Value.int .i64) e.base T.toArray cur)[k]? = (cur[k]?).map fun x => if e.base ≤ k ∧ k < e.base + T.length then Value.int .i64 (T.getD (k - e.base) 0) else x := fun k => by
    unfold putCells
    rw [Array.getElem?_mapIdx]
    cases hk : cur[k]? with
    | none => rfl
    | some x =>
      simp only [Option.map_some, Option.some.injEq, List.size_toArray]
      split
      · rename_i hh
        congr 1
        rw [getElem!_pos _ (k - e.base) (by simp; omega)]
        simp [List.getD_eq_getElem?_getD, List.getElem?_eq_getElem (show k - e.base < T.length by omega)]
      · rfl
  have hrel' : BlkRel σ e (.flat true (R.flatMap encI)) (.cells (putCells (Value.int .i64) e.base T.toArray cur) TT (0, 0)) := by
    have hsl : (srtI n l).length = l.length := by unfold srtI; rw [List.length_append, List.length_mergeSort, hlen, List.length_drop]; omega
    refine ⟨_, TT, (0, 0), rfl, by simp [putCells]; exact hs1, by rw [flat_len encI_len, Nat.mul_one]; have := hR.length_le; omega, fun _ => rfl, ?_⟩
    intro j v hv
    dsimp only at hv
    rw [flatI_get] at hv
    have hjR : j < R.length := by
      rcases Nat.lt_or_ge j R.length with h | h
      · exact h
      · rw [List.getElem?_eq_none h] at hv; cases hv
    have hjl : j < (srtI n l).length := by have := hR.length_le; omega
    rw [show R[j]? = (srtI n l)[j]? by
      obtain ⟨t, ht⟩ := hR
      rw [← ht, List.getElem?_append_left hjR]] at hv
    have hcj : cur[e.base + j]? = some (.int .i64 (l[j]'(by omega))) := hcur j _ (List.getElem?_eq_getElem _)
    rw [hput, hcj, Option.map_some]
    refine ⟨_, rfl, ?_, ?_⟩
    · have hsr : (srtI n l)[j]? = some (if j < n then T.getD j 0 else l[j]'(by omega)) := by
        unfold srtI
        rw [← hT]
        by_cases hjn : j < n
        · rw [if_pos hjn, List.getElem?_append_left (by omega), List.getElem?_eq_getElem (by omega)]
          simp [List.getD_eq_getElem?_getD, List.getElem?_eq_getElem (show j < T.length by omega)]
        · rw [if_neg hjn, List.getElem?_append_right (by omega), hTl, List.getElem?_drop, show n + (j - n) = j by omega, List.getElem?_eq_getElem]
      rw [hsr] at hv
      cases hv
      simp only [VR, S.val, D.v]
      by_cases hjn : j < n
      · rw [if_pos (by omega), if_pos hjn, show e.base + j - e.base = j by omega]
      · rw [if_neg (by omega), if_neg hjn]
    · split <;> rfl
  have hrel2 := hr.upd hi hb rfl (fun _ => rfl) hsz hsame hnew hrel'
  have hext := Ext.upd (h := h) (b' := .flat true (R.flatMap encI)) hi hb rfl (fun _ => rfl) hsz (by rw [hw1]; rfl) (by rw [hw1]; rfl) (by rw [hw1]; rfl) hsame
  exact ⟨σ, .tuple #[], rfl, by simp only [VR]; exact ⟨#[], rfl, rfl⟩, hrel2.growS os, (hext.trans (Ext.growS os)).toK⟩
end Go.Vm

namespace Go.Proofs.Ytoeendggmalcpaa
open Go.Shelf
def srtRen : Ren := ⟨fun | 125 => 65 | 128 => 119 | 129 => 120 | 189 => 21 | 215 => 143 | 216 => 116 | 257 => 64 | 294 => 110 | 295 => 111 | 296 => 112 | 297 => 113 | 298 => 114 | 299 => 115 | 300 => 117 | 301 => 118 | 328 => 138 | 329 => 139 | 330 => 140 | 331 => 141 | 332 => 142 | 343 => 158 | n => n, fun | 0 => 0 | 3 => 3 | 4 => 4 | 5 => 5 | 9 => 9 | 28 => 32 | 46 => 119 | 51 => 113 | 53 => 184 | 131 => 180 | 182 => 174 | 183 => 175 | 218 => 206 | 222 => 210 | 228 => 227 | 229 => 218 | n => n, fun n => n⟩
theorem srtLays : Lays.n189 Try.prog srtRen := {
  mixed := by kernel_rfl
  f125 := by kernel_rfl
  f128 := by kernel_rfl
  f129 := by kernel_rfl
  f189 := by kernel_rfl
  f215 := by kernel_rfl
  f216 := by kernel_rfl
  f257 := by kernel_rfl
  f294 := by kernel_rfl
  f295 := by kernel_rfl
  f296 := by kernel_rfl
  f297 := by kernel_rfl
  f298 := by kernel_rfl
  f299 := by kernel_rfl
  f300 := by kernel_rfl
  f301 := by kernel_rfl
  f328 := by kernel_rfl
  f329 := by kernel_rfl
  f330 := by kernel_rfl
  f331 := by kernel_rfl
  f332 := by kernel_rfl
  f343 := by kernel_rfl
  t0 := by kernel_rfl
  a0 := fun _ => by kernel_rfl
  z0 := fun _ => by kernel_rfl
  v0 := fun _ => by kernel_rfl
  t3 := by kernel_rfl
  a3 := fun _ => by kernel_rfl
  z3 := fun _ => by kernel_rfl
  v3 := fun _ => by kernel_rfl
  t4 := by kernel_rfl
  a4 := fun _ => by kernel_rfl
  z4 := fun _ => by kernel_rfl
  v4 := fun _ => by kernel_rfl
  t5 := by kernel_rfl
  a5 := fun _ => by kernel_rfl
  z5 := fun _ => by kernel_rfl
  v5 := fun _ => by kernel_rfl
  t9 := by kernel_rfl
  a9 := fun _ => by kernel_rfl
  z9 := fun _ => by kernel_rfl
  v9 := fun _ => by kernel_rfl
  t28 := by kernel_rfl
  a28 := fun _ => by kernel_rfl
  z28 := fun _ => by kernel_rfl
  v28 := fun _ => by kernel_rfl
  t46 := by kernel_rfl
  a46 := fun _ => by kernel_rfl
  z46 := fun _ => by kernel_rfl
  v46 := fun _ => by kernel_rfl
  t51 := by kernel_rfl
  a51 := fun _ => by kernel_rfl
  z51 := fun _ => by kernel_rfl
  v51 := fun _ => by kernel_rfl
  t53 := by kernel_rfl
  a53 := fun _ => by kernel_rfl
  z53 := fun _ => by kernel_rfl
  v53 := fun _ => by kernel_rfl
  t131 := by kernel_rfl
  a131 := fun _ => by kernel_rfl
  z131 := fun _ => by kernel_rfl
  v131 := fun _ => by kernel_rfl
  t182 := by kernel_rfl
  a182 := fun _ => by kernel_rfl
  z182 := fun _ => by kernel_rfl
  v182 := fun _ => by kernel_rfl
  t183 := by kernel_rfl
  a183 := fun _ => by kernel_rfl
  z183 := fun _ => by kernel_rfl
  v183 := fun _ => by kernel_rfl
  t218 := by kernel_rfl
  a218 := fun _ => by kernel_rfl
  z218 := fun _ => by kernel_rfl
  v218 := fun _ => by kernel_rfl
  t222 := by kernel_rfl
  a222 := fun _ => by kernel_rfl
  z222 := fun _ => by kernel_rfl
  v222 := fun _ => by kernel_rfl
  t228 := by kernel_rfl
  a228 := fun _ => by kernel_rfl
  z228 := fun _ => by kernel_rfl
  v228 := fun _ => by kernel_rfl
  t229 := by kernel_rfl
  a229 := fun _ => by kernel_rfl
  z229 := fun _ => by kernel_rfl
  v229 := fun _ => by kernel_rfl
}
theorem vc_Sort (n : Nat) (l : List Int) (i : Go.Vm.Id) (h : Go.Vm.Hp) (hb : h.get i = some (.flat true (l.flatMap Go.Vm.encI))) (hn : n ≤ l.length) (h0 : 0 < n) (hl : l.length ≤ 4000000) (R : List Int) (hR : R <+: Go.Vm.srtI n l) : Go.Vm.VC Try.prog 21 [.gl i 1 n] h (.tuple []) (h.set i (.flat true (R.flatMap Go.Vm.encI))) :=
  Go.Vm.VC.sortI Try.call21 hb hn h0 hl R hR fun blk off cap zs w h1 h2 h3 => calls_of_every_depth fun D => AnyS.slices_Sort_int_in srtLays D blk off cap zs w h1 h2 h3
end Go.Proofs.Ytoeendggmalcpaa

open Go.Vm
open Psg
namespace Psg
theorem one_0 (b : Bool) : one b 0 = 0 := by cases b <;> rfl
theorem bnd0 : ∀ ws : List Wy, (∀ w ∈ ws, 0 ≤ w.h ∧ w.h ≤ 1000) → Bnd ws (List.replicate ws.length 0)
  | [], _ => trivial
  | w :: ws, h => ⟨⟨Int.le_refl _, (h w List.mem_cons_self).1⟩, bnd0 ws fun v hv => h v (List.mem_cons_of_mem _ hv)⟩
theorem flux0 (S : Int → Bool) : ∀ ws : List Wy, flux S ws (List.replicate ws.length 0) = 0
  | [] => rfl
  | w :: ws => by
    rw [List.length_cons, List.replicate_succ, flux, one_0, one_0, flux0 S ws]; rfl
theorem dr0 {n : Nat} {ws : List Wy} {src gls : List Int} (hh : ∀ w ∈ ws, 0 ≤ w.h ∧ w.h ≤ 1000) : Dr n ws src gls (List.replicate ws.length 0) := ⟨bnd0 ws hh, fun p _ _ _ => flux0 (eqB p) ws⟩
theorem val0 {n : Nat} {ws : List Wy} {src : List Int} : val n ws src (List.replicate ws.length 0) = 0 := by
  unfold val
  rw [sumTo_congr (v := fun _ => 0) fun i _ => by unfold net; rw [flux0, one_0]]
  exact sumTo_zero n
theorem val_top {n : Nat} {ws : List Wy} {src gls hs : List Int} (hP : Ps n ws src gls) (hh : ∀ w ∈ ws, 0 ≤ w.h ∧ w.h ≤ 1000) (hl : ws.length ≤ 24) (hd : Dr n ws src gls hs) : val n ws src hs ≤ 24000 := by
  have hc : Cu src gls (fun q => decide (q ∈ src)) := ⟨fun p hp => decide_eq_true hp, fun p hp => decide_eq_false fun h => hP.dis p h hp⟩
  have := val_le hP.inN hd hc
  have := (bar_le (fun q => decide (q ∈ src)) ws hh).2
  omega
def dvN (n : Nat) (N : Nt) (src gls : List Int) : List Int × Int × List Int := drv gls N.ws src (n + 1) 24001 (List.replicate N.ws.length 0) 0
end Psg
namespace Go.Proofs.Ytoeendggmalcpaa
set_option maxRecDepth 20000
set_option maxHeartbeats 4000000
theorem pas_ok {N : Nt} {a b : List Int} (h : pas N a b = 0) : ∃ n, NOk n N ∧ Ps n N.ws a b ∧ 0 < a.length ∧ 0 < b.length ∧ a.Pairwise (· < ·) ∧ b.Pairwise (· < ·) := by
  unfold pas at h
  by_cases h1 : chk N = 0
  · rw [if_pos h1] at h
    by_cases h2 : a.all (pstB N) = true ∧ b.all (pstB N) = true
    · rw [if_pos h2] at h
      by_cases h3 : a.length = 0 ∨ b.length = 0
      · rw [if_pos h3] at h; cases h
      · rw [if_neg h3] at h
        by_cases h4 : risB a = true ∧ risB b = true
        · rw [if_pos h4] at h
          by_cases h5 : (a.all fun p => decide (¬ p ∈ b)) = true
          · obtain ⟨n, hN⟩ := chk_ok h1
            have hp := hN.p
            have ha := risB_pw.1 h4.1
            have hb := risB_pw.1 h4.2
            refine ⟨n, hN, ⟨hN.inN, ⟨List.nodup_iff_pairwise_ne.2 (ha.imp fun h => by omega), fun q hq => ?_⟩, fun q hq => ?_, fun q hq => ?_⟩, by omega, by omega, ha, hb⟩
            · have := List.all_eq_true.1 h2.1 q hq
              unfold pstB at this
              have := of_decide_eq_true this
              omega
            · have := List.all_eq_true.1 h2.2 q hq
              unfold pstB at this
              have := of_decide_eq_true this
              omega
            · exact of_decide_eq_true (List.all_eq_true.1 h5 q hq)
          · rw [if_neg h5] at h; cases h
        · rw [if_neg h4] at h; cases h
    · rw [if_neg h2] at h; cases h
  · rw [if_neg h1] at h; exact absurd h h1
theorem vc_driven {n : Nat} {N : Nt} {src gls : List Int} (hN : NOk n N) (hP : Ps n N.ws src gls) (h0 : 0 < src.length) (hg : gls.length ≤ 4000000) (h : Hp) :
    VC Try.prog 67 [vN N, ints src, ints gls] h (.tuple [ints (dvN n N src gls).1, I (dvN n N src gls).2.1, ints (dvN n N src gls).2.2]) h := by
  obtain ⟨R, hR⟩ : ∃ R, R = dvN n N src gls := ⟨_, rfl⟩
  rw [← hR]
  unfold dvN at hR
  have hwl := hN.len
  have hh : ∀ w ∈ N.ws, 0 ≤ w.h ∧ w.h ≤ 1000 := fun w hw => (hN.ws w hw).h
  refine VC.body Try.func67 rfl Try.ntmps67 Try.call67 (h.grows_refl) rfl ?_; conv => whnf
  repeat' (first | ((first | refine zs1 ?_ | refine zs2 ?_ | refine zs3 ?_ | refine zs4 ?_ | refine zs5 ?_); conv => whnf) | ((first | apply zi1 | apply zi2 | apply zi3 | apply zi4 | apply zi5) <;> intro _ <;> conv => whnf))
  refine zs6 [] ?_
  conv => whnf
  repeat' (first | ((first | refine zs1 ?_ | refine zs2 ?_ | refine zs3 ?_ | refine zs4 ?_ | refine zs5 ?_); conv => whnf) | ((first | apply zi1 | apply zi2 | apply zi3 | apply zi4 | apply zi5) <;> intro _ <;> conv => whnf) | (refine VMkD.makeI N.ws.length rfl rfl rfl rfl rfl (by decide) (by omega) ?_; conv => whnf))
  refine VCode.lp (outer := h.lift) (marks := []) (fun y : Nat × List Int × Int => [(1, ints src), (2, ints gls), (9, .ptr (.loc 1) 0), (10, I y.2.2)]) (fun y => [.flat true (y.2.1.flatMap Vm.encI), .cells true [I N.p, wys N.ws, .gl (.loc 0) 1 N.ws.length]]) (fun y => Dr n N.ws src gls y.2.1 ∧ val n N.ws src y.2.1 = y.2.2 ∧ 0 ≤ y.2.2 ∧ 24001 ≤ y.2.2 + y.1 ∧ R = drv gls N.ws src (n + 1) y.1 y.2.1 y.2.2) (fun y => y.1) (24001, List.replicate N.ws.length 0, 0) ⟨dr0 hh, val0, Int.le_refl _, by show (24001 : Int) ≤ 0 + ((24001 : Nat) : Int); omega, hR⟩ ?_ ?_
  · conv => whnf
    refine Retell.turn ⟨[1,2], 3, [], []⟩ (TurnOk.mk' _ _ [] [] (OutOk.lift _) rfl (by decide) zb trivial trivial rfl) zw zm
  · rintro ⟨K, hs, many⟩ ⟨d1, d2, d3, d4, d5⟩
    dsimp only at d1 d2 d3 d4 d5 ⊢
    have htop := val_top hP hh hwl d1
    cases K with
    | zero => exfalso; omega
    | succ K =>
      rw [drv] at d5
      have hlen := d1.bnd.len
      have hQ := pushed_ok hP d1
      have cP := vc_pushed hN hg h0 hP.smt d1.bnd (s := .loc 1) (hI := .loc 0) ⟨h.lift, [.flat true (hs.flatMap Vm.encI), .cells true [I N.p, wys N.ws, .gl (.loc 0) 1 N.ws.length]]⟩ (by rw [hlen]; rfl) rfl (by decide)
      generalize pushed gls N.ws (n + 1) src hs src = r at d5 hQ cP
      replace cP : VC Try.prog 122 [.ptr (.loc 1) 0, ints src, ints gls] ⟨h.lift, [.flat true (hs.flatMap Vm.encI), .cells true [I N.p, wys N.ws, .gl (.loc 0) 1 N.ws.length]]⟩ (.tuple [I r.1, .gl (.loc 2) 1 r.2.2.length]) ⟨h.lift, [.flat true (r.2.1.flatMap Vm.encI), .cells true [I N.p, wys N.ws, .gl (.loc 0) 1 N.ws.length], .flat true (r.2.2.flatMap Vm.encI)]⟩ := cP
      have hml := hQ.mt.len
      have hn1 := hN.n1
      by_cases hz : r.1 = 0
      · rw [if_pos hz] at d5
        have hpos : 0 < r.2.2.length := by
          have : src[0] ∈ r.2.2 := (hQ.zero hz).2.1 _ (List.getElem_mem h0)
          exact List.length_pos_of_mem this
        have cS := vc_Sort r.2.2.length r.2.2 (.loc 2) ⟨h.lift, [.flat true (r.2.1.flatMap Vm.encI), .cells true [I N.p, wys N.ws, .gl (.loc 0) 1 N.ws.length], .flat true (r.2.2.flatMap Vm.encI)]⟩ rfl (Nat.le_refl _) hpos (by omega) (srt r.2.2) (by unfold Go.Vm.srtI srt; rw [List.take_length]; exact List.prefix_append _ _)
        have hl1 : r.2.1.length = N.ws.length := hQ.len
        have hl2 : (srt r.2.2).length = r.2.2.length := srt_len _
        conv => whnf
        repeat' (first | ((first | refine zs1 ?_ | refine zs2 ?_ | refine zs3 ?_ | refine zs4 ?_ | refine zs5 ?_); conv => whnf) | ((first | apply zi1 | apply zi2 | apply zi3 | apply zi4 | apply zi5) <;> intro _ <;> conv => whnf) | (refine VCall.intro (cP) ?_; conv => whnf) | (refine VCall.intro (cS) ?_; conv => whnf))
        all_goals try (exfalso; omega)
        rw [d5]
        rw [← hl1, ← hl2]
        refine VOut.data 3 [(0, r.2.1.flatMap Vm.encI), (2, (srt r.2.2).flatMap Vm.encI)] [] rfl zf (by exact FmAll.nil) zw
      · rw [if_neg hz] at d5
        have hpos : 0 < r.1 := by have := hQ.low; omega
        obtain ⟨q1, q2⟩ := hQ.pos hpos
        have htop2 := val_top hP hh hwl q1
        conv => whnf
        repeat' (first | ((first | refine zs1 ?_ | refine zs2 ?_ | refine zs3 ?_ | refine zs4 ?_ | refine zs5 ?_); conv => whnf) | ((first | apply zi1 | apply zi2 | apply zi3 | apply zi4 | apply zi5) <;> intro _ <;> conv => whnf) | (refine VCall.intro (cP) ?_; conv => whnf))
        all_goals try (exfalso; omega)
        refine LEnd.intro (K, r.2.1, many + r.1) ⟨q1, by dsimp only; omega, by dsimp only; omega, by dsimp only; omega, d5⟩ (Nat.lt_succ_self _) ?_
        conv => whnf
        refine Retell.turn ⟨[0,1], 3, [], []⟩ (TurnOk.mk' _ _ [] [] (OutOk.lift _) rfl (by decide) zb trivial trivial rfl) zw zm
end Go.Proofs.Ytoeendggmalcpaa

open Go.Vm
open Psg
namespace Psg
def brL (S : Int → Bool) (ws : List Wy) : List Int := (ws.filter fun w => S w.f && !S w.t).map fun w => w.h
theorem brL_sum (S : Int → Bool) : ∀ ws : List Wy, (brL S ws).sum = bar S ws
  | [] => rfl
  | w :: ws => by
    have ih := brL_sum S ws
    unfold brL at ih ⊢
    rw [bar, List.filter_cons]
    cases S w.f && !S w.t
    · simp only [Bool.false_eq_true, if_false]; rw [ih]; simp [one]
    · simp only [if_true, List.map_cons, List.sum_cons]; rw [ih]; simp [one]
theorem brL_take {S : Int → Bool} {ws : List Wy} {k : Nat} {w : Wy} (h : ws[k]? = some w) : brL S (ws.take (k + 1)) = if (S w.f && !S w.t) = true then brL S (ws.take k) ++ [w.h] else brL S (ws.take k) := by
  unfold brL
  rw [List.take_add_one, h, List.filter_append, List.map_append]
  cases hc : S w.f && !S w.t <;> simp [List.filter, hc]
theorem brL_len (S : Int → Bool) (ws : List Wy) : (brL S ws).length ≤ ws.length := by unfold brL; rw [List.length_map]; exact List.length_filter_le _ _
theorem brL_mem {S : Int → Bool} {ws : List Wy} (hw : ∀ w ∈ ws, 0 ≤ w.h ∧ w.h ≤ 1000) : ∀ x ∈ brL S ws, -1000000 ≤ x ∧ x ≤ 1000000 := by
  intro x hx
  unfold brL at hx
  obtain ⟨w, h1, rfl⟩ := List.mem_map.1 hx
  have := hw w (List.mem_filter.1 h1).1
  omega
theorem take_sum {l : List Int} {k : Nat} {x : Int} (h : l[k]? = some x) : (l.take (k + 1)).sum = (l.take k).sum + x := by
  rw [List.take_add_one, h, List.sum_append]; simp
theorem sum_bd : ∀ (l : List Int) (b : Int), (∀ x ∈ l, -b ≤ x ∧ x ≤ b) → -(b * l.length) ≤ l.sum ∧ l.sum ≤ b * l.length
  | [], b, _ => by simp
  | x :: l, b, h => by
    have h1 := h x List.mem_cons_self
    have h2 := sum_bd l b fun y hy => h y (List.mem_cons_of_mem _ hy)
    rw [List.sum_cons, List.length_cons]
    have : b * ((l.length + 1 : Nat) : Int) = b * l.length + b := by rw [Int.natCast_add, Int.mul_add]; simp
    omega
end Psg
namespace Go.Proofs.Ytoeendggmalcpaa
set_option maxRecDepth 20000
set_option maxHeartbeats 4000000
theorem vc_sum (l : List Int) (h : Hp) (hl : l.length ≤ 1000) (hb : ∀ x ∈ l, -1000000 ≤ x ∧ x ≤ 1000000) : VC Try.prog 87 [ints l] h (I l.sum) h := by
  refine VC.body Try.func87 rfl Try.ntmps87 Try.call87 (h.grows_refl) rfl ?_; conv => whnf
  repeat' (first | ((first | refine zs1 ?_ | refine zs2 ?_ | refine zs3 ?_ | refine zs4 ?_ | refine zs5 ?_); conv => whnf) | ((first | apply zi1 | apply zi2 | apply zi3 | apply zi4 | apply zi5) <;> intro _ <;> conv => whnf))
  refine VCode.lp (outer := h.lift) (marks := []) (fun k : Nat => [(3, I (l.take k).sum), (6, ints l), (7, I l.length), (8, I k)]) (fun _ => []) (fun k => k ≤ l.length) (fun k => l.length - k) 0 (Nat.zero_le _) ?_ ?_
  · conv => whnf
    refine Retell.turn ⟨[], 0, [], []⟩ (TurnOk.mk' _ _ [] [] (OutOk.lift _) rfl (by decide) zb trivial trivial rfl) zw zm
  · intro k h1
    rcases Nat.lt_or_ge k l.length with h3 | h3
    · have ha : l[k]? = some l[k] := List.getElem?_eq_getElem h3
      have hx := hb l[k] (List.getElem_mem h3)
      have hs := take_sum ha
      have hs1 := sum_bd (l.take k) 1000000 fun x hx => hb x (List.mem_of_mem_take hx)
      rw [List.length_take, Nat.min_eq_left (by omega)] at hs1
      generalize l[k] = a at ha hx hs
      generalize hq : (l.take k).sum = s at hs hs1
      conv => whnf
      repeat' (first | ((first | refine zs1 ?_ | refine zs2 ?_ | refine zs3 ?_ | refine zs4 ?_ | refine zs5 ?_); conv => whnf) | ((first | apply zi1 | apply zi2 | apply zi3 | apply zi4 | apply zi5) <;> intro _ <;> conv => whnf) | (refine VAny.ix encI_len k rfl rfl ha ?_; conv => whnf))
      all_goals try (exfalso; omega)
      refine LEnd.intro (k + 1) (by omega) (by omega) ?_
      rw [hs]
      conv => whnf
      refine Retell.turn ⟨[], 0, [], []⟩ (TurnOk.mk' _ _ [] [] (OutOk.lift _) rfl (by decide) zb trivial trivial rfl) zw zm
    · conv => whnf
      repeat' (first | ((first | refine zs1 ?_ | refine zs2 ?_ | refine zs3 ?_ | refine zs4 ?_ | refine zs5 ?_); conv => whnf) | ((first | apply zi1 | apply zi2 | apply zi3 | apply zi4 | apply zi5) <;> intro _ <;> conv => whnf))
      all_goals try (exfalso; omega)
      rw [List.take_of_length_le h3]
      exact VOut.same rfl
theorem vc_bars1 (S : List Int) (p : Int) (h : Hp) (hb : S.length ≤ 4000000) : VC Try.prog 90 (D.vs [] ++ [I p] ++ D.vs [.pt [dints S]]) h (B (decide (p ∈ S))) h := by
  have c := fun h => vc_ContI S p h hb
  generalize decide (p ∈ S) = b at c
  refine VC.body Try.func90 rfl Try.ntmps90 Try.call90 (h.grows_refl) rfl ?_; conv => whnf
  repeat' (first | ((first | refine zs1 ?_ | refine zs2 ?_ | refine zs3 ?_ | refine zs4 ?_ | refine zs5 ?_ | refine zs6 [] ?_); conv => whnf) | ((first | apply zi1 | apply zi2 | apply zi3 | apply zi4 | apply zi5) <;> intro _ <;> conv => whnf) | (refine VCall.intro (c _) ?_; conv => whnf))
  exact VOut.same rfl
theorem vc_bars2 (S : List Int) (p : Int) (h : Hp) (hb : S.length ≤ 4000000) : VC Try.prog 92 (D.vs [] ++ [I p] ++ D.vs [.pt [.func (.func 90) [] [.pt [dints S]]]]) h (B (!decide (p ∈ S))) h := by
  have c := fun h => vc_bars1 S p h hb
  generalize decide (p ∈ S) = b at c
  refine VC.body Try.func92 rfl Try.ntmps92 Try.call92 (h.grows_refl) rfl ?_; conv => whnf
  repeat' (first | ((first | refine zs1 ?_ | refine zs2 ?_ | refine zs3 ?_ | refine zs4 ?_ | refine zs5 ?_ | refine zs6 [] ?_); conv => whnf) | ((first | apply zi1 | apply zi2 | apply zi3 | apply zi4 | apply zi5) <;> intro _ <;> conv => whnf) | (refine VCall.intro (c _) ?_; conv => whnf))
  exact VOut.same rfl
def brsN (N : Nt) (a b S : List Int) : Int × Int :=
  if pas N a b = 0 then (if S.all (pstB N) = true then (if risB S = true then (if (a.all fun p => decide (p ∈ S)) = true ∧ (b.all fun p => !decide (p ∈ S)) = true then (bar (fun q => decide (q ∈ S)) N.ws, 0) else (0, 9)) else (0, 5)) else (0, 2)) else (0, pas N a b)
theorem vc_Bars (N : Nt) (a b S : List Int) (h : Hp) (hn : N.ws.length ≤ 4000000) (ha : a.length ≤ 4000000) (hb : b.length ≤ 4000000) (hS : S.length ≤ 4000000) : VC Try.prog 48 [vN N, ints a, ints b, ints S] h (.tuple [I (brsN N a b S).1, I (brsN N a b S).2]) h := by
  obtain ⟨R, hR⟩ : ∃ R, R = brsN N a b S := ⟨_, rfl⟩
  rw [← hR]
  unfold brsN at hR
  have cP := fun h => vc_pastured N a b h hn ha hb
  by_cases h0 : pas N a b = 0
  · rw [if_pos h0] at hR
    rw [h0] at cP
    obtain ⟨n, hN, hPs, ha0, hb0, _, _⟩ := pas_ok h0
    have hp := hN.p
    have hn1 := hN.n1
    have hwl := hN.len
    have cA := fun h => vc_allA S (pstB N) 74 N hS (fun e _ h => vc_posted N e h (by omega)) h
    have cR := fun h => vc_rises S h hS
    have c1 := fun h => vc_allP a (fun p => decide (p ∈ S)) 90 [dints S] ha (fun e _ h => vc_bars1 S e h hS) h
    have c2 := fun h => vc_allP b (fun p => !decide (p ∈ S)) 92 [.func (.func 90) [] [.pt [dints S]]] hb (fun e _ h => vc_bars2 S e h hS) h
    generalize S.all (pstB N) = A at cA hR
    generalize risB S = RS at cR hR
    generalize (a.all fun p => decide (p ∈ S)) = A1 at c1 hR
    generalize (b.all fun p => !decide (p ∈ S)) = A2 at c2 hR
    refine VC.bodyC 3 Try.func48 rfl Try.ntmps48 Try.call48 (h.grows_refl) rfl ?_; conv => whnf
    repeat' (first | ((first | refine zs1 ?_ | refine zs2 ?_ | refine zs3 ?_ | refine zs4 ?_ | refine zs5 ?_); conv => whnf) | ((first | apply zi1 | apply zi2 | apply zi3 | apply zi4 | apply zi5) <;> intro _ <;> conv => whnf) | (refine VCall.intro (cP _) ?_; conv => whnf))
    refine VCut.at' (outer := h.lift) (marks := []) 99 [(1, ints a), (2, ints b), (4, .fp (encN N)), (7, .fp [dints S]), (10, I 0), (11, .fp [.func (.func 90) [] [.pt [dints S]]])] [] ?_ ?_
    · conv => whnf
      refine Retell.turn ⟨[], 3, [(0, encN N), (1, [dints S]), (2, [.func (.func 90) [] [.pt [dints S]]])], []⟩ (TurnOk.mk' _ _ [(0, encN N), (1, [dints S]), (2, [.func (.func 90) [] [.pt [dints S]]])] [] (OutOk.lift _) rfl (by decide) zb zr trivial rfl) zw zm
    · cases A
      · rw [if_neg (by simp)] at hR
        rw [hR]
        conv => whnf
        repeat' (first | ((first | refine zs1 ?_ | refine zs2 ?_ | refine zs3 ?_ | refine zs4 ?_ | refine zs5 ?_); conv => whnf) | ((first | apply zi1 | apply zi2 | apply zi3 | apply zi4 | apply zi5) <;> intro _ <;> conv => whnf) | (refine VCall.intro (cA _) ?_; conv => whnf))
        all_goals try (exfalso; omega)
        exact VOut.same rfl
      · rw [if_pos rfl] at hR
        cases RS
        · rw [if_neg (by simp)] at hR
          rw [hR]
          conv => whnf
          repeat' (first | ((first | refine zs1 ?_ | refine zs2 ?_ | refine zs3 ?_ | refine zs4 ?_ | refine zs5 ?_); conv => whnf) | ((first | apply zi1 | apply zi2 | apply zi3 | apply zi4 | apply zi5) <;> intro _ <;> conv => whnf) | (refine VCall.intro (cA _) ?_; conv => whnf) | (refine VCall.intro (cR _) ?_; conv => whnf))
          all_goals try (exfalso; omega)
          exact VOut.same rfl
        · rw [if_pos rfl] at hR
          cases A1
          · rw [if_neg (by simp)] at hR
            rw [hR]
            conv => whnf
            repeat' (first | ((first | refine zs1 ?_ | refine zs2 ?_ | refine zs3 ?_ | refine zs4 ?_ | refine zs5 ?_); conv => whnf) | ((first | apply zi1 | apply zi2 | apply zi3 | apply zi4 | apply zi5) <;> intro _ <;> conv => whnf) | (refine VCall.intro (cA _) ?_; conv => whnf) | (refine VCall.intro (cR _) ?_; conv => whnf) | (refine VCall.intro (c1 _) ?_; conv => whnf))
            all_goals try (exfalso; omega)
            exact VOut.same rfl
          · cases A2
            · rw [if_neg (by simp)] at hR
              rw [hR]
              conv => whnf
              repeat' (first | ((first | refine zs1 ?_ | refine zs2 ?_ | refine zs3 ?_ | refine zs4 ?_ | refine zs5 ?_); conv => whnf) | ((first | apply zi1 | apply zi2 | apply zi3 | apply zi4 | apply zi5) <;> intro _ <;> conv => whnf) | (refine VCall.intro (cA _) ?_; conv => whnf) | (refine VCall.intro (cR _) ?_; conv => whnf) | (refine VCall.intro (c1 _) ?_; conv => whnf) | (refine VCall.intro (c2 _) ?_; conv => whnf))
              all_goals try (exfalso; omega)
              exact VOut.same rfl
            · rw [if_pos ⟨rfl, rfl⟩] at hR
              rw [hR]
              clear hR
              have hh : ∀ w ∈ N.ws, 0 ≤ w.h ∧ w.h ≤ 1000 := fun w hw => (hN.ws w hw).h
              rw [← brL_sum]
              obtain ⟨SB, hSB⟩ : ∃ SB : Int → Bool, SB = fun q => decide (q ∈ S) := ⟨_, rfl⟩
              rw [← hSB]
              have c1' := fun p h => vc_bars1 S p h hS
              have c2' : ∀ (p : Int) (h : Hp), VC Try.prog 90 (D.vs [] ++ [I p] ++ D.vs [.pt [dints S]]) h (B (SB p)) h := fun p h => by rw [hSB]; exact c1' p h
              clear c1' hSB
              conv => whnf
              repeat' (first | ((first | refine zs1 ?_ | refine zs2 ?_ | refine zs3 ?_ | refine zs4 ?_ | refine zs5 ?_); conv => whnf) | ((first | apply zi1 | apply zi2 | apply zi3 | apply zi4 | apply zi5) <;> intro _ <;> conv => whnf) | (refine VCall.intro (cA _) ?_; conv => whnf) | (refine VCall.intro (cR _) ?_; conv => whnf) | (refine VCall.intro (c1 _) ?_; conv => whnf) | (refine VCall.intro (c2 _) ?_; conv => whnf))
              all_goals try (exfalso; omega)
              refine VCode.lp (outer := h.lift) (marks := []) (fun k : Nat => [(11, .fp [.func (.func 90) [] [.pt [dints S]]]), (12, .gl (.loc 0) 1 (brL SB (N.ws.take k)).length), (46, wys N.ws), (47, I N.ws.length), (48, I k)]) (fun k => [.flat true ((brL SB (N.ws.take k)).flatMap Vm.encI)]) (fun k => k ≤ N.ws.length) (fun k => N.ws.length - k) 0 (Nat.zero_le _) ?_ ?_
              · conv => whnf
                refine Retell.turn ⟨[0], 0, [], []⟩ (TurnOk.mk' _ _ [] [] (OutOk.lift _) rfl (by decide) zb trivial trivial rfl) zw zm
              · intro k hk
                rcases Nat.lt_or_ge k N.ws.length with h3 | h3
                · have ha : N.ws[k]? = some N.ws[k] := List.getElem?_eq_getElem h3
                  have hx := hh N.ws[k] (List.getElem_mem h3)
                  have ht := brL_take (S := SB) ha
                  have hl := brL_len SB (N.ws.take k)
                  rw [List.length_take, Nat.min_eq_left (by omega)] at hl
                  generalize N.ws[k] = w at ha hx ht
                  have cf := fun h => c2' w.f h
                  have ct := fun h => c2' w.t h
                  generalize SB w.f = B1 at cf ht
                  generalize SB w.t = B2 at ct ht
                  generalize brL SB (N.ws.take k) = L at ht hl ⊢
                  cases B1 <;> cases B2
                  all_goals (
                    simp only [Bool.true_and, Bool.false_and, Bool.not_true, Bool.not_false, Bool.false_eq_true, if_false, if_true] at ht
                    conv => whnf
                    repeat' (first | ((first | refine zs1 ?_ | refine zs2 ?_ | refine zs3 ?_ | refine zs4 ?_ | refine zs5 ?_); conv => whnf) | ((first | apply zi1 | apply zi2 | apply zi3 | apply zi4 | apply zi5) <;> intro _ <;> conv => whnf) | (refine VAny.ix encWy_len k rfl rfl ha ?_; conv => whnf) | (refine VCall.intro (cf _) ?_; conv => whnf) | (refine VCall.intro (ct _) ?_; conv => whnf) | (refine VMem.app1 (l := L) (w.h : Int) encI_len rfl rfl rfl rfl rfl (by omega) ?_; conv => whnf))
                    all_goals try (exfalso; omega)
                    refine LEnd.intro (k + 1) (by omega) (by omega) ?_
                    rw [ht]
                    try rw [List.length_append]
                    conv => whnf
                    first | (refine Retell.turn ⟨[0], 2, [], []⟩ (TurnOk.mk' _ _ [] [] (OutOk.lift _) rfl (by decide) zb trivial trivial rfl) zw zm) | (refine Retell.turn ⟨[3], 4, [], []⟩ (TurnOk.mk' _ _ [] [] (OutOk.lift _) rfl (by decide) zb trivial trivial rfl) zw zm))
                · have hl := brL_len SB N.ws
                  have cS := fun h => vc_sum (brL SB N.ws) h (by omega) (brL_mem hh)
                  rw [List.take_of_length_le h3]
                  conv => whnf
                  repeat' (first | ((first | refine zs1 ?_ | refine zs2 ?_ | refine zs3 ?_ | refine zs4 ?_ | refine zs5 ?_); conv => whnf) | ((first | apply zi1 | apply zi2 | apply zi3 | apply zi4 | apply zi5) <;> intro _ <;> conv => whnf))
                  all_goals try (exfalso; omega)
                  refine VCall.intro (VC.give (args' := [ints (brL SB N.ws)]) (loc' := [.dead]) [(0, (brL SB N.ws).flatMap Vm.encI)] [] (OutOk.lift _) zb zf (by exact FmAll.nil) rfl zw (cS _)) ?_
                  conv => whnf
                  repeat' (first | ((first | refine zs1 ?_ | refine zs2 ?_ | refine zs3 ?_ | refine zs4 ?_ | refine zs5 ?_); conv => whnf) | ((first | apply zi1 | apply zi2 | apply zi3 | apply zi4 | apply zi5) <;> intro _ <;> conv => whnf))
                  exact VOut.same rfl
  · rw [if_neg h0] at hR
    generalize pas N a b = E at *
    refine VC.bodyC 3 Try.func48 rfl Try.ntmps48 Try.call48 (h.grows_refl) rfl ?_; conv => whnf
    repeat' (first | ((first | refine zs1 ?_ | refine zs2 ?_ | refine zs3 ?_ | refine zs4 ?_ | refine zs5 ?_); conv => whnf) | ((first | apply zi1 | apply zi2 | apply zi3 | apply zi4 | apply zi5) <;> intro _ <;> conv => whnf) | (refine VCall.intro (cP _) ?_; conv => whnf))
    refine VCut.at' (outer := h.lift) (marks := []) 99 [(10, I E)] [] ?_ ?_
    · conv => whnf
      refine Retell.turn ⟨[], 3, [], []⟩ (TurnOk.mk' _ _ [] [] (OutOk.lift _) rfl (by decide) zb trivial trivial rfl) zw zm
    · conv => whnf
      repeat' (first | ((first | refine zs1 ?_ | refine zs2 ?_ | refine zs3 ?_ | refine zs4 ?_ | refine zs5 ?_); conv => whnf) | ((first | apply zi1 | apply zi2 | apply zi3 | apply zi4 | apply zi5) <;> intro _ <;> conv => whnf))
      all_goals try (exfalso; omega)
      rw [hR]
      exact VOut.same rfl
end Go.Proofs.Ytoeendggmalcpaa

open Go.Vm
open Psg
namespace Go.Proofs.Ytoeendggmalcpaa
set_option maxRecDepth 20000
set_option maxHeartbeats 4000000
def dvP (N : Nt) (a b : List Int) : List Int × Int × List Int := dvN N.p.toNat N a b
theorem nok_nat {n : Nat} {N : Nt} (h : NOk n N) : N.p.toNat = n := by have := h.p; omega
def drvV (N : Nt) (a b : List Int) : V := if pas N a b = 0 then .tuple [ints (dvP N a b).1, I (dvP N a b).2.1, I 0] else .tuple [.nilslice, I 0, I (pas N a b)]
def cutV (N : Nt) (a b : List Int) : V := if pas N a b = 0 then .tuple [ints (dvP N a b).2.2, I 0] else .tuple [.nilslice, I (pas N a b)]
theorem vc_Drive (N : Nt) (a b : List Int) (h : Hp) (hn : N.ws.length ≤ 4000000) (ha : a.length ≤ 4000000) (hb : b.length ≤ 4000000) : VC Try.prog 22 [vN N, ints a, ints b] h (drvV N a b) h := by
  have cP := fun h => vc_pastured N a b h hn ha hb
  unfold drvV
  by_cases h0 : pas N a b = 0
  · rw [if_pos h0]
    rw [h0] at cP
    obtain ⟨n, hN, hPs, ha0, hb0, _, _⟩ := pas_ok h0
    have cD := fun h => vc_driven hN hPs ha0 hb h
    have e : dvP N a b = dvN n N a b := by unfold dvP; rw [nok_nat hN]
    rw [e]
    generalize dvN n N a b = r at cD
    refine VC.body Try.func22 rfl Try.ntmps22 Try.call22 (h.grows_refl) rfl ?_; conv => whnf
    repeat' (first | ((first | refine zs1 ?_ | refine zs2 ?_ | refine zs3 ?_ | refine zs4 ?_ | refine zs5 ?_); conv => whnf) | ((first | apply zi1 | apply zi2 | apply zi3 | apply zi4 | apply zi5) <;> intro _ <;> conv => whnf) | (refine VCall.intro (cP _) ?_; conv => whnf) | (refine VCall.intro (cD _) ?_; conv => whnf))
    all_goals try (exfalso; omega)
    exact VOut.same rfl
  · rw [if_neg h0]
    generalize pas N a b = E at *
    refine VC.body Try.func22 rfl Try.ntmps22 Try.call22 (h.grows_refl) rfl ?_; conv => whnf
    repeat' (first | ((first | refine zs1 ?_ | refine zs2 ?_ | refine zs3 ?_ | refine zs4 ?_ | refine zs5 ?_); conv => whnf) | ((first | apply zi1 | apply zi2 | apply zi3 | apply zi4 | apply zi5) <;> intro _ <;> conv => whnf) | (refine VCall.intro (cP _) ?_; conv => whnf))
    all_goals try (exfalso; omega)
    exact VOut.same rfl
theorem vc_Cut (N : Nt) (a b : List Int) (h : Hp) (hn : N.ws.length ≤ 4000000) (ha : a.length ≤ 4000000) (hb : b.length ≤ 4000000) : VC Try.prog 25 [vN N, ints a, ints b] h (cutV N a b) h := by
  have cP := fun h => vc_pastured N a b h hn ha hb
  unfold cutV
  by_cases h0 : pas N a b = 0
  · rw [if_pos h0]
    rw [h0] at cP
    obtain ⟨n, hN, hPs, ha0, hb0, _, _⟩ := pas_ok h0
    have cD := fun h => vc_driven hN hPs ha0 hb h
    have e : dvP N a b = dvN n N a b := by unfold dvP; rw [nok_nat hN]
    rw [e]
    generalize dvN n N a b = r at cD
    refine VC.body Try.func25 rfl Try.ntmps25 Try.call25 (h.grows_refl) rfl ?_; conv => whnf
    repeat' (first | ((first | refine zs1 ?_ | refine zs2 ?_ | refine zs3 ?_ | refine zs4 ?_ | refine zs5 ?_); conv => whnf) | ((first | apply zi1 | apply zi2 | apply zi3 | apply zi4 | apply zi5) <;> intro _ <;> conv => whnf) | (refine VCall.intro (cP _) ?_; conv => whnf) | (refine VCall.intro (cD _) ?_; conv => whnf))
    all_goals try (exfalso; omega)
    exact VOut.same rfl
  · rw [if_neg h0]
    generalize pas N a b = E at *
    refine VC.body Try.func25 rfl Try.ntmps25 Try.call25 (h.grows_refl) rfl ?_; conv => whnf
    repeat' (first | ((first | refine zs1 ?_ | refine zs2 ?_ | refine zs3 ?_ | refine zs4 ?_ | refine zs5 ?_); conv => whnf) | ((first | apply zi1 | apply zi2 | apply zi3 | apply zi4 | apply zi5) <;> intro _ <;> conv => whnf) | (refine VCall.intro (cP _) ?_; conv => whnf))
    all_goals try (exfalso; omega)
    exact VOut.same rfl
end Go.Proofs.Ytoeendggmalcpaa

open Go.Vm
open Psg
namespace Psg
def lessN (N : Nt) (i : Nat) (w : Wy) : Nt := { N with ws := N.ws.set i (lessW w) }
theorem nok_less {n : Nat} {N : Nt} {i : Nat} {w : Wy} (hN : NOk n N) (hi : N.ws[i]? = some w) (h1 : 1 ≤ w.h) : NOk n (lessN N i w) := by
  have hw := hN.ws w (List.mem_of_getElem? hi)
  have hne := hN.ne w (List.mem_of_getElem? hi)
  refine ⟨hN.p, hN.n1, by unfold lessN; simp only [List.length_set]; exact hN.len, fun v hv => ?_, fun v hv => ?_⟩
  · rcases List.mem_or_eq_of_mem_set hv with h | rfl
    · exact hN.ws v h
    · exact ⟨hw.f, hw.t, hw.d, by have := hw.h; show 0 ≤ w.h - 1 ∧ w.h - 1 ≤ 1000; omega, hw.n, hw.g, hw.lo, hw.hi⟩
  · rcases List.mem_or_eq_of_mem_set hv with h | rfl
    · exact hN.ne v h
    · exact hne
theorem ps_less {n : Nat} {N : Nt} {i : Nat} {w : Wy} {a b : List Int} (hP : Ps n N.ws a b) (hi : N.ws[i]? = some w) : Ps n (lessN N i w).ws a b := by
  refine ⟨fun v hv => ?_, hP.smt, hP.gin, hP.dis⟩
  rcases List.mem_or_eq_of_mem_set hv with h | rfl
  · exact hP.inN v h
  · exact hP.inN w (List.mem_of_getElem? hi)
end Psg
namespace Go.Proofs.Ytoeendggmalcpaa
set_option maxRecDepth 20000
set_option maxHeartbeats 4000000
def narB (N : Nt) (a b : List Int) (i : Nat) : Bool :=
  let w := N.ws.getD i ⟨0, 0, 0, 0, 0, 0, 0, 0⟩
  decide (1 ≤ w.h) && decide ((dvP (lessN N i w) a b).2.1 < (dvP N a b).2.1)
def narL (N : Nt) (a b : List Int) : Nat → List Int
  | 0 => []
  | k + 1 => if narB N a b k = true then narL N a b k ++ [(k : Int)] else narL N a b k
theorem narL_len (N : Nt) (a b : List Int) : ∀ k, (narL N a b k).length ≤ k
  | 0 => Nat.le_refl _
  | k + 1 => by
    have := narL_len N a b k
    rw [narL]
    split
    · rw [List.length_append]; simp; omega
    · omega
def narV (N : Nt) (a b : List Int) : V := if pas N a b = 0 then .tuple [ints (narL N a b N.ws.length), I 0] else .tuple [.nilslice, I (pas N a b)]
def wy0 : Wy := ⟨0, 0, 0, 0, 0, 0, 0, 0⟩
theorem encWy_s (w : Wy) : ∀ d ∈ encWy w, ∃ x, d = D.s x := by
  intro d hd
  simp only [encWy, List.mem_cons, List.not_mem_nil, or_false] at hd
  rcases hd with rfl | rfl | rfl | rfl | rfl | rfl | rfl | rfl <;> exact ⟨_, rfl⟩
theorem vc_Narrow (N : Nt) (a b : List Int) (h : Hp) (hn : N.ws.length ≤ 4000000) (ha : a.length ≤ 4000000) (hb : b.length ≤ 4000000) : VC Try.prog 26 [vN N, ints a, ints b] h (narV N a b) h := by
  have cP := fun h => vc_pastured N a b h hn ha hb
  unfold narV
  by_cases h0 : pas N a b = 0
  · rw [if_pos h0]
    rw [h0] at cP
    obtain ⟨n, hN, hPs, ha0, hb0, _, _⟩ := pas_ok h0
    have hwl := hN.len
    have cD := fun h => vc_driven hN hPs ha0 hb h
    have e : dvP N a b = dvN n N a b := by unfold dvP; rw [nok_nat hN]
    obtain ⟨r, hr⟩ : ∃ r, r = dvP N a b := ⟨_, rfl⟩
    rw [← e, ← hr] at cD
    refine VC.bodyC 1 Try.func26 rfl Try.ntmps26 Try.call26 (h.grows_refl) rfl ?_; conv => whnf
    refine VCut.at' (outer := h.lift) (marks := []) 99 [(1, ints a), (2, ints b), (3, .fp (encN N))] [] ?_ ?_
    · conv => whnf
      refine Retell.turn ⟨[], 1, [(0, encN N)], []⟩ (TurnOk.mk' _ _ [(0, encN N)] [] (OutOk.lift _) rfl (by decide) zb zf trivial rfl) zw zm
    · conv => whnf
      repeat' (first | ((first | refine zs1 ?_ | refine zs2 ?_ | refine zs3 ?_ | refine zs4 ?_ | refine zs5 ?_); conv => whnf) | ((first | apply zi1 | apply zi2 | apply zi3 | apply zi4 | apply zi5) <;> intro _ <;> conv => whnf) | (refine VCall.intro (cP _) ?_; conv => whnf) | (refine VCall.intro (cD _) ?_; conv => whnf))
      all_goals try (exfalso; omega)
      refine VCode.lp (outer := h.lift) (marks := []) (fun k : Nat => [(1, ints a), (2, ints b), (3, .fp (encN N)), (10, I r.2.1), (12, .gl (.loc 0) 1 (narL N a b k).length), (35, I N.ws.length), (36, I k)]) (fun k => [.flat true ((narL N a b k).flatMap Vm.encI)]) (fun k => k ≤ N.ws.length) (fun k => N.ws.length - k) 0 (Nat.zero_le _) ?_ ?_
      · conv => whnf
        refine Retell.turn ⟨[0], 0, [], []⟩ (TurnOk.mk' _ _ [] [] (OutOk.lift _) rfl (by decide) zb trivial trivial rfl) zw zm
      · intro k hk
        rcases Nat.lt_or_ge k N.ws.length with h3 | h3
        · have hw : N.ws[k]? = some N.ws[k] := List.getElem?_eq_getElem h3
          have hx := (hN.ws N.ws[k] (List.getElem_mem h3)).h
          have hl := narL_len N a b k
          have hB : narB N a b k = (decide (1 ≤ N.ws[k].h) && decide ((dvP (lessN N k N.ws[k]) a b).2.1 < r.2.1)) := by
            have : N.ws.getD k ⟨0, 0, 0, 0, 0, 0, 0, 0⟩ = N.ws[k] := by rw [List.getD_eq_getElem?_getD, hw]; rfl
            unfold narB
            rw [this, hr]
          have hL : narL N a b (k + 1) = if narB N a b k = true then narL N a b k ++ [(k : Int)] else narL N a b k := rfl
          rw [hB] at hL
          generalize N.ws[k] = w at hw hx hL
          generalize narL N a b k = L at hl hL ⊢
          have hw' : (N.ws.set k (lessW w))[k]? = some (lessW w) := by rw [List.getElem?_set_self h3]
          have hlh : (lessW w).h = w.h - 1 := rfl
          have hfl : ((N.ws.set k (lessW w)).flatMap encWy).length = N.ws.length * 8 := by rw [flat_len encWy_len, List.length_set]
          by_cases h1 : 1 ≤ w.h
          · have cE := fun h => vc_driven (nok_less hN hw h1) (ps_less hPs hw) ha0 hb h
            have e2 : dvP (lessN N k w) a b = dvN n (lessN N k w) a b := by unfold dvP; rw [nok_nat (nok_less hN hw h1)]
            rw [← e2] at cE
            rw [decide_eq_true h1, Bool.true_and] at hL
            generalize dvP (lessN N k w) a b = r2 at cE hL
            simp only [vN, wys, lessN, List.length_set] at cE
            conv => whnf
            repeat' (first | ((first | refine zs1 ?_ | refine zs2 ?_ | refine zs3 ?_ | refine zs4 ?_ | refine zs5 ?_); conv => whnf) | ((first | apply zi1 | apply zi2 | apply zi3 | apply zi4 | apply zi5) <;> intro _ <;> conv => whnf))
            all_goals try (exfalso; omega)
            refine zs6 [] ?_
            conv => whnf
            repeat' (first | ((first | refine zs1 ?_ | refine zs2 ?_ | refine zs3 ?_ | refine zs4 ?_ | refine zs5 ?_); conv => whnf) | ((first | apply zi1 | apply zi2 | apply zi3 | apply zi4 | apply zi5) <;> intro _ <;> conv => whnf) | (refine VMkD.makeR wy0 N.ws.length encWy_len (encWy_s _) rfl rfl rfl rfl rfl rfl rfl (by decide) (by omega) ?_; conv => whnf) | (refine VMem.copyFs (l := List.replicate N.ws.length wy0) (l2 := N.ws) encWy_len rfl rfl (by simp) rfl rfl ?_; conv => whnf) | (refine VLd.recc encWy_len k 3 rfl rfl rfl hw (by decide) rfl (by show (k : Int).toNat * 8 + 3 = k * 8 + 3; omega) ?_; conv => whnf) | (refine VMem.setRec encWy_len k 3 (lessW w) rfl rfl rfl hw (by decide) rfl (by show (k : Int).toNat * 8 + 3 = k * 8 + 3; omega) ?_; conv => whnf) | (refine VLd.recc encWy_len k 3 rfl rfl rfl hw' (by decide) rfl (by show (k : Int).toNat * 8 + 3 = k * 8 + 3; omega) ?_; conv => whnf))
            all_goals try (exfalso; omega)
            refine VCall.intro (VC.give (args' := [.agg [I N.p, .fs 8 N.ws.length ((N.ws.set k (lessW w)).flatMap encWy)], ints a, ints b]) (loc' := [.flat true (L.flatMap Vm.encI), .dead, .dead]) [(1, (N.ws.set k (lessW w)).flatMap encWy)] [] (OutOk.lift _) zb zf (by exact FmAll.nil) rfl zw (cE _)) ?_
            conv => whnf
            repeat' (first | ((first | refine zs1 ?_ | refine zs2 ?_ | refine zs3 ?_ | refine zs4 ?_ | refine zs5 ?_); conv => whnf) | ((first | apply zi1 | apply zi2 | apply zi3 | apply zi4 | apply zi5) <;> intro _ <;> conv => whnf) | (refine VMem.app1 (l := L) (k : Int) encI_len rfl rfl rfl rfl rfl (by omega) ?_; conv => whnf))
            · rename_i hlt
              rw [if_pos (decide_eq_true hlt)] at hL
              refine LEnd.intro (k + 1) (by omega) (by omega) ?_
              rw [hL, List.length_append]
              conv => whnf
              refine Retell.turn ⟨[4], 5, [], []⟩ (TurnOk.mk' _ _ [] [] (OutOk.lift _) rfl (by decide) zb trivial trivial rfl) zw zm
            · rename_i hlt
              rw [if_neg (by simpa using hlt)] at hL
              refine LEnd.intro (k + 1) (by omega) (by omega) ?_
              rw [hL]
              conv => whnf
              refine Retell.turn ⟨[0], 3, [], []⟩ (TurnOk.mk' _ _ [] [] (OutOk.lift _) rfl (by decide) zb trivial trivial rfl) zw zm
          · rw [decide_eq_false h1, Bool.false_and, if_neg (by simp)] at hL
            conv => whnf
            repeat' (first | ((first | refine zs1 ?_ | refine zs2 ?_ | refine zs3 ?_ | refine zs4 ?_ | refine zs5 ?_); conv => whnf) | ((first | apply zi1 | apply zi2 | apply zi3 | apply zi4 | apply zi5) <;> intro _ <;> conv => whnf))
            all_goals try (exfalso; omega)
            refine zs6 [] ?_
            conv => whnf
            repeat' (first | ((first | refine zs1 ?_ | refine zs2 ?_ | refine zs3 ?_ | refine zs4 ?_ | refine zs5 ?_); conv => whnf) | ((first | apply zi1 | apply zi2 | apply zi3 | apply zi4 | apply zi5) <;> intro _ <;> conv => whnf) | (refine VMkD.makeR wy0 N.ws.length encWy_len (encWy_s _) rfl rfl rfl rfl rfl rfl rfl (by decide) (by omega) ?_; conv => whnf) | (refine VMem.copyFs (l := List.replicate N.ws.length wy0) (l2 := N.ws) encWy_len rfl rfl (by simp) rfl rfl ?_; conv => whnf) | (refine VLd.recc encWy_len k 3 rfl rfl rfl hw (by decide) rfl (by show (k : Int).toNat * 8 + 3 = k * 8 + 3; omega) ?_; conv => whnf) | (refine VMem.setRec encWy_len k 3 (lessW w) rfl rfl rfl hw (by decide) rfl (by show (k : Int).toNat * 8 + 3 = k * 8 + 3; omega) ?_; conv => whnf) | (refine VLd.recc encWy_len k 3 rfl rfl rfl hw' (by decide) rfl (by show (k : Int).toNat * 8 + 3 = k * 8 + 3; omega) ?_; conv => whnf))
            all_goals try (exfalso; omega)
            refine LEnd.intro (k + 1) (by omega) (by omega) ?_
            rw [hL]
            conv => whnf
            refine Retell.turn ⟨[0], 3, [], []⟩ (TurnOk.mk' _ _ [] [] (OutOk.lift _) rfl (by decide) zb trivial trivial rfl) zw zm
        · have hkl : k = N.ws.length := by omega
          subst hkl
          generalize narL N a b N.ws.length = L
          conv => whnf
          repeat' (first | ((first | refine zs1 ?_ | refine zs2 ?_ | refine zs3 ?_ | refine zs4 ?_ | refine zs5 ?_); conv => whnf) | ((first | apply zi1 | apply zi2 | apply zi3 | apply zi4 | apply zi5) <;> intro _ <;> conv => whnf))
          all_goals try (exfalso; omega)
          refine VOut.data 1 [(0, L.flatMap Vm.encI)] [] rfl zf (by exact FmAll.nil) zw
  · rw [if_neg h0]
    generalize pas N a b = E at *
    refine VC.bodyC 1 Try.func26 rfl Try.ntmps26 Try.call26 (h.grows_refl) rfl ?_; conv => whnf
    refine VCut.at' (outer := h.lift) (marks := []) 99 [(1, ints a), (2, ints b), (3, .fp (encN N))] [] ?_ ?_
    · conv => whnf
      refine Retell.turn ⟨[], 1, [(0, encN N)], []⟩ (TurnOk.mk' _ _ [(0, encN N)] [] (OutOk.lift _) rfl (by decide) zb zf trivial rfl) zw zm
    · conv => whnf
      repeat' (first | ((first | refine zs1 ?_ | refine zs2 ?_ | refine zs3 ?_ | refine zs4 ?_ | refine zs5 ?_); conv => whnf) | ((first | apply zi1 | apply zi2 | apply zi3 | apply zi4 | apply zi5) <;> intro _ <;> conv => whnf) | (refine VCall.intro (cP _) ?_; conv => whnf))
      all_goals try (exfalso; omega)
      exact VOut.same rfl
end Go.Proofs.Ytoeendggmalcpaa

open Go.Vm
open Psg
namespace Psg
def bndA : List Wy → List Int → Bool
  | w :: ws, x :: xs => inB x 0 w.h && bndA ws xs
  | _, _ => true
theorem bndA_at {ws : List Wy} {xs : List Int} {k : Nat} {w : Wy} {x : Int} (h1 : ws[k]? = some w) (h2 : xs[k]? = some x) : bndA (ws.drop k) (xs.drop k) = (inB x 0 w.h && bndA (ws.drop (k + 1)) (xs.drop (k + 1))) := by
  obtain ⟨l1, rfl⟩ := List.getElem?_eq_some_iff.1 h1
  obtain ⟨l2, rfl⟩ := List.getElem?_eq_some_iff.1 h2
  rw [List.drop_eq_getElem_cons l1, List.drop_eq_getElem_cons l2, bndA]
theorem bndA_iff : ∀ {ws : List Wy} {xs : List Int}, xs.length = ws.length → (bndA ws xs = true ↔ Bnd ws xs)
  | [], [], _ => by simp [bndA, Bnd]
  | w :: ws, x :: xs, h => by
    have ih := bndA_iff (ws := ws) (xs := xs) (by simpa using h)
    rw [bndA, Bnd, Bool.and_eq_true, ih, inB_iff]
  | [], _ :: _, h => by simp at h
  | _ :: _, [], h => by simp at h
def upN (X : List Int) (w : Wy) (x : Int) : List Int :=
  (X.set w.f.toNat (X.getD w.f.toNat 0 + x)).set w.t.toNat ((X.set w.f.toNat (X.getD w.f.toNat 0 + x)).getD w.t.toNat 0 - x)
theorem getD_set {X : List Int} {i j : Nat} {v : Int} (hi : i < X.length) : (X.set i v).getD j 0 = if i = j then v else X.getD j 0 := by
  rw [List.getD_eq_getElem?_getD, List.getElem?_set, List.getD_eq_getElem?_getD]
  split
  · rename_i h; subst h; simp [hi]
  · rfl
theorem upN_get {n : Nat} {X : List Int} {w : Wy} {x : Int} (hn : n ≤ 10) (hX : X.length = 10) (hf : 0 ≤ w.f ∧ w.f < n) (ht : 0 ≤ w.t ∧ w.t < n) (p : Nat) : (upN X w x).getD p 0 = X.getD p 0 + one (eqB p w.f) x - one (eqB p w.t) x := by
  unfold upN
  rw [getD_set (by rw [List.length_set]; omega), getD_set (by omega), getD_set (by omega)]
  have e1 : eqB p w.f = decide (w.f.toNat = p) := decide_eq_decide.2 (by constructor <;> intro h <;> omega)
  have e2 : eqB p w.t = decide (w.t.toNat = p) := decide_eq_decide.2 (by constructor <;> intro h <;> omega)
  rw [e1, e2]
  by_cases h1 : w.f.toNat = p <;> by_cases h2 : w.t.toNat = p <;> simp [h1, h2, one] <;> (try (by_cases h3 : w.f.toNat = w.t.toNat <;> simp_all <;> omega)) <;> (try omega)
theorem flux_take (S : Int → Bool) : ∀ {ws : List Wy} {xs : List Int} {k : Nat} {w : Wy} {x : Int}, ws[k]? = some w → xs[k]? = some x → flux S (ws.take (k + 1)) (xs.take (k + 1)) = flux S (ws.take k) (xs.take k) + one (S w.f) x - one (S w.t) x
  | u :: ws, y :: xs, 0, w, x, h1, h2 => by
    simp only [List.getElem?_cons_zero, Option.some.injEq] at h1 h2
    subst h1 h2
    simp [flux]
  | u :: ws, y :: xs, k + 1, w, x, h1, h2 => by
    rw [List.getElem?_cons_succ] at h1 h2
    have := flux_take S h1 h2
    simp only [List.take_succ_cons, flux]
    rw [this]; omega
  | [], _, _, _, _, h1, _ => by simp at h1
  | _ :: _, [], _, _, _, _, h2 => by simp at h2
structure NI (ws : List Wy) (xs : List Int) (k : Nat) (X : List Int) : Prop where
  len : X.length = 10
  net : ∀ p : Nat, p < 10 → X.getD p 0 = net p (ws.take k) (xs.take k)
  bd : ∀ p : Nat, -(1000 * (k : Int)) ≤ X.getD p 0 ∧ X.getD p 0 ≤ 1000 * (k : Int)
theorem ni0 (ws : List Wy) (xs : List Int) : NI ws xs 0 (List.replicate 10 0) := by
  have e : ∀ p : Nat, (List.replicate 10 (0 : Int)).getD p 0 = 0 := fun p => by
    rw [List.getD_eq_getElem?_getD, List.getElem?_replicate]; split <;> rfl
  refine ⟨rfl, fun p _ => ?_, fun p => ?_⟩
  · rw [e]; simp [Psg.net, flux]
  · rw [e]; omega
theorem NI.step {n : Nat} {ws : List Wy} {xs : List Int} {k : Nat} {X : List Int} {w : Wy} {x : Int} (h : NI ws xs k X) (hn : n ≤ 10) (h1 : ws[k]? = some w) (h2 : xs[k]? = some x) (hf : 0 ≤ w.f ∧ w.f < n) (ht : 0 ≤ w.t ∧ w.t < n) (hx : 0 ≤ x ∧ x ≤ 1000) : NI ws xs (k + 1) (upN X w x) := by
  refine ⟨by unfold upN; rw [List.length_set, List.length_set]; exact h.len, fun p hp => ?_, fun p => ?_⟩
  · rw [upN_get hn h.len hf ht, h.net p hp]
    unfold Psg.net
    rw [flux_take _ h1 h2]
  · rw [upN_get hn h.len hf ht]
    have := h.bd p
    cases eqB p w.f <;> cases eqB p w.t <;> simp only [one, cond_true, cond_false] <;> push_cast <;> omega
def gotL (a X : List Int) : Nat → List Int
  | 0 => []
  | k + 1 => if (k : Int) ∈ a then gotL a X k ++ [X.getD k 0] else gotL a X k
theorem gotL_len (a X : List Int) : ∀ k, (gotL a X k).length ≤ k
  | 0 => Nat.le_refl _
  | k + 1 => by
    have := gotL_len a X k
    rw [gotL]
    split
    · rw [List.length_append]; simp; omega
    · omega
theorem gotL_mem (a X : List Int) : ∀ k x, x ∈ gotL a X k → ∃ p, x = X.getD p 0
  | 0, x, h => by simp [gotL] at h
  | k + 1, x, h => by
    rw [gotL] at h
    split at h
    · rcases List.mem_append.1 h with h | h
      · exact gotL_mem a X k x h
      · simp at h; exact ⟨k, h⟩
    · exact gotL_mem a X k x h
theorem gotL_sum (a X : List Int) : ∀ k, (gotL a X k).sum = sumTo k fun p => one (decide ((p : Int) ∈ a)) (X.getD p 0)
  | 0 => rfl
  | k + 1 => by
    have := gotL_sum a X k
    rw [gotL, sumTo]
    split
    · rename_i h; rw [List.sum_append, this, decide_eq_true h]; simp [one]
    · rename_i h; rw [this, decide_eq_false h]; simp [one]
end Psg
namespace Go.Proofs.Ytoeendggmalcpaa
set_option maxRecDepth 20000
set_option maxHeartbeats 4000000
def conB (n : Nat) (ws : List Wy) (a b hs : List Int) : Bool := (List.range n).all fun j => decide ((j : Int) ∈ a) || decide ((j : Int) ∈ b) || decide (net j ws hs = 0)
theorem conB_iff {n : Nat} {ws : List Wy} {a b hs : List Int} : conB n ws a b hs = true ↔ ∀ j < n, (j : Int) ∈ a ∨ (j : Int) ∈ b ∨ net j ws hs = 0 := by
  unfold conB
  rw [List.all_eq_true]
  simp only [List.mem_range, Bool.or_eq_true, decide_eq_true_eq, or_assoc]
def brgN (N : Nt) (a b hs : List Int) : Int × Int :=
  if pas N a b = 0 then (if hs.length = N.ws.length then (if bndA N.ws hs = true then (if conB N.p.toNat N.ws a b hs = true then (val N.p.toNat N.ws a hs, 0) else (0, 9)) else (0, 4)) else (0, 3)) else (0, pas N a b)
theorem vc_Brings (N : Nt) (a b hs : List Int) (h : Hp) (hn : N.ws.length ≤ 4000000) (ha : a.length ≤ 4000000) (hb : b.length ≤ 4000000) (hh : hs.length ≤ 4000000) : VC Try.prog 46 [vN N, ints a, ints b, ints hs] h (.tuple [I (brgN N a b hs).1, I (brgN N a b hs).2]) h := by
  obtain ⟨R, hR⟩ : ∃ R, R = brgN N a b hs := ⟨_, rfl⟩
  rw [← hR]
  unfold brgN at hR
  have cP := fun h => vc_pastured N a b h hn ha hb
  by_cases h0 : pas N a b = 0
  · rw [if_pos h0] at hR
    rw [h0] at cP
    obtain ⟨n, hN, hPs, ha0, hb0, _, _⟩ := pas_ok h0
    have hp := hN.p
    have hn1 := hN.n1
    have hwl := hN.len
    rw [nok_nat hN] at hR
    refine VC.bodyC 1 Try.func46 rfl Try.ntmps46 Try.call46 (h.grows_refl) rfl ?_; conv => whnf
    refine VCut.at' (outer := h.lift) (marks := []) 99 [(1, ints a), (2, ints b), (3, ints hs), (4, .fp (encN N))] [] ?_ ?_
    · conv => whnf
      refine Retell.turn ⟨[], 1, [(0, encN N)], []⟩ (TurnOk.mk' _ _ [(0, encN N)] [] (OutOk.lift _) rfl (by decide) zb zf trivial rfl) zw zm
    · by_cases hl : hs.length = N.ws.length
      · rw [if_pos hl] at hR
        conv => whnf
        repeat' (first | ((first | refine zs1 ?_ | refine zs2 ?_ | refine zs3 ?_ | refine zs4 ?_ | refine zs5 ?_); conv => whnf) | ((first | apply zi1 | apply zi2 | apply zi3 | apply zi4 | apply zi5) <;> intro _ <;> conv => whnf) | (refine VCall.intro (cP _) ?_; conv => whnf))
        all_goals try (exfalso; omega)
        refine VCode.lp (outer := h.lift) (marks := []) (fun k : Nat => [(1, ints a), (2, ints b), (3, ints hs), (4, .fp (encN N)), (34, wys N.ws), (35, I N.ws.length), (36, I k)]) (fun _ => []) (fun k => k ≤ N.ws.length ∧ bndA N.ws hs = bndA (N.ws.drop k) (hs.drop k)) (fun k => N.ws.length - k) 0 ⟨Nat.zero_le _, rfl⟩ ?_ ?_
        · conv => whnf
          refine Retell.turn ⟨[], 0, [], []⟩ (TurnOk.mk' _ _ [] [] (OutOk.lift _) rfl (by decide) zb trivial trivial rfl) zw zm
        · rintro k ⟨k1, k2⟩
          rcases Nat.lt_or_ge k N.ws.length with h3 | h3
          · have hw : N.ws[k]? = some N.ws[k] := List.getElem?_eq_getElem h3
            have hx : hs[k]? = some hs[k] := List.getElem?_eq_getElem (by omega)
            rw [bndA_at hw hx] at k2
            generalize N.ws[k] = w at hw k2
            generalize hs[k] = x at hx k2
            by_cases hb : 0 ≤ x ∧ x ≤ w.h
            · have cF := fun h => vc_from x 0 w.h h
              rw [decide_eq_true hb] at cF
              rw [inB_iff.2 hb, Bool.true_and] at k2
              conv => whnf
              repeat' (first | ((first | refine zs1 ?_ | refine zs2 ?_ | refine zs3 ?_ | refine zs4 ?_ | refine zs5 ?_); conv => whnf) | ((first | apply zi1 | apply zi2 | apply zi3 | apply zi4 | apply zi5) <;> intro _ <;> conv => whnf) | (refine VAny.ix encWy_len k rfl rfl hw ?_; conv => whnf))
              all_goals try (exfalso; omega)
              refine zs6 [] ?_
              conv => whnf
              repeat' (first | ((first | refine zs1 ?_ | refine zs2 ?_ | refine zs3 ?_ | refine zs4 ?_ | refine zs5 ?_); conv => whnf) | ((first | apply zi1 | apply zi2 | apply zi3 | apply zi4 | apply zi5) <;> intro _ <;> conv => whnf) | (refine VAny.ix encWy_len k rfl rfl hw ?_; conv => whnf) | (refine VAny.ix encI_len k rfl rfl hx ?_; conv => whnf) | (refine VCall.intro (cF _) ?_; conv => whnf))
              all_goals try (exfalso; omega)
              refine LEnd.intro (k + 1) ⟨by omega, k2⟩ (by omega) ?_
              conv => whnf
              refine Retell.turn ⟨[], 1, [], []⟩ (TurnOk.mk' _ _ [] [] (OutOk.lift _) rfl (by decide) zb trivial trivial rfl) zw zm
            · have cF := fun h => vc_from x 0 w.h h
              rw [decide_eq_false hb] at cF
              have : inB x 0 w.h = false := by
                cases hq : inB x 0 w.h
                · rfl
                · exact absurd (inB_iff.1 hq) hb
              rw [this, Bool.false_and] at k2
              rw [if_neg (by rw [k2]; simp)] at hR
              conv => whnf
              repeat' (first | ((first | refine zs1 ?_ | refine zs2 ?_ | refine zs3 ?_ | refine zs4 ?_ | refine zs5 ?_); conv => whnf) | ((first | apply zi1 | apply zi2 | apply zi3 | apply zi4 | apply zi5) <;> intro _ <;> conv => whnf) | (refine VAny.ix encWy_len k rfl rfl hw ?_; conv => whnf))
              all_goals try (exfalso; omega)
              refine zs6 [] ?_
              conv => whnf
              repeat' (first | ((first | refine zs1 ?_ | refine zs2 ?_ | refine zs3 ?_ | refine zs4 ?_ | refine zs5 ?_); conv => whnf) | ((first | apply zi1 | apply zi2 | apply zi3 | apply zi4 | apply zi5) <;> intro _ <;> conv => whnf) | (refine VAny.ix encWy_len k rfl rfl hw ?_; conv => whnf) | (refine VAny.ix encI_len k rfl rfl hx ?_; conv => whnf) | (refine VCall.intro (cF _) ?_; conv => whnf))
              all_goals try (exfalso; omega)
              rw [hR]
              exact VOut.same rfl
          · have hk : k = N.ws.length := by omega
            subst hk
            have e1 : bndA ([] : List Wy) (hs.drop N.ws.length) = true := by cases hs.drop N.ws.length <;> rfl
            rw [List.drop_of_length_le (Nat.le_refl N.ws.length), e1] at k2
            rw [if_pos k2] at hR
            have hB := (bndA_iff hl).1 k2
            conv => whnf
            repeat' (first | ((first | refine zs1 ?_ | refine zs2 ?_ | refine zs3 ?_ | refine zs4 ?_ | refine zs5 ?_); conv => whnf) | ((first | apply zi1 | apply zi2 | apply zi3 | apply zi4 | apply zi5) <;> intro _ <;> conv => whnf))
            all_goals try (exfalso; omega)
            refine VCode.lp (outer := h.lift) (marks := []) (fun y : Nat × List Int => [(1, ints a), (2, ints b), (3, ints hs), (4, .fp (encN N)), (13, .ptr (.loc 0) 0), (51, wys N.ws), (52, I N.ws.length), (53, I y.1)]) (fun y => [.flat true (y.2.flatMap Vm.encI)]) (fun y => y.1 ≤ N.ws.length ∧ NI N.ws hs y.1 y.2) (fun y => N.ws.length - y.1) (0, List.replicate 10 0) ⟨Nat.zero_le _, ni0 _ _⟩ ?_ ?_
            · conv => whnf
              refine Retell.turn ⟨[0], 1, [], []⟩ (TurnOk.mk' _ _ [] [] (OutOk.lift _) rfl (by decide) zb trivial trivial rfl) zw zm
            · rintro ⟨k, X⟩ ⟨k1, k3⟩
              dsimp only at k1 k3 ⊢
              rcases Nat.lt_or_ge k N.ws.length with h3 | h3
              · have hw : N.ws[k]? = some N.ws[k] := List.getElem?_eq_getElem h3
                have hx : hs[k]? = some hs[k] := List.getElem?_eq_getElem (by omega)
                have hwo := hN.ws N.ws[k] (List.getElem_mem h3)
                generalize N.ws[k] = w at hw hwo
                generalize hs[k] = x at hx
                have hxb := hB.at hw hx
                have hwh := hwo.h
                have hwf := hwo.f
                have hwt := hwo.t
                have hXl := k3.len
                have hst := k3.step hn1.2 hw hx hwf hwt (by omega)
                have b1 := k3.bd w.f.toNat
                have b3 := k3.bd w.t.toNat
                have hX1 : X[w.f.toNat]? = some (X.getD w.f.toNat 0) := by rw [List.getD_eq_getElem?_getD, List.getElem?_eq_getElem (by omega)]; rfl
                unfold upN at hst
                have b2 : (X.set w.f.toNat (X.getD w.f.toNat 0 + x)).getD w.t.toNat 0 = if w.f.toNat = w.t.toNat then X.getD w.f.toNat 0 + x else X.getD w.t.toNat 0 := getD_set (by omega)
                have b4 : -(1000 * (k : Int)) ≤ (X.set w.f.toNat (X.getD w.f.toNat 0 + x)).getD w.t.toNat 0 ∧ (X.set w.f.toNat (X.getD w.f.toNat 0 + x)).getD w.t.toNat 0 ≤ 1000 * (k : Int) + 1000 := by
                  rw [b2]; split <;> omega
                clear b2
                generalize X.getD w.f.toNat 0 = u at hX1 hst b1 b4
                have hX2 : (X.set w.f.toNat (u + x))[w.t.toNat]? = some ((X.set w.f.toNat (u + x)).getD w.t.toNat 0) := by rw [List.getD_eq_getElem?_getD, List.getElem?_eq_getElem (by rw [List.length_set]; omega)]; rfl
                generalize (X.set w.f.toNat (u + x)).getD w.t.toNat 0 = v at hX2 hst b4
                conv => whnf
                repeat' (first | ((first | refine zs1 ?_ | refine zs2 ?_ | refine zs3 ?_ | refine zs4 ?_ | refine zs5 ?_); conv => whnf) | ((first | apply zi1 | apply zi2 | apply zi3 | apply zi4 | apply zi5) <;> intro _ <;> conv => whnf) | (refine VAny.ix encWy_len k rfl rfl hw ?_; conv => whnf))
                all_goals try (exfalso; omega)
                refine zs6 [] ?_
                conv => whnf
                repeat' (first | ((first | refine zs1 ?_ | refine zs2 ?_ | refine zs3 ?_ | refine zs4 ?_ | refine zs5 ?_); conv => whnf) | ((first | apply zi1 | apply zi2 | apply zi3 | apply zi4 | apply zi5) <;> intro _ <;> conv => whnf) | (refine VAny.ix encI_len k rfl rfl hx ?_; conv => whnf) | (refine VLd.recc encI_len w.f.toNat 0 rfl rfl rfl hX1 (by decide) rfl (by show 0 + w.f.toNat * 1 = w.f.toNat * 1 + 0; omega) ?_; conv => whnf) | (refine VMem.setRec encI_len w.f.toNat 0 (u + x) rfl rfl rfl hX1 (by decide) rfl (by show 0 + w.f.toNat * 1 = w.f.toNat * 1 + 0; omega) ?_; conv => whnf))
                all_goals try (exfalso; omega)
                refine zs6 [] ?_
                conv => whnf
                repeat' (first | ((first | refine zs1 ?_ | refine zs2 ?_ | refine zs3 ?_ | refine zs4 ?_ | refine zs5 ?_); conv => whnf) | ((first | apply zi1 | apply zi2 | apply zi3 | apply zi4 | apply zi5) <;> intro _ <;> conv => whnf) | (refine VAny.ix encI_len k rfl rfl hx ?_; conv => whnf) | (refine VLd.recc encI_len w.t.toNat 0 rfl rfl rfl hX2 (by decide) rfl (by show 0 + w.t.toNat * 1 = w.t.toNat * 1 + 0; omega) ?_; conv => whnf) | (refine VMem.setRec encI_len w.t.toNat 0 (v - x) rfl rfl rfl hX2 (by decide) rfl (by show 0 + w.t.toNat * 1 = w.t.toNat * 1 + 0; omega) ?_; conv => whnf))
                all_goals try (exfalso; omega)
                refine LEnd.intro (k + 1, (X.set w.f.toNat (u + x)).set w.t.toNat (v - x)) ⟨by dsimp only; omega, hst⟩ (by dsimp only; omega) ?_
                conv => whnf
                refine Retell.turn ⟨[0], 2, [], []⟩ (TurnOk.mk' _ _ [] [] (OutOk.lift _) rfl (by decide) zb trivial trivial rfl) zw zm
              · have hk : k = N.ws.length := by omega
                subst hk
                have hXl := k3.len
                have hnet : ∀ p : Nat, p < 10 → X.getD p 0 = net p N.ws hs := fun p hp => by
                  have := k3.net p hp
                  rw [List.take_of_length_le (Nat.le_refl _), List.take_of_length_le (by omega)] at this
                  exact this
                have hbd := k3.bd
                conv => whnf
                repeat' (first | ((first | refine zs1 ?_ | refine zs2 ?_ | refine zs3 ?_ | refine zs4 ?_ | refine zs5 ?_); conv => whnf) | ((first | apply zi1 | apply zi2 | apply zi3 | apply zi4 | apply zi5) <;> intro _ <;> conv => whnf))
                all_goals try (exfalso; omega)
                refine VCode.lp (outer := h.lift) (marks := []) (fun k : Nat => [(1, ints a), (2, ints b), (13, .ptr (.loc 0) 0), (16, .gl (.loc 1) 1 (gotL a X k).length), (80, I N.p), (81, I k)]) (fun k => [.flat true (X.flatMap Vm.encI), .flat true ((gotL a X k).flatMap Vm.encI)]) (fun k => k ≤ n ∧ ∀ j < k, (j : Int) ∈ a ∨ (j : Int) ∈ b ∨ X.getD j 0 = 0) (fun k => n - k) 0 ⟨Nat.zero_le _, fun j hj => absurd hj (by omega)⟩ ?_ ?_
                · conv => whnf
                  refine Retell.turn ⟨[0,1], 1, [], []⟩ (TurnOk.mk' _ _ [] [] (OutOk.lift _) rfl (by decide) zb trivial trivial rfl) zw zm
                · rintro k ⟨q1, q2⟩
                  have hgl := gotL_len a X k
                  rcases Nat.lt_or_ge k n with h4 | h4
                  · have hXk : X[k]? = some (X.getD k 0) := by rw [List.getD_eq_getElem?_getD, List.getElem?_eq_getElem (by omega)]; rfl
                    have hg : gotL a X (k + 1) = if (k : Int) ∈ a then gotL a X k ++ [X.getD k 0] else gotL a X k := rfl
                    have hq : ((k : Int) ∈ a ∨ (k : Int) ∈ b ∨ X.getD k 0 = 0) → ∀ j < k + 1, (j : Int) ∈ a ∨ (j : Int) ∈ b ∨ X.getD j 0 = 0 := fun h j hj => by
                      rcases Nat.lt_or_ge j k with h5 | h5
                      · exact q2 j h5
                      · have : j = k := by omega
                        subst this; exact h
                    have hbk := hbd k
                    have hnk := hnet k (by omega)
                    have cA := fun h => vc_ContI a (k : Int) h ha
                    have cB := fun h => vc_ContI b (k : Int) h hb
                    generalize X.getD k 0 = v at hXk hg hq hbk hnk
                    generalize gotL a X k = L at hg hgl ⊢
                    by_cases hka : (k : Int) ∈ a
                    · rw [decide_eq_true hka] at cA
                      rw [if_pos hka] at hg
                      conv => whnf
                      repeat' (first | ((first | refine zs1 ?_ | refine zs2 ?_ | refine zs3 ?_ | refine zs4 ?_ | refine zs5 ?_); conv => whnf) | ((first | apply zi1 | apply zi2 | apply zi3 | apply zi4 | apply zi5) <;> intro _ <;> conv => whnf) | (refine VCall.intro (cA _) ?_; conv => whnf) | (refine VLd.recc encI_len k 0 rfl rfl rfl hXk (by decide) rfl (by show 0 + (k : Int).toNat * 1 = k * 1 + 0; omega) ?_; conv => whnf) | (refine VMem.app1 (l := L) v encI_len rfl rfl rfl rfl rfl (by omega) ?_; conv => whnf))
                      all_goals try (exfalso; omega)
                      refine LEnd.intro (k + 1) ⟨by omega, hq (.inl hka)⟩ (by omega) ?_
                      rw [hg, List.length_append]
                      conv => whnf
                      refine Retell.turn ⟨[0,3], 4, [], []⟩ (TurnOk.mk' _ _ [] [] (OutOk.lift _) rfl (by decide) zb trivial trivial rfl) zw zm
                    · rw [decide_eq_false hka] at cA
                      rw [if_neg hka] at hg
                      by_cases hkb : (k : Int) ∈ b
                      · rw [decide_eq_true hkb] at cB
                        conv => whnf
                        repeat' (first | ((first | refine zs1 ?_ | refine zs2 ?_ | refine zs3 ?_ | refine zs4 ?_ | refine zs5 ?_); conv => whnf) | ((first | apply zi1 | apply zi2 | apply zi3 | apply zi4 | apply zi5) <;> intro _ <;> conv => whnf) | (refine VCall.intro (cA _) ?_; conv => whnf) | (refine VCall.intro (cB _) ?_; conv => whnf))
                        all_goals try (exfalso; omega)
                        refine LEnd.intro (k + 1) ⟨by omega, hq (.inr (.inl hkb))⟩ (by omega) ?_
                        rw [hg]
                        conv => whnf
                        refine Retell.turn ⟨[0,1], 2, [], []⟩ (TurnOk.mk' _ _ [] [] (OutOk.lift _) rfl (by decide) zb trivial trivial rfl) zw zm
                      · rw [decide_eq_false hkb] at cB
                        by_cases hv : v = 0
                        · conv => whnf
                          repeat' (first | ((first | refine zs1 ?_ | refine zs2 ?_ | refine zs3 ?_ | refine zs4 ?_ | refine zs5 ?_); conv => whnf) | ((first | apply zi1 | apply zi2 | apply zi3 | apply zi4 | apply zi5) <;> intro _ <;> conv => whnf) | (refine VCall.intro (cA _) ?_; conv => whnf) | (refine VCall.intro (cB _) ?_; conv => whnf) | (refine VLd.recc encI_len k 0 rfl rfl rfl hXk (by decide) rfl (by show 0 + (k : Int).toNat * 1 = k * 1 + 0; omega) ?_; conv => whnf))
                          all_goals try (exfalso; omega)
                          refine LEnd.intro (k + 1) ⟨by omega, hq (.inr (.inr hv))⟩ (by omega) ?_
                          rw [hg]
                          conv => whnf
                          refine Retell.turn ⟨[0,1], 2, [], []⟩ (TurnOk.mk' _ _ [] [] (OutOk.lift _) rfl (by decide) zb trivial trivial rfl) zw zm
                        · rw [if_neg (fun h5 => by
                            rcases conB_iff.1 h5 k h4 with h6 | h6 | h6
                            · exact hka h6
                            · exact hkb h6
                            · exact hv (by omega))] at hR
                          conv => whnf
                          repeat' (first | ((first | refine zs1 ?_ | refine zs2 ?_ | refine zs3 ?_ | refine zs4 ?_ | refine zs5 ?_); conv => whnf) | ((first | apply zi1 | apply zi2 | apply zi3 | apply zi4 | apply zi5) <;> intro _ <;> conv => whnf) | (refine VCall.intro (cA _) ?_; conv => whnf) | (refine VCall.intro (cB _) ?_; conv => whnf) | (refine VLd.recc encI_len k 0 rfl rfl rfl hXk (by decide) rfl (by show 0 + (k : Int).toNat * 1 = k * 1 + 0; omega) ?_; conv => whnf))
                          all_goals try (exfalso; omega)
                          rw [hR]
                          exact VOut.same rfl
                  · have hk : k = n := by omega
                    subst hk
                    rw [if_pos (conB_iff.2 fun j hj => by rw [← hnet j (by omega)]; exact q2 j hj)] at hR
                    have hsum : (gotL a X k).sum = val k N.ws a hs := by
                      rw [gotL_sum]
                      unfold val
                      exact sumTo_congr fun p hp => by rw [hnet p (by omega)]
                    have cS := fun h => vc_sum (gotL a X k) h (by omega) (fun x hx => by obtain ⟨p, rfl⟩ := gotL_mem a X k x hx; have := hbd p; omega)
                    rw [hsum] at cS
                    rw [hR]
                    generalize gotL a X k = L at hgl cS ⊢
                    conv => whnf
                    repeat' (first | ((first | refine zs1 ?_ | refine zs2 ?_ | refine zs3 ?_ | refine zs4 ?_ | refine zs5 ?_); conv => whnf) | ((first | apply zi1 | apply zi2 | apply zi3 | apply zi4 | apply zi5) <;> intro _ <;> conv => whnf))
                    all_goals try (exfalso; omega)
                    refine VCall.intro (VC.give (args' := [ints L]) (loc' := [.dead, .dead]) [(1, L.flatMap Vm.encI)] [] (OutOk.lift _) zb zf (by exact FmAll.nil) rfl zw (cS _)) ?_
                    conv => whnf
                    repeat' (first | ((first | refine zs1 ?_ | refine zs2 ?_ | refine zs3 ?_ | refine zs4 ?_ | refine zs5 ?_); conv => whnf) | ((first | apply zi1 | apply zi2 | apply zi3 | apply zi4 | apply zi5) <;> intro _ <;> conv => whnf))
                    exact VOut.same rfl
      · rw [if_neg hl] at hR
        rw [hR]
        conv => whnf
        repeat' (first | ((first | refine zs1 ?_ | refine zs2 ?_ | refine zs3 ?_ | refine zs4 ?_ | refine zs5 ?_); conv => whnf) | ((first | apply zi1 | apply zi2 | apply zi3 | apply zi4 | apply zi5) <;> intro _ <;> conv => whnf) | (refine VCall.intro (cP _) ?_; conv => whnf))
        all_goals try (exfalso; omega)
        exact VOut.same rfl
  · rw [if_neg h0] at hR
    generalize pas N a b = E at *
    refine VC.bodyC 1 Try.func46 rfl Try.ntmps46 Try.call46 (h.grows_refl) rfl ?_; conv => whnf
    refine VCut.at' (outer := h.lift) (marks := []) 99 [(1, ints a), (2, ints b), (3, ints hs), (4, .fp (encN N))] [] ?_ ?_
    · conv => whnf
      refine Retell.turn ⟨[], 1, [(0, encN N)], []⟩ (TurnOk.mk' _ _ [(0, encN N)] [] (OutOk.lift _) rfl (by decide) zb zf trivial rfl) zw zm
    · conv => whnf
      repeat' (first | ((first | refine zs1 ?_ | refine zs2 ?_ | refine zs3 ?_ | refine zs4 ?_ | refine zs5 ?_); conv => whnf) | ((first | apply zi1 | apply zi2 | apply zi3 | apply zi4 | apply zi5) <;> intro _ <;> conv => whnf) | (refine VCall.intro (cP _) ?_; conv => whnf))
      all_goals try (exfalso; omega)
      rw [hR]
      exact VOut.same rfl
end Go.Proofs.Ytoeendggmalcpaa

open Go.Vm
open Psg
namespace Go.Proofs.Ytoeendggmalcpaa
set_option maxRecDepth 20000
set_option maxHeartbeats 4000000
/-! ### Copies -/
theorem vc_kcloneI (l : List Int) (h : Hp) (hl : l.length ≤ 4000000) : VC Try.prog 29 [ints l] h (ints l) h := by
  refine VC.body Try.func29 rfl Try.ntmps29 Try.call29 (h.grows_refl) rfl ?_; conv => whnf
  repeat' (first | ((first | refine zs1 ?_ | refine zs2 ?_ | refine zs3 ?_ | refine zs4 ?_ | refine zs5 ?_); conv => whnf) | ((first | apply zi1 | apply zi2 | apply zi3 | apply zi4 | apply zi5) <;> intro _ <;> conv => whnf))
  refine VMem.appNil encI_len rfl rfl rfl (by omega) ?_
  conv => whnf
  repeat' (first | ((first | refine zs1 ?_ | refine zs2 ?_ | refine zs3 ?_ | refine zs4 ?_ | refine zs5 ?_); conv => whnf) | ((first | apply zi1 | apply zi2 | apply zi3 | apply zi4 | apply zi5) <;> intro _ <;> conv => whnf))
  refine VOut.data 1 [(0, l.flatMap Vm.encI)] [] rfl zf (by exact FmAll.nil) zw
theorem vc_kcloneH (l : List Hd) (h : Hp) (hl : l.length ≤ 4000000) : VC Try.prog 30 [hds l] h (hds l) h := by
  have hfl : (l.flatMap encHd).length = l.length * 3 := flat_len encHd_len _
  refine VC.body Try.func30 rfl Try.ntmps30 Try.call30 (h.grows_refl) rfl ?_; conv => whnf
  repeat' (first | ((first | refine zs1 ?_ | refine zs2 ?_ | refine zs3 ?_ | refine zs4 ?_ | refine zs5 ?_); conv => whnf) | ((first | apply zi1 | apply zi2 | apply zi3 | apply zi4 | apply zi5) <;> intro _ <;> conv => whnf))
  refine VMem.appNil encHd_len rfl rfl rfl (by omega) ?_
  conv => whnf
  repeat' (first | ((first | refine zs1 ?_ | refine zs2 ?_ | refine zs3 ?_ | refine zs4 ?_ | refine zs5 ?_); conv => whnf) | ((first | apply zi1 | apply zi2 | apply zi3 | apply zi4 | apply zi5) <;> intro _ <;> conv => whnf))
  refine VOut.data 1 [(0, l.flatMap encHd)] [] rfl zf (by exact FmAll.nil) zw
theorem vc_kcloneW (l : List Wy) (h : Hp) (hl : l.length ≤ 4000000) : VC Try.prog 63 [wys l] h (wys l) h := by
  have hfl : (l.flatMap encWy).length = l.length * 8 := flat_len encWy_len _
  refine VC.body Try.func63 rfl Try.ntmps63 Try.call63 (h.grows_refl) rfl ?_; conv => whnf
  repeat' (first | ((first | refine zs1 ?_ | refine zs2 ?_ | refine zs3 ?_ | refine zs4 ?_ | refine zs5 ?_); conv => whnf) | ((first | apply zi1 | apply zi2 | apply zi3 | apply zi4 | apply zi5) <;> intro _ <;> conv => whnf))
  refine VMem.appNil encWy_len rfl rfl rfl (by omega) ?_
  conv => whnf
  repeat' (first | ((first | refine zs1 ?_ | refine zs2 ?_ | refine zs3 ?_ | refine zs4 ?_ | refine zs5 ?_); conv => whnf) | ((first | apply zi1 | apply zi2 | apply zi3 | apply zi4 | apply zi5) <;> intro _ <;> conv => whnf))
  refine VOut.data 1 [(0, l.flatMap encWy)] [] rfl zf (by exact FmAll.nil) zw
theorem vc_CloneNet (N : Nt) (h : Hp) (hn : N.ws.length ≤ 4000000) : VC Try.prog 19 [vN N] h (vN N) h := by
  have c := fun h => vc_kcloneW N.ws h hn
  refine VC.body Try.func19 rfl Try.ntmps19 Try.call19 (h.grows_refl) rfl ?_; conv => whnf
  repeat' (first | ((first | refine zs1 ?_ | refine zs2 ?_ | refine zs3 ?_ | refine zs4 ?_ | refine zs5 ?_); conv => whnf) | ((first | apply zi1 | apply zi2 | apply zi3 | apply zi4 | apply zi5) <;> intro _ <;> conv => whnf))
  refine zs6 [(1, 4)] ?_
  conv => whnf
  repeat' (first | ((first | refine zs1 ?_ | refine zs2 ?_ | refine zs3 ?_ | refine zs4 ?_ | refine zs5 ?_); conv => whnf) | ((first | apply zi1 | apply zi2 | apply zi3 | apply zi4 | apply zi5) <;> intro _ <;> conv => whnf) | (refine VCall.intro (c _) ?_; conv => whnf))
  exact VOut.same rfl
end Go.Proofs.Ytoeendggmalcpaa

open Go.Vm
open Psg
namespace Go.Proofs.Ytoeendggmalcpaa
set_option maxRecDepth 20000
set_option maxHeartbeats 4000000
theorem drop_eq_dec {α : Type} [DecidableEq α] {a b : List α} {k : Nat} {x y : α} (hx : a[k]? = some x) (hy : b[k]? = some y) : decide (a.drop k = b.drop k) = (decide (x = y) && decide (a.drop (k + 1) = b.drop (k + 1))) := by
  obtain ⟨h1, rfl⟩ := List.getElem?_eq_some_iff.1 hx
  obtain ⟨h2, rfl⟩ := List.getElem?_eq_some_iff.1 hy
  rw [List.drop_eq_getElem_cons h1, List.drop_eq_getElem_cons h2, Bool.eq_iff_iff, Bool.and_eq_true, decide_eq_true_eq, decide_eq_true_eq, decide_eq_true_eq, List.cons.injEq]
theorem ne_I {x y : Int} (h : ¬ x = y) : ¬ x = y := h
theorem eq_I {x y : Int} (h : x = y) : x = y := h
theorem ne_X {α : Type} {x y : α} (h : ¬ x = y) : ¬ x = y := h
theorem eq_X {α : Type} {x y : α} (h : ¬ ¬ x = y) : x = y := Classical.not_not.1 h
theorem vc_kequalI (a b : List Int) (h : Hp) (ha : a.length ≤ 4000000) (hb : b.length ≤ 4000000) : VC Try.prog 37 [ints a, ints b] h (B (decide (a = b))) h := by
  obtain ⟨E, hE⟩ : ∃ E, E = decide (a = b) := ⟨_, rfl⟩
  rw [← hE]
  refine VC.body Try.func37 rfl Try.ntmps37 Try.call37 (h.grows_refl) rfl ?_; conv => whnf
  refine VCode.lp (fun k : Nat => [(0, ints a), (1, ints b), (4, B false), (7, I a.length), (8, I k)]) (fun _ => []) (fun k => k ≤ a.length ∧ k ≤ b.length ∧ E = decide (a.drop k = b.drop k)) (fun k => a.length - k) 0 ⟨Nat.zero_le _, Nat.zero_le _, hE⟩ ?_ ?_
  · conv => whnf
    refine Retell.turn ⟨[], 0, [], []⟩ (TurnOk.mk' _ _ [] [] (OutOk.lift _) rfl (by decide) zb trivial trivial rfl) zw zm
  · rintro k ⟨h1, h2, h3⟩
    conv => whnf
    refine VIte.dec (fun h4 => ?_) (fun h4 => ?_)
    · have hx : a[k]? = some a[k] := List.getElem?_eq_getElem (by omega)
      rcases Nat.eq_or_lt_of_le h2 with h5 | h5
      · have hF : E = false := by
          rw [h3, decide_eq_false_iff_not]
          intro hh
          have := congrArg List.length hh
          simp at this; omega
        rw [hF]
        conv => whnf
        repeat' (first | ((first | refine zs1 ?_ | refine zs2 ?_ | refine zs3 ?_ | refine zs4 ?_ | refine zs5 ?_ | refine zs6 [] ?_); conv => whnf) | ((first | apply zi1 | apply zi2 | apply zi3 | apply zi4 | apply zi5) <;> intro _ <;> conv => whnf))
        · exact VOut.same rfl
        all_goals omega
      · have hy : b[k]? = some b[k] := List.getElem?_eq_getElem h5
        rw [drop_eq_dec hx hy] at h3
        generalize a[k] = x at hx h3
        generalize b[k] = y at hy h3
        conv => whnf
        repeat' (first | ((first | refine zs1 ?_ | refine zs2 ?_ | refine zs3 ?_ | refine zs4 ?_ | refine zs5 ?_ | refine zs6 [] ?_); conv => whnf) | ((first | apply zi1 | apply zi2 | apply zi3 | apply zi4 | apply zi5) <;> intro _ <;> conv => whnf) | (refine VAny.ix encI_len k rfl rfl hx ?_; conv => whnf) | (refine VAny.ix encI_len k rfl rfl hy ?_; conv => whnf))
        all_goals (try omega)
        all_goals first
          | (rw [decide_eq_false (ne_I (by first | assumption | omega)), Bool.false_and] at h3; rw [h3]; exact VOut.same rfl)
          | (rw [decide_eq_true (eq_I (by first | assumption | omega)), Bool.true_and] at h3
             refine LEnd.intro (k + 1) ⟨by omega, by omega, h3⟩ (by omega) ?_
             conv => whnf
             refine Retell.turn ⟨[], 0, [], []⟩ (TurnOk.mk' _ _ [] [] (OutOk.lift _) rfl (by decide) zb trivial trivial rfl) zw zm)
    · have hk : k = a.length := by omega
      rw [h3, hk, List.drop_length]
      conv => whnf
      repeat' (first | ((first | refine zs1 ?_ | refine zs2 ?_ | refine zs3 ?_ | refine zs4 ?_ | refine zs5 ?_ | refine zs6 [] ?_); conv => whnf) | ((first | apply zi1 | apply zi2 | apply zi3 | apply zi4 | apply zi5) <;> intro _ <;> conv => whnf))
      refine VOut.same ?_
      have : ((a.length : Int) == b.length) = decide ([] = b.drop a.length) := by
        rw [Bool.eq_iff_iff, decide_eq_true_eq, beq_iff_eq]
        constructor
        · intro hh; rw [List.drop_of_length_le (by omega)]
        · intro hh
          have := congrArg List.length hh
          simp at this; omega
      simp only [V.ren, this]
end Go.Proofs.Ytoeendggmalcpaa

open Go.Vm
open Psg
namespace Go.Proofs.Ytoeendggmalcpaa
set_option maxRecDepth 20000
set_option maxHeartbeats 4000000
theorem top30 : eqTop Try.prog 30 = some (Sh.cons 0 1 false Sh.int (Sh.cons 1 1 false Sh.int (Sh.cons 2 1 false Sh.int (Sh.nil)))) := by kernel_rfl
theorem vneqH (x y : Hd) : vaggeq Try.prog .neq 30 (vHd x) (vHd y) = some (B (decide (¬ x = y))) := by
  have : (!((x.p == y.p) && ((x.d == y.d) && ((x.s == y.s) && true)))) = decide (¬ x = y) := by
    obtain ⟨a0, a1, a2⟩ := x; obtain ⟨b0, b1, b2⟩ := y
    rw [Bool.eq_iff_iff, decide_eq_true_eq]; simp [-not_and, and_assoc]; omega
  rw [← this]
  unfold vaggeq
  rw [top30]
  rfl
theorem top40 : eqTop Try.prog 40 = some (Sh.cons 0 1 false Sh.int (Sh.cons 1 1 false Sh.int (Sh.cons 2 1 false Sh.int (Sh.cons 3 1 false Sh.int (Sh.cons 4 1 false Sh.int (Sh.cons 5 1 false Sh.int (Sh.cons 6 2 true (Sh.cons 0 1 false Sh.int (Sh.cons 1 1 false Sh.int Sh.nil)) Sh.nil))))))) := by kernel_rfl
theorem vneqW (x y : Wy) : vaggeq Try.prog .neq 40 (vWy x) (vWy y) = some (B (decide (¬ x = y))) := by
  have : (!((x.f == y.f) && ((x.t == y.t) && ((x.d == y.d) && ((x.h == y.h) && ((x.n == y.n) && ((x.g == y.g) && (((x.lo == y.lo) && ((x.hi == y.hi) && true)) && true)))))))) = decide (¬ x = y) := by
    obtain ⟨a0, a1, a2, a3, a4, a5, a6, a7⟩ := x; obtain ⟨b0, b1, b2, b3, b4, b5, b6, b7⟩ := y
    rw [Bool.eq_iff_iff, decide_eq_true_eq]; simp [-not_and, and_assoc]; omega
  rw [← this]
  unfold vaggeq
  rw [top40]
  rfl
theorem vc_kequalH (a b : List Hd) (h : Hp) (ha : a.length ≤ 4000000) (hb : b.length ≤ 4000000) : VC Try.prog 43 [hds a, hds b] h (B (decide (a = b))) h := by
  obtain ⟨E, hE⟩ : ∃ E, E = decide (a = b) := ⟨_, rfl⟩
  rw [← hE]
  refine VC.body Try.func43 rfl Try.ntmps43 Try.call43 (h.grows_refl) rfl ?_; conv => whnf
  refine VCode.lp (fun k : Nat => [(0, hds a), (1, hds b), (4, B false), (7, I a.length), (8, I k)]) (fun _ => []) (fun k => k ≤ a.length ∧ k ≤ b.length ∧ E = decide (a.drop k = b.drop k)) (fun k => a.length - k) 0 ⟨Nat.zero_le _, Nat.zero_le _, hE⟩ ?_ ?_
  · conv => whnf
    refine Retell.turn ⟨[], 0, [], []⟩ (TurnOk.mk' _ _ [] [] (OutOk.lift _) rfl (by decide) zb trivial trivial rfl) zw zm
  · rintro k ⟨h1, h2, h3⟩
    conv => whnf
    refine VIte.dec (fun h4 => ?_) (fun h4 => ?_)
    · have hx : a[k]? = some a[k] := List.getElem?_eq_getElem (by omega)
      rcases Nat.eq_or_lt_of_le h2 with h5 | h5
      · have hF : E = false := by
          rw [h3, decide_eq_false_iff_not]
          intro hh
          have := congrArg List.length hh
          simp at this; omega
        rw [hF]
        conv => whnf
        repeat' (first | ((first | refine zs1 ?_ | refine zs2 ?_ | refine zs3 ?_ | refine zs4 ?_ | refine zs5 ?_ | refine zs6 [] ?_); conv => whnf) | ((first | apply zi1 | apply zi2 | apply zi3 | apply zi4 | apply zi5) <;> intro _ <;> conv => whnf))
        · exact VOut.same rfl
        all_goals omega
      · have hy : b[k]? = some b[k] := List.getElem?_eq_getElem h5
        rw [drop_eq_dec hx hy] at h3
        generalize a[k] = x at hx h3
        generalize b[k] = y at hy h3
        conv => whnf
        repeat' (first | ((first | refine zs1 ?_ | refine zs2 ?_ | refine zs3 ?_ | refine zs4 ?_ | refine zs5 ?_ | refine zs6 [] ?_); conv => whnf) | ((first | apply zi1 | apply zi2 | apply zi3 | apply zi4 | apply zi5) <;> intro _ <;> conv => whnf) | (refine VAny.ix encHd_len k rfl rfl hx ?_; conv => whnf) | (refine VAny.ix encHd_len k rfl rfl hy ?_; conv => whnf) | (refine VAgg.intro (vneqH _ _) ?_; conv => whnf))
        all_goals (try omega)
        all_goals first
          | (rw [decide_eq_false (ne_X (by first | assumption | omega)), Bool.false_and] at h3; rw [h3]; exact VOut.same rfl)
          | (rw [decide_eq_true (eq_X (by first | assumption | omega)), Bool.true_and] at h3
             refine LEnd.intro (k + 1) ⟨by omega, by omega, h3⟩ (by omega) ?_
             conv => whnf
             refine Retell.turn ⟨[], 0, [], []⟩ (TurnOk.mk' _ _ [] [] (OutOk.lift _) rfl (by decide) zb trivial trivial rfl) zw zm)
    · have hk : k = a.length := by omega
      rw [h3, hk, List.drop_length]
      conv => whnf
      repeat' (first | ((first | refine zs1 ?_ | refine zs2 ?_ | refine zs3 ?_ | refine zs4 ?_ | refine zs5 ?_ | refine zs6 [] ?_); conv => whnf) | ((first | apply zi1 | apply zi2 | apply zi3 | apply zi4 | apply zi5) <;> intro _ <;> conv => whnf))
      refine VOut.same ?_
      have : ((a.length : Int) == b.length) = decide ([] = b.drop a.length) := by
        rw [Bool.eq_iff_iff, decide_eq_true_eq, beq_iff_eq]
        constructor
        · intro hh; rw [List.drop_of_length_le (by omega)]
        · intro hh
          have := congrArg List.length hh
          simp at this; omega
      simp only [V.ren, this]
theorem vc_kequalW (a b : List Wy) (h : Hp) (ha : a.length ≤ 4000000) (hb : b.length ≤ 4000000) : VC Try.prog 86 [wys a, wys b] h (B (decide (a = b))) h := by
  obtain ⟨E, hE⟩ : ∃ E, E = decide (a = b) := ⟨_, rfl⟩
  rw [← hE]
  refine VC.body Try.func86 rfl Try.ntmps86 Try.call86 (h.grows_refl) rfl ?_; conv => whnf
  refine VCode.lp (fun k : Nat => [(0, wys a), (1, wys b), (4, B false), (7, I a.length), (8, I k)]) (fun _ => []) (fun k => k ≤ a.length ∧ k ≤ b.length ∧ E = decide (a.drop k = b.drop k)) (fun k => a.length - k) 0 ⟨Nat.zero_le _, Nat.zero_le _, hE⟩ ?_ ?_
  · conv => whnf
    refine Retell.turn ⟨[], 0, [], []⟩ (TurnOk.mk' _ _ [] [] (OutOk.lift _) rfl (by decide) zb trivial trivial rfl) zw zm
  · rintro k ⟨h1, h2, h3⟩
    conv => whnf
    refine VIte.dec (fun h4 => ?_) (fun h4 => ?_)
    · have hx : a[k]? = some a[k] := List.getElem?_eq_getElem (by omega)
      rcases Nat.eq_or_lt_of_le h2 with h5 | h5
      · have hF : E = false := by
          rw [h3, decide_eq_false_iff_not]
          intro hh
          have := congrArg List.length hh
          simp at this; omega
        rw [hF]
        conv => whnf
        repeat' (first | ((first | refine zs1 ?_ | refine zs2 ?_ | refine zs3 ?_ | refine zs4 ?_ | refine zs5 ?_ | refine zs6 [] ?_); conv => whnf) | ((first | apply zi1 | apply zi2 | apply zi3 | apply zi4 | apply zi5) <;> intro _ <;> conv => whnf))
        · exact VOut.same rfl
        all_goals omega
      · have hy : b[k]? = some b[k] := List.getElem?_eq_getElem h5
        rw [drop_eq_dec hx hy] at h3
        generalize a[k] = x at hx h3
        generalize b[k] = y at hy h3
        conv => whnf
        repeat' (first | ((first | refine zs1 ?_ | refine zs2 ?_ | refine zs3 ?_ | refine zs4 ?_ | refine zs5 ?_ | refine zs6 [] ?_); conv => whnf) | ((first | apply zi1 | apply zi2 | apply zi3 | apply zi4 | apply zi5) <;> intro _ <;> conv => whnf) | (refine VAny.ix encWy_len k rfl rfl hx ?_; conv => whnf) | (refine VAny.ix encWy_len k rfl rfl hy ?_; conv => whnf) | (refine VAgg.intro (vneqW _ _) ?_; conv => whnf))
        all_goals (try omega)
        all_goals first
          | (rw [decide_eq_false (ne_X (by first | assumption | omega)), Bool.false_and] at h3; rw [h3]; exact VOut.same rfl)
          | (rw [decide_eq_true (eq_X (by first | assumption | omega)), Bool.true_and] at h3
             refine LEnd.intro (k + 1) ⟨by omega, by omega, h3⟩ (by omega) ?_
             conv => whnf
             refine Retell.turn ⟨[], 0, [], []⟩ (TurnOk.mk' _ _ [] [] (OutOk.lift _) rfl (by decide) zb trivial trivial rfl) zw zm)
    · have hk : k = a.length := by omega
      rw [h3, hk, List.drop_length]
      conv => whnf
      repeat' (first | ((first | refine zs1 ?_ | refine zs2 ?_ | refine zs3 ?_ | refine zs4 ?_ | refine zs5 ?_ | refine zs6 [] ?_); conv => whnf) | ((first | apply zi1 | apply zi2 | apply zi3 | apply zi4 | apply zi5) <;> intro _ <;> conv => whnf))
      refine VOut.same ?_
      have : ((a.length : Int) == b.length) = decide ([] = b.drop a.length) := by
        rw [Bool.eq_iff_iff, decide_eq_true_eq, beq_iff_eq]
        constructor
        · intro hh; rw [List.drop_of_length_le (by omega)]
        · intro hh
          have := congrArg List.length hh
          simp at this; omega
      simp only [V.ren, this]
end Go.Proofs.Ytoeendggmalcpaa

open Go.Vm
open Psg
namespace Go.Proofs.Ytoeendggmalcpaa
set_option maxRecDepth 20000
set_option maxHeartbeats 4000000
theorem nt_eq (a b : Nt) : decide (a = b) = (decide (a.p = b.p) && decide (a.ws = b.ws)) := by
  rw [Bool.eq_iff_iff, Bool.and_eq_true, decide_eq_true_eq, decide_eq_true_eq, decide_eq_true_eq]
  cases a; cases b; simp
theorem vc_equal (a b : Nt) (h : Hp) (h1 : a.ws.length ≤ 4000000) (h2 : b.ws.length ≤ 4000000) : VC Try.prog 42 [vN a, vN b] h (B (decide (a = b))) h := by
  have c := fun h => vc_kequalW a.ws b.ws h h1 h2
  rw [nt_eq]
  generalize decide (a.ws = b.ws) = y at *
  by_cases hp : a.p = b.p
  · rw [decide_eq_true hp, Bool.true_and]
    refine VC.body Try.func42 rfl Try.ntmps42 Try.call42 (h.grows_refl) rfl ?_; conv => whnf
    repeat' (first | ((first | refine zs1 ?_ | refine zs2 ?_ | refine zs3 ?_ | refine zs4 ?_ | refine zs5 ?_); conv => whnf) | ((first | apply zi1 | apply zi2 | apply zi3 | apply zi4 | apply zi5) <;> intro _ <;> conv => whnf) | (refine VCall.intro (c _) ?_; conv => whnf))
    all_goals first | contradiction | (exfalso; omega) | skip
    exact VOut.same rfl
  · rw [decide_eq_false hp, Bool.false_and]
    refine VC.body Try.func42 rfl Try.ntmps42 Try.call42 (h.grows_refl) rfl ?_; conv => whnf
    repeat' (first | ((first | refine zs1 ?_ | refine zs2 ?_ | refine zs3 ?_ | refine zs4 ?_ | refine zs5 ?_); conv => whnf) | ((first | apply zi1 | apply zi2 | apply zi3 | apply zi4 | apply zi5) <;> intro _ <;> conv => whnf))
    all_goals first | contradiction | (exfalso; omega) | skip
    exact VOut.same rfl
end Go.Proofs.Ytoeendggmalcpaa

open Go.Vm
open Psg
namespace Go.Proofs.Ytoeendggmalcpaa
set_option maxRecDepth 20000
set_option maxHeartbeats 4000000
theorem vc_Led (a b c d e f g i : Int) (h : Hp) : VC Try.prog 20 [I a, I b, I c, I d, I e, I f, I g, I i] h (vWy ⟨a, b, c, d, e, f, g, i⟩) h := by
  refine VC.body Try.func20 rfl Try.ntmps20 Try.call20 (h.grows_refl) rfl ?_; conv => whnf
  repeat' (first | ((first | refine zs1 ?_ | refine zs2 ?_ | refine zs3 ?_ | refine zs4 ?_ | refine zs5 ?_); conv => whnf) | ((first | apply zi1 | apply zi2 | apply zi3 | apply zi4 | apply zi5) <;> intro _ <;> conv => whnf))
  exact VOut.same rfl
theorem vc_Net (N : Nt) (h : Hp) (hn : N.ws.length ≤ 4000000) : VC Try.prog 31 [vN N] h (vN N) h := by
  refine VC.body Try.func31 rfl Try.ntmps31 Try.call31 (h.grows_refl) rfl ?_; conv => whnf
  repeat' (first | ((first | refine zs1 ?_ | refine zs2 ?_ | refine zs3 ?_ | refine zs4 ?_ | refine zs5 ?_); conv => whnf) | ((first | apply zi1 | apply zi2 | apply zi3 | apply zi4 | apply zi5) <;> intro _ <;> conv => whnf))
  refine VCode.lp (outer := h.lift) (marks := []) (fun k : Nat => [(2, .ptr (.loc 0) 0), (3, .ptr (.loc 1) 0), (10, wys N.ws), (11, I N.ws.length), (12, I k)]) (fun k => [.flat true [DI 0, .nilslice], .cells true [I N.p, .gl (.loc 2) 8 (N.ws.take k).length], .flat true ((N.ws.take k).flatMap encWy)]) (fun k => k ≤ N.ws.length) (fun k => N.ws.length - k) 0 (Nat.zero_le _) ?_ ?_
  · conv => whnf
    refine Retell.turn ⟨[1,2,3], 3, [], []⟩ (TurnOk.mk' _ _ [] [] (OutOk.lift _) rfl (by decide) zb trivial trivial rfl) zw zm
  · intro k hk
    rcases Nat.lt_or_ge k N.ws.length with h3 | h3
    · have hw : N.ws[k]? = some N.ws[k] := List.getElem?_eq_getElem h3
      have ht : N.ws.take (k + 1) = N.ws.take k ++ [N.ws[k]] := by rw [List.take_add_one, hw]; rfl
      have hl : (N.ws.take k).length ≤ 4000000 := by rw [List.length_take]; omega
      generalize N.ws[k] = w at hw ht
      generalize N.ws.take k = W at ht hl ⊢
      conv => whnf
      repeat' (first | ((first | refine zs1 ?_ | refine zs2 ?_ | refine zs3 ?_ | refine zs4 ?_ | refine zs5 ?_); conv => whnf) | ((first | apply zi1 | apply zi2 | apply zi3 | apply zi4 | apply zi5) <;> intro _ <;> conv => whnf) | (refine VAny.ix encWy_len k rfl rfl hw ?_; conv => whnf) | (refine VMem.app1 (l := W) w encWy_len rfl rfl rfl rfl rfl (by omega) ?_; conv => whnf))
      all_goals try (exfalso; omega)
      refine LEnd.intro (k + 1) (by omega) (by omega) ?_
      rw [ht, List.length_append]
      conv => whnf
      refine Retell.turn ⟨[0,1,5], 6, [], []⟩ (TurnOk.mk' _ _ [] [] (OutOk.lift _) rfl (by decide) zb trivial trivial rfl) zw zm
    · rw [List.take_of_length_le h3]
      have hfl : (N.ws.flatMap encWy).length = N.ws.length * 8 := flat_len encWy_len _
      conv => whnf
      repeat' (first | ((first | refine zs1 ?_ | refine zs2 ?_ | refine zs3 ?_ | refine zs4 ?_ | refine zs5 ?_); conv => whnf) | ((first | apply zi1 | apply zi2 | apply zi3 | apply zi4 | apply zi5) <;> intro _ <;> conv => whnf))
      all_goals try (exfalso; omega)
      refine VOut.data 3 [(2, N.ws.flatMap encWy)] [] rfl zf (by exact FmAll.nil) zw
end Go.Proofs.Ytoeendggmalcpaa

open Go.Vm
open Psg
namespace Go.Proofs.Ytoeendggmalcpaa
set_option maxRecDepth 20000
set_option maxHeartbeats 4000000
theorem vc_kequalA (a b : List (List Int)) (h : Hp) (ha : a.length ≤ 4000000) (hb : b.length ≤ 4000000) (ha2 : ∀ x ∈ a, x.length ≤ 4000000) (hb2 : ∀ x ∈ b, x.length ≤ 4000000) : VC Try.prog 56 [intss a, intss b] h (B (decide (a = b))) h := by
  obtain ⟨E, hE⟩ : ∃ E, E = decide (a = b) := ⟨_, rfl⟩
  rw [← hE]
  refine VC.body Try.func56 rfl Try.ntmps56 Try.call56 (h.grows_refl) rfl ?_; conv => whnf
  refine VCode.lp (fun k : Nat => [(0, intss a), (1, intss b), (4, B false), (7, I a.length), (8, I k)]) (fun _ => []) (fun k => k ≤ a.length ∧ k ≤ b.length ∧ E = decide (a.drop k = b.drop k)) (fun k => a.length - k) 0 ⟨Nat.zero_le _, Nat.zero_le _, hE⟩ ?_ ?_
  · conv => whnf
    refine Retell.turn ⟨[], 0, [], []⟩ (TurnOk.mk' _ _ [] [] (OutOk.lift _) rfl (by decide) zb trivial trivial rfl) zw zm
  · rintro k ⟨h1, h2, h3⟩
    conv => whnf
    refine VIte.dec (fun h4 => ?_) (fun h4 => ?_)
    · have hx : a[k]? = some a[k] := List.getElem?_eq_getElem (by omega)
      rcases Nat.eq_or_lt_of_le h2 with h5 | h5
      · have hF : E = false := by
          rw [h3, decide_eq_false_iff_not]
          intro hh
          have := congrArg List.length hh
          simp at this; omega
        rw [hF]
        conv => whnf
        repeat' (first | ((first | refine zs1 ?_ | refine zs2 ?_ | refine zs3 ?_ | refine zs4 ?_ | refine zs5 ?_ | refine zs6 [] ?_); conv => whnf) | ((first | apply zi1 | apply zi2 | apply zi3 | apply zi4 | apply zi5) <;> intro _ <;> conv => whnf))
        · exact VOut.same rfl
        all_goals omega
      · have hy : b[k]? = some b[k] := List.getElem?_eq_getElem h5
        rw [drop_eq_dec hx hy] at h3
        have hxl := ha2 _ (List.mem_of_getElem? hx)
        have hyl := hb2 _ (List.mem_of_getElem? hy)
        generalize a[k] = x at hx h3 hxl
        generalize b[k] = y at hy h3 hyl
        have cE := fun h => vc_kequalI x y h hxl hyl
        by_cases hxy : x = y
        · rw [decide_eq_true hxy] at cE h3
          rw [Bool.true_and] at h3
          conv => whnf
          repeat' (first | ((first | refine zs1 ?_ | refine zs2 ?_ | refine zs3 ?_ | refine zs4 ?_ | refine zs5 ?_ | refine zs6 [] ?_); conv => whnf) | ((first | apply zi1 | apply zi2 | apply zi3 | apply zi4 | apply zi5) <;> intro _ <;> conv => whnf) | (refine VAny.ix encL_len k rfl rfl hx ?_; conv => whnf) | (refine VAny.ix encL_len k rfl rfl hy ?_; conv => whnf) | (refine VCall.intro (cE _) ?_; conv => whnf))
          all_goals try (exfalso; omega)
          refine LEnd.intro (k + 1) ⟨by omega, by omega, h3⟩ (by omega) ?_
          conv => whnf
          refine Retell.turn ⟨[], 0, [], []⟩ (TurnOk.mk' _ _ [] [] (OutOk.lift _) rfl (by decide) zb trivial trivial rfl) zw zm
        · rw [decide_eq_false hxy] at cE h3
          rw [Bool.false_and] at h3
          rw [h3]
          conv => whnf
          repeat' (first | ((first | refine zs1 ?_ | refine zs2 ?_ | refine zs3 ?_ | refine zs4 ?_ | refine zs5 ?_ | refine zs6 [] ?_); conv => whnf) | ((first | apply zi1 | apply zi2 | apply zi3 | apply zi4 | apply zi5) <;> intro _ <;> conv => whnf) | (refine VAny.ix encL_len k rfl rfl hx ?_; conv => whnf) | (refine VAny.ix encL_len k rfl rfl hy ?_; conv => whnf) | (refine VCall.intro (cE _) ?_; conv => whnf))
          all_goals try (exfalso; omega)
          exact VOut.same rfl
    · have hk : k = a.length := by omega
      rw [h3, hk, List.drop_length]
      conv => whnf
      repeat' (first | ((first | refine zs1 ?_ | refine zs2 ?_ | refine zs3 ?_ | refine zs4 ?_ | refine zs5 ?_ | refine zs6 [] ?_); conv => whnf) | ((first | apply zi1 | apply zi2 | apply zi3 | apply zi4 | apply zi5) <;> intro _ <;> conv => whnf))
      refine VOut.same ?_
      have : ((a.length : Int) == b.length) = decide ([] = b.drop a.length) := by
        rw [Bool.eq_iff_iff, decide_eq_true_eq, beq_iff_eq]
        constructor
        · intro hh; rw [List.drop_of_length_le (by omega)]
        · intro hh
          have := congrArg List.length hh
          simp at this; omega
      simp only [V.ren, this]
theorem vc_kcloneA (T : List (List Int)) (h : Hp) (hT : T.length ≤ 4000000) (h2 : ∀ x ∈ T, x.length ≤ 4000000) : VC Try.prog 52 [intss T] h (intss T) h := by
  refine VC.body Try.func52 rfl Try.ntmps52 Try.call52 (h.grows_refl) rfl ?_; conv => whnf
  repeat' (first | ((first | refine zs1 ?_ | refine zs2 ?_ | refine zs3 ?_ | refine zs4 ?_ | refine zs5 ?_); conv => whnf) | ((first | apply zi1 | apply zi2 | apply zi3 | apply zi4 | apply zi5) <;> intro _ <;> conv => whnf))
  refine VCode.lp (outer := h.lift) (marks := []) (fun k : Nat => [(3, .gl (.loc 0) 1 (T.take k).length), (6, intss T), (7, I T.length), (8, I k)]) (fun k => [.flat true ((T.take k).flatMap encL)]) (fun k => k ≤ T.length) (fun k => T.length - k) 0 (Nat.zero_le _) ?_ ?_
  · conv => whnf
    refine Retell.turn ⟨[0], 0, [], []⟩ (TurnOk.mk' _ _ [] [] (OutOk.lift _) rfl (by decide) zb trivial trivial rfl) zw zm
  · intro k hk
    rcases Nat.lt_or_ge k T.length with h3 | h3
    · have hw : T[k]? = some T[k] := List.getElem?_eq_getElem h3
      have ht : T.take (k + 1) = T.take k ++ [T[k]] := by rw [List.take_add_one, hw]; rfl
      have hl : (T.take k).length ≤ 4000000 := by rw [List.length_take]; omega
      have hwl := h2 _ (List.mem_of_getElem? hw)
      generalize T[k] = w at hw ht hwl
      generalize T.take k = W at ht hl ⊢
      have c := fun h => vc_kcloneI w h hwl
      conv => whnf
      repeat' (first | ((first | refine zs1 ?_ | refine zs2 ?_ | refine zs3 ?_ | refine zs4 ?_ | refine zs5 ?_); conv => whnf) | ((first | apply zi1 | apply zi2 | apply zi3 | apply zi4 | apply zi5) <;> intro _ <;> conv => whnf) | (refine VAny.ix encL_len k rfl rfl hw ?_; conv => whnf) | (refine VCall.intro (c _) ?_; conv => whnf) | (refine VMem.app1 (l := W) w encL_len rfl rfl rfl rfl rfl (by omega) ?_; conv => whnf))
      all_goals try (exfalso; omega)
      refine LEnd.intro (k + 1) (by omega) (by omega) ?_
      rw [ht, List.length_append]
      conv => whnf
      refine Retell.turn ⟨[2], 3, [], []⟩ (TurnOk.mk' _ _ [] [] (OutOk.lift _) rfl (by decide) zb trivial trivial rfl) zw zm
    · rw [List.take_of_length_le h3]
      conv => whnf
      repeat' (first | ((first | refine zs1 ?_ | refine zs2 ?_ | refine zs3 ?_ | refine zs4 ?_ | refine zs5 ?_); conv => whnf) | ((first | apply zi1 | apply zi2 | apply zi3 | apply zi4 | apply zi5) <;> intro _ <;> conv => whnf))
      all_goals try (exfalso; omega)
      refine VOut.data 1 [(0, T.flatMap encL)] [] rfl zf (by exact FmAll.nil) zw
end Go.Proofs.Ytoeendggmalcpaa

open Go.Vm
open Psg
namespace Go.Proofs.Ytoeendggmalcpaa
set_option maxRecDepth 20000
set_option maxHeartbeats 4000000
def lngB (N : Nt) (T : List (List Int)) : Bool := decide (28 < N.ws.length) || T.any fun l => decide (30 < l.length)
theorem any_at {T : List (List Int)} {k : Nat} {x : List Int} (q : List Int → Bool) (h : T[k]? = some x) : (T.drop k).any q = (q x || (T.drop (k + 1)).any q) := by
  obtain ⟨h1, rfl⟩ := List.getElem?_eq_some_iff.1 h
  rw [List.drop_eq_getElem_cons h1, List.any_cons]
theorem vc_long (N : Nt) (T : List (List Int)) (h : Hp) (hT : T.length ≤ 4000000) : VC Try.prog 28 [vN N, intss T] h (B (lngB N T)) h := by
  obtain ⟨E, hE⟩ : ∃ E, E = lngB N T := ⟨_, rfl⟩
  rw [← hE]
  unfold lngB at hE
  by_cases h1 : 28 < N.ws.length
  · rw [decide_eq_true h1, Bool.true_or] at hE
    rw [hE]
    refine VC.body Try.func28 rfl Try.ntmps28 Try.call28 (h.grows_refl) rfl ?_; conv => whnf
    repeat' (first | ((first | refine zs1 ?_ | refine zs2 ?_ | refine zs3 ?_ | refine zs4 ?_ | refine zs5 ?_); conv => whnf) | ((first | apply zi1 | apply zi2 | apply zi3 | apply zi4 | apply zi5) <;> intro _ <;> conv => whnf))
    all_goals try (exfalso; omega)
    exact VOut.same rfl
  · rw [decide_eq_false h1, Bool.false_or] at hE
    refine VC.body Try.func28 rfl Try.ntmps28 Try.call28 (h.grows_refl) rfl ?_; conv => whnf
    repeat' (first | ((first | refine zs1 ?_ | refine zs2 ?_ | refine zs3 ?_ | refine zs4 ?_ | refine zs5 ?_); conv => whnf) | ((first | apply zi1 | apply zi2 | apply zi3 | apply zi4 | apply zi5) <;> intro _ <;> conv => whnf))
    all_goals try (exfalso; omega)
    refine VCode.lp (outer := h.lift) (marks := []) (fun k : Nat => [(11, intss T), (12, I T.length), (13, I k)]) (fun _ => []) (fun k => k ≤ T.length ∧ E = (T.drop k).any fun l => decide (30 < l.length)) (fun k => T.length - k) 0 ⟨Nat.zero_le _, hE⟩ ?_ ?_
    · conv => whnf
      refine Retell.turn ⟨[], 1, [], []⟩ (TurnOk.mk' _ _ [] [] (OutOk.lift _) rfl (by decide) zb trivial trivial rfl) zw zm
    · rintro k ⟨k1, k2⟩
      rcases Nat.lt_or_ge k T.length with h3 | h3
      · have hw : T[k]? = some T[k] := List.getElem?_eq_getElem h3
        rw [any_at _ hw] at k2
        generalize T[k] = w at hw k2
        by_cases h5 : 30 < w.length
        · rw [decide_eq_true h5, Bool.true_or] at k2
          rw [k2]
          conv => whnf
          repeat' (first | ((first | refine zs1 ?_ | refine zs2 ?_ | refine zs3 ?_ | refine zs4 ?_ | refine zs5 ?_); conv => whnf) | ((first | apply zi1 | apply zi2 | apply zi3 | apply zi4 | apply zi5) <;> intro _ <;> conv => whnf) | (refine VAny.ix encL_len k rfl rfl hw ?_; conv => whnf))
          all_goals try (exfalso; omega)
          exact VOut.same rfl
        · rw [decide_eq_false h5, Bool.false_or] at k2
          conv => whnf
          repeat' (first | ((first | refine zs1 ?_ | refine zs2 ?_ | refine zs3 ?_ | refine zs4 ?_ | refine zs5 ?_); conv => whnf) | ((first | apply zi1 | apply zi2 | apply zi3 | apply zi4 | apply zi5) <;> intro _ <;> conv => whnf) | (refine VAny.ix encL_len k rfl rfl hw ?_; conv => whnf))
          all_goals try (exfalso; omega)
          refine LEnd.intro (k + 1) ⟨by omega, k2⟩ (by omega) ?_
          conv => whnf
          refine Retell.turn ⟨[], 0, [], []⟩ (TurnOk.mk' _ _ [] [] (OutOk.lift _) rfl (by decide) zb trivial trivial rfl) zw zm
      · rw [List.drop_of_length_le h3, List.any_nil] at k2
        rw [k2]
        conv => whnf
        repeat' (first | ((first | refine zs1 ?_ | refine zs2 ?_ | refine zs3 ?_ | refine zs4 ?_ | refine zs5 ?_); conv => whnf) | ((first | apply zi1 | apply zi2 | apply zi3 | apply zi4 | apply zi5) <;> intro _ <;> conv => whnf))
        all_goals try (exfalso; omega)
        exact VOut.same rfl
end Go.Proofs.Ytoeendggmalcpaa

open Go.Vm
namespace Go.Proofs.Ytoeendggmalcpaa
set_option maxRecDepth 20000
set_option maxHeartbeats 4000000

abbrev DU (n : Int) : D := .s (.int .u32 n)
def encU (n : Int) : List D := [.s (.int .u8 n)]
theorem encU_len (n : Int) : (encU n).length = 1 := rfl
def bytes (l : List Int) : V := .fs 1 l.length (l.flatMap encU)
def deckD (bs : List Int) (n s : Int) : List D := [.sl 1 bs.length (bs.flatMap encU), DI n, DU s]
def OkB (bs : List Int) : Prop := ∀ x ∈ bs, 0 ≤ x ∧ x ≤ 255
theorem VOut.setS {h : Hp} {loc : List Blk} {i : Vm.Id} {b0 : Blk} {l : List D} {rw : Bool} {x : S} {L : Nat} (hL : Nat.ble loc.length L = true) (hb : h.get i = some b0) : VOut h ⟨outW h.lift i (.flat rw l), loc⟩ (.s x) (.s x) (h.set i (.flat rw l)) := by
  have hd : ∀ p ∈ [(i, Blk.flat rw l)], h.get p.1 ≠ none := by
    intro p hp
    simp only [List.mem_cons, List.not_mem_nil, or_false] at hp
    subst hp; simp only; rw [hb]; simp
  have := VOut.upd (loc := loc) (r1 := .s x) (r := .s x) [(i, .flat rw l)] [] [] L hL hd (by simp) rfl (by intro k b hk; simp at hk) (fun σ x hx => hx) (outer := outW h.lift i (.flat rw l)) rfl
  have he : (h.sets [(i, Blk.flat rw l)]).pushes [] = h.set i (.flat rw l) := by simp [Hp.sets, Hp.pushes]
  rw [he] at this
  exact this
theorem set_same {h : Hp} {i : Vm.Id} {b : Blk} (hb : h.get i = some b) : h.set i b = h := by
  cases i with
  | out i =>
    have hb : h.outer i = some b := hb
    obtain ⟨o, l⟩ := h
    simp only [Hp.set]
    congr 1
    funext j
    split
    · rename_i e; rw [e]; exact hb.symm
    · rfl
  | loc k =>
    have hb : h.loc[k]? = some b := hb
    obtain ⟨o, l⟩ := h
    simp only [Hp.set]
    congr 1
    obtain ⟨h1, h2⟩ := List.getElem?_eq_some_iff.1 hb
    rw [← h2]; exact List.set_getElem_self h1
theorem VOut.set2 {h : Hp} {loc : List Blk} {i : Vm.Id} {b0 b1 : Blk} {l : List D} {rw : Bool} {x : S} (hb : h.get i = some b0) : VOut h ⟨outW (outW h.lift i b1) i (.flat rw l), loc⟩ (.s x) (.s x) (h.set i (.flat rw l)) := by
  rw [outW_same]
  exact VOut.setS (L := loc.length) (by simp) hb
theorem vc_Draw0 (bs : List Int) (n s k : Int) (i : Vm.Id) (h : Hp) (hb : h.get i = some (.flat true (deckD bs n s))) (hk : k ≤ 1 ∨ bs = []) : VC Try.prog 44 [.ptr i 0, I k] h (I 0) (h.set i (.flat true (deckD bs n s))) := by
  rw [set_same hb]
  have hl : k ≤ 1 ∨ bs.length = 0 := by rcases hk with h1 | h1; exact .inl h1; exact .inr (by rw [h1]; rfl)
  refine VC.body Try.func44 rfl Try.ntmps44 Try.call44 (h.grows_refl) rfl ?_; conv => whnf
  repeat' (first | ((first | refine zs1 ?_ | refine zs2 ?_ | refine zs3 ?_ | refine zs4 ?_ | refine zs5 ?_); conv => whnf) | ((first | apply zi1 | apply zi2 | apply zi3 | apply zi4 | apply zi5) <;> intro _ <;> conv => whnf) | (refine VLd.flat rfl rfl (get_out hb _) rfl ?_; conv => whnf))
  · exact VOut.same rfl
  · exact VOut.same rfl
  · exfalso; omega
def dRd (bs : List Int) (N : Nat) : Int := IntKind.u32.wrap (IntKind.i64.wrap ((N : Int).tdiv (bs.length : Int)))
def dkS (bs : List Int) (N : Nat) (s c : Int) : Int := (IntKind.u32.wrap (IntKind.u32.wrap (IntKind.u32.wrap (s * 37) + IntKind.u32.wrap c) + IntKind.u32.wrap (101 * dRd bs N))).tmod 65521
def dR (bs : List Int) (N : Nat) (s k c : Int) : Int := if k ≤ 256 ∧ dRd bs N = 0 then (IntKind.i64.wrap (IntKind.u32.wrap c)).tmod k else (IntKind.i64.wrap (IntKind.u32.wrap (IntKind.u32.wrap (dkS bs N s c * 256) + IntKind.u32.wrap c))).tmod k
theorem u32_bd (n : Int) : 0 ≤ IntKind.u32.wrap n ∧ IntKind.u32.wrap n < 4294967296 := by
  unfold IntKind.wrap; simp [IntKind.bits, IntKind.signed]; omega
theorem tmod_bd {a k : Int} (ha : 0 ≤ a) (hk : 0 < k) : 0 ≤ a.tmod k ∧ a.tmod k < k := by
  rw [Int.tmod_eq_emod_of_nonneg ha]
  exact ⟨Int.emod_nonneg _ (by omega), Int.emod_lt_of_pos _ hk⟩
theorem dR_bd (bs : List Int) (N : Nat) (s c : Int) {k : Int} (hk : 0 < k) : 0 ≤ dR bs N s k c ∧ dR bs N s k c < k := by
  unfold dR
  split
  · have := u32_bd c
    rw [wrap_i64 (by omega)]
    exact tmod_bd this.1 hk
  · have := u32_bd (IntKind.u32.wrap (dkS bs N s c * 256) + IntKind.u32.wrap c)
    rw [wrap_i64 (by omega)]
    exact tmod_bd this.1 hk
theorem vc_Draw1 (bs : List Int) (N : Nat) (s k c : Int) (i : Vm.Id) (h : Hp) (hb : h.get i = some (.flat true (deckD bs N s))) (hk : 1 < k) (hc : bs[N % bs.length]? = some c) (hN : N ≤ 4000000000) :
    VC Try.prog 44 [.ptr i 0, I k] h (I (dR bs N s k c)) (h.set i (.flat true (deckD bs ((N : Int) + 1) (dkS bs N s c)))) := by
  have hlen : 0 < bs.length := by
    have := (List.getElem?_eq_some_iff.1 hc).1
    omega
  have hneB : ((bs.length : Int) != 0) = true := by rw [bne_iff_ne]; omega
  obtain ⟨R, hR⟩ : ∃ R, R = dR bs N s k c := ⟨_, rfl⟩
  rw [← hR]
  unfold dR at hR
  refine VC.body Try.func44 rfl Try.ntmps44 Try.call44 (h.grows_set _ _) rfl ?_
  conv => whnf
  repeat' (first | ((first | refine zs1 ?_ | refine zs2 ?_ | refine zs3 ?_ | refine zs4 ?_ | refine zs5 ?_ | refine zs6 [] ?_); conv => whnf) | ((first | apply zi1 | apply zi2 | apply zi3 | apply zi4 | apply zi5) <;> intro _ <;> conv => whnf) | (refine VLd.flat rfl rfl (get_out hb _) rfl ?_; conv => whnf) | (refine VAny.ix encU_len (N % bs.length) (by rfl) rfl hc ?_; conv => whnf) | (refine VLd.flat rfl rfl (outW_get _ _ _ _) rfl ?_; conv => whnf) | (refine VMem.st1 rfl rfl rfl (get_out hb _) rfl ?_; conv => whnf) | (refine VMem.st1 rfl rfl rfl (outW_get _ _ _ _) rfl ?_; conv => whnf) | (refine VArith.wr ?_; conv => whnf) | (refine VNeed.intro hneB ?_; conv => whnf))
  · exfalso; omega
  · exfalso; omega
  · rename_i h1 h2
    have h2 : dRd bs N = 0 := h2
    rw [if_pos ⟨h1, h2⟩] at hR
    subst hR
    refine VOut.set2 hb
  · rename_i h1 h2
    have h2 : ¬ dRd bs N = 0 := h2
    rw [if_neg (fun h => h2 h.2)] at hR
    subst hR
    refine VOut.set2 hb
  · rename_i h1
    rw [if_neg (fun h => h1 h.1)] at hR
    subst hR
    refine VOut.set2 hb
theorem vc_Draw (bs : List Int) (N : Nat) (s k : Int) (hN : N ≤ 4000000000) : ∃ (r s' : Int) (N' : Nat), 0 ≤ r ∧ (r = 0 ∨ r < k) ∧ N' ≤ N + 1 ∧ ∀ (i : Vm.Id) (h : Hp), h.get i = some (.flat true (deckD bs N s)) → VC Try.prog 44 [.ptr i 0, I k] h (I r) (h.set i (.flat true (deckD bs N' s'))) := by
  by_cases hk : k ≤ 1 ∨ bs = []
  · exact ⟨0, s, N, Int.le_refl _, .inl rfl, by omega, fun i h hb => vc_Draw0 bs N s k i h hb hk⟩
  · have hlen := List.length_pos_iff.2 (fun h => hk (.inr h))
    obtain ⟨c, hc⟩ : ∃ c, bs[N % bs.length]? = some c := ⟨_, List.getElem?_eq_getElem (Nat.mod_lt _ hlen)⟩
    obtain ⟨q1, q2⟩ := dR_bd bs N s c (k := k) (by omega)
    exact ⟨_, _, N + 1, q1, .inr q2, Nat.le_refl _, fun i h hb => vc_Draw1 bs N s k _ i h hb (by omega) hc hN⟩
theorem vc_Between (bs : List Int) (N : Nat) (s a b : Int) (hN : N ≤ 4000000000) (ha : -1000000 ≤ a ∧ a ≤ 1000000) (hb : -1000000 ≤ b ∧ b ≤ 1000000) (hab : a ≤ b) : ∃ (r s' : Int) (N' : Nat), a ≤ r ∧ r ≤ b ∧ N' ≤ N + 1 ∧ ∀ (i : Vm.Id) (h : Hp), h.get i = some (.flat true (deckD bs N s)) → VC Try.prog 57 [.ptr i 0, I a, I b] h (I r) (h.set i (.flat true (deckD bs N' s'))) := by
  obtain ⟨r, s', N', h1, h2, h3, h4⟩ := vc_Draw bs N s (b - a + 1) hN
  refine ⟨a + r, s', N', by omega, by omega, h3, fun i h hb2 => ?_⟩
  refine VC.body Try.func57 rfl Try.ntmps57 Try.call57 (h.grows_set _ _) rfl ?_
  conv => whnf
  repeat' (first | ((first | refine zs1 ?_ | refine zs2 ?_ | refine zs3 ?_ | refine zs4 ?_ | refine zs5 ?_ | refine zs6 [] ?_); conv => whnf) | ((first | apply zi1 | apply zi2 | apply zi3 | apply zi4 | apply zi5) <;> intro _ <;> conv => whnf) | (refine VCall.intro (h4 (.out i) _ (get_out hb2 _)) ?_; conv => whnf))
  exact VOut.setS (L := 0) rfl hb2
theorem vc_Coin (bs : List Int) (N : Nat) (s k : Int) (hN : N ≤ 4000000000) : ∃ (r : Bool) (s' : Int) (N' : Nat), N' ≤ N + 1 ∧ ∀ (i : Vm.Id) (h : Hp), h.get i = some (.flat true (deckD bs N s)) → VC Try.prog 45 [.ptr i 0, I k] h (B r) (h.set i (.flat true (deckD bs N' s'))) := by
  obtain ⟨r, s', N', h1, h2, h3, h4⟩ := vc_Draw bs N s k hN
  refine ⟨r == 0, s', N', h3, fun i h hb2 => ?_⟩
  refine VC.body Try.func45 rfl Try.ntmps45 Try.call45 (h.grows_set _ _) rfl ?_
  conv => whnf
  repeat' (first | ((first | refine zs1 ?_ | refine zs2 ?_ | refine zs3 ?_ | refine zs4 ?_ | refine zs5 ?_ | refine zs6 [] ?_); conv => whnf) | ((first | apply zi1 | apply zi2 | apply zi3 | apply zi4 | apply zi5) <;> intro _ <;> conv => whnf) | (refine VCall.intro (h4 (.out i) _ (get_out hb2 _)) ?_; conv => whnf))
  exact VOut.setS (L := 0) rfl hb2
def dNx (bs : List Int) (d : Nat × Int) (k : Int) : Int × (Nat × Int) :=
  if k ≤ 1 ∨ bs = [] then (0, d) else (dR bs d.1 d.2 k (bs.getD (d.1 % bs.length) 0), (d.1 + 1, dkS bs d.1 d.2 (bs.getD (d.1 % bs.length) 0)))
def deckB (bs : List Int) (d : Nat × Int) : Blk := .flat true (deckD bs d.1 d.2)
theorem dNx_bd (bs : List Int) (d : Nat × Int) (k : Int) : 0 ≤ (dNx bs d k).1 ∧ ((dNx bs d k).1 = 0 ∨ (dNx bs d k).1 < k) ∧ (dNx bs d k).2.1 ≤ d.1 + 1 := by
  unfold dNx
  split
  · exact ⟨Int.le_refl _, .inl rfl, by simp only; omega⟩
  · rename_i h
    obtain ⟨q1, q2⟩ := dR_bd bs d.1 d.2 (bs.getD (d.1 % bs.length) 0) (k := k) (by omega)
    exact ⟨q1, .inr q2, Nat.le_refl _⟩
theorem vc_draw (bs : List Int) (d : Nat × Int) (k : Int) (i : Vm.Id) (h : Hp) (hN : d.1 ≤ 4000000000) (hb : h.get i = some (deckB bs d)) : VC Try.prog 44 [.ptr i 0, I k] h (I (dNx bs d k).1) (h.set i (deckB bs (dNx bs d k).2)) := by
  unfold dNx deckB at *
  split
  · rename_i hk; exact vc_Draw0 bs d.1 d.2 k i h hb hk
  · rename_i hk
    have hlen := List.length_pos_iff.2 (fun h => hk (.inr h))
    have hc : bs[d.1 % bs.length]? = some (bs.getD (d.1 % bs.length) 0) := by simp [List.getElem?_eq_getElem (Nat.mod_lt d.1 hlen)]
    exact vc_Draw1 bs d.1 d.2 k _ i h hb (by omega) hc hN
theorem vc_between (bs : List Int) (d : Nat × Int) (a b : Int) (i : Vm.Id) (h : Hp) (hN : d.1 ≤ 4000000000) (ha : -1000000 ≤ a ∧ a ≤ 1000000) (hb : -1000000 ≤ b ∧ b ≤ 1000000) (hd : h.get i = some (deckB bs d)) : VC Try.prog 57 [.ptr i 0, I a, I b] h (I (a + (dNx bs d (b - a + 1)).1)) (h.set i (deckB bs (dNx bs d (b - a + 1)).2)) := by
  have hbd := dNx_bd bs d (b - a + 1)
  have hD := fun i h hh => vc_draw bs d (b - a + 1) i h hN hh
  generalize dNx bs d (b - a + 1) = x at hbd hD
  refine VC.body Try.func57 rfl Try.ntmps57 Try.call57 (h.grows_set _ _) rfl ?_
  conv => whnf
  repeat' (first | ((first | refine zs1 ?_ | refine zs2 ?_ | refine zs3 ?_ | refine zs4 ?_ | refine zs5 ?_ | refine zs6 [] ?_); conv => whnf) | ((first | apply zi1 | apply zi2 | apply zi3 | apply zi4 | apply zi5) <;> intro _ <;> conv => whnf) | (refine VCall.intro (hD (.out i) _ (get_out hd _)) ?_; conv => whnf))
  exact VOut.setS (L := 0) rfl hd
theorem vc_coin (bs : List Int) (d : Nat × Int) (k : Int) (i : Vm.Id) (h : Hp) (hN : d.1 ≤ 4000000000) (hd : h.get i = some (deckB bs d)) : VC Try.prog 45 [.ptr i 0, I k] h (B ((dNx bs d k).1 == 0)) (h.set i (deckB bs (dNx bs d k).2)) := by
  have hD := fun i h hh => vc_draw bs d k i h hN hh
  generalize dNx bs d k = x at hD
  refine VC.body Try.func45 rfl Try.ntmps45 Try.call45 (h.grows_set _ _) rfl ?_
  conv => whnf
  repeat' (first | ((first | refine zs1 ?_ | refine zs2 ?_ | refine zs3 ?_ | refine zs4 ?_ | refine zs5 ?_ | refine zs6 [] ?_); conv => whnf) | ((first | apply zi1 | apply zi2 | apply zi3 | apply zi4 | apply zi5) <;> intro _ <;> conv => whnf) | (refine VCall.intro (hD (.out i) _ (get_out hd _)) ?_; conv => whnf))
  exact VOut.setS (L := 0) rfl hd
theorem VOut.ownP {h : Hp} {loc : List Blk} {ds : List D} (j L : Nat) (hL : Nat.ble loc.length L = true) (hj : loc[j]? = some (.flat true ds)) : VOut h ⟨h.lift, loc⟩ (.ptr (.loc j) 0) (.ptr h.fresh 0) (h.push (.flat true ds)) := by
  refine VOut.upd [] [.flat true ds] [j] L hL (by intro p hp; cases hp) (by simp) rfl ?_ ?_ rfl
  · intro k b hk
    cases k with
    | zero => rw [List.getElem?_cons_zero, Option.some.injEq] at hk; subst hk; exact ⟨j, rfl, hj⟩
    | succ k => simp at hk
  · intro σ x hx
    have : (V.ptr h.fresh 0).ren (backR h.loc.length [j] L) = .ptr (.loc j) 0 := by simp [V.ren, backR, Hp.fresh]
    rw [this]; exact hx
theorem vc_Of (bs : List Int) (h : Hp) : VC Try.prog 14 [bytes bs] h (.ptr h.fresh 0) (h.push (deckB bs (0, 9))) := by
  refine VC.body Try.func14 rfl Try.ntmps14 Try.call14 (h.grows_push _) rfl ?_
  conv => whnf
  repeat (first | ((first | refine zs1 ?_ | refine zs2 ?_ | refine zs3 ?_ | refine zs4 ?_ | refine zs5 ?_ | refine zs6 [] ?_); conv => whnf))
  exact VOut.ownP 0 1 rfl rfl
theorem VOut.setF {h : Hp} {loc : List Blk} {i : Vm.Id} {b0 : Blk} {l : List D} {rw : Bool} {r : V} {L : Nat} (hL : Nat.ble loc.length L = true) (hb : h.get i = some b0) (hr : ∀ ρ, r.ren ρ = r) : VOut h ⟨outW h.lift i (.flat rw l), loc⟩ r r (h.set i (.flat rw l)) := by
  have hd : ∀ p ∈ [(i, Blk.flat rw l)], h.get p.1 ≠ none := by
    intro p hp
    simp only [List.mem_cons, List.not_mem_nil, or_false] at hp
    subst hp; simp only; rw [hb]; simp
  have := VOut.upd (loc := loc) (r1 := r) (r := r) [(i, .flat rw l)] [] [] L hL hd (by simp) rfl (by intro k b hk; simp at hk) (fun σ x hx => by rw [hr]; exact hx) (outer := outW h.lift i (.flat rw l)) rfl
  have he : (h.sets [(i, Blk.flat rw l)]).pushes [] = h.set i (.flat rw l) := by simp [Hp.sets, Hp.pushes]
  rw [he] at this
  exact this
end Go.Proofs.Ytoeendggmalcpaa

open Go.Vm
namespace Go.Vm
theorem VCut.atO {P : Program} {ro : Option Nat} {c : Code} {n : Nat} {fr : Fr} {outer0 : Id → Option Blk} {loc0 : List Blk} {marks : List Id} {Q : X → St → Prop} (m : Nat) (slots : List (Nat × V)) (outer : Id → Option Blk) (loc : List Blk) (ho : outer0 = outer)
    (hst : frSK slots .leaf fun fr' => Retell isOut ⟨n, fr, ⟨outer, loc0⟩, marks⟩ ⟨n, fr', ⟨outer, loc⟩, marks⟩)
    (hb : frSK slots .leaf fun fr' => vcut P ro isOut m c ⟨n, fr', ⟨outer, loc⟩, marks⟩ Q) : VCut P ro isOut c ⟨n, fr, ⟨outer0, loc0⟩, marks⟩ Q := by
  subst ho
  exact VCut.at' m slots loc hst hb
end Go.Vm
namespace Go.Vm
theorem VMem.make0 {P : Program} {t : TypeId} {e esz bytes : Nat} {zero : List V} {s_ : Nat} {a_ : Bool} {z_ : V} {h : Hp} {n : Nat} {c : Int} {K : V → Hp → Prop} (hTt : tiOf P t = some ⟨.slice e esz bytes zero, s_, a_, z_⟩)
    (hc : c = n) (hby : Nat.ble bytes 1048576 = true) (h63 : n ≤ 134217728) (hK : K (.gl h.fresh esz 0) (h.push (.flat true []))) : VMem P (opMakeSlice t) [.s (.int .i64 0), .s (.int .i64 c)] h K := by
  subst hc
  have hbd := mul_bd hby h63
  refine VMem.intro (does_makeSlice (b' := .flat true []) (zs := []) (tiOf_ok P) hTt ⟨Int.le_refl _, by omega⟩ (by have h7 := Int.ofNat_le.2 hbd; rw [Int.natCast_mul] at h7; exact h7) (by omega) rfl ?_) hK
  simp [zeroAt]
end Go.Vm
namespace Go.Proofs.Ytoeendggmalcpaa
set_option maxRecDepth 20000
set_option maxHeartbeats 4000000

/-! A deck that is shuffled. -/
abbrev DS := Nat × Int
def swp (l : List Int) (i k : Nat) : List Int := (l.set i (l.getD k 0)).set k (l.getD i 0)
def shGo (bs : List Int) : Nat → DS × List Int → DS × List Int
  | 0, x => x
  | m + 1, x => if m = 0 then x else shGo bs m ((dNx bs x.1 ((m + 1 : Nat) : Int)).2, swp x.2 m (dNx bs x.1 ((m + 1 : Nat) : Int)).1.toNat)
def shX (bs : List Int) (d : DS) (n : Nat) : DS × List Int := shGo bs n (d, (List.range n).map (fun i : Nat => (i : Int)))
theorem swp_len (l : List Int) (i k : Nat) : (swp l i k).length = l.length := by simp [swp]
theorem perm_sum {α : Type} (f : α → Int) {a b : List α} (h : a.Perm b) : (a.map f).sum = (b.map f).sum := by
  induction h with
  | nil => rfl
  | cons x _ ih => simp [ih]
  | swap x y l => simp; omega
  | trans _ _ h1 h2 => exact h1.trans h2
structure Prm (n : Nat) (l : List Int) : Prop where
  perm : l.Perm ((List.range n).map (fun i : Nat => (i : Int)))
theorem Prm.len {n : Nat} {l : List Int} (h : Prm n l) : l.length = n := by
  rw [h.perm.length_eq]; simp
theorem Prm.mem {n : Nat} {l : List Int} (h : Prm n l) {x : Int} : x ∈ l ↔ ∃ j : Nat, j < n ∧ x = j := by
  rw [h.perm.mem_iff, List.mem_map]
  constructor
  · rintro ⟨j, hj, rfl⟩; exact ⟨j, List.mem_range.1 hj, rfl⟩
  · rintro ⟨j, hj, rfl⟩; exact ⟨j, List.mem_range.2 hj, rfl⟩
theorem Prm.swp {n : Nat} {l : List Int} (h : Prm n l) {i k : Nat} (hi : i < n) (hk : k < n) : Prm n (swp l i k) := by
  have hi' : i < l.length := by rw [h.len]; exact hi
  have hk' : k < l.length := by rw [h.len]; exact hk
  refine ⟨List.Perm.trans ?_ h.perm⟩
  unfold Go.Proofs.Ytoeendggmalcpaa.swp
  have e1 : l.getD k 0 = l[k] := by rw [List.getD_eq_getElem?_getD, List.getElem?_eq_getElem hk']; rfl
  have e2 : l.getD i 0 = l[i] := by rw [List.getD_eq_getElem?_getD, List.getElem?_eq_getElem hi']; rfl
  rw [e1, e2]
  exact List.set_set_perm hi' hk'
theorem range_prm (n : Nat) : Prm n ((List.range n).map (fun i : Nat => (i : Int))) := ⟨List.Perm.refl _⟩
theorem shGo_prm {bs : List Int} {n : Nat} : ∀ (m : Nat) (x : DS × List Int), m ≤ n → Prm n x.2 → Prm n (shGo bs m x).2 ∧ (shGo bs m x).1.1 ≤ x.1.1 + m
  | 0, x, _, h => ⟨h, by simp [shGo]⟩
  | m + 1, x, hm, h => by
    rw [shGo]
    split
    · exact ⟨h, by omega⟩
    · obtain ⟨a1, a2, a3⟩ := dNx_bd bs x.1 ((m + 1 : Nat) : Int)
      have := shGo_prm (bs := bs) m ((dNx bs x.1 ((m + 1 : Nat) : Int)).2, swp x.2 m (dNx bs x.1 ((m + 1 : Nat) : Int)).1.toNat) (by omega) (h.swp (by omega) (by omega))
      exact ⟨this.1, by have := this.2; dsimp only at this; omega⟩
theorem shX_prm (bs : List Int) (d : DS) (n : Nat) : Prm n (shX bs d n).2 ∧ (shX bs d n).1.1 ≤ d.1 + n := shGo_prm n _ (Nat.le_refl _) (range_prm n)
theorem vc_Shuffle (bs : List Int) (d : DS) (n : Nat) (i : Vm.Id) (h : Hp) (hn : n ≤ 1000) (hN : d.1 ≤ 1000000) (hd : h.get i = some (deckB bs d)) : VC Try.prog 18 [.ptr i 0, I n] h (ints (shX bs d n).2) (h.set i (deckB bs (shX bs d n).1)) := by
  obtain ⟨R, hR⟩ : ∃ R, R = shX bs d n := ⟨_, rfl⟩
  rw [← hR]
  unfold shX at hR
  have hmx : max 0 (n : Int) = n := by omega
  refine VC.body Try.func18 rfl Try.ntmps18 Try.call18 (h.grows_set _ _) rfl ?_
  conv => whnf
  repeat' (first | ((first | refine zs1 ?_ | refine zs2 ?_ | refine zs3 ?_ | refine zs4 ?_ | refine zs5 ?_ | refine zs6 [] ?_); conv => whnf) | ((first | apply zi1 | apply zi2 | apply zi3 | apply zi4 | apply zi5) <;> intro _ <;> conv => whnf))
  rw [hmx]
  refine VMem.make0 rfl rfl rfl (by omega) ?_
  conv => whnf
  repeat (first | ((first | refine zs1 ?_ | refine zs2 ?_ | refine zs3 ?_ | refine zs4 ?_ | refine zs5 ?_ | refine zs6 [] ?_); conv => whnf))
  rw [hmx]
  refine VCode.lp (fun k : Nat => [(0, .ptr (.out i) 0), (5, .gl (.loc 0) 1 k), (13, I n), (14, I k)]) (fun k => [.flat true ((((List.range n).map (fun i : Nat => (i : Int))).take k).flatMap Vm.encI)]) (fun k => k ≤ n) (fun k => n - k) 0 (Nat.zero_le _) ?_ ?_
  · conv => whnf
    refine Retell.turn ⟨[0], 1, [], []⟩ (TurnOk.mk' _ _ [] [] (OutOk.lift _) rfl (by decide) zb trivial trivial rfl) zw zm
  · intro k hk
    have hlen : (((List.range n).map (fun i : Nat => (i : Int))).take k).length = k := by rw [List.length_take, List.length_map, List.length_range]; omega
    conv => whnf
    refine VIte.dec (fun h3 => ?_) (fun h3 => ?_)
    · have htk : ((List.range n).map (fun i : Nat => (i : Int))).take (k + 1) = ((List.range n).map (fun i : Nat => (i : Int))).take k ++ [(k : Int)] := by
        rw [List.take_add_one, List.getElem?_map, List.getElem?_range (by omega)]; rfl
      conv => whnf
      repeat' (first | ((first | refine zs1 ?_ | refine zs2 ?_ | refine zs3 ?_ | refine zs4 ?_ | refine zs5 ?_); conv => whnf) | ((first | apply zi1 | apply zi2 | apply zi3 | apply zi4 | apply zi5) <;> intro _ <;> conv => whnf))
      refine VMem.app1 (l := ((List.range n).map (fun i : Nat => (i : Int))).take k) (k : Int) encI_len rfl rfl rfl hlen.symm rfl (by omega) ?_
      rw [← htk]
      conv => whnf
      repeat' (first | ((first | refine zs1 ?_ | refine zs2 ?_ | refine zs3 ?_ | refine zs4 ?_ | refine zs5 ?_); conv => whnf) | ((first | apply zi1 | apply zi2 | apply zi3 | apply zi4 | apply zi5) <;> intro _ <;> conv => whnf))
      refine LEnd.intro (k + 1) (by omega) (by omega) ?_
      conv => whnf
      refine Retell.turn ⟨[2], 3, [], []⟩ (TurnOk.mk' _ _ [] [] (OutOk.lift _) rfl (by decide) zb trivial trivial rfl) zw zm
    · have hkn : k = n := by omega
      subst hkn
      rw [show ((List.range k).map (fun i : Nat => (i : Int))).take k = (List.range k).map (fun i : Nat => (i : Int)) by rw [List.take_of_length_le (by simp)]]
      conv => whnf
      repeat' (first | ((first | refine zs1 ?_ | refine zs2 ?_ | refine zs3 ?_ | refine zs4 ?_ | refine zs5 ?_); conv => whnf) | ((first | apply zi1 | apply zi2 | apply zi3 | apply zi4 | apply zi5) <;> intro _ <;> conv => whnf))
      refine VCode.lpo (fun y : Nat × (DS × List Int) => [(0, .ptr (.out i) 0), (5, .gl (.loc 0) 1 k), (7, I y.1)]) (fun y => outW h.lift i (deckB bs y.2.1)) (fun y => [.flat true (y.2.2.flatMap Vm.encI)]) (fun y => y.1 ≤ k ∧ Prm k y.2.2 ∧ R = shGo bs y.1 y.2 ∧ y.2.1.1 + y.1 ≤ d.1 + k) (fun y => y.1) (k, (d, (List.range k).map (fun i : Nat => (i : Int)))) ⟨Nat.le_refl _, range_prm k, hR, Nat.le_refl _⟩ ?_ ?_ ?_
      · exact outW_id (o := h.lift) (get_out hd [])
      · conv => whnf
        refine Retell.turn ⟨[0], 1, [], []⟩ (TurnOk.mk' _ _ [] [] (OutOk.outW (OutOk.lift _) rfl) rfl (by decide) zb trivial trivial rfl) zw zm
      · rintro ⟨m, e, l⟩ ⟨h1, h2, h4, h5⟩
        dsimp only at h1 h2 h4 h5
        conv => whnf
        refine VIte.dec (fun h3 => ?_) (fun h3 => ?_)
        · obtain ⟨q, rfl⟩ : ∃ q, m = q + 1 := ⟨m - 1, by omega⟩
          rw [shGo, if_neg (by omega)] at h4
          have y1 := dNx_bd bs e ((q + 1 : Nat) : Int)
          have g1 := fun (h2 : Hp) hh => vc_draw bs e ((q + 1 : Nat) : Int) (.out i) h2 (by omega) hh
          dsimp only at h4
          generalize dNx bs e ((q + 1 : Nat) : Int) = z at y1 g1 h4
          obtain ⟨u, hu⟩ : ∃ u : Nat, z.1 = u := ⟨z.1.toNat, by omega⟩
          rw [hu] at g1
          rw [hu, Int.toNat_natCast] at h4
          have hp := h2.swp (i := q) (k := u) (by omega) (by omega)
          have hll := h2.len
          have lq : l[q]? = some l[q] := List.getElem?_eq_getElem (by omega)
          have lu : l[u]? = some l[u] := List.getElem?_eq_getElem (by omega)
          have dq : l.getD q 0 = l[q] := by rw [List.getD_eq_getElem?_getD, lq]; rfl
          have du : l.getD u 0 = l[u] := by rw [List.getD_eq_getElem?_getD, lu]; rfl
          unfold swp at hp h4
          rw [dq, du] at hp h4
          have lu2 : ∃ a, (l.set q l[u])[u]? = some a := ⟨_, List.getElem?_eq_getElem (by rw [List.length_set]; omega)⟩
          obtain ⟨a2, lu2⟩ := lu2
          generalize l[q] = A at *
          generalize l[u] = B at *
          conv => whnf
          repeat' (first | ((first | refine zs1 ?_ | refine zs2 ?_ | refine zs3 ?_ | refine zs4 ?_ | refine zs5 ?_); conv => whnf) | ((first | apply zi1 | apply zi2 | apply zi3 | apply zi4 | apply zi5) <;> intro _ <;> conv => whnf) | (refine VCall.intro (g1 _ (outW_get _ _ _ _)) ?_; conv => whnf))
          refine zs6 [] ?_
          conv => whnf
          repeat' (first | ((first | refine zs1 ?_ | refine zs2 ?_ | refine zs3 ?_ | refine zs4 ?_ | refine zs5 ?_); conv => whnf) | ((first | apply zi1 | apply zi2 | apply zi3 | apply zi4 | apply zi5) <;> intro _ <;> conv => whnf) | (refine VLd.recc encI_len u 0 rfl rfl rfl lu (by decide) rfl (by simp only [Nat.zero_add, Nat.mul_one]; omega) ?_; conv => whnf) | (refine VLd.recc encI_len q 0 rfl rfl rfl lq (by decide) rfl (by simp only [Nat.zero_add, Nat.mul_one]; omega) ?_; conv => whnf))
          refine VMem.setRec encI_len q 0 B rfl rfl rfl lq (by decide) rfl (by simp only [Nat.zero_add, Nat.mul_one]; omega) ?_
          conv => whnf
          repeat' (first | ((first | refine zs1 ?_ | refine zs2 ?_ | refine zs3 ?_ | refine zs4 ?_ | refine zs5 ?_); conv => whnf) | ((first | apply zi1 | apply zi2 | apply zi3 | apply zi4 | apply zi5) <;> intro _ <;> conv => whnf))
          refine VMem.setRec encI_len u 0 A rfl rfl rfl lu2 (by decide) rfl (by simp only [Nat.zero_add, Nat.mul_one]; omega) ?_
          conv => whnf
          repeat' (first | ((first | refine zs1 ?_ | refine zs2 ?_ | refine zs3 ?_ | refine zs4 ?_ | refine zs5 ?_); conv => whnf) | ((first | apply zi1 | apply zi2 | apply zi3 | apply zi4 | apply zi5) <;> intro _ <;> conv => whnf))
          refine LEndO.intro (q, _) ⟨by dsimp only; omega, hp, h4, by dsimp only; omega⟩ (by dsimp only; omega) ?_ ?_
          · funext j; by_cases e : j = i <;> simp [outW, e, Hp.set]
          · conv => whnf
            refine Retell.turn ⟨[0], 1, [], []⟩ (TurnOk.mk' _ _ [] [] (OutOk.outW (OutOk.lift _) rfl) rfl (by decide) zb trivial trivial rfl) zw zm
        · have hm : m = 0 ∨ m = 1 := by omega
          have hRl : R = (e, l) := by
            rcases hm with rfl | rfl
            · rw [h4, shGo]
            · rw [h4, shGo, if_pos rfl]
          subst hRl
          have hlk := h2.len
          rw [← hlk]
          conv => whnf
          repeat' (first | ((first | refine zs1 ?_ | refine zs2 ?_ | refine zs3 ?_ | refine zs4 ?_ | refine zs5 ?_); conv => whnf) | ((first | apply zi1 | apply zi2 | apply zi3 | apply zi4 | apply zi5) <;> intro _ <;> conv => whnf))
          refine VOut.turn ⟨[], 1, [(0, l.flatMap Vm.encI)], []⟩ (loc' := []) (r1' := ints l) (TurnOk.mk' [] 1 [(0, l.flatMap Vm.encI)] [] (OutOk.outW (OutOk.lift _) rfl) rfl List.nodup_nil BTos.nil (FzAll.flat rfl FzAll.nil) trivial rfl) zw ?_
          exact VOut.setF (L := 0) rfl hd fun _ => rfl
end Go.Proofs.Ytoeendggmalcpaa

open Go.Vm
open Psg
namespace Go.Proofs.Ytoeendggmalcpaa
set_option maxRecDepth 20000
set_option maxHeartbeats 4000000
/-! ### A herd that is dealt -/
def hr1 (bs : List Int) (d : DS) (p : Int) : Int × DS := dNx bs d p
def hr2 (bs : List Int) (d : DS) (p : Int) : Int × DS := dNx bs (hr1 bs d p).2 20
def hr3 (bs : List Int) (d : DS) (p : Int) : Int × DS := dNx bs (hr2 bs d p).2 16
def hr4 (bs : List Int) (d : DS) (p : Int) : Int × DS := dNx bs (hr3 bs d p).2 16
def hrN (bs : List Int) (d : DS) (p : Int) : Hd × DS := (⟨(hr1 bs d p).1, (hr2 bs d p).1, pand (hr3 bs d p).1 (hr4 bs d p).1⟩, (hr4 bs d p).2)
theorem vc_Herded (bs : List Int) (d : DS) (N : Nt) (i : Vm.Id) (h : Hp) (hN : d.1 ≤ 3000000000) (hd : h.get i = some (deckB bs d)) : VC Try.prog 16 [.ptr i 0, vN N] h (vHd (hrN bs d N.p).1) (h.set i (deckB bs (hrN bs d N.p).2)) := by
  have c1 := fun (h2 : Hp) hh => vc_draw bs d N.p (.out i) h2 (by omega) hh
  have a := dNx_bd bs d N.p
  rw [show dNx bs d N.p = hr1 bs d N.p from rfl] at c1 a
  have c2 := fun (h2 : Hp) hh => vc_draw bs (hr1 bs d N.p).2 20 (.out i) h2 (by omega) hh
  have b := dNx_bd bs (hr1 bs d N.p).2 20
  rw [show dNx bs (hr1 bs d N.p).2 20 = hr2 bs d N.p from rfl] at c2 b
  have c3 := fun (h2 : Hp) hh => vc_draw bs (hr2 bs d N.p).2 16 (.out i) h2 (by omega) hh
  have c := dNx_bd bs (hr2 bs d N.p).2 16
  rw [show dNx bs (hr2 bs d N.p).2 16 = hr3 bs d N.p from rfl] at c3 c
  have c4 := fun (h2 : Hp) hh => vc_draw bs (hr3 bs d N.p).2 16 (.out i) h2 (by omega) hh
  have e := dNx_bd bs (hr3 bs d N.p).2 16
  rw [show dNx bs (hr3 bs d N.p).2 16 = hr4 bs d N.p from rfl] at c4 e
  unfold hrN
  generalize hr4 bs d N.p = w at *
  generalize hr3 bs d N.p = z at *
  generalize hr2 bs d N.p = y at *
  generalize hr1 bs d N.p = x at *
  have p3 : Pp z.1 := ⟨c.1, by omega⟩
  have p4 : Pp w.1 := ⟨e.1, by omega⟩
  refine VC.body Try.func16 rfl Try.ntmps16 Try.call16 (h.grows_set _ _) rfl ?_; conv => whnf
  repeat' (first | ((first | refine zs1 ?_ | refine zs2 ?_ | refine zs3 ?_ | refine zs4 ?_ | refine zs5 ?_); conv => whnf) | ((first | apply zi1 | apply zi2 | apply zi3 | apply zi4 | apply zi5) <;> intro _ <;> conv => whnf) | (refine VCall.intro (c1 _ (get_out hd _)) ?_; conv => whnf) | (refine VCall.intro (c2 _ (outW_get _ _ _ _)) ?_; conv => whnf) | (refine VCall.intro (c3 _ (outW_get _ _ _ _)) ?_; conv => whnf) | (refine VCall.intro (c4 _ (outW_get _ _ _ _)) ?_; conv => whnf) | (refine zand p3 p4 ?_; conv => whnf))
  refine (show VOut h ⟨outW (outW (outW (outW h.lift i (deckB bs x.2)) i (deckB bs y.2)) i (deckB bs z.2)) i (deckB bs w.2), _⟩ _ _ _ from ?_)
  rw [outW_same, outW_same, outW_same]
  exact VOut.setF (L := 3) rfl hd fun _ => rfl
end Go.Proofs.Ytoeendggmalcpaa

open Go.Vm
open Psg
namespace Go.Proofs.Ytoeendggmalcpaa
set_option maxRecDepth 20000
set_option maxHeartbeats 4000000
/-! ### A net that is dealt -/
def m1 (bs : List Int) (P : Int) (d : DS) : Int × DS := dNx bs d P
def m2 (bs : List Int) (P : Int) (d : DS) : Int × DS := dNx bs (m1 bs P d).2 20
def m3 (bs : List Int) (P : Int) (d : DS) : Int × DS := dNx bs (m2 bs P d).2 (P - 1 - 1 + 1)
def m4 (bs : List Int) (P : Int) (d : DS) : Int × DS := dNx bs (m3 bs P d).2 8
def m5 (bs : List Int) (P : Int) (d : DS) : Int × DS := dNx bs (m4 bs P d).2 20
def m6 (bs : List Int) (P : Int) (d : DS) : Int × DS := dNx bs (m5 bs P d).2 30
def m7 (bs : List Int) (P : Int) (d : DS) : Int × DS := dNx bs (m6 bs P d).2 3
def cnD (bs : List Int) (r : Int × DS) : Int × DS := if r.1 = 0 then dNx bs r.2 16 else (0, r.2)
def m8 (bs : List Int) (P : Int) (d : DS) : Int × DS := cnD bs (m7 bs P d)
def m9 (bs : List Int) (P : Int) (d : DS) : Int × DS := dNx bs (m8 bs P d).2 3
def m10 (bs : List Int) (P : Int) (d : DS) : Int × DS := cnD bs (m9 bs P d)
def mTo (bs : List Int) (P : Int) (d : DS) : Int := ((m1 bs P d).1 + (1 + (m3 bs P d).1)).tmod P
def mWy (bs : List Int) (P : Int) (d : DS) : Wy := ⟨(m1 bs P d).1, mTo bs P d, (m4 bs P d).1, (m5 bs P d).1, (m8 bs P d).1, (m10 bs P d).1, (m2 bs P d).1, (m2 bs P d).1 + (m6 bs P d).1⟩
def mIt (bs : List Int) (P : Int) (u : DS × List Wy) : Nat → DS × List Wy
  | 0 => u
  | k + 1 => ((m10 bs P (mIt bs P u k).1).2, (mIt bs P u k).2 ++ [mWy bs P (mIt bs P u k).1])
def mdX (bs : List Int) (d : DS) (p : Int) : Int × DS := dNx bs d (p - 2 + 1)
def mdC (bs : List Int) (d : DS) (p w : Int) : Int × DS := dNx bs (mdX bs d p).2 (w + 1)
def mdS (bs : List Int) (d : DS) (p w : Int) : DS × List Wy := mIt bs (2 + (mdX bs d p).1) ((mdC bs d p w).2, []) (mdC bs d p w).1.toNat
def mdN (bs : List Int) (d : DS) (p w : Int) : Nt := ⟨2 + (mdX bs d p).1, (mdS bs d p w).2⟩
theorem cnD_bd (bs : List Int) (r : Int × DS) : (0 ≤ (cnD bs r).1 ∧ (cnD bs r).1 < 16) ∧ (cnD bs r).2.1 ≤ r.2.1 + 1 := by
  unfold cnD
  split
  · have := dNx_bd bs r.2 16
    exact ⟨⟨this.1, by omega⟩, this.2.2⟩
  · exact ⟨⟨by simp, by simp⟩, by dsimp only; omega⟩
structure MW (n : Nat) (d : DS) (bs : List Int) : Prop where
  a1 : 0 ≤ (m1 bs n d).1 ∧ (m1 bs n d).1 < n
  a2 : 0 ≤ (m2 bs n d).1 ∧ (m2 bs n d).1 < 20
  a3 : 0 ≤ (m3 bs n d).1 ∧ (m3 bs n d).1 < (n : Int) - 1
  a4 : 0 ≤ (m4 bs n d).1 ∧ (m4 bs n d).1 < 8
  a5 : 0 ≤ (m5 bs n d).1 ∧ (m5 bs n d).1 < 20
  a6 : 0 ≤ (m6 bs n d).1 ∧ (m6 bs n d).1 < 30
  a8 : 0 ≤ (m8 bs n d).1 ∧ (m8 bs n d).1 < 16
  a10 : 0 ≤ (m10 bs n d).1 ∧ (m10 bs n d).1 < 16
  d1 : (m1 bs n d).2.1 ≤ d.1 + 1
  d2 : (m2 bs n d).2.1 ≤ d.1 + 2
  d3 : (m3 bs n d).2.1 ≤ d.1 + 3
  d4 : (m4 bs n d).2.1 ≤ d.1 + 4
  d5 : (m5 bs n d).2.1 ≤ d.1 + 5
  d6 : (m6 bs n d).2.1 ≤ d.1 + 6
  d7 : (m7 bs n d).2.1 ≤ d.1 + 7
  d8 : (m8 bs n d).2.1 ≤ d.1 + 8
  d9 : (m9 bs n d).2.1 ≤ d.1 + 9
  d10 : (m10 bs n d).2.1 ≤ d.1 + 10
  to : 0 ≤ mTo bs n d ∧ mTo bs n d < n
  ne : (m1 bs n d).1 ≠ mTo bs n d
theorem mW_ok (bs : List Int) (n : Nat) (d : DS) (hn : 2 ≤ n) : MW n d bs := by
  have b1 := dNx_bd bs d n
  have b2 := dNx_bd bs (m1 bs n d).2 20
  have b3 := dNx_bd bs (m2 bs n d).2 ((n : Int) - 1 - 1 + 1)
  have b4 := dNx_bd bs (m3 bs n d).2 8
  have b5 := dNx_bd bs (m4 bs n d).2 20
  have b6 := dNx_bd bs (m5 bs n d).2 30
  have b7 := dNx_bd bs (m6 bs n d).2 3
  have b8 := cnD_bd bs (m7 bs n d)
  have b9 := dNx_bd bs (m8 bs n d).2 3
  have b10 := cnD_bd bs (m9 bs n d)
  rw [show dNx bs d n = m1 bs n d from rfl] at b1
  rw [show dNx bs (m1 bs n d).2 20 = m2 bs n d from rfl] at b2
  rw [show dNx bs (m2 bs n d).2 ((n : Int) - 1 - 1 + 1) = m3 bs n d from rfl] at b3
  rw [show dNx bs (m3 bs n d).2 8 = m4 bs n d from rfl] at b4
  rw [show dNx bs (m4 bs n d).2 20 = m5 bs n d from rfl] at b5
  rw [show dNx bs (m5 bs n d).2 30 = m6 bs n d from rfl] at b6
  rw [show dNx bs (m6 bs n d).2 3 = m7 bs n d from rfl] at b7
  rw [show cnD bs (m7 bs n d) = m8 bs n d from rfl] at b8
  rw [show dNx bs (m8 bs n d).2 3 = m9 bs n d from rfl] at b9
  rw [show cnD bs (m9 bs n d) = m10 bs n d from rfl] at b10
  have eT : mTo bs n d = ((m1 bs n d).1 + (1 + (m3 bs n d).1)).tmod n := rfl
  generalize mTo bs n d = T at eT
  have hm : ((m1 bs n d).1 + (1 + (m3 bs n d).1)).tmod n = if (m1 bs n d).1 + (1 + (m3 bs n d).1) < n then (m1 bs n d).1 + (1 + (m3 bs n d).1) else (m1 bs n d).1 + (1 + (m3 bs n d).1) - n := by
    rw [Int.tmod_eq_emod_of_nonneg (by omega)]
    split
    · exact Int.emod_eq_of_lt (by omega) (by omega)
    · rw [← Int.sub_emod_right]; exact Int.emod_eq_of_lt (by omega) (by omega)
  rw [hm] at eT
  have hT : (0 ≤ T ∧ T < n) ∧ (m1 bs n d).1 ≠ T := by
    rw [eT]; split <;> omega
  refine ⟨by omega, by omega, by omega, by omega, by omega, by omega, b8.1, b10.1, by omega, by omega, by omega, by omega, by omega, by omega, by omega, by omega, by omega, by omega, ?_, ?_⟩
  · show 0 ≤ mTo bs n d ∧ mTo bs n d < n
    have : mTo bs n d = T := by show Int.tmod _ _ = T; rw [hm, eT]
    rw [this]; exact hT.1
  · have : mTo bs n d = T := by show Int.tmod _ _ = T; rw [hm, eT]
    rw [this]; exact hT.2
theorem mWy_ok {bs : List Int} {n : Nat} {d : DS} (h : MW n d bs) : WOk n (mWy bs n d) ∧ (mWy bs n d).f ≠ (mWy bs n d).t := by
  have h1 := h.a1; have h2 := h.a2; have h4 := h.a4; have h5 := h.a5; have h6 := h.a6
  refine ⟨⟨h.a1, h.to, ?_, ?_, h.a8, h.a10, ?_, ?_⟩, h.ne⟩
  all_goals (unfold mWy; dsimp only; omega)
structure MI (n N k : Nat) (u : DS × List Wy) : Prop where
  dk : u.1.1 ≤ N + 10 * k
  len : u.2.length = k
  ok : ∀ w ∈ u.2, WOk n w ∧ w.f ≠ w.t
theorem mIt_ok {bs : List Int} {n : Nat} (hn : 2 ≤ n) {u : DS × List Wy} {N : Nat} (h : MI n N 0 u) : ∀ k, MI n N k (mIt bs n u k)
  | 0 => h
  | k + 1 => by
    obtain ⟨h1, h2, h3⟩ := mIt_ok (bs := bs) hn h k
    have hw := mW_ok bs n (mIt bs n u k).1 hn
    have hy := mWy_ok hw
    have hd := hw.d10
    rw [mIt]
    refine ⟨by dsimp only; omega, by simp [h2], fun w hm => ?_⟩
    rcases List.mem_append.1 hm with hm | hm
    · exact h3 w hm
    · rw [List.mem_singleton.1 hm]; exact hy
theorem mdN_ok (bs : List Int) (d : DS) {p w : Int} (hp : 2 ≤ p ∧ p ≤ 10) (hw : 0 ≤ w ∧ w ≤ 24) : ∃ n : Nat, NOk n (mdN bs d p w) ∧ 2 ≤ n ∧ (n : Int) ≤ p ∧ (mdS bs d p w).1.1 ≤ d.1 + 250 ∧ (mdN bs d p w).ws.length ≤ w := by
  have b1 := dNx_bd bs d (p - 2 + 1)
  rw [show dNx bs d (p - 2 + 1) = mdX bs d p from rfl] at b1
  have b2 := dNx_bd bs (mdX bs d p).2 (w + 1)
  rw [show dNx bs (mdX bs d p).2 (w + 1) = mdC bs d p w from rfl] at b2
  obtain ⟨n, hn⟩ : ∃ n : Nat, 2 + (mdX bs d p).1 = n := ⟨(2 + (mdX bs d p).1).toNat, by omega⟩
  have hI := mIt_ok (bs := bs) (n := n) (by omega) (u := ((mdC bs d p w).2, [])) (N := (mdC bs d p w).2.1) ⟨by dsimp only; omega, rfl, by simp⟩ (mdC bs d p w).1.toNat
  rw [← hn] at hI
  rw [show mIt bs (2 + (mdX bs d p).1) ((mdC bs d p w).2, []) (mdC bs d p w).1.toNat = mdS bs d p w from rfl] at hI
  have h1 := hI.dk
  have h2 := hI.len
  refine ⟨n, ⟨hn, by omega, ?_, fun v hv => (hI.ok v hv).1, fun v hv => (hI.ok v hv).2⟩, by omega, by omega, by omega, ?_⟩
  · show (mdS bs d p w).2.length ≤ 24; omega
  · show ((mdS bs d p w).2.length : Int) ≤ w; omega
/-! ### Pastures that are dealt -/
abbrev PsT := DS × List Int × List Int
def paS (bs : List Int) (u : PsT) (p : Int) : PsT := ((dNx bs u.1 5).2, if (dNx bs u.1 5).1 = 0 then u.2.1 ++ [p] else u.2.1, if (dNx bs u.1 5).1 = 1 then u.2.2 ++ [p] else u.2.2)
def paI (bs : List Int) (l : List Int) (u : PsT) (k : Nat) : PsT := ((l.drop 2).take k).foldl (paS bs) u
def pa0 (bs : List Int) (d : DS) (n : Nat) : PsT := ((shX bs d n).1, [(shX bs d n).2.getD 0 0], [(shX bs d n).2.getD 1 0])
def paX (bs : List Int) (d : DS) (n : Nat) : PsT := paI bs (shX bs d n).2 (pa0 bs d n) (n - 2)
def paF (bs : List Int) (d : DS) (n : Nat) : List Int := srt (paX bs d n).2.1
def paT (bs : List Int) (d : DS) (n : Nat) : List Int := srt (paX bs d n).2.2
structure PI (N : Nat) (L : List Int) (k : Nat) (u : PsT) : Prop where
  n : u.1.1 ≤ N + k
  fs : ∀ x ∈ u.2.1, x ∈ L.take (k + 2)
  ts : ∀ x ∈ u.2.2, x ∈ L.take (k + 2)
  fn : u.2.1.Nodup
  tn : u.2.2.Nodup
  dj : ∀ x ∈ u.2.1, x ∉ u.2.2
  f0 : 0 < u.2.1.length
  t0 : 0 < u.2.2.length
  fl : u.2.1.length ≤ k + 1
  tl : u.2.2.length ≤ k + 1
theorem nd_at {l : List Int} (h : l.Nodup) {i j : Nat} (hi : i < l.length) (hj : j < l.length) (hij : i < j) : l[i] ≠ l[j] := by
  rw [List.nodup_iff_pairwise_ne] at h
  exact List.pairwise_iff_getElem.1 h i j hi hj hij
theorem paI_succ {bs l : List Int} {u : PsT} {k : Nat} {x : Int} (h : l[k + 2]? = some x) : paI bs l u (k + 1) = paS bs (paI bs l u k) x := by
  unfold paI
  rw [List.take_add_one, List.getElem?_drop, Nat.add_comm 2 k, h, List.foldl_append]; rfl
theorem paI_ok {bs l : List Int} (hl : l.Nodup) {u : PsT} {N : Nat} (h : PI N l 0 u) : ∀ k, k + 2 ≤ l.length → PI N l k (paI bs l u k)
  | 0, _ => h
  | k + 1, hk => by
    obtain ⟨h1, h2, h3, h4, h5, h6, h7, h8, h9, h10⟩ := paI_ok (bs := bs) hl h k (by omega)
    have hx : l[k + 2]? = some l[k + 2] := List.getElem?_eq_getElem (by omega)
    rw [paI_succ hx]
    have hnew : l[k + 2] ∉ l.take (k + 2) := by
      intro hm
      obtain ⟨i, hi, he⟩ := List.mem_iff_getElem.1 hm
      rw [List.length_take] at hi
      rw [List.getElem_take] at he
      exact nd_at hl (i := i) (j := k + 2) (by omega) (by omega) (by omega) he
    have htk : l.take (k + 1 + 2) = l.take (k + 2) ++ [l[k + 2]] := by rw [show k + 1 + 2 = (k + 2) + 1 by omega, List.take_add_one, hx]; rfl
    have b := dNx_bd bs (paI bs l u k).1 5
    generalize l[k + 2] = x at *
    generalize paI bs l u k = v at *
    have hxf : x ∉ v.2.1 := fun hm => hnew (h2 x hm)
    have hxt : x ∉ v.2.2 := fun hm => hnew (h3 x hm)
    unfold paS
    refine ⟨by dsimp only; omega, fun y hy => ?_, fun y hy => ?_, ?_, ?_, fun y hy hz => ?_, ?_, ?_, ?_, ?_⟩
    · rw [htk, List.mem_append]
      dsimp only at hy
      split at hy
      · rcases List.mem_append.1 hy with hy | hy
        · exact .inl (h2 y hy)
        · exact .inr hy
      · exact .inl (h2 y hy)
    · rw [htk, List.mem_append]
      dsimp only at hy
      split at hy
      · rcases List.mem_append.1 hy with hy | hy
        · exact .inl (h3 y hy)
        · exact .inr hy
      · exact .inl (h3 y hy)
    · dsimp only
      split
      · exact List.nodup_append.2 ⟨h4, by simp, fun a ha b hb => by rw [List.mem_singleton.1 hb]; rintro rfl; exact hxf ha⟩
      · exact h4
    · dsimp only
      split
      · exact List.nodup_append.2 ⟨h5, by simp, fun a ha b hb => by rw [List.mem_singleton.1 hb]; rintro rfl; exact hxt ha⟩
      · exact h5
    · dsimp only at hy hz
      split at hy
      · rename_i e
        rw [if_neg (by omega)] at hz
        rcases List.mem_append.1 hy with hy | hy
        · exact h6 y hy hz
        · rw [List.mem_singleton.1 hy] at hz; exact hxt hz
      · split at hz
        · rcases List.mem_append.1 hz with hz | hz
          · exact h6 y hy hz
          · rw [List.mem_singleton.1 hz] at hy; exact hxf hy
        · exact h6 y hy hz
    · dsimp only; split
      · rw [List.length_append]; omega
      · exact h7
    · dsimp only; split
      · rw [List.length_append]; omega
      · exact h8
    · dsimp only; split
      · rw [List.length_append]; simp; omega
      · omega
    · dsimp only; split
      · rw [List.length_append]; simp; omega
      · omega
theorem Prm.nd {n : Nat} {l : List Int} (h : Prm n l) : l.Nodup := by
  rw [h.perm.nodup_iff, List.nodup_iff_pairwise_ne, List.pairwise_map]
  exact List.nodup_range.imp fun h e => h (by omega)
theorem pa_ok (bs : List Int) (d : DS) {n : Nat} (hn : 2 ≤ n) : PI (d.1 + n) (shX bs d n).2 (n - 2) (paX bs d n) := by
  have hS := shX_prm bs d n
  have hl := hS.1.len
  have hnd := hS.1.nd
  have h0 : (shX bs d n).2[0]? = some (shX bs d n).2[0] := List.getElem?_eq_getElem (by omega)
  have h1 : (shX bs d n).2[1]? = some (shX bs d n).2[1] := List.getElem?_eq_getElem (by omega)
  have hne : (shX bs d n).2[0] ≠ (shX bs d n).2[1] := nd_at hnd (by omega) (by omega) (by omega)
  have ht : (shX bs d n).2.take 2 = [(shX bs d n).2[0], (shX bs d n).2[1]] := by
    rw [List.take_add_one, List.take_add_one, h0, h1]; rfl
  unfold paX
  refine paI_ok hnd ?_ _ (by omega)
  unfold pa0
  rw [List.getD_eq_getElem?_getD, h0, List.getD_eq_getElem?_getD, h1]
  refine ⟨hS.2, fun x hx => ?_, fun x hx => ?_, by simp, by simp, fun x hx hy => ?_, by simp, by simp, by simp, by simp⟩
  · dsimp only at hx; rw [List.mem_singleton.1 hx]
    show _ ∈ (shX bs d n).2.take 2
    rw [ht]; simp
  · dsimp only at hx; rw [List.mem_singleton.1 hx]
    show _ ∈ (shX bs d n).2.take 2
    rw [ht]; simp
  · dsimp only at hx hy
    have e1 := List.mem_singleton.1 hx
    have e2 := List.mem_singleton.1 hy
    exact hne (by rw [e1] at e2; exact e2)
structure PasO (n : Nat) (N : Nt) (a b : List Int) : Prop where
  pas : pas N a b = 0
  ps : Ps n N.ws a b
  al : a.length ≤ n
  bl : b.length ≤ n
  a0 : 0 < a.length
  b0 : 0 < b.length
theorem pas_of {n : Nat} {N : Nt} {a b : List Int} (hN : NOk n N) (ha : ∀ x ∈ a, 0 ≤ x ∧ x < n) (hb : ∀ x ∈ b, 0 ≤ x ∧ x < n) (a0 : 0 < a.length) (b0 : 0 < b.length) (h1 : a.Pairwise (· < ·)) (h2 : b.Pairwise (· < ·)) (hd : ∀ x ∈ a, x ∉ b) : pas N a b = 0 := by
  have hp := hN.p
  have e1 : a.all (pstB N) = true := by
    rw [List.all_eq_true]; intro x hx; have := ha x hx; exact decide_eq_true (by omega)
  have e2 : b.all (pstB N) = true := by
    rw [List.all_eq_true]; intro x hx; have := hb x hx; exact decide_eq_true (by omega)
  have e3 : (a.all fun p => decide (¬ p ∈ b)) = true := by
    rw [List.all_eq_true]; intro x hx; exact decide_eq_true (hd x hx)
  unfold pas
  rw [if_pos hN.chk, if_pos ⟨e1, e2⟩, if_neg (by omega), if_pos ⟨risB_pw.2 h1, risB_pw.2 h2⟩, if_pos e3]
theorem past_ok (bs : List Int) (d : DS) {n : Nat} {N : Nt} (hN : NOk n N) (hn : 2 ≤ n) : PasO n N (paF bs d n) (paT bs d n) ∧ (paX bs d n).1.1 ≤ d.1 + 2 * n := by
  have hS := shX_prm bs d n
  have hI := pa_ok bs d hn
  have hm : ∀ x ∈ (shX bs d n).2.take (n - 2 + 2), 0 ≤ x ∧ x < n := fun x hx => by
    obtain ⟨j, hj, rfl⟩ := hS.1.mem.1 (List.mem_of_mem_take hx)
    omega
  have hf : ∀ x ∈ paF bs d n, 0 ≤ x ∧ x < n := fun x hx => hm x (hI.fs x (mem_srt.1 hx))
  have ht : ∀ x ∈ paT bs d n, 0 ≤ x ∧ x < n := fun x hx => hm x (hI.ts x (mem_srt.1 hx))
  have hd : ∀ x ∈ paF bs d n, x ∉ paT bs d n := fun x hx hy => hI.dj x (mem_srt.1 hx) (mem_srt.1 hy)
  have l1 : (paF bs d n).length = (paX bs d n).2.1.length := srt_len _
  have l2 : (paT bs d n).length = (paX bs d n).2.2.length := srt_len _
  have l3 := hI.fl
  have l4 := hI.tl
  have l5 := hI.f0
  have l6 := hI.t0
  have hpas := pas_of hN hf ht (by omega) (by omega) (srt_lt hI.fn) (srt_lt hI.tn) hd
  have := hI.n
  refine ⟨⟨hpas, ?_, by omega, by omega, by omega, by omega⟩, by omega⟩
  exact ⟨hN.inN, ⟨srt_nd hI.fn, hf⟩, ht, hd⟩
end Go.Proofs.Ytoeendggmalcpaa

open Go.Vm
open Psg
namespace Go.Proofs.Ytoeendggmalcpaa
set_option maxRecDepth 20000
set_option maxHeartbeats 4000000
def fourN : Nt := ⟨4, [⟨0, 1, 2, 50, 0, 0, 0, 100⟩, ⟨1, 3, 3, 30, 1, 0, 20, 40⟩, ⟨1, 2, 1, 40, 0, 1, 0, 100⟩, ⟨2, 1, 1, 40, 0, 0, 0, 100⟩, ⟨2, 3, 9, 10, 0, 0, 0, 100⟩]⟩
theorem b00 : chk fourN = 0 := by kernel_rfl
theorem b01 : hrd fourN ⟨0, 5, 0⟩ = 0 := by kernel_rfl
theorem b02 : eaL fourN ⟨0, 5, 0⟩ = [5, 7, 8, 17] := by kernel_rfl
theorem b03 : flw fourN ⟨0, 5, 0⟩ [0, 2, 3, 1] = (⟨3, 23, 1⟩, 0) := by kernel_rfl
theorem b04 : hrd fourN ⟨0, 99, 0⟩ = 0 := by kernel_rfl
theorem b05 : eaL fourN ⟨0, 99, 0⟩ = [99, 101, -1, -1] := by kernel_rfl
theorem b06 : rtE fourN ⟨0, 60, 0⟩ 3 = 0 := by kernel_rfl
theorem b07 : lsG (fun s : Nat => atD (bgn fourN.ws ⟨0, 60, 0⟩).D 3 s) 16 = 1 := by kernel_rfl
theorem b08 : Psg.look (bgn fourN.ws ⟨0, 60, 0⟩).c (3, 1) = some (2, 1, 4) := by kernel_rfl
theorem b09 : Psg.look (bgn fourN.ws ⟨0, 60, 0⟩).c (2, 1) = some (1, 0, 2) := by kernel_rfl
theorem b10 : Psg.look (bgn fourN.ws ⟨0, 60, 0⟩).c (1, 0) = some (0, 0, 0) := by kernel_rfl
theorem b11 : Path (bgn fourN.ws ⟨0, 60, 0⟩).c (0, 0) (3, 1) [4, 2, 0] :=
  Path.step b08 (by decide) (Path.step b09 (by decide) (Path.step b10 (by decide) Path.base))
theorem b12 {L : List Int} (h : RtR fourN ⟨0, 60, 0⟩ 3 L) : L = [0, 2, 4] := by
  have := h.uni [4, 2, 0] (by rw [b07]; exact b11)
  rw [this]; rfl
theorem b13 : pas fourN [0] [3] = 0 := by kernel_rfl
theorem b14 : (dvP fourN [0] [3]).2.1 = 40 := by kernel_rfl
theorem b15 : brsN fourN [0] [3] [0, 1, 2] = (40, 0) := by kernel_rfl
theorem b16 : narL fourN [0] [3] 5 = [1, 4] := by kernel_rfl
end Go.Proofs.Ytoeendggmalcpaa

open Go.Vm
open Psg
namespace Go.Proofs.Ytoeendggmalcpaa
set_option maxRecDepth 20000
set_option maxHeartbeats 4000000
/-! ### What a drive and a cut are -/
theorem dvP_ok {n : Nat} {N : Nt} {a b : List Int} (hN : NOk n N) (hP : Ps n N.ws a b) : DvR n N.ws a b (dvP N a b) := by
  have hh : ∀ w ∈ N.ws, 0 ≤ w.h ∧ w.h ≤ 1000 := fun w hw => (hN.ws w hw).h
  unfold dvP dvN
  rw [nok_nat hN]
  exact drv_ok hP hh hN.len 24001 _ 0 (dr0 hh) val0 (Int.le_refl _) (by omega)
theorem brg_of {n : Nat} {N : Nt} {a b hs : List Int} (hN : NOk n N) (hp : pas N a b = 0) (hd : Dr n N.ws a b hs) : brgN N a b hs = (val n N.ws a hs, 0) := by
  unfold brgN
  rw [if_pos hp, if_pos hd.bnd.len, if_pos ((bndA_iff hd.bnd.len).2 hd.bnd), nok_nat hN, if_pos]
  rw [conB_iff]
  intro j hj
  by_cases h1 : (j : Int) ∈ a
  · exact .inl h1
  · by_cases h2 : (j : Int) ∈ b
    · exact .inr (.inl h2)
    · exact .inr (.inr (hd.con j hj h1 h2))
theorem brs_of {n : Nat} {N : Nt} {a b S : List Int} (hN : NOk n N) (hp : pas N a b = 0) (hl : S.Pairwise (· < ·)) (hin : ∀ q ∈ S, 0 ≤ q ∧ q < n) (hc : Cu a b (fun q => decide (q ∈ S))) : brsN N a b S = (bar (fun q => decide (q ∈ S)) N.ws, 0) := by
  have hpn := hN.p
  have e1 : S.all (pstB N) = true := by
    rw [List.all_eq_true]; intro x hx; have := hin x hx; exact decide_eq_true (by omega)
  have e2 : (a.all fun p => decide (p ∈ S)) = true := by
    rw [List.all_eq_true]; intro x hx; exact hc.src x hx
  have e3 : (b.all fun p => !decide (p ∈ S)) = true := by
    rw [List.all_eq_true]; intro x hx; rw [hc.gls x hx]; rfl
  unfold brsN
  rw [if_pos hp, if_pos e1, if_pos (risB_pw.2 hl), if_pos ⟨e2, e3⟩]
theorem drv_both {n : Nat} {N : Nt} {a b : List Int} (hN : NOk n N) (hp : pas N a b = 0) (hP : Ps n N.ws a b) : brgN N a b (dvP N a b).1 = ((dvP N a b).2.1, 0) ∧ brsN N a b (dvP N a b).2.2 = ((dvP N a b).2.1, 0) := by
  have hD := dvP_ok hN hP
  exact ⟨by rw [brg_of hN hp hD.dr, hD.vl], by rw [brs_of hN hp hD.lt hD.mt.inN hD.cut, hD.br]⟩
end Go.Proofs.Ytoeendggmalcpaa

open Go.Vm
open Psg
namespace Go.Proofs.Ytoeendggmalcpaa
set_option maxRecDepth 20000
set_option maxHeartbeats 4000000
theorem vc_Four (h : Hp) : VC Try.prog 71 [] h (vN fourN) h := by
  have p1 := fun h => vc_Led 0 1 2 50 0 0 0 100 h
  have p2 := fun h => vc_Led 1 3 3 30 1 0 20 40 h
  have p3 := fun h => vc_Led 1 2 1 40 0 1 0 100 h
  have p4 := fun h => vc_Led 2 1 1 40 0 0 0 100 h
  have p5 := fun h => vc_Led 2 3 9 10 0 0 0 100 h
  refine VC.body Try.func71 rfl Try.ntmps71 Try.call71 (h.grows_refl) rfl ?_; conv => whnf
  repeat' (first | ((first | refine zs1 ?_ | refine zs2 ?_ | refine zs3 ?_ | refine zs4 ?_ | refine zs5 ?_ | refine zs6 [] ?_); conv => whnf) | ((first | apply zi1 | apply zi2 | apply zi3 | apply zi4 | apply zi5) <;> intro _ <;> conv => whnf) | (refine VCall.intro (p1 _) ?_; conv => whnf) | (refine VCall.intro (p2 _) ?_; conv => whnf) | (refine VCall.intro (p3 _) ?_; conv => whnf) | (refine VCall.intro (p4 _) ?_; conv => whnf) | (refine VCall.intro (p5 _) ?_; conv => whnf))
  refine VOut.data 2 [(1, fourN.ws.flatMap encWy)] [] rfl zf (by exact FmAll.nil) zw
theorem vc_awake (h : Hp) : VC Try.prog 24 [] h (B true) h := by
  have c1 := fun h => vc_Earliest fourN ⟨0, 5, 0⟩ h (by decide)
  have c2 := fun h => vc_Follow fourN ⟨0, 5, 0⟩ [0, 2, 3, 1] h (by decide) (by decide)
  have c3 := fun h => vc_Earliest fourN ⟨0, 99, 0⟩ h (by decide)
  obtain ⟨L, hL, _, c4⟩ := vc_Route fourN ⟨0, 60, 0⟩ 3 (by decide)
  have hL2 := b12 (hL b06)
  subst hL2
  rw [b06] at c4
  have c5 := fun h => vc_Drive fourN [0] [3] h (by decide) (by decide) (by decide)
  have c6 := fun h => vc_Bars fourN [0] [3] [0, 1, 2] h (by decide) (by decide) (by decide) (by decide)
  have c7 := fun h => vc_Narrow fourN [0] [3] h (by decide) (by decide) (by decide)
  rw [b02, b01] at c1
  rw [b03] at c2
  rw [b05, b04] at c3
  unfold drvV at c5
  rw [if_pos b13, b14] at c5
  rw [b15] at c6
  unfold narV at c7
  rw [if_pos b13, show fourN.ws.length = 5 from rfl, b16] at c7
  generalize (dvP fourN [0] [3]).1 = X at c5
  have q1 := fun h => vc_kequalI [5, 7, 8, 17] [5, 7, 8, 17] h (by decide) (by decide)
  have q2 := fun h => vc_kequalI [99, 101, -1, -1] [99, 101, -1, -1] h (by decide) (by decide)
  have q3 := fun h => vc_kequalI [0, 2, 4] [0, 2, 4] h (by decide) (by decide)
  have q4 := fun h => vc_kequalI [1, 4] [1, 4] h (by decide) (by decide)
  rw [decide_eq_true rfl] at q1 q2 q3 q4
  refine VC.bodyC 2 Try.func24 rfl Try.ntmps24 Try.call24 (h.grows_refl) rfl ?_; conv => whnf
  repeat' (first | ((first | refine zs1 ?_ | refine zs2 ?_ | refine zs3 ?_ | refine zs4 ?_ | refine zs5 ?_); conv => whnf) | ((first | apply zi1 | apply zi2 | apply zi3 | apply zi4 | apply zi5) <;> intro _ <;> conv => whnf) | (refine VCall.intro (vc_Four _) ?_; conv => whnf) | (refine VCall.intro (c1 _) ?_; conv => whnf))
  refine VCut.at' (outer := h.lift) (marks := []) 1 [(1, ints [5, 7, 8, 17]), (2, I 0)] [] ?_ ?_
  · conv => whnf
    refine Retell.turn ⟨[], 0, [], []⟩ (TurnOk.mk' _ _ [] [] (OutOk.lift _) rfl (by decide) zb trivial trivial rfl) zw zm
  conv => whnf
  repeat' (first | ((first | refine zs1 ?_ | refine zs2 ?_ | refine zs3 ?_ | refine zs4 ?_ | refine zs5 ?_); conv => whnf) | ((first | apply zi1 | apply zi2 | apply zi3 | apply zi4 | apply zi5) <;> intro _ <;> conv => whnf) | (refine VCall.intro (vc_Four _) ?_; conv => whnf))
  refine VCall.intro (VC.give (args' := [vN fourN, vHd ⟨0, 5, 0⟩, ints [0, 2, 3, 1]]) (loc' := [.dead]) [(0, [DI 0, DI 2, DI 3, DI 1])] [] (OutOk.lift _) zb zf (by exact FmAll.nil) rfl zv (c2 _)) ?_
  conv => whnf
  repeat' (first | ((first | refine zs1 ?_ | refine zs2 ?_ | refine zs3 ?_ | refine zs4 ?_ | refine zs5 ?_); conv => whnf) | ((first | apply zi1 | apply zi2 | apply zi3 | apply zi4 | apply zi5) <;> intro _ <;> conv => whnf))
  refine VCut.at' (outer := h.lift) (marks := []) 1 [(1, ints [5, 7, 8, 17]), (2, I 0), (3, .fp (encHd ⟨3, 23, 1⟩)), (4, I 0)] [] ?_ ?_
  · conv => whnf
    refine Retell.turn ⟨[], 2, [(1, encHd ⟨3, 23, 1⟩)], []⟩ (TurnOk.mk' _ _ [(1, encHd ⟨3, 23, 1⟩)] [] (OutOk.lift _) rfl (by decide) zb zf trivial rfl) zw zm
  conv => whnf
  repeat' (first | ((first | refine zs1 ?_ | refine zs2 ?_ | refine zs3 ?_ | refine zs4 ?_ | refine zs5 ?_); conv => whnf) | ((first | apply zi1 | apply zi2 | apply zi3 | apply zi4 | apply zi5) <;> intro _ <;> conv => whnf) | (refine VCall.intro (vc_Four _) ?_; conv => whnf) | (refine VCall.intro (c3 _) ?_; conv => whnf))
  refine VCut.at' (outer := h.lift) (marks := []) 1 [(1, ints [5, 7, 8, 17]), (2, I 0), (3, .fp (encHd ⟨3, 23, 1⟩)), (4, I 0), (5, ints [99, 101, -1, -1]), (6, I 0)] [] ?_ ?_
  · conv => whnf
    refine Retell.turn ⟨[], 0, [], []⟩ (TurnOk.mk' _ _ [] [] (OutOk.lift _) rfl (by decide) zb trivial trivial rfl) zw zm
  conv => whnf
  repeat' (first | ((first | refine zs1 ?_ | refine zs2 ?_ | refine zs3 ?_ | refine zs4 ?_ | refine zs5 ?_); conv => whnf) | ((first | apply zi1 | apply zi2 | apply zi3 | apply zi4 | apply zi5) <;> intro _ <;> conv => whnf) | (refine VCall.intro (vc_Four _) ?_; conv => whnf) | (refine VCall.intro (c4 _) ?_; conv => whnf))
  refine VCut.at' (outer := h.lift) (marks := []) 1 [(1, ints [5, 7, 8, 17]), (2, I 0), (3, .fp (encHd ⟨3, 23, 1⟩)), (4, I 0), (5, ints [99, 101, -1, -1]), (6, I 0), (7, ints [0, 2, 4]), (8, I 0)] [] ?_ ?_
  · conv => whnf
    refine Retell.turn ⟨[], 0, [], []⟩ (TurnOk.mk' _ _ [] [] (OutOk.lift _) rfl (by decide) zb trivial trivial rfl) zw zm
  conv => whnf
  repeat' (first | ((first | refine zs1 ?_ | refine zs2 ?_ | refine zs3 ?_ | refine zs4 ?_ | refine zs5 ?_); conv => whnf) | ((first | apply zi1 | apply zi2 | apply zi3 | apply zi4 | apply zi5) <;> intro _ <;> conv => whnf))
  refine VCall.intro (VC.give (args' := [ints [5, 7, 8, 17], ints [5, 7, 8, 17]]) (loc' := [.dead]) [(0, [DI 5, DI 7, DI 8, DI 17])] [] (OutOk.lift _) zb zf (by exact FmAll.nil) rfl zv (q1 _)) ?_
  conv => whnf
  repeat' (first | ((first | refine zs1 ?_ | refine zs2 ?_ | refine zs3 ?_ | refine zs4 ?_ | refine zs5 ?_); conv => whnf) | ((first | apply zi1 | apply zi2 | apply zi3 | apply zi4 | apply zi5) <;> intro _ <;> conv => whnf) | (refine VAgg.intro (vneqH ⟨3, 23, 1⟩ ⟨3, 23, 1⟩) ?_; conv => whnf))
  refine VCall.intro (VC.give (args' := [ints [99, 101, -1, -1], ints [99, 101, -1, -1]]) (loc' := [.dead, .dead]) [(1, [DI 99, DI 101, DI (-1), DI (-1)])] [] (OutOk.lift _) zb zf (by exact FmAll.nil) rfl zv (q2 _)) ?_
  conv => whnf
  repeat' (first | ((first | refine zs1 ?_ | refine zs2 ?_ | refine zs3 ?_ | refine zs4 ?_ | refine zs5 ?_); conv => whnf) | ((first | apply zi1 | apply zi2 | apply zi3 | apply zi4 | apply zi5) <;> intro _ <;> conv => whnf))
  refine VCall.intro (VC.give (args' := [ints [0, 2, 4], ints [0, 2, 4]]) (loc' := [.dead, .dead, .dead]) [(2, [DI 0, DI 2, DI 4])] [] (OutOk.lift _) zb zf (by exact FmAll.nil) rfl zv (q3 _)) ?_
  conv => whnf
  repeat' (first | ((first | refine zs1 ?_ | refine zs2 ?_ | refine zs3 ?_ | refine zs4 ?_ | refine zs5 ?_); conv => whnf) | ((first | apply zi1 | apply zi2 | apply zi3 | apply zi4 | apply zi5) <;> intro _ <;> conv => whnf))
  refine VCut.at' (outer := h.lift) (marks := []) 1 [] [] ?_ ?_
  · conv => whnf
    refine Retell.turn ⟨[], 3, [], []⟩ (TurnOk.mk' _ _ [] [] (OutOk.lift _) rfl (by decide) zb trivial trivial rfl) zw zm
  conv => whnf
  repeat' (first | ((first | refine zs1 ?_ | refine zs2 ?_ | refine zs3 ?_ | refine zs4 ?_ | refine zs5 ?_); conv => whnf) | ((first | apply zi1 | apply zi2 | apply zi3 | apply zi4 | apply zi5) <;> intro _ <;> conv => whnf) | (refine VCall.intro (vc_Four _) ?_; conv => whnf))
  refine VCall.intro (VC.give (args' := [vN fourN, ints [0], ints [3]]) (loc' := [.dead, .dead]) [(0, [DI 0]), (1, [DI 3])] [] (OutOk.lift _) zb zf (by exact FmAll.nil) rfl zv (c5 _)) ?_
  conv => whnf
  repeat' (first | ((first | refine zs1 ?_ | refine zs2 ?_ | refine zs3 ?_ | refine zs4 ?_ | refine zs5 ?_); conv => whnf) | ((first | apply zi1 | apply zi2 | apply zi3 | apply zi4 | apply zi5) <;> intro _ <;> conv => whnf))
  refine VCut.at' (outer := h.lift) (marks := []) 1 [(2, I 0), (10, I 40)] [] ?_ ?_
  · conv => whnf
    refine Retell.turn ⟨[], 2, [], []⟩ (TurnOk.mk' _ _ [] [] (OutOk.lift _) rfl (by decide) zb trivial trivial rfl) zw zm
  conv => whnf
  repeat' (first | ((first | refine zs1 ?_ | refine zs2 ?_ | refine zs3 ?_ | refine zs4 ?_ | refine zs5 ?_); conv => whnf) | ((first | apply zi1 | apply zi2 | apply zi3 | apply zi4 | apply zi5) <;> intro _ <;> conv => whnf) | (refine VCall.intro (vc_Four _) ?_; conv => whnf))
  refine VCall.intro (VC.give (args' := [vN fourN, ints [0], ints [3], ints [0, 1, 2]]) (loc' := [.dead, .dead, .dead]) [(0, [DI 0]), (1, [DI 3]), (2, [DI 0, DI 1, DI 2])] [] (OutOk.lift _) zb zf (by exact FmAll.nil) rfl zv (c6 _)) ?_
  conv => whnf
  repeat' (first | ((first | refine zs1 ?_ | refine zs2 ?_ | refine zs3 ?_ | refine zs4 ?_ | refine zs5 ?_); conv => whnf) | ((first | apply zi1 | apply zi2 | apply zi3 | apply zi4 | apply zi5) <;> intro _ <;> conv => whnf))
  refine VCut.at' (outer := h.lift) (marks := []) 1 [(2, I 0), (4, I 0), (10, I 40), (11, I 40)] [] ?_ ?_
  · conv => whnf
    refine Retell.turn ⟨[], 3, [], []⟩ (TurnOk.mk' _ _ [] [] (OutOk.lift _) rfl (by decide) zb trivial trivial rfl) zw zm
  conv => whnf
  repeat' (first | ((first | refine zs1 ?_ | refine zs2 ?_ | refine zs3 ?_ | refine zs4 ?_ | refine zs5 ?_); conv => whnf) | ((first | apply zi1 | apply zi2 | apply zi3 | apply zi4 | apply zi5) <;> intro _ <;> conv => whnf) | (refine VCall.intro (vc_Four _) ?_; conv => whnf))
  refine VCall.intro (VC.give (args' := [vN fourN, ints [0], ints [3]]) (loc' := [.dead, .dead]) [(0, [DI 0]), (1, [DI 3])] [] (OutOk.lift _) zb zf (by exact FmAll.nil) rfl zv (c7 _)) ?_
  conv => whnf
  repeat' (first | ((first | refine zs1 ?_ | refine zs2 ?_ | refine zs3 ?_ | refine zs4 ?_ | refine zs5 ?_); conv => whnf) | ((first | apply zi1 | apply zi2 | apply zi3 | apply zi4 | apply zi5) <;> intro _ <;> conv => whnf))
  refine VCut.at' (outer := h.lift) (marks := []) 99 [(2, I 0), (4, I 0), (6, I 0), (10, I 40), (11, I 40), (12, ints [1, 4])] [] ?_ ?_
  · conv => whnf
    refine Retell.turn ⟨[], 2, [], []⟩ (TurnOk.mk' _ _ [] [] (OutOk.lift _) rfl (by decide) zb trivial trivial rfl) zw zm
  conv => whnf
  repeat' (first | ((first | refine zs1 ?_ | refine zs2 ?_ | refine zs3 ?_ | refine zs4 ?_ | refine zs5 ?_); conv => whnf) | ((first | apply zi1 | apply zi2 | apply zi3 | apply zi4 | apply zi5) <;> intro _ <;> conv => whnf))
  refine VCall.intro (VC.give (args' := [ints [1, 4], ints [1, 4]]) (loc' := [.dead]) [(0, [DI 1, DI 4])] [] (OutOk.lift _) zb zf (by exact FmAll.nil) rfl zv (q4 _)) ?_
  conv => whnf
  repeat' (first | ((first | refine zs1 ?_ | refine zs2 ?_ | refine zs3 ?_ | refine zs4 ?_ | refine zs5 ?_); conv => whnf) | ((first | apply zi1 | apply zi2 | apply zi3 | apply zi4 | apply zi5) <;> intro _ <;> conv => whnf))
  exact VOut.same rfl
end Go.Proofs.Ytoeendggmalcpaa


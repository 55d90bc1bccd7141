/- Part 7 of the proof that small nets are as the given statement says. No condition. -/
import Derived.Test.YtoeendggmalcpaaGreatBz6
import Derived.Shelf.Sort.AssemblyIn
import Derived.Sort.EveryDepth
set_option linter.unusedVariables false
set_option linter.unusedSimpArgs false
namespace Go.Vm
open Go.Sort (grow putRow putCells Holds onCells mapBlock)

theorem Rel.growS {σ : Sig} {h : Hp} {w : World} (hr : Rel σ h w) (os : Array Obj) : Rel σ h (grow w os) where
  blk:=fun i e b hi hb=>by
    obtain ⟨h1,o,h2,h3⟩:=hr.blk i e b hi hb
    refine ⟨by show e.rid < (w.heap ++ os).size;rw [Array.size_append];omega,o,?_,h3⟩
    show (w.heap ++ os)[e.rid]? = some o
    rw [Array.getElem?_append_left h1];exact h2
  apart:=hr.apart
  dom:=hr.dom
  nmd:=hr.nmd
  fz:=fun r o hro=>by
    obtain ⟨h1,h2⟩:=hr.fz r o hro
    refine ⟨?_,h2⟩
    show (w.heap ++ os)[r]? = some o
    rw [Array.getElem?_append_left (Array.getElem?_eq_some_iff.1 h1).1];exact h1
theorem Ext.growS {σ : Sig} {h : Hp} {w : World} (os : Array Obj) : Ext σ h w σ h (grow w os) where
  le:=Sig.le_refl σ
  lo:=rfl
  fzn:=fun _ _ h=>h
  size:=by show w.heap.size ≤ (w.heap ++ os).size;rw [Array.size_append];omega
  os:=rfl
  tape:=rfl
  output:=rfl
  frame:=fun r hr _=>by show (w.heap ++ os)[r]? = w.heap[r]?;rw [Array.getElem?_append_left hr]
  new:=fun j ej hj hn=>by rw [hj] at hn;cases hn
  down:=fun j ej bj _ hbj hwj=>⟨bj,hbj,hwj⟩
  ro:=fun j ej bj hj hbj hwj hal=>⟨hj,bj,hbj,hal,hwj⟩
  old:=fun j hj=>⟨hj,fun x=>x⟩
  oldn:=fun j _ hx=>hx
theorem flatI_get {l : List Int} {j : Nat} : (l.flatMap encI)[j]? = (l[j]?).map DI:=by
  induction l generalizing j with
  | nil=>rfl
  | cons a l ih =>
    cases j with
    | zero=>rfl
    | succ j=>rw [List.flatMap_cons];exact ih
def srtI (n : Nat) (l : List Int) : List Int:=((l.take n).mergeSort fun x y=>decide (x ≤ y)) ++ l.drop n
theorem VC.sortI {P : Program} {f : FuncId} {h : Hp} {i : Id} {n : Nat} {l : List Int} (hent : ∀ as0 w,(callFunc f as0).run P w = .ok (.enter f as0) w) (hb : h.get i = some (.flat true (l.flatMap encI))) (hn : n ≤ l.length) (h0 : 0 < n) (hl : l.length ≤ 4000000) (R : List Int) (hR : R <+: srtI n l)
    (hc : ∀ (blk off cap : Nat) (zs : List Int) (w : World),Holds (Value.int .i64) w blk off zs.toArray → blk < w.heap.size → zs.length < 4611686018427387904 → Calls P f #[.slice (some ⟨blk,off,none⟩) zs.length cap] w fun e w'=>e = .returned (.tuple #[]) ∧ ∃ n os,w' = grow (putRow (Value.int .i64) (Sort.ahead w n) blk off (zs.mergeSort fun x y=>decide (x ≤ y)).toArray) os) :
    VC P f [.gl i 1 n] h (.tuple []) (h.set i (.flat true (R.flatMap encI))):=by
  refine ⟨hent,Hp.grows_set h i _,fun σ w xs hr hxs=>?_⟩
  rw [callsIn_wide]
  obtain ⟨x,rfl,hx⟩:=VRs_one hxs
  simp only [VR] at hx
  obtain ⟨_,hx⟩:=hx
  rcases hx with ⟨hz,_⟩|⟨e,cap,o,hi,h1,h2,h3,rfl⟩
  · omega
  obtain ⟨hlt,ob,hob,hrel⟩:=hr.blk i e _ hi hb
  simp only [BlkRel] at hrel
  obtain ⟨cur,TT,fz,rfl,hs1,hs2,hfz,hcell⟩:=hrel
  have hfz:=hfz rfl
  subst hfz
  rw [Nat.mul_one] at h2
  have h3:=h3 (by omega)
  subst h3
  have hcur : ∀ j x,l[j]? = some x → cur[e.base + j]? = some (.int .i64 x):=fun j x hj=>by
    obtain ⟨y,hy,hv,_⟩:=hcell j (.s (.int .i64 x)) (by simp only [flatI_get,hj,Option.map_some];rfl)
    simp only [VR,S.val] at hv
    rw [hy,hv]
  rw [flat_len encI_len,Nat.mul_one] at hs2
  have hlen : (l.take n).length = n:=by rw [List.length_take];omega
  have hH : Holds (Value.int .i64) w e.rid e.base (l.take n).toArray:=by
    intro j hj
    have hj' : j < n:=by simpa [hlen] using hj
    have hg : l[j]? = some (l[j]'(by omega)):=List.getElem?_eq_getElem _
    refine ⟨?_,by simp [World.frozen?,hob]⟩
    have:=hcur j _ hg
    simp only [World.cell?,hob]
    simp only [Option.isSome_none,Bool.false_eq_true,if_false]
    rw [this]
    have hj2 : j < (l.take n).toArray.size:=hj
    rw [getElem!_pos _ j hj2]
    simp
  have hcall:=hc e.rid e.base cap (l.take n) w hH hlt (by omega)
  rw [hlen] at hcall
  refine Calls.mono hcall ?_
  rintro en w' ⟨rfl,q,os,rfl⟩
  obtain ⟨T,hT⟩ : ∃ T,T = (l.take n).mergeSort (fun x y=>decide (x ≤ y)):=⟨_,rfl⟩
  have hTl : T.length = n:=by rw [hT,List.length_mergeSort,hlen]
  rw [← hT]
  have hcs : e.base + n ≤ cur.size:=by omega
  obtain ⟨w1,hw1⟩ : ∃ w1,w1 = putRow (Value.int .i64) (Sort.ahead w q) e.rid e.base T.toArray:=⟨_,rfl⟩
  rw [← hw1]
  have hheap : w1.heap = w.heap.modify e.rid (onCells (putCells (Value.int .i64) e.base T.toArray)):=by rw [hw1];rfl
  have hsz : w1.heap.size = w.heap.size:=by rw [hheap,Array.size_modify]
  have hsame : ∀ r,r ≠ e.rid → w1.heap[r]? = w.heap[r]?:=fun r hne=>by rw [hheap,Array.getElem?_modify,if_neg (Ne.symm hne)]
  have hnew : w1.heap[e.rid]? = some (.cells (putCells (Value.int .i64) e.base T.toArray cur) TT (0,0)):=by rw [hheap,Array.getElem?_modify,if_pos rfl,hob];rfl
  have hput : ∀ k,(putCells (Value.int .i64) e.base T.toArray cur)[k]? = (cur[k]?).map fun x=>if e.base ≤ k ∧ k < e.base + T.length then Value.int .i64 (T.getD (k - e.base) 0) else x:=fun k=>by
    unfold putCells
    rw [Array.getElem?_mapIdx]
    cases hk : cur[k]? with
    | none=>rfl
    | some x =>
      simp only [Option.map_some,Option.some.injEq,List.size_toArray]
      split
      · rename_i hh
        congr 1
        rw [getElem!_pos _ (k - e.base) (by simp;omega)]
        simp [List.getD_eq_getElem?_getD,List.getElem?_eq_getElem (show k - e.base < T.length by omega)]
      · rfl
  have hrel' : BlkRel σ e (.flat true (R.flatMap encI)) (.cells (putCells (Value.int .i64) e.base T.toArray cur) TT (0,0)):=by
    have hsl : (srtI n l).length = l.length:=by unfold srtI;rw [List.length_append,List.length_mergeSort,hlen,List.length_drop];omega
    refine ⟨_,TT,(0,0),rfl,by simp [putCells];exact hs1,by rw [flat_len encI_len,Nat.mul_one];have:=hR.length_le;omega,fun _=>rfl,?_⟩
    intro j v hv
    dsimp only at hv
    rw [flatI_get] at hv
    have hjR : j < R.length:=by
      rcases Nat.lt_or_ge j R.length with h|h
      · exact h
      · rw [List.getElem?_eq_none h] at hv;cases hv
    have hjl : j < (srtI n l).length:=by have:=hR.length_le;omega
    rw [show R[j]? = (srtI n l)[j]? by
      obtain ⟨t,ht⟩:=hR
      rw [← ht,List.getElem?_append_left hjR]] at hv
    have hcj : cur[e.base + j]? = some (.int .i64 (l[j]'(by omega))):=hcur j _ (List.getElem?_eq_getElem _)
    rw [hput,hcj,Option.map_some]
    refine ⟨_,rfl,?_,?_⟩
    · have hsr : (srtI n l)[j]? = some (if j < n then T.getD j 0 else l[j]'(by omega)):=by
        unfold srtI
        rw [← hT]
        by_cases hjn : j < n
        · rw [if_pos hjn,List.getElem?_append_left (by omega),List.getElem?_eq_getElem (by omega)]
          simp [List.getD_eq_getElem?_getD,List.getElem?_eq_getElem (show j < T.length by omega)]
        · rw [if_neg hjn,List.getElem?_append_right (by omega),hTl,List.getElem?_drop,show n + (j - n) = j by omega,List.getElem?_eq_getElem]
      rw [hsr] at hv
      cases hv
      simp only [VR,S.val,D.v]
      by_cases hjn : j < n
      · rw [if_pos (by omega),if_pos hjn,show e.base + j - e.base = j by omega]
      · rw [if_neg (by omega),if_neg hjn]
    · split <;> rfl
  have hrel2:=hr.upd hi hb rfl (fun _=>rfl) hsz hsame hnew hrel'
  have hext:=Ext.upd (h:=h) (b':=.flat true (R.flatMap encI)) hi hb rfl (fun _=>rfl) hsz (by rw [hw1];rfl) (by rw [hw1];rfl) (by rw [hw1];rfl) hsame
  exact ⟨σ,.tuple #[],rfl,by simp only [VR];exact ⟨#[],rfl,rfl⟩,hrel2.growS os,(hext.trans (Ext.growS os)).toK⟩
end Go.Vm

namespace Go.Proofs.YtoeendggmalcpaaGreat
open Go.Shelf
def srtRen : Ren:=⟨fun|125=>92|128=>106|129=>107|189=>88|215=>113|216=>103|257=>91|294=>97|295=>98|296=>99|297=>100|298=>101|299=>102|300=>104|301=>105|328=>108|329=>109|330=>110|331=>111|332=>112|343=>114|n=>n,fun|0=>0|3=>3|4=>4|5=>5|9=>9|28=>22|46=>146|51=>157|53=>159|131=>154|182=>148|183=>149|218=>160|222=>31|228=>165|229=>143|n=>n,fun n=>n⟩
theorem srtLays : Lays.n189 Tryz.prog srtRen:={
  mixed:=by kernel_rfl
  f125:=by kernel_rfl
  f128:=by kernel_rfl
  f129:=by kernel_rfl
  f189:=by kernel_rfl
  f215:=by kernel_rfl
  f216:=by kernel_rfl
  f257:=by kernel_rfl
  f294:=by kernel_rfl
  f295:=by kernel_rfl
  f296:=by kernel_rfl
  f297:=by kernel_rfl
  f298:=by kernel_rfl
  f299:=by kernel_rfl
  f300:=by kernel_rfl
  f301:=by kernel_rfl
  f328:=by kernel_rfl
  f329:=by kernel_rfl
  f330:=by kernel_rfl
  f331:=by kernel_rfl
  f332:=by kernel_rfl
  f343:=by kernel_rfl
  t0:=by kernel_rfl
  a0:=fun _=>by kernel_rfl
  z0:=fun _=>by kernel_rfl
  v0:=fun _=>by kernel_rfl
  t3:=by kernel_rfl
  a3:=fun _=>by kernel_rfl
  z3:=fun _=>by kernel_rfl
  v3:=fun _=>by kernel_rfl
  t4:=by kernel_rfl
  a4:=fun _=>by kernel_rfl
  z4:=fun _=>by kernel_rfl
  v4:=fun _=>by kernel_rfl
  t5:=by kernel_rfl
  a5:=fun _=>by kernel_rfl
  z5:=fun _=>by kernel_rfl
  v5:=fun _=>by kernel_rfl
  t9:=by kernel_rfl
  a9:=fun _=>by kernel_rfl
  z9:=fun _=>by kernel_rfl
  v9:=fun _=>by kernel_rfl
  t28:=by kernel_rfl
  a28:=fun _=>by kernel_rfl
  z28:=fun _=>by kernel_rfl
  v28:=fun _=>by kernel_rfl
  t46:=by kernel_rfl
  a46:=fun _=>by kernel_rfl
  z46:=fun _=>by kernel_rfl
  v46:=fun _=>by kernel_rfl
  t51:=by kernel_rfl
  a51:=fun _=>by kernel_rfl
  z51:=fun _=>by kernel_rfl
  v51:=fun _=>by kernel_rfl
  t53:=by kernel_rfl
  a53:=fun _=>by kernel_rfl
  z53:=fun _=>by kernel_rfl
  v53:=fun _=>by kernel_rfl
  t131:=by kernel_rfl
  a131:=fun _=>by kernel_rfl
  z131:=fun _=>by kernel_rfl
  v131:=fun _=>by kernel_rfl
  t182:=by kernel_rfl
  a182:=fun _=>by kernel_rfl
  z182:=fun _=>by kernel_rfl
  v182:=fun _=>by kernel_rfl
  t183:=by kernel_rfl
  a183:=fun _=>by kernel_rfl
  z183:=fun _=>by kernel_rfl
  v183:=fun _=>by kernel_rfl
  t218:=by kernel_rfl
  a218:=fun _=>by kernel_rfl
  z218:=fun _=>by kernel_rfl
  v218:=fun _=>by kernel_rfl
  t222:=by kernel_rfl
  a222:=fun _=>by kernel_rfl
  z222:=fun _=>by kernel_rfl
  v222:=fun _=>by kernel_rfl
  t228:=by kernel_rfl
  a228:=fun _=>by kernel_rfl
  z228:=fun _=>by kernel_rfl
  v228:=fun _=>by kernel_rfl
  t229:=by kernel_rfl
  a229:=fun _=>by kernel_rfl
  z229:=fun _=>by kernel_rfl
  v229:=fun _=>by kernel_rfl
}
theorem vc_Sort (n : Nat) (l : List Int) (i : Go.Vm.Id) (h : Go.Vm.Hp) (hb : h.get i = some (.flat true (l.flatMap Go.Vm.encI))) (hn : n ≤ l.length) (h0 : 0 < n) (hl : l.length ≤ 4000000) (R : List Int) (hR : R <+: Go.Vm.srtI n l) : Go.Vm.VC Tryz.prog 88 [.gl i 1 n] h (.tuple []) (h.set i (.flat true (R.flatMap Go.Vm.encI))) :=
  Go.Vm.VC.sortI Tryz.call88 hb hn h0 hl R hR fun blk off cap zs w h1 h2 h3=>calls_of_every_depth fun D=>AnyS.slices_Sort_int_in srtLays D blk off cap zs w h1 h2 h3
end Go.Proofs.YtoeendggmalcpaaGreat

open Go.Vm
open Psg
namespace Psg
theorem one_0 (b : Bool) : one b 0 = 0:=by cases b <;> rfl
theorem bnd0 : ∀ ws : List Wy,(∀ w ∈ ws,0 ≤ w.h ∧ w.h ≤ 1000) → Bnd ws (List.replicate ws.length 0)
  | [],_=>trivial
  | w :: ws,h=>⟨⟨Int.le_refl _,(h w List.mem_cons_self).1⟩,bnd0 ws fun v hv=>h v (List.mem_cons_of_mem _ hv)⟩
theorem flux0 (S : Int → Bool) : ∀ ws : List Wy,flux S ws (List.replicate ws.length 0) = 0
  | []=>rfl
  | w :: ws=>by
    rw [List.length_cons,List.replicate_succ,flux,one_0,one_0,flux0 S ws];rfl
theorem dr0 {n : Nat} {ws : List Wy} {src gls : List Int} (hh : ∀ w ∈ ws,0 ≤ w.h ∧ w.h ≤ 1000) : Dr n ws src gls (List.replicate ws.length 0):=⟨bnd0 ws hh,fun p _ _ _=>flux0 (eqB p) ws⟩
theorem val0 {n : Nat} {ws : List Wy} {src : List Int} : val n ws src (List.replicate ws.length 0) = 0:=by
  unfold val
  rw [sumTo_congr (v:=fun _=>0) fun i _=>by unfold net;rw [flux0,one_0]]
  exact sumTo_zero n
theorem val_top {n : Nat} {ws : List Wy} {src gls hs : List Int} (hP : Ps n ws src gls) (hh : ∀ w ∈ ws,0 ≤ w.h ∧ w.h ≤ 1000) (hl : ws.length ≤ 24) (hd : Dr n ws src gls hs) : val n ws src hs ≤ 24000:=by
  have hc : Cu src gls (fun q=>decide (q ∈ src)):=⟨fun p hp=>decide_eq_true hp,fun p hp=>decide_eq_false fun h=>hP.dis p h hp⟩
  have:=val_le hP.inN hd hc
  have:=(bar_le (fun q=>decide (q ∈ src)) ws hh).2
  omega
def dvN (n : Nat) (N : Nt) (src gls : List Int) : List Int × Int × List Int:=drv gls N.ws src (n + 1) 24001 (List.replicate N.ws.length 0) 0
end Psg
namespace Go.Proofs.YtoeendggmalcpaaGreat
set_option maxRecDepth 20000
set_option maxHeartbeats 4000000
theorem pas_ok {N : Nt} {a b : List Int} (h : pas N a b = 0) : ∃ n,NOk n N ∧ Ps n N.ws a b ∧ 0 < a.length ∧ 0 < b.length ∧ a.Pairwise (· < ·) ∧ b.Pairwise (· < ·):=by
  unfold pas at h
  by_cases h1 : chk N = 0
  · rw [if_pos h1] at h
    by_cases h2 : a.all (pstB N) = true ∧ b.all (pstB N) = true
    · rw [if_pos h2] at h
      by_cases h3 : a.length = 0 ∨ b.length = 0
      · rw [if_pos h3] at h;cases h
      · rw [if_neg h3] at h
        by_cases h4 : risB a = true ∧ risB b = true
        · rw [if_pos h4] at h
          by_cases h5 : (a.all fun p=>decide (¬ p ∈ b)) = true
          · obtain ⟨n,hN⟩:=chk_ok h1
            have hp:=hN.p
            have ha:=risB_pw.1 h4.1
            have hb:=risB_pw.1 h4.2
            refine ⟨n,hN,⟨hN.inN,⟨List.nodup_iff_pairwise_ne.2 (ha.imp fun h=>by omega),fun q hq=>?_⟩,fun q hq=>?_,fun q hq=>?_⟩,by omega,by omega,ha,hb⟩
            · have:=List.all_eq_true.1 h2.1 q hq
              unfold pstB at this
              have:=of_decide_eq_true this
              omega
            · have:=List.all_eq_true.1 h2.2 q hq
              unfold pstB at this
              have:=of_decide_eq_true this
              omega
            · exact of_decide_eq_true (List.all_eq_true.1 h5 q hq)
          · rw [if_neg h5] at h;cases h
        · rw [if_neg h4] at h;cases h
    · rw [if_neg h2] at h;cases h
  · rw [if_neg h1] at h;exact absurd h h1
theorem vc_driven {n : Nat} {N : Nt} {src gls : List Int} (hN : NOk n N) (hP : Ps n N.ws src gls) (h0 : 0 < src.length) (hg : gls.length ≤ 4000000) (h : Hp) :
    VC Tryz.prog 78 [vN N,ints src,ints gls] h (.tuple [ints (dvN n N src gls).1,I (dvN n N src gls).2.1,ints (dvN n N src gls).2.2]) h:=by
  obtain ⟨R,hR⟩ : ∃ R,R = dvN n N src gls:=⟨_,rfl⟩
  rw [← hR]
  unfold dvN at hR
  have hwl:=hN.len
  have hh : ∀ w ∈ N.ws,0 ≤ w.h ∧ w.h ≤ 1000:=fun w hw=>(hN.ws w hw).h
  refine VC.body Tryz.func78 rfl Tryz.ntmps78 Tryz.call78 (h.grows_refl) rfl ?_;conv=>whnf
  repeat' (first|((first|refine zs1 ?_|refine zs2 ?_|refine zs3 ?_|refine zs4 ?_|refine zs5 ?_);conv=>whnf)|((first|apply zi1|apply zi2|apply zi3|apply zi4|apply zi5) <;> intro _ <;> conv=>whnf))
  refine zs6 [] ?_
  conv=>whnf
  repeat' (first|((first|refine zs1 ?_|refine zs2 ?_|refine zs3 ?_|refine zs4 ?_|refine zs5 ?_);conv=>whnf)|((first|apply zi1|apply zi2|apply zi3|apply zi4|apply zi5) <;> intro _ <;> conv=>whnf)|(refine VMkD.makeI N.ws.length rfl rfl rfl rfl rfl (by decide) (by omega) ?_;conv=>whnf))
  refine VCode.lp (outer:=h.lift) (marks:=[]) (fun y : Nat × List Int × Int=>[(1,ints src),(2,ints gls),(9,.ptr (.loc 1) 0),(10,I y.2.2)]) (fun y=>[.flat true (y.2.1.flatMap Vm.encI),.cells true [I N.p,wys N.ws,.gl (.loc 0) 1 N.ws.length]]) (fun y=>Dr n N.ws src gls y.2.1 ∧ val n N.ws src y.2.1 = y.2.2 ∧ 0 ≤ y.2.2 ∧ 24001 ≤ y.2.2 + y.1 ∧ R = drv gls N.ws src (n + 1) y.1 y.2.1 y.2.2) (fun y=>y.1) (24001,List.replicate N.ws.length 0,0) ⟨dr0 hh,val0,Int.le_refl _,by show (24001 : Int) ≤ 0 + ((24001 : Nat) : Int);omega,hR⟩ ?_ ?_
  · conv=>whnf
    refine Retell.turn ⟨[1,2],3,[],[]⟩ (TurnOk.mk' _ _ [] [] (OutOk.lift _) rfl (by decide) zb trivial trivial rfl) zw zm
  · rintro ⟨K,hs,many⟩ ⟨d1,d2,d3,d4,d5⟩
    dsimp only at d1 d2 d3 d4 d5 ⊢
    have htop:=val_top hP hh hwl d1
    cases K with
    | zero=>exfalso;omega
    | succ K =>
      rw [drv] at d5
      have hlen:=d1.bnd.len
      have hQ:=pushed_ok hP d1
      have cP:=vc_pushed hN hg h0 hP.smt d1.bnd (s:=.loc 1) (hI:=.loc 0) ⟨h.lift,[.flat true (hs.flatMap Vm.encI),.cells true [I N.p,wys N.ws,.gl (.loc 0) 1 N.ws.length]]⟩ (by rw [hlen];rfl) rfl (by decide)
      generalize pushed gls N.ws (n + 1) src hs src = r at d5 hQ cP
      replace cP : VC Tryz.prog 87 [.ptr (.loc 1) 0,ints src,ints gls] ⟨h.lift,[.flat true (hs.flatMap Vm.encI),.cells true [I N.p,wys N.ws,.gl (.loc 0) 1 N.ws.length]]⟩ (.tuple [I r.1,.gl (.loc 2) 1 r.2.2.length]) ⟨h.lift,[.flat true (r.2.1.flatMap Vm.encI),.cells true [I N.p,wys N.ws,.gl (.loc 0) 1 N.ws.length],.flat true (r.2.2.flatMap Vm.encI)]⟩:=cP
      have hml:=hQ.mt.len
      have hn1:=hN.n1
      by_cases hz : r.1 = 0
      · rw [if_pos hz] at d5
        have hpos : 0 < r.2.2.length:=by
          have : src[0] ∈ r.2.2:=(hQ.zero hz).2.1 _ (List.getElem_mem h0)
          exact List.length_pos_of_mem this
        have cS:=vc_Sort r.2.2.length r.2.2 (.loc 2) ⟨h.lift,[.flat true (r.2.1.flatMap Vm.encI),.cells true [I N.p,wys N.ws,.gl (.loc 0) 1 N.ws.length],.flat true (r.2.2.flatMap Vm.encI)]⟩ rfl (Nat.le_refl _) hpos (by omega) (srt r.2.2) (by unfold Go.Vm.srtI srt;rw [List.take_length];exact List.prefix_append _ _)
        have hl1 : r.2.1.length = N.ws.length:=hQ.len
        have hl2 : (srt r.2.2).length = r.2.2.length:=srt_len _
        conv=>whnf
        repeat' (first|((first|refine zs1 ?_|refine zs2 ?_|refine zs3 ?_|refine zs4 ?_|refine zs5 ?_);conv=>whnf)|((first|apply zi1|apply zi2|apply zi3|apply zi4|apply zi5) <;> intro _ <;> conv=>whnf)|(refine VCall.intro (cP) ?_;conv=>whnf)|(refine VCall.intro (cS) ?_;conv=>whnf))
        all_goals try (exfalso;omega)
        rw [d5]
        rw [← hl1,← hl2]
        refine VOut.data 3 [(0,r.2.1.flatMap Vm.encI),(2,(srt r.2.2).flatMap Vm.encI)] [] rfl zf (by exact FmAll.nil) zw
      · rw [if_neg hz] at d5
        have hpos : 0 < r.1:=by have:=hQ.low;omega
        obtain ⟨q1,q2⟩:=hQ.pos hpos
        have htop2:=val_top hP hh hwl q1
        conv=>whnf
        repeat' (first|((first|refine zs1 ?_|refine zs2 ?_|refine zs3 ?_|refine zs4 ?_|refine zs5 ?_);conv=>whnf)|((first|apply zi1|apply zi2|apply zi3|apply zi4|apply zi5) <;> intro _ <;> conv=>whnf)|(refine VCall.intro (cP) ?_;conv=>whnf))
        all_goals try (exfalso;omega)
        refine LEnd.intro (K,r.2.1,many + r.1) ⟨q1,by dsimp only;omega,by dsimp only;omega,by dsimp only;omega,d5⟩ (Nat.lt_succ_self _) ?_
        conv=>whnf
        refine Retell.turn ⟨[0,1],3,[],[]⟩ (TurnOk.mk' _ _ [] [] (OutOk.lift _) rfl (by decide) zb trivial trivial rfl) zw zm
end Go.Proofs.YtoeendggmalcpaaGreat

open Go.Vm
open Psg
namespace Psg
def brL (S : Int → Bool) (ws : List Wy) : List Int:=(ws.filter fun w=>S w.f && !S w.t).map fun w=>w.h
theorem brL_sum (S : Int → Bool) : ∀ ws : List Wy,(brL S ws).sum = bar S ws
  | []=>rfl
  | w :: ws=>by
    have ih:=brL_sum S ws
    unfold brL at ih ⊢
    rw [bar,List.filter_cons]
    cases S w.f && !S w.t
    · simp only [Bool.false_eq_true,if_false];rw [ih];simp [one]
    · simp only [if_true,List.map_cons,List.sum_cons];rw [ih];simp [one]
theorem brL_take {S : Int → Bool} {ws : List Wy} {k : Nat} {w : Wy} (h : ws[k]? = some w) : brL S (ws.take (k + 1)) = if (S w.f && !S w.t) = true then brL S (ws.take k) ++ [w.h] else brL S (ws.take k):=by
  unfold brL
  rw [List.take_add_one,h,List.filter_append,List.map_append]
  cases hc : S w.f && !S w.t <;> simp [List.filter,hc]
theorem brL_len (S : Int → Bool) (ws : List Wy) : (brL S ws).length ≤ ws.length:=by unfold brL;rw [List.length_map];exact List.length_filter_le _ _
theorem brL_mem {S : Int → Bool} {ws : List Wy} (hw : ∀ w ∈ ws,0 ≤ w.h ∧ w.h ≤ 1000) : ∀ x ∈ brL S ws,-1000000 ≤ x ∧ x ≤ 1000000:=by
  intro x hx
  unfold brL at hx
  obtain ⟨w,h1,rfl⟩:=List.mem_map.1 hx
  have:=hw w (List.mem_filter.1 h1).1
  omega
theorem take_sum {l : List Int} {k : Nat} {x : Int} (h : l[k]? = some x) : (l.take (k + 1)).sum = (l.take k).sum + x:=by
  rw [List.take_add_one,h,List.sum_append];simp
theorem sum_bd : ∀ (l : List Int) (b : Int),(∀ x ∈ l,-b ≤ x ∧ x ≤ b) → -(b * l.length) ≤ l.sum ∧ l.sum ≤ b * l.length
  | [],b,_=>by simp
  | x :: l,b,h=>by
    have h1:=h x List.mem_cons_self
    have h2:=sum_bd l b fun y hy=>h y (List.mem_cons_of_mem _ hy)
    rw [List.sum_cons,List.length_cons]
    have : b * ((l.length + 1 : Nat) : Int) = b * l.length + b:=by rw [Int.natCast_add,Int.mul_add];simp
    omega
end Psg
namespace Go.Proofs.YtoeendggmalcpaaGreat
set_option maxRecDepth 20000
set_option maxHeartbeats 4000000
theorem vc_sum (l : List Int) (h : Hp) (hl : l.length ≤ 1000) (hb : ∀ x ∈ l,-1000000 ≤ x ∧ x ≤ 1000000) : VC Tryz.prog 69 [ints l] h (I l.sum) h:=by
  refine VC.body Tryz.func69 rfl Tryz.ntmps69 Tryz.call69 (h.grows_refl) rfl ?_;conv=>whnf
  repeat' (first|((first|refine zs1 ?_|refine zs2 ?_|refine zs3 ?_|refine zs4 ?_|refine zs5 ?_);conv=>whnf)|((first|apply zi1|apply zi2|apply zi3|apply zi4|apply zi5) <;> intro _ <;> conv=>whnf))
  refine VCode.lp (outer:=h.lift) (marks:=[]) (fun k : Nat=>[(3,I (l.take k).sum),(6,ints l),(7,I l.length),(8,I k)]) (fun _=>[]) (fun k=>k ≤ l.length) (fun k=>l.length - k) 0 (Nat.zero_le _) ?_ ?_
  · conv=>whnf
    refine Retell.turn ⟨[],0,[],[]⟩ (TurnOk.mk' _ _ [] [] (OutOk.lift _) rfl (by decide) zb trivial trivial rfl) zw zm
  · intro k h1
    rcases Nat.lt_or_ge k l.length with h3|h3
    · have ha : l[k]? = some l[k]:=List.getElem?_eq_getElem h3
      have hx:=hb l[k] (List.getElem_mem h3)
      have hs:=take_sum ha
      have hs1:=sum_bd (l.take k) 1000000 fun x hx=>hb x (List.mem_of_mem_take hx)
      rw [List.length_take,Nat.min_eq_left (by omega)] at hs1
      generalize l[k] = a at ha hx hs
      generalize hq : (l.take k).sum = s at hs hs1
      conv=>whnf
      repeat' (first|((first|refine zs1 ?_|refine zs2 ?_|refine zs3 ?_|refine zs4 ?_|refine zs5 ?_);conv=>whnf)|((first|apply zi1|apply zi2|apply zi3|apply zi4|apply zi5) <;> intro _ <;> conv=>whnf)|(refine VAny.ix encI_len k rfl rfl ha ?_;conv=>whnf))
      all_goals try (exfalso;omega)
      refine LEnd.intro (k + 1) (by omega) (by omega) ?_
      rw [hs]
      conv=>whnf
      refine Retell.turn ⟨[],0,[],[]⟩ (TurnOk.mk' _ _ [] [] (OutOk.lift _) rfl (by decide) zb trivial trivial rfl) zw zm
    · conv=>whnf
      repeat' (first|((first|refine zs1 ?_|refine zs2 ?_|refine zs3 ?_|refine zs4 ?_|refine zs5 ?_);conv=>whnf)|((first|apply zi1|apply zi2|apply zi3|apply zi4|apply zi5) <;> intro _ <;> conv=>whnf))
      all_goals try (exfalso;omega)
      rw [List.take_of_length_le h3]
      exact VOut.same rfl
theorem vc_bars1 (S : List Int) (p : Int) (h : Hp) (hb : S.length ≤ 4000000) : VC Tryz.prog 72 (D.vs [] ++ [I p] ++ D.vs [.pt [dints S]]) h (B (decide (p ∈ S))) h:=by
  have c:=fun h=>vc_ContI S p h hb
  generalize decide (p ∈ S) = b at c
  refine VC.body Tryz.func72 rfl Tryz.ntmps72 Tryz.call72 (h.grows_refl) rfl ?_;conv=>whnf
  repeat' (first|((first|refine zs1 ?_|refine zs2 ?_|refine zs3 ?_|refine zs4 ?_|refine zs5 ?_|refine zs6 [] ?_);conv=>whnf)|((first|apply zi1|apply zi2|apply zi3|apply zi4|apply zi5) <;> intro _ <;> conv=>whnf)|(refine VCall.intro (c _) ?_;conv=>whnf))
  exact VOut.same rfl
theorem vc_bars2 (S : List Int) (p : Int) (h : Hp) (hb : S.length ≤ 4000000) : VC Tryz.prog 74 (D.vs [] ++ [I p] ++ D.vs [.pt [.func (.func 72) [] [.pt [dints S]]]]) h (B (!decide (p ∈ S))) h:=by
  have c:=fun h=>vc_bars1 S p h hb
  generalize decide (p ∈ S) = b at c
  refine VC.body Tryz.func74 rfl Tryz.ntmps74 Tryz.call74 (h.grows_refl) rfl ?_;conv=>whnf
  repeat' (first|((first|refine zs1 ?_|refine zs2 ?_|refine zs3 ?_|refine zs4 ?_|refine zs5 ?_|refine zs6 [] ?_);conv=>whnf)|((first|apply zi1|apply zi2|apply zi3|apply zi4|apply zi5) <;> intro _ <;> conv=>whnf)|(refine VCall.intro (c _) ?_;conv=>whnf))
  exact VOut.same rfl
def brsN (N : Nt) (a b S : List Int) : Int × Int :=
  if pas N a b = 0 then (if S.all (pstB N) = true then (if risB S = true then (if (a.all fun p=>decide (p ∈ S)) = true ∧ (b.all fun p=>!decide (p ∈ S)) = true then (bar (fun q=>decide (q ∈ S)) N.ws,0) else (0,9)) else (0,5)) else (0,2)) else (0,pas N a b)
theorem vc_Bars (N : Nt) (a b S : List Int) (h : Hp) (hn : N.ws.length ≤ 4000000) (ha : a.length ≤ 4000000) (hb : b.length ≤ 4000000) (hS : S.length ≤ 4000000) : VC Tryz.prog 35 [vN N,ints a,ints b,ints S] h (.tuple [I (brsN N a b S).1,I (brsN N a b S).2]) h:=by
  obtain ⟨R,hR⟩ : ∃ R,R = brsN N a b S:=⟨_,rfl⟩
  rw [← hR]
  unfold brsN at hR
  have cP:=fun h=>vc_pastured N a b h hn ha hb
  by_cases h0 : pas N a b = 0
  · rw [if_pos h0] at hR
    rw [h0] at cP
    obtain ⟨n,hN,hPs,ha0,hb0,_,_⟩:=pas_ok h0
    have hp:=hN.p
    have hn1:=hN.n1
    have hwl:=hN.len
    have cA:=fun h=>vc_allA S (pstB N) 43 N hS (fun e _ h=>vc_posted N e h (by omega)) h
    have cR:=fun h=>vc_rises S h hS
    have c1:=fun h=>vc_allP a (fun p=>decide (p ∈ S)) 72 [dints S] ha (fun e _ h=>vc_bars1 S e h hS) h
    have c2:=fun h=>vc_allP b (fun p=>!decide (p ∈ S)) 74 [.func (.func 72) [] [.pt [dints S]]] hb (fun e _ h=>vc_bars2 S e h hS) h
    generalize S.all (pstB N) = A at cA hR
    generalize risB S = RS at cR hR
    generalize (a.all fun p=>decide (p ∈ S)) = A1 at c1 hR
    generalize (b.all fun p=>!decide (p ∈ S)) = A2 at c2 hR
    refine VC.bodyC 3 Tryz.func35 rfl Tryz.ntmps35 Tryz.call35 (h.grows_refl) rfl ?_;conv=>whnf
    repeat' (first|((first|refine zs1 ?_|refine zs2 ?_|refine zs3 ?_|refine zs4 ?_|refine zs5 ?_);conv=>whnf)|((first|apply zi1|apply zi2|apply zi3|apply zi4|apply zi5) <;> intro _ <;> conv=>whnf)|(refine VCall.intro (cP _) ?_;conv=>whnf))
    refine VCut.at' (outer:=h.lift) (marks:=[]) 99 [(1,ints a),(2,ints b),(4,.fp (encN N)),(7,.fp [dints S]),(10,I 0),(11,.fp [.func (.func 72) [] [.pt [dints S]]])] [] ?_ ?_
    · conv=>whnf
      refine Retell.turn ⟨[],3,[(0,encN N),(1,[dints S]),(2,[.func (.func 72) [] [.pt [dints S]]])],[]⟩ (TurnOk.mk' _ _ [(0,encN N),(1,[dints S]),(2,[.func (.func 72) [] [.pt [dints S]]])] [] (OutOk.lift _) rfl (by decide) zb zr trivial rfl) zw zm
    · cases A
      · rw [if_neg (by simp)] at hR
        rw [hR]
        conv=>whnf
        repeat' (first|((first|refine zs1 ?_|refine zs2 ?_|refine zs3 ?_|refine zs4 ?_|refine zs5 ?_);conv=>whnf)|((first|apply zi1|apply zi2|apply zi3|apply zi4|apply zi5) <;> intro _ <;> conv=>whnf)|(refine VCall.intro (cA _) ?_;conv=>whnf))
        all_goals try (exfalso;omega)
        exact VOut.same rfl
      · rw [if_pos rfl] at hR
        cases RS
        · rw [if_neg (by simp)] at hR
          rw [hR]
          conv=>whnf
          repeat' (first|((first|refine zs1 ?_|refine zs2 ?_|refine zs3 ?_|refine zs4 ?_|refine zs5 ?_);conv=>whnf)|((first|apply zi1|apply zi2|apply zi3|apply zi4|apply zi5) <;> intro _ <;> conv=>whnf)|(refine VCall.intro (cA _) ?_;conv=>whnf)|(refine VCall.intro (cR _) ?_;conv=>whnf))
          all_goals try (exfalso;omega)
          exact VOut.same rfl
        · rw [if_pos rfl] at hR
          cases A1
          · rw [if_neg (by simp)] at hR
            rw [hR]
            conv=>whnf
            repeat' (first|((first|refine zs1 ?_|refine zs2 ?_|refine zs3 ?_|refine zs4 ?_|refine zs5 ?_);conv=>whnf)|((first|apply zi1|apply zi2|apply zi3|apply zi4|apply zi5) <;> intro _ <;> conv=>whnf)|(refine VCall.intro (cA _) ?_;conv=>whnf)|(refine VCall.intro (cR _) ?_;conv=>whnf)|(refine VCall.intro (c1 _) ?_;conv=>whnf))
            all_goals try (exfalso;omega)
            exact VOut.same rfl
          · cases A2
            · rw [if_neg (by simp)] at hR
              rw [hR]
              conv=>whnf
              repeat' (first|((first|refine zs1 ?_|refine zs2 ?_|refine zs3 ?_|refine zs4 ?_|refine zs5 ?_);conv=>whnf)|((first|apply zi1|apply zi2|apply zi3|apply zi4|apply zi5) <;> intro _ <;> conv=>whnf)|(refine VCall.intro (cA _) ?_;conv=>whnf)|(refine VCall.intro (cR _) ?_;conv=>whnf)|(refine VCall.intro (c1 _) ?_;conv=>whnf)|(refine VCall.intro (c2 _) ?_;conv=>whnf))
              all_goals try (exfalso;omega)
              exact VOut.same rfl
            · rw [if_pos ⟨rfl,rfl⟩] at hR
              rw [hR]
              clear hR
              have hh : ∀ w ∈ N.ws,0 ≤ w.h ∧ w.h ≤ 1000:=fun w hw=>(hN.ws w hw).h
              rw [← brL_sum]
              obtain ⟨SB,hSB⟩ : ∃ SB : Int → Bool,SB = fun q=>decide (q ∈ S):=⟨_,rfl⟩
              rw [← hSB]
              have c1':=fun p h=>vc_bars1 S p h hS
              have c2' : ∀ (p : Int) (h : Hp),VC Tryz.prog 72 (D.vs [] ++ [I p] ++ D.vs [.pt [dints S]]) h (B (SB p)) h:=fun p h=>by rw [hSB];exact c1' p h
              clear c1' hSB
              conv=>whnf
              repeat' (first|((first|refine zs1 ?_|refine zs2 ?_|refine zs3 ?_|refine zs4 ?_|refine zs5 ?_);conv=>whnf)|((first|apply zi1|apply zi2|apply zi3|apply zi4|apply zi5) <;> intro _ <;> conv=>whnf)|(refine VCall.intro (cA _) ?_;conv=>whnf)|(refine VCall.intro (cR _) ?_;conv=>whnf)|(refine VCall.intro (c1 _) ?_;conv=>whnf)|(refine VCall.intro (c2 _) ?_;conv=>whnf))
              all_goals try (exfalso;omega)
              refine VCode.lp (outer:=h.lift) (marks:=[]) (fun k : Nat=>[(11,.fp [.func (.func 72) [] [.pt [dints S]]]),(12,.gl (.loc 0) 1 (brL SB (N.ws.take k)).length),(46,wys N.ws),(47,I N.ws.length),(48,I k)]) (fun k=>[.flat true ((brL SB (N.ws.take k)).flatMap Vm.encI)]) (fun k=>k ≤ N.ws.length) (fun k=>N.ws.length - k) 0 (Nat.zero_le _) ?_ ?_
              · conv=>whnf
                refine Retell.turn ⟨[0],0,[],[]⟩ (TurnOk.mk' _ _ [] [] (OutOk.lift _) rfl (by decide) zb trivial trivial rfl) zw zm
              · intro k hk
                rcases Nat.lt_or_ge k N.ws.length with h3|h3
                · have ha : N.ws[k]? = some N.ws[k]:=List.getElem?_eq_getElem h3
                  have hx:=hh N.ws[k] (List.getElem_mem h3)
                  have ht:=brL_take (S:=SB) ha
                  have hl:=brL_len SB (N.ws.take k)
                  rw [List.length_take,Nat.min_eq_left (by omega)] at hl
                  generalize N.ws[k] = w at ha hx ht
                  have cf:=fun h=>c2' w.f h
                  have ct:=fun h=>c2' w.t h
                  generalize SB w.f = B1 at cf ht
                  generalize SB w.t = B2 at ct ht
                  generalize brL SB (N.ws.take k) = L at ht hl ⊢
                  cases B1 <;> cases B2
                  all_goals (
                    simp only [Bool.true_and,Bool.false_and,Bool.not_true,Bool.not_false,Bool.false_eq_true,if_false,if_true] at ht
                    conv=>whnf
                    repeat' (first|((first|refine zs1 ?_|refine zs2 ?_|refine zs3 ?_|refine zs4 ?_|refine zs5 ?_);conv=>whnf)|((first|apply zi1|apply zi2|apply zi3|apply zi4|apply zi5) <;> intro _ <;> conv=>whnf)|(refine VAny.ix encWy_len k rfl rfl ha ?_;conv=>whnf)|(refine VCall.intro (cf _) ?_;conv=>whnf)|(refine VCall.intro (ct _) ?_;conv=>whnf)|(refine VMem.app1 (l:=L) (w.h : Int) encI_len rfl rfl rfl rfl rfl (by omega) ?_;conv=>whnf))
                    all_goals try (exfalso;omega)
                    refine LEnd.intro (k + 1) (by omega) (by omega) ?_
                    rw [ht]
                    try rw [List.length_append]
                    conv=>whnf
                    first|(refine Retell.turn ⟨[0],2,[],[]⟩ (TurnOk.mk' _ _ [] [] (OutOk.lift _) rfl (by decide) zb trivial trivial rfl) zw zm)|(refine Retell.turn ⟨[3],4,[],[]⟩ (TurnOk.mk' _ _ [] [] (OutOk.lift _) rfl (by decide) zb trivial trivial rfl) zw zm))
                · have hl:=brL_len SB N.ws
                  have cS:=fun h=>vc_sum (brL SB N.ws) h (by omega) (brL_mem hh)
                  rw [List.take_of_length_le h3]
                  conv=>whnf
                  repeat' (first|((first|refine zs1 ?_|refine zs2 ?_|refine zs3 ?_|refine zs4 ?_|refine zs5 ?_);conv=>whnf)|((first|apply zi1|apply zi2|apply zi3|apply zi4|apply zi5) <;> intro _ <;> conv=>whnf))
                  all_goals try (exfalso;omega)
                  refine VCall.intro (VC.give (args':=[ints (brL SB N.ws)]) (loc':=[.dead]) [(0,(brL SB N.ws).flatMap Vm.encI)] [] (OutOk.lift _) zb zf (by exact FmAll.nil) rfl zw (cS _)) ?_
                  conv=>whnf
                  repeat' (first|((first|refine zs1 ?_|refine zs2 ?_|refine zs3 ?_|refine zs4 ?_|refine zs5 ?_);conv=>whnf)|((first|apply zi1|apply zi2|apply zi3|apply zi4|apply zi5) <;> intro _ <;> conv=>whnf))
                  exact VOut.same rfl
  · rw [if_neg h0] at hR
    generalize pas N a b = E at *
    refine VC.bodyC 3 Tryz.func35 rfl Tryz.ntmps35 Tryz.call35 (h.grows_refl) rfl ?_;conv=>whnf
    repeat' (first|((first|refine zs1 ?_|refine zs2 ?_|refine zs3 ?_|refine zs4 ?_|refine zs5 ?_);conv=>whnf)|((first|apply zi1|apply zi2|apply zi3|apply zi4|apply zi5) <;> intro _ <;> conv=>whnf)|(refine VCall.intro (cP _) ?_;conv=>whnf))
    refine VCut.at' (outer:=h.lift) (marks:=[]) 99 [(10,I E)] [] ?_ ?_
    · conv=>whnf
      refine Retell.turn ⟨[],3,[],[]⟩ (TurnOk.mk' _ _ [] [] (OutOk.lift _) rfl (by decide) zb trivial trivial rfl) zw zm
    · conv=>whnf
      repeat' (first|((first|refine zs1 ?_|refine zs2 ?_|refine zs3 ?_|refine zs4 ?_|refine zs5 ?_);conv=>whnf)|((first|apply zi1|apply zi2|apply zi3|apply zi4|apply zi5) <;> intro _ <;> conv=>whnf))
      all_goals try (exfalso;omega)
      rw [hR]
      exact VOut.same rfl
end Go.Proofs.YtoeendggmalcpaaGreat

open Go.Vm
open Psg
namespace Go.Proofs.YtoeendggmalcpaaGreat
set_option maxRecDepth 20000
set_option maxHeartbeats 4000000
def dvP (N : Nt) (a b : List Int) : List Int × Int × List Int:=dvN N.p.toNat N a b
theorem nok_nat {n : Nat} {N : Nt} (h : NOk n N) : N.p.toNat = n:=by have:=h.p;omega
def drvV (N : Nt) (a b : List Int) : V:=if pas N a b = 0 then .tuple [ints (dvP N a b).1,I (dvP N a b).2.1,I 0] else .tuple [.nilslice,I 0,I (pas N a b)]
def cutV (N : Nt) (a b : List Int) : V:=if pas N a b = 0 then .tuple [ints (dvP N a b).2.2,I 0] else .tuple [.nilslice,I (pas N a b)]
theorem vc_Drive (N : Nt) (a b : List Int) (h : Hp) (hn : N.ws.length ≤ 4000000) (ha : a.length ≤ 4000000) (hb : b.length ≤ 4000000) : VC Tryz.prog 38 [vN N,ints a,ints b] h (drvV N a b) h:=by
  have cP:=fun h=>vc_pastured N a b h hn ha hb
  unfold drvV
  by_cases h0 : pas N a b = 0
  · rw [if_pos h0]
    rw [h0] at cP
    obtain ⟨n,hN,hPs,ha0,hb0,_,_⟩:=pas_ok h0
    have cD:=fun h=>vc_driven hN hPs ha0 hb h
    have e : dvP N a b = dvN n N a b:=by unfold dvP;rw [nok_nat hN]
    rw [e]
    generalize dvN n N a b = r at cD
    refine VC.body Tryz.func38 rfl Tryz.ntmps38 Tryz.call38 (h.grows_refl) rfl ?_;conv=>whnf
    repeat' (first|((first|refine zs1 ?_|refine zs2 ?_|refine zs3 ?_|refine zs4 ?_|refine zs5 ?_);conv=>whnf)|((first|apply zi1|apply zi2|apply zi3|apply zi4|apply zi5) <;> intro _ <;> conv=>whnf)|(refine VCall.intro (cP _) ?_;conv=>whnf)|(refine VCall.intro (cD _) ?_;conv=>whnf))
    all_goals try (exfalso;omega)
    exact VOut.same rfl
  · rw [if_neg h0]
    generalize pas N a b = E at *
    refine VC.body Tryz.func38 rfl Tryz.ntmps38 Tryz.call38 (h.grows_refl) rfl ?_;conv=>whnf
    repeat' (first|((first|refine zs1 ?_|refine zs2 ?_|refine zs3 ?_|refine zs4 ?_|refine zs5 ?_);conv=>whnf)|((first|apply zi1|apply zi2|apply zi3|apply zi4|apply zi5) <;> intro _ <;> conv=>whnf)|(refine VCall.intro (cP _) ?_;conv=>whnf))
    all_goals try (exfalso;omega)
    exact VOut.same rfl
theorem vc_Cut (N : Nt) (a b : List Int) (h : Hp) (hn : N.ws.length ≤ 4000000) (ha : a.length ≤ 4000000) (hb : b.length ≤ 4000000) : VC Tryz.prog 39 [vN N,ints a,ints b] h (cutV N a b) h:=by
  have cP:=fun h=>vc_pastured N a b h hn ha hb
  unfold cutV
  by_cases h0 : pas N a b = 0
  · rw [if_pos h0]
    rw [h0] at cP
    obtain ⟨n,hN,hPs,ha0,hb0,_,_⟩:=pas_ok h0
    have cD:=fun h=>vc_driven hN hPs ha0 hb h
    have e : dvP N a b = dvN n N a b:=by unfold dvP;rw [nok_nat hN]
    rw [e]
    generalize dvN n N a b = r at cD
    refine VC.body Tryz.func39 rfl Tryz.ntmps39 Tryz.call39 (h.grows_refl) rfl ?_;conv=>whnf
    repeat' (first|((first|refine zs1 ?_|refine zs2 ?_|refine zs3 ?_|refine zs4 ?_|refine zs5 ?_);conv=>whnf)|((first|apply zi1|apply zi2|apply zi3|apply zi4|apply zi5) <;> intro _ <;> conv=>whnf)|(refine VCall.intro (cP _) ?_;conv=>whnf)|(refine VCall.intro (cD _) ?_;conv=>whnf))
    all_goals try (exfalso;omega)
    exact VOut.same rfl
  · rw [if_neg h0]
    generalize pas N a b = E at *
    refine VC.body Tryz.func39 rfl Tryz.ntmps39 Tryz.call39 (h.grows_refl) rfl ?_;conv=>whnf
    repeat' (first|((first|refine zs1 ?_|refine zs2 ?_|refine zs3 ?_|refine zs4 ?_|refine zs5 ?_);conv=>whnf)|((first|apply zi1|apply zi2|apply zi3|apply zi4|apply zi5) <;> intro _ <;> conv=>whnf)|(refine VCall.intro (cP _) ?_;conv=>whnf))
    all_goals try (exfalso;omega)
    exact VOut.same rfl
end Go.Proofs.YtoeendggmalcpaaGreat

open Go.Vm
open Psg
namespace Psg
def lessN (N : Nt) (i : Nat) (w : Wy) : Nt:={ N with ws:=N.ws.set i (lessW w) }
theorem nok_less {n : Nat} {N : Nt} {i : Nat} {w : Wy} (hN : NOk n N) (hi : N.ws[i]? = some w) (h1 : 1 ≤ w.h) : NOk n (lessN N i w):=by
  have hw:=hN.ws w (List.mem_of_getElem? hi)
  have hne:=hN.ne w (List.mem_of_getElem? hi)
  refine ⟨hN.p,hN.n1,by unfold lessN;simp only [List.length_set];exact hN.len,fun v hv=>?_,fun v hv=>?_⟩
  · rcases List.mem_or_eq_of_mem_set hv with h|rfl
    · exact hN.ws v h
    · exact ⟨hw.f,hw.t,hw.d,by have:=hw.h;show 0 ≤ w.h - 1 ∧ w.h - 1 ≤ 1000;omega,hw.n,hw.g,hw.lo,hw.hi⟩
  · rcases List.mem_or_eq_of_mem_set hv with h|rfl
    · exact hN.ne v h
    · exact hne
theorem ps_less {n : Nat} {N : Nt} {i : Nat} {w : Wy} {a b : List Int} (hP : Ps n N.ws a b) (hi : N.ws[i]? = some w) : Ps n (lessN N i w).ws a b:=by
  refine ⟨fun v hv=>?_,hP.smt,hP.gin,hP.dis⟩
  rcases List.mem_or_eq_of_mem_set hv with h|rfl
  · exact hP.inN v h
  · exact hP.inN w (List.mem_of_getElem? hi)
end Psg
namespace Go.Proofs.YtoeendggmalcpaaGreat
set_option maxRecDepth 20000
set_option maxHeartbeats 4000000
def narB (N : Nt) (a b : List Int) (i : Nat) : Bool :=
  let w:=N.ws.getD i ⟨0,0,0,0,0,0,0,0⟩
  decide (1 ≤ w.h) && decide ((dvP (lessN N i w) a b).2.1 < (dvP N a b).2.1)
def narL (N : Nt) (a b : List Int) : Nat → List Int
  | 0=>[]
  | k + 1=>if narB N a b k = true then narL N a b k ++ [(k : Int)] else narL N a b k
theorem narL_len (N : Nt) (a b : List Int) : ∀ k,(narL N a b k).length ≤ k
  | 0=>Nat.le_refl _
  | k + 1=>by
    have:=narL_len N a b k
    rw [narL]
    split
    · rw [List.length_append];simp;omega
    · omega
def narV (N : Nt) (a b : List Int) : V:=if pas N a b = 0 then .tuple [ints (narL N a b N.ws.length),I 0] else .tuple [.nilslice,I (pas N a b)]
def wy0 : Wy:=⟨0,0,0,0,0,0,0,0⟩
theorem encWy_s (w : Wy) : ∀ d ∈ encWy w,∃ x,d = D.s x:=by
  intro d hd
  simp only [encWy,List.mem_cons,List.not_mem_nil,or_false] at hd
  rcases hd with rfl|rfl|rfl|rfl|rfl|rfl|rfl|rfl <;> exact ⟨_,rfl⟩
theorem vc_Narrow (N : Nt) (a b : List Int) (h : Hp) (hn : N.ws.length ≤ 4000000) (ha : a.length ≤ 4000000) (hb : b.length ≤ 4000000) : VC Tryz.prog 40 [vN N,ints a,ints b] h (narV N a b) h:=by
  have cP:=fun h=>vc_pastured N a b h hn ha hb
  unfold narV
  by_cases h0 : pas N a b = 0
  · rw [if_pos h0]
    rw [h0] at cP
    obtain ⟨n,hN,hPs,ha0,hb0,_,_⟩:=pas_ok h0
    have hwl:=hN.len
    have cD:=fun h=>vc_driven hN hPs ha0 hb h
    have e : dvP N a b = dvN n N a b:=by unfold dvP;rw [nok_nat hN]
    obtain ⟨r,hr⟩ : ∃ r,r = dvP N a b:=⟨_,rfl⟩
    rw [← e,← hr] at cD
    refine VC.bodyC 1 Tryz.func40 rfl Tryz.ntmps40 Tryz.call40 (h.grows_refl) rfl ?_;conv=>whnf
    refine VCut.at' (outer:=h.lift) (marks:=[]) 99 [(1,ints a),(2,ints b),(3,.fp (encN N))] [] ?_ ?_
    · conv=>whnf
      refine Retell.turn ⟨[],1,[(0,encN N)],[]⟩ (TurnOk.mk' _ _ [(0,encN N)] [] (OutOk.lift _) rfl (by decide) zb zf trivial rfl) zw zm
    · conv=>whnf
      repeat' (first|((first|refine zs1 ?_|refine zs2 ?_|refine zs3 ?_|refine zs4 ?_|refine zs5 ?_);conv=>whnf)|((first|apply zi1|apply zi2|apply zi3|apply zi4|apply zi5) <;> intro _ <;> conv=>whnf)|(refine VCall.intro (cP _) ?_;conv=>whnf)|(refine VCall.intro (cD _) ?_;conv=>whnf))
      all_goals try (exfalso;omega)
      refine VCode.lp (outer:=h.lift) (marks:=[]) (fun k : Nat=>[(1,ints a),(2,ints b),(3,.fp (encN N)),(10,I r.2.1),(12,.gl (.loc 0) 1 (narL N a b k).length),(35,I N.ws.length),(36,I k)]) (fun k=>[.flat true ((narL N a b k).flatMap Vm.encI)]) (fun k=>k ≤ N.ws.length) (fun k=>N.ws.length - k) 0 (Nat.zero_le _) ?_ ?_
      · conv=>whnf
        refine Retell.turn ⟨[0],0,[],[]⟩ (TurnOk.mk' _ _ [] [] (OutOk.lift _) rfl (by decide) zb trivial trivial rfl) zw zm
      · intro k hk
        rcases Nat.lt_or_ge k N.ws.length with h3|h3
        · have hw : N.ws[k]? = some N.ws[k]:=List.getElem?_eq_getElem h3
          have hx:=(hN.ws N.ws[k] (List.getElem_mem h3)).h
          have hl:=narL_len N a b k
          have hB : narB N a b k = (decide (1 ≤ N.ws[k].h) && decide ((dvP (lessN N k N.ws[k]) a b).2.1 < r.2.1)):=by
            have : N.ws.getD k ⟨0,0,0,0,0,0,0,0⟩ = N.ws[k]:=by rw [List.getD_eq_getElem?_getD,hw];rfl
            unfold narB
            rw [this,hr]
          have hL : narL N a b (k + 1) = if narB N a b k = true then narL N a b k ++ [(k : Int)] else narL N a b k:=rfl
          rw [hB] at hL
          generalize N.ws[k] = w at hw hx hL
          generalize narL N a b k = L at hl hL ⊢
          have hw' : (N.ws.set k (lessW w))[k]? = some (lessW w):=by rw [List.getElem?_set_self h3]
          have hlh : (lessW w).h = w.h - 1:=rfl
          have hfl : ((N.ws.set k (lessW w)).flatMap encWy).length = N.ws.length * 8:=by rw [flat_len encWy_len,List.length_set]
          by_cases h1 : 1 ≤ w.h
          · have cE:=fun h=>vc_driven (nok_less hN hw h1) (ps_less hPs hw) ha0 hb h
            have e2 : dvP (lessN N k w) a b = dvN n (lessN N k w) a b:=by unfold dvP;rw [nok_nat (nok_less hN hw h1)]
            rw [← e2] at cE
            rw [decide_eq_true h1,Bool.true_and] at hL
            generalize dvP (lessN N k w) a b = r2 at cE hL
            simp only [vN,wys,lessN,List.length_set] at cE
            conv=>whnf
            repeat' (first|((first|refine zs1 ?_|refine zs2 ?_|refine zs3 ?_|refine zs4 ?_|refine zs5 ?_);conv=>whnf)|((first|apply zi1|apply zi2|apply zi3|apply zi4|apply zi5) <;> intro _ <;> conv=>whnf))
            all_goals try (exfalso;omega)
            refine zs6 [] ?_
            conv=>whnf
            repeat' (first|((first|refine zs1 ?_|refine zs2 ?_|refine zs3 ?_|refine zs4 ?_|refine zs5 ?_);conv=>whnf)|((first|apply zi1|apply zi2|apply zi3|apply zi4|apply zi5) <;> intro _ <;> conv=>whnf)|(refine VMkD.makeR wy0 N.ws.length encWy_len (encWy_s _) rfl rfl rfl rfl rfl rfl rfl (by decide) (by omega) ?_;conv=>whnf)|(refine VMem.copyFs (l:=List.replicate N.ws.length wy0) (l2:=N.ws) encWy_len rfl rfl (by simp) rfl rfl ?_;conv=>whnf)|(refine VLd.recc encWy_len k 3 rfl rfl rfl hw (by decide) rfl (by show (k : Int).toNat * 8 + 3 = k * 8 + 3;omega) ?_;conv=>whnf)|(refine VMem.setRec encWy_len k 3 (lessW w) rfl rfl rfl hw (by decide) rfl (by show (k : Int).toNat * 8 + 3 = k * 8 + 3;omega) ?_;conv=>whnf)|(refine VLd.recc encWy_len k 3 rfl rfl rfl hw' (by decide) rfl (by show (k : Int).toNat * 8 + 3 = k * 8 + 3;omega) ?_;conv=>whnf))
            all_goals try (exfalso;omega)
            refine VCall.intro (VC.give (args':=[.agg [I N.p,.fs 8 N.ws.length ((N.ws.set k (lessW w)).flatMap encWy)],ints a,ints b]) (loc':=[.flat true (L.flatMap Vm.encI),.dead,.dead]) [(1,(N.ws.set k (lessW w)).flatMap encWy)] [] (OutOk.lift _) zb zf (by exact FmAll.nil) rfl zw (cE _)) ?_
            conv=>whnf
            repeat' (first|((first|refine zs1 ?_|refine zs2 ?_|refine zs3 ?_|refine zs4 ?_|refine zs5 ?_);conv=>whnf)|((first|apply zi1|apply zi2|apply zi3|apply zi4|apply zi5) <;> intro _ <;> conv=>whnf)|(refine VMem.app1 (l:=L) (k : Int) encI_len rfl rfl rfl rfl rfl (by omega) ?_;conv=>whnf))
            · rename_i hlt
              rw [if_pos (decide_eq_true hlt)] at hL
              refine LEnd.intro (k + 1) (by omega) (by omega) ?_
              rw [hL,List.length_append]
              conv=>whnf
              refine Retell.turn ⟨[4],5,[],[]⟩ (TurnOk.mk' _ _ [] [] (OutOk.lift _) rfl (by decide) zb trivial trivial rfl) zw zm
            · rename_i hlt
              rw [if_neg (by simpa using hlt)] at hL
              refine LEnd.intro (k + 1) (by omega) (by omega) ?_
              rw [hL]
              conv=>whnf
              refine Retell.turn ⟨[0],3,[],[]⟩ (TurnOk.mk' _ _ [] [] (OutOk.lift _) rfl (by decide) zb trivial trivial rfl) zw zm
          · rw [decide_eq_false h1,Bool.false_and,if_neg (by simp)] at hL
            conv=>whnf
            repeat' (first|((first|refine zs1 ?_|refine zs2 ?_|refine zs3 ?_|refine zs4 ?_|refine zs5 ?_);conv=>whnf)|((first|apply zi1|apply zi2|apply zi3|apply zi4|apply zi5) <;> intro _ <;> conv=>whnf))
            all_goals try (exfalso;omega)
            refine zs6 [] ?_
            conv=>whnf
            repeat' (first|((first|refine zs1 ?_|refine zs2 ?_|refine zs3 ?_|refine zs4 ?_|refine zs5 ?_);conv=>whnf)|((first|apply zi1|apply zi2|apply zi3|apply zi4|apply zi5) <;> intro _ <;> conv=>whnf)|(refine VMkD.makeR wy0 N.ws.length encWy_len (encWy_s _) rfl rfl rfl rfl rfl rfl rfl (by decide) (by omega) ?_;conv=>whnf)|(refine VMem.copyFs (l:=List.replicate N.ws.length wy0) (l2:=N.ws) encWy_len rfl rfl (by simp) rfl rfl ?_;conv=>whnf)|(refine VLd.recc encWy_len k 3 rfl rfl rfl hw (by decide) rfl (by show (k : Int).toNat * 8 + 3 = k * 8 + 3;omega) ?_;conv=>whnf)|(refine VMem.setRec encWy_len k 3 (lessW w) rfl rfl rfl hw (by decide) rfl (by show (k : Int).toNat * 8 + 3 = k * 8 + 3;omega) ?_;conv=>whnf)|(refine VLd.recc encWy_len k 3 rfl rfl rfl hw' (by decide) rfl (by show (k : Int).toNat * 8 + 3 = k * 8 + 3;omega) ?_;conv=>whnf))
            all_goals try (exfalso;omega)
            refine LEnd.intro (k + 1) (by omega) (by omega) ?_
            rw [hL]
            conv=>whnf
            refine Retell.turn ⟨[0],3,[],[]⟩ (TurnOk.mk' _ _ [] [] (OutOk.lift _) rfl (by decide) zb trivial trivial rfl) zw zm
        · have hkl : k = N.ws.length:=by omega
          subst hkl
          generalize narL N a b N.ws.length = L
          conv=>whnf
          repeat' (first|((first|refine zs1 ?_|refine zs2 ?_|refine zs3 ?_|refine zs4 ?_|refine zs5 ?_);conv=>whnf)|((first|apply zi1|apply zi2|apply zi3|apply zi4|apply zi5) <;> intro _ <;> conv=>whnf))
          all_goals try (exfalso;omega)
          refine VOut.data 1 [(0,L.flatMap Vm.encI)] [] rfl zf (by exact FmAll.nil) zw
  · rw [if_neg h0]
    generalize pas N a b = E at *
    refine VC.bodyC 1 Tryz.func40 rfl Tryz.ntmps40 Tryz.call40 (h.grows_refl) rfl ?_;conv=>whnf
    refine VCut.at' (outer:=h.lift) (marks:=[]) 99 [(1,ints a),(2,ints b),(3,.fp (encN N))] [] ?_ ?_
    · conv=>whnf
      refine Retell.turn ⟨[],1,[(0,encN N)],[]⟩ (TurnOk.mk' _ _ [(0,encN N)] [] (OutOk.lift _) rfl (by decide) zb zf trivial rfl) zw zm
    · conv=>whnf
      repeat' (first|((first|refine zs1 ?_|refine zs2 ?_|refine zs3 ?_|refine zs4 ?_|refine zs5 ?_);conv=>whnf)|((first|apply zi1|apply zi2|apply zi3|apply zi4|apply zi5) <;> intro _ <;> conv=>whnf)|(refine VCall.intro (cP _) ?_;conv=>whnf))
      all_goals try (exfalso;omega)
      exact VOut.same rfl
end Go.Proofs.YtoeendggmalcpaaGreat

open Go.Vm
open Psg
namespace Psg
def bndA : List Wy → List Int → Bool
  | w :: ws,x :: xs=>inB x 0 w.h && bndA ws xs
  | _,_=>true
theorem bndA_at {ws : List Wy} {xs : List Int} {k : Nat} {w : Wy} {x : Int} (h1 : ws[k]? = some w) (h2 : xs[k]? = some x) : bndA (ws.drop k) (xs.drop k) = (inB x 0 w.h && bndA (ws.drop (k + 1)) (xs.drop (k + 1))):=by
  obtain ⟨l1,rfl⟩:=List.getElem?_eq_some_iff.1 h1
  obtain ⟨l2,rfl⟩:=List.getElem?_eq_some_iff.1 h2
  rw [List.drop_eq_getElem_cons l1,List.drop_eq_getElem_cons l2,bndA]
theorem bndA_iff : ∀ {ws : List Wy} {xs : List Int},xs.length = ws.length → (bndA ws xs = true ↔ Bnd ws xs)
  | [],[],_=>by simp [bndA,Bnd]
  | w :: ws,x :: xs,h=>by
    have ih:=bndA_iff (ws:=ws) (xs:=xs) (by simpa using h)
    rw [bndA,Bnd,Bool.and_eq_true,ih,inB_iff]
  | [],_ :: _,h=>by simp at h
  | _ :: _,[],h=>by simp at h
def upN (X : List Int) (w : Wy) (x : Int) : List Int :=
  (X.set w.f.toNat (X.getD w.f.toNat 0 + x)).set w.t.toNat ((X.set w.f.toNat (X.getD w.f.toNat 0 + x)).getD w.t.toNat 0 - x)
theorem getD_set {X : List Int} {i j : Nat} {v : Int} (hi : i < X.length) : (X.set i v).getD j 0 = if i = j then v else X.getD j 0:=by
  rw [List.getD_eq_getElem?_getD,List.getElem?_set,List.getD_eq_getElem?_getD]
  split
  · rename_i h;subst h;simp [hi]
  · rfl
theorem upN_get {n : Nat} {X : List Int} {w : Wy} {x : Int} (hn : n ≤ 10) (hX : X.length = 10) (hf : 0 ≤ w.f ∧ w.f < n) (ht : 0 ≤ w.t ∧ w.t < n) (p : Nat) : (upN X w x).getD p 0 = X.getD p 0 + one (eqB p w.f) x - one (eqB p w.t) x:=by
  unfold upN
  rw [getD_set (by rw [List.length_set];omega),getD_set (by omega),getD_set (by omega)]
  have e1 : eqB p w.f = decide (w.f.toNat = p):=decide_eq_decide.2 (by constructor <;> intro h <;> omega)
  have e2 : eqB p w.t = decide (w.t.toNat = p):=decide_eq_decide.2 (by constructor <;> intro h <;> omega)
  rw [e1,e2]
  by_cases h1 : w.f.toNat = p <;> by_cases h2 : w.t.toNat = p <;> simp [h1,h2,one] <;> (try (by_cases h3 : w.f.toNat = w.t.toNat <;> simp_all <;> omega)) <;> (try omega)
theorem flux_take (S : Int → Bool) : ∀ {ws : List Wy} {xs : List Int} {k : Nat} {w : Wy} {x : Int},ws[k]? = some w → xs[k]? = some x → flux S (ws.take (k + 1)) (xs.take (k + 1)) = flux S (ws.take k) (xs.take k) + one (S w.f) x - one (S w.t) x
  | u :: ws,y :: xs,0,w,x,h1,h2=>by
    simp only [List.getElem?_cons_zero,Option.some.injEq] at h1 h2
    subst h1 h2
    simp [flux]
  | u :: ws,y :: xs,k + 1,w,x,h1,h2=>by
    rw [List.getElem?_cons_succ] at h1 h2
    have:=flux_take S h1 h2
    simp only [List.take_succ_cons,flux]
    rw [this];omega
  | [],_,_,_,_,h1,_=>by simp at h1
  | _ :: _,[],_,_,_,_,h2=>by simp at h2
structure NI (ws : List Wy) (xs : List Int) (k : Nat) (X : List Int) : Prop where
  len : X.length = 10
  net : ∀ p : Nat,p < 10 → X.getD p 0 = net p (ws.take k) (xs.take k)
  bd : ∀ p : Nat,-(1000 * (k : Int)) ≤ X.getD p 0 ∧ X.getD p 0 ≤ 1000 * (k : Int)
theorem ni0 (ws : List Wy) (xs : List Int) : NI ws xs 0 (List.replicate 10 0):=by
  have e : ∀ p : Nat,(List.replicate 10 (0 : Int)).getD p 0 = 0:=fun p=>by
    rw [List.getD_eq_getElem?_getD,List.getElem?_replicate];split <;> rfl
  refine ⟨rfl,fun p _=>?_,fun p=>?_⟩
  · rw [e];simp [Psg.net,flux]
  · rw [e];omega
theorem NI.step {n : Nat} {ws : List Wy} {xs : List Int} {k : Nat} {X : List Int} {w : Wy} {x : Int} (h : NI ws xs k X) (hn : n ≤ 10) (h1 : ws[k]? = some w) (h2 : xs[k]? = some x) (hf : 0 ≤ w.f ∧ w.f < n) (ht : 0 ≤ w.t ∧ w.t < n) (hx : 0 ≤ x ∧ x ≤ 1000) : NI ws xs (k + 1) (upN X w x):=by
  refine ⟨by unfold upN;rw [List.length_set,List.length_set];exact h.len,fun p hp=>?_,fun p=>?_⟩
  · rw [upN_get hn h.len hf ht,h.net p hp]
    unfold Psg.net
    rw [flux_take _ h1 h2]
  · rw [upN_get hn h.len hf ht]
    have:=h.bd p
    cases eqB p w.f <;> cases eqB p w.t <;> simp only [one,cond_true,cond_false] <;> push_cast <;> omega
def gotL (a X : List Int) : Nat → List Int
  | 0=>[]
  | k + 1=>if (k : Int) ∈ a then gotL a X k ++ [X.getD k 0] else gotL a X k
theorem gotL_len (a X : List Int) : ∀ k,(gotL a X k).length ≤ k
  | 0=>Nat.le_refl _
  | k + 1=>by
    have:=gotL_len a X k
    rw [gotL]
    split
    · rw [List.length_append];simp;omega
    · omega
theorem gotL_mem (a X : List Int) : ∀ k x,x ∈ gotL a X k → ∃ p,x = X.getD p 0
  | 0,x,h=>by simp [gotL] at h
  | k + 1,x,h=>by
    rw [gotL] at h
    split at h
    · rcases List.mem_append.1 h with h|h
      · exact gotL_mem a X k x h
      · simp at h;exact ⟨k,h⟩
    · exact gotL_mem a X k x h
theorem gotL_sum (a X : List Int) : ∀ k,(gotL a X k).sum = sumTo k fun p=>one (decide ((p : Int) ∈ a)) (X.getD p 0)
  | 0=>rfl
  | k + 1=>by
    have:=gotL_sum a X k
    rw [gotL,sumTo]
    split
    · rename_i h;rw [List.sum_append,this,decide_eq_true h];simp [one]
    · rename_i h;rw [this,decide_eq_false h];simp [one]
end Psg
namespace Go.Proofs.YtoeendggmalcpaaGreat
set_option maxRecDepth 20000
set_option maxHeartbeats 4000000
def conB (n : Nat) (ws : List Wy) (a b hs : List Int) : Bool:=(List.range n).all fun j=>decide ((j : Int) ∈ a) || decide ((j : Int) ∈ b) || decide (net j ws hs = 0)
theorem conB_iff {n : Nat} {ws : List Wy} {a b hs : List Int} : conB n ws a b hs = true ↔ ∀ j < n,(j : Int) ∈ a ∨ (j : Int) ∈ b ∨ net j ws hs = 0:=by
  unfold conB
  rw [List.all_eq_true]
  simp only [List.mem_range,Bool.or_eq_true,decide_eq_true_eq,or_assoc]
def brgN (N : Nt) (a b hs : List Int) : Int × Int :=
  if pas N a b = 0 then (if hs.length = N.ws.length then (if bndA N.ws hs = true then (if conB N.p.toNat N.ws a b hs = true then (val N.p.toNat N.ws a hs,0) else (0,9)) else (0,4)) else (0,3)) else (0,pas N a b)
theorem vc_Brings (N : Nt) (a b hs : List Int) (h : Hp) (hn : N.ws.length ≤ 4000000) (ha : a.length ≤ 4000000) (hb : b.length ≤ 4000000) (hh : hs.length ≤ 4000000) : VC Tryz.prog 33 [vN N,ints a,ints b,ints hs] h (.tuple [I (brgN N a b hs).1,I (brgN N a b hs).2]) h:=by
  obtain ⟨R,hR⟩ : ∃ R,R = brgN N a b hs:=⟨_,rfl⟩
  rw [← hR]
  unfold brgN at hR
  have cP:=fun h=>vc_pastured N a b h hn ha hb
  by_cases h0 : pas N a b = 0
  · rw [if_pos h0] at hR
    rw [h0] at cP
    obtain ⟨n,hN,hPs,ha0,hb0,_,_⟩:=pas_ok h0
    have hp:=hN.p
    have hn1:=hN.n1
    have hwl:=hN.len
    rw [nok_nat hN] at hR
    refine VC.bodyC 1 Tryz.func33 rfl Tryz.ntmps33 Tryz.call33 (h.grows_refl) rfl ?_;conv=>whnf
    refine VCut.at' (outer:=h.lift) (marks:=[]) 99 [(1,ints a),(2,ints b),(3,ints hs),(4,.fp (encN N))] [] ?_ ?_
    · conv=>whnf
      refine Retell.turn ⟨[],1,[(0,encN N)],[]⟩ (TurnOk.mk' _ _ [(0,encN N)] [] (OutOk.lift _) rfl (by decide) zb zf trivial rfl) zw zm
    · by_cases hl : hs.length = N.ws.length
      · rw [if_pos hl] at hR
        conv=>whnf
        repeat' (first|((first|refine zs1 ?_|refine zs2 ?_|refine zs3 ?_|refine zs4 ?_|refine zs5 ?_);conv=>whnf)|((first|apply zi1|apply zi2|apply zi3|apply zi4|apply zi5) <;> intro _ <;> conv=>whnf)|(refine VCall.intro (cP _) ?_;conv=>whnf))
        all_goals try (exfalso;omega)
        refine VCode.lp (outer:=h.lift) (marks:=[]) (fun k : Nat=>[(1,ints a),(2,ints b),(3,ints hs),(4,.fp (encN N)),(34,wys N.ws),(35,I N.ws.length),(36,I k)]) (fun _=>[]) (fun k=>k ≤ N.ws.length ∧ bndA N.ws hs = bndA (N.ws.drop k) (hs.drop k)) (fun k=>N.ws.length - k) 0 ⟨Nat.zero_le _,rfl⟩ ?_ ?_
        · conv=>whnf
          refine Retell.turn ⟨[],0,[],[]⟩ (TurnOk.mk' _ _ [] [] (OutOk.lift _) rfl (by decide) zb trivial trivial rfl) zw zm
        · rintro k ⟨k1,k2⟩
          rcases Nat.lt_or_ge k N.ws.length with h3|h3
          · have hw : N.ws[k]? = some N.ws[k]:=List.getElem?_eq_getElem h3
            have hx : hs[k]? = some hs[k]:=List.getElem?_eq_getElem (by omega)
            rw [bndA_at hw hx] at k2
            generalize N.ws[k] = w at hw k2
            generalize hs[k] = x at hx k2
            by_cases hb : 0 ≤ x ∧ x ≤ w.h
            · have cF:=fun h=>vc_from x 0 w.h h
              rw [decide_eq_true hb] at cF
              rw [inB_iff.2 hb,Bool.true_and] at k2
              conv=>whnf
              repeat' (first|((first|refine zs1 ?_|refine zs2 ?_|refine zs3 ?_|refine zs4 ?_|refine zs5 ?_);conv=>whnf)|((first|apply zi1|apply zi2|apply zi3|apply zi4|apply zi5) <;> intro _ <;> conv=>whnf)|(refine VAny.ix encWy_len k rfl rfl hw ?_;conv=>whnf))
              all_goals try (exfalso;omega)
              refine zs6 [] ?_
              conv=>whnf
              repeat' (first|((first|refine zs1 ?_|refine zs2 ?_|refine zs3 ?_|refine zs4 ?_|refine zs5 ?_);conv=>whnf)|((first|apply zi1|apply zi2|apply zi3|apply zi4|apply zi5) <;> intro _ <;> conv=>whnf)|(refine VAny.ix encWy_len k rfl rfl hw ?_;conv=>whnf)|(refine VAny.ix encI_len k rfl rfl hx ?_;conv=>whnf)|(refine VCall.intro (cF _) ?_;conv=>whnf))
              all_goals try (exfalso;omega)
              refine LEnd.intro (k + 1) ⟨by omega,k2⟩ (by omega) ?_
              conv=>whnf
              refine Retell.turn ⟨[],1,[],[]⟩ (TurnOk.mk' _ _ [] [] (OutOk.lift _) rfl (by decide) zb trivial trivial rfl) zw zm
            · have cF:=fun h=>vc_from x 0 w.h h
              rw [decide_eq_false hb] at cF
              have : inB x 0 w.h = false:=by
                cases hq : inB x 0 w.h
                · rfl
                · exact absurd (inB_iff.1 hq) hb
              rw [this,Bool.false_and] at k2
              rw [if_neg (by rw [k2];simp)] at hR
              conv=>whnf
              repeat' (first|((first|refine zs1 ?_|refine zs2 ?_|refine zs3 ?_|refine zs4 ?_|refine zs5 ?_);conv=>whnf)|((first|apply zi1|apply zi2|apply zi3|apply zi4|apply zi5) <;> intro _ <;> conv=>whnf)|(refine VAny.ix encWy_len k rfl rfl hw ?_;conv=>whnf))
              all_goals try (exfalso;omega)
              refine zs6 [] ?_
              conv=>whnf
              repeat' (first|((first|refine zs1 ?_|refine zs2 ?_|refine zs3 ?_|refine zs4 ?_|refine zs5 ?_);conv=>whnf)|((first|apply zi1|apply zi2|apply zi3|apply zi4|apply zi5) <;> intro _ <;> conv=>whnf)|(refine VAny.ix encWy_len k rfl rfl hw ?_;conv=>whnf)|(refine VAny.ix encI_len k rfl rfl hx ?_;conv=>whnf)|(refine VCall.intro (cF _) ?_;conv=>whnf))
              all_goals try (exfalso;omega)
              rw [hR]
              exact VOut.same rfl
          · have hk : k = N.ws.length:=by omega
            subst hk
            have e1 : bndA ([] : List Wy) (hs.drop N.ws.length) = true:=by cases hs.drop N.ws.length <;> rfl
            rw [List.drop_of_length_le (Nat.le_refl N.ws.length),e1] at k2
            rw [if_pos k2] at hR
            have hB:=(bndA_iff hl).1 k2
            conv=>whnf
            repeat' (first|((first|refine zs1 ?_|refine zs2 ?_|refine zs3 ?_|refine zs4 ?_|refine zs5 ?_);conv=>whnf)|((first|apply zi1|apply zi2|apply zi3|apply zi4|apply zi5) <;> intro _ <;> conv=>whnf))
            all_goals try (exfalso;omega)
            refine VCode.lp (outer:=h.lift) (marks:=[]) (fun y : Nat × List Int=>[(1,ints a),(2,ints b),(3,ints hs),(4,.fp (encN N)),(13,.ptr (.loc 0) 0),(51,wys N.ws),(52,I N.ws.length),(53,I y.1)]) (fun y=>[.flat true (y.2.flatMap Vm.encI)]) (fun y=>y.1 ≤ N.ws.length ∧ NI N.ws hs y.1 y.2) (fun y=>N.ws.length - y.1) (0,List.replicate 10 0) ⟨Nat.zero_le _,ni0 _ _⟩ ?_ ?_
            · conv=>whnf
              refine Retell.turn ⟨[0],1,[],[]⟩ (TurnOk.mk' _ _ [] [] (OutOk.lift _) rfl (by decide) zb trivial trivial rfl) zw zm
            · rintro ⟨k,X⟩ ⟨k1,k3⟩
              dsimp only at k1 k3 ⊢
              rcases Nat.lt_or_ge k N.ws.length with h3|h3
              · have hw : N.ws[k]? = some N.ws[k]:=List.getElem?_eq_getElem h3
                have hx : hs[k]? = some hs[k]:=List.getElem?_eq_getElem (by omega)
                have hwo:=hN.ws N.ws[k] (List.getElem_mem h3)
                generalize N.ws[k] = w at hw hwo
                generalize hs[k] = x at hx
                have hxb:=hB.at hw hx
                have hwh:=hwo.h
                have hwf:=hwo.f
                have hwt:=hwo.t
                have hXl:=k3.len
                have hst:=k3.step hn1.2 hw hx hwf hwt (by omega)
                have b1:=k3.bd w.f.toNat
                have b3:=k3.bd w.t.toNat
                have hX1 : X[w.f.toNat]? = some (X.getD w.f.toNat 0):=by rw [List.getD_eq_getElem?_getD,List.getElem?_eq_getElem (by omega)];rfl
                unfold upN at hst
                have b2 : (X.set w.f.toNat (X.getD w.f.toNat 0 + x)).getD w.t.toNat 0 = if w.f.toNat = w.t.toNat then X.getD w.f.toNat 0 + x else X.getD w.t.toNat 0:=getD_set (by omega)
                have b4 : -(1000 * (k : Int)) ≤ (X.set w.f.toNat (X.getD w.f.toNat 0 + x)).getD w.t.toNat 0 ∧ (X.set w.f.toNat (X.getD w.f.toNat 0 + x)).getD w.t.toNat 0 ≤ 1000 * (k : Int) + 1000:=by
                  rw [b2];split <;> omega
                clear b2
                generalize X.getD w.f.toNat 0 = u at hX1 hst b1 b4
                have hX2 : (X.set w.f.toNat (u + x))[w.t.toNat]? = some ((X.set w.f.toNat (u + x)).getD w.t.toNat 0):=by rw [List.getD_eq_getElem?_getD,List.getElem?_eq_getElem (by rw [List.length_set];omega)];rfl
                generalize (X.set w.f.toNat (u + x)).getD w.t.toNat 0 = v at hX2 hst b4
                conv=>whnf
                repeat' (first|((first|refine zs1 ?_|refine zs2 ?_|refine zs3 ?_|refine zs4 ?_|refine zs5 ?_);conv=>whnf)|((first|apply zi1|apply zi2|apply zi3|apply zi4|apply zi5) <;> intro _ <;> conv=>whnf)|(refine VAny.ix encWy_len k rfl rfl hw ?_;conv=>whnf))
                all_goals try (exfalso;omega)
                refine zs6 [] ?_
                conv=>whnf
                repeat' (first|((first|refine zs1 ?_|refine zs2 ?_|refine zs3 ?_|refine zs4 ?_|refine zs5 ?_);conv=>whnf)|((first|apply zi1|apply zi2|apply zi3|apply zi4|apply zi5) <;> intro _ <;> conv=>whnf)|(refine VAny.ix encI_len k rfl rfl hx ?_;conv=>whnf)|(refine VLd.recc encI_len w.f.toNat 0 rfl rfl rfl hX1 (by decide) rfl (by show 0 + w.f.toNat * 1 = w.f.toNat * 1 + 0;omega) ?_;conv=>whnf)|(refine VMem.setRec encI_len w.f.toNat 0 (u + x) rfl rfl rfl hX1 (by decide) rfl (by show 0 + w.f.toNat * 1 = w.f.toNat * 1 + 0;omega) ?_;conv=>whnf))
                all_goals try (exfalso;omega)
                refine zs6 [] ?_
                conv=>whnf
                repeat' (first|((first|refine zs1 ?_|refine zs2 ?_|refine zs3 ?_|refine zs4 ?_|refine zs5 ?_);conv=>whnf)|((first|apply zi1|apply zi2|apply zi3|apply zi4|apply zi5) <;> intro _ <;> conv=>whnf)|(refine VAny.ix encI_len k rfl rfl hx ?_;conv=>whnf)|(refine VLd.recc encI_len w.t.toNat 0 rfl rfl rfl hX2 (by decide) rfl (by show 0 + w.t.toNat * 1 = w.t.toNat * 1 + 0;omega) ?_;conv=>whnf)|(refine VMem.setRec encI_len w.t.toNat 0 (v - x) rfl rfl rfl hX2 (by decide) rfl (by show 0 + w.t.toNat * 1 = w.t.toNat * 1 + 0;omega) ?_;conv=>whnf))
                all_goals try (exfalso;omega)
                refine LEnd.intro (k + 1,(X.set w.f.toNat (u + x)).set w.t.toNat (v - x)) ⟨by dsimp only;omega,hst⟩ (by dsimp only;omega) ?_
                conv=>whnf
                refine Retell.turn ⟨[0],2,[],[]⟩ (TurnOk.mk' _ _ [] [] (OutOk.lift _) rfl (by decide) zb trivial trivial rfl) zw zm
              · have hk : k = N.ws.length:=by omega
                subst hk
                have hXl:=k3.len
                have hnet : ∀ p : Nat,p < 10 → X.getD p 0 = net p N.ws hs:=fun p hp=>by
                  have:=k3.net p hp
                  rw [List.take_of_length_le (Nat.le_refl _),List.take_of_length_le (by omega)] at this
                  exact this
                have hbd:=k3.bd
                conv=>whnf
                repeat' (first|((first|refine zs1 ?_|refine zs2 ?_|refine zs3 ?_|refine zs4 ?_|refine zs5 ?_);conv=>whnf)|((first|apply zi1|apply zi2|apply zi3|apply zi4|apply zi5) <;> intro _ <;> conv=>whnf))
                all_goals try (exfalso;omega)
                refine VCode.lp (outer:=h.lift) (marks:=[]) (fun k : Nat=>[(1,ints a),(2,ints b),(13,.ptr (.loc 0) 0),(16,.gl (.loc 1) 1 (gotL a X k).length),(80,I N.p),(81,I k)]) (fun k=>[.flat true (X.flatMap Vm.encI),.flat true ((gotL a X k).flatMap Vm.encI)]) (fun k=>k ≤ n ∧ ∀ j < k,(j : Int) ∈ a ∨ (j : Int) ∈ b ∨ X.getD j 0 = 0) (fun k=>n - k) 0 ⟨Nat.zero_le _,fun j hj=>absurd hj (by omega)⟩ ?_ ?_
                · conv=>whnf
                  refine Retell.turn ⟨[0,1],1,[],[]⟩ (TurnOk.mk' _ _ [] [] (OutOk.lift _) rfl (by decide) zb trivial trivial rfl) zw zm
                · rintro k ⟨q1,q2⟩
                  have hgl:=gotL_len a X k
                  rcases Nat.lt_or_ge k n with h4|h4
                  · have hXk : X[k]? = some (X.getD k 0):=by rw [List.getD_eq_getElem?_getD,List.getElem?_eq_getElem (by omega)];rfl
                    have hg : gotL a X (k + 1) = if (k : Int) ∈ a then gotL a X k ++ [X.getD k 0] else gotL a X k:=rfl
                    have hq : ((k : Int) ∈ a ∨ (k : Int) ∈ b ∨ X.getD k 0 = 0) → ∀ j < k + 1,(j : Int) ∈ a ∨ (j : Int) ∈ b ∨ X.getD j 0 = 0:=fun h j hj=>by
                      rcases Nat.lt_or_ge j k with h5|h5
                      · exact q2 j h5
                      · have : j = k:=by omega
                        subst this;exact h
                    have hbk:=hbd k
                    have hnk:=hnet k (by omega)
                    have cA:=fun h=>vc_ContI a (k : Int) h ha
                    have cB:=fun h=>vc_ContI b (k : Int) h hb
                    generalize X.getD k 0 = v at hXk hg hq hbk hnk
                    generalize gotL a X k = L at hg hgl ⊢
                    by_cases hka : (k : Int) ∈ a
                    · rw [decide_eq_true hka] at cA
                      rw [if_pos hka] at hg
                      conv=>whnf
                      repeat' (first|((first|refine zs1 ?_|refine zs2 ?_|refine zs3 ?_|refine zs4 ?_|refine zs5 ?_);conv=>whnf)|((first|apply zi1|apply zi2|apply zi3|apply zi4|apply zi5) <;> intro _ <;> conv=>whnf)|(refine VCall.intro (cA _) ?_;conv=>whnf)|(refine VLd.recc encI_len k 0 rfl rfl rfl hXk (by decide) rfl (by show 0 + (k : Int).toNat * 1 = k * 1 + 0;omega) ?_;conv=>whnf)|(refine VMem.app1 (l:=L) v encI_len rfl rfl rfl rfl rfl (by omega) ?_;conv=>whnf))
                      all_goals try (exfalso;omega)
                      refine LEnd.intro (k + 1) ⟨by omega,hq (.inl hka)⟩ (by omega) ?_
                      rw [hg,List.length_append]
                      conv=>whnf
                      refine Retell.turn ⟨[0,3],4,[],[]⟩ (TurnOk.mk' _ _ [] [] (OutOk.lift _) rfl (by decide) zb trivial trivial rfl) zw zm
                    · rw [decide_eq_false hka] at cA
                      rw [if_neg hka] at hg
                      by_cases hkb : (k : Int) ∈ b
                      · rw [decide_eq_true hkb] at cB
                        conv=>whnf
                        repeat' (first|((first|refine zs1 ?_|refine zs2 ?_|refine zs3 ?_|refine zs4 ?_|refine zs5 ?_);conv=>whnf)|((first|apply zi1|apply zi2|apply zi3|apply zi4|apply zi5) <;> intro _ <;> conv=>whnf)|(refine VCall.intro (cA _) ?_;conv=>whnf)|(refine VCall.intro (cB _) ?_;conv=>whnf))
                        all_goals try (exfalso;omega)
                        refine LEnd.intro (k + 1) ⟨by omega,hq (.inr (.inl hkb))⟩ (by omega) ?_
                        rw [hg]
                        conv=>whnf
                        refine Retell.turn ⟨[0,1],2,[],[]⟩ (TurnOk.mk' _ _ [] [] (OutOk.lift _) rfl (by decide) zb trivial trivial rfl) zw zm
                      · rw [decide_eq_false hkb] at cB
                        by_cases hv : v = 0
                        · conv=>whnf
                          repeat' (first|((first|refine zs1 ?_|refine zs2 ?_|refine zs3 ?_|refine zs4 ?_|refine zs5 ?_);conv=>whnf)|((first|apply zi1|apply zi2|apply zi3|apply zi4|apply zi5) <;> intro _ <;> conv=>whnf)|(refine VCall.intro (cA _) ?_;conv=>whnf)|(refine VCall.intro (cB _) ?_;conv=>whnf)|(refine VLd.recc encI_len k 0 rfl rfl rfl hXk (by decide) rfl (by show 0 + (k : Int).toNat * 1 = k * 1 + 0;omega) ?_;conv=>whnf))
                          all_goals try (exfalso;omega)
                          refine LEnd.intro (k + 1) ⟨by omega,hq (.inr (.inr hv))⟩ (by omega) ?_
                          rw [hg]
                          conv=>whnf
                          refine Retell.turn ⟨[0,1],2,[],[]⟩ (TurnOk.mk' _ _ [] [] (OutOk.lift _) rfl (by decide) zb trivial trivial rfl) zw zm
                        · rw [if_neg (fun h5=>by
                            rcases conB_iff.1 h5 k h4 with h6|h6|h6
                            · exact hka h6
                            · exact hkb h6
                            · exact hv (by omega))] at hR
                          conv=>whnf
                          repeat' (first|((first|refine zs1 ?_|refine zs2 ?_|refine zs3 ?_|refine zs4 ?_|refine zs5 ?_);conv=>whnf)|((first|apply zi1|apply zi2|apply zi3|apply zi4|apply zi5) <;> intro _ <;> conv=>whnf)|(refine VCall.intro (cA _) ?_;conv=>whnf)|(refine VCall.intro (cB _) ?_;conv=>whnf)|(refine VLd.recc encI_len k 0 rfl rfl rfl hXk (by decide) rfl (by show 0 + (k : Int).toNat * 1 = k * 1 + 0;omega) ?_;conv=>whnf))
                          all_goals try (exfalso;omega)
                          rw [hR]
                          exact VOut.same rfl
                  · have hk : k = n:=by omega
                    subst hk
                    rw [if_pos (conB_iff.2 fun j hj=>by rw [← hnet j (by omega)];exact q2 j hj)] at hR
                    have hsum : (gotL a X k).sum = val k N.ws a hs:=by
                      rw [gotL_sum]
                      unfold val
                      exact sumTo_congr fun p hp=>by rw [hnet p (by omega)]
                    have cS:=fun h=>vc_sum (gotL a X k) h (by omega) (fun x hx=>by obtain ⟨p,rfl⟩:=gotL_mem a X k x hx;have:=hbd p;omega)
                    rw [hsum] at cS
                    rw [hR]
                    generalize gotL a X k = L at hgl cS ⊢
                    conv=>whnf
                    repeat' (first|((first|refine zs1 ?_|refine zs2 ?_|refine zs3 ?_|refine zs4 ?_|refine zs5 ?_);conv=>whnf)|((first|apply zi1|apply zi2|apply zi3|apply zi4|apply zi5) <;> intro _ <;> conv=>whnf))
                    all_goals try (exfalso;omega)
                    refine VCall.intro (VC.give (args':=[ints L]) (loc':=[.dead,.dead]) [(1,L.flatMap Vm.encI)] [] (OutOk.lift _) zb zf (by exact FmAll.nil) rfl zw (cS _)) ?_
                    conv=>whnf
                    repeat' (first|((first|refine zs1 ?_|refine zs2 ?_|refine zs3 ?_|refine zs4 ?_|refine zs5 ?_);conv=>whnf)|((first|apply zi1|apply zi2|apply zi3|apply zi4|apply zi5) <;> intro _ <;> conv=>whnf))
                    exact VOut.same rfl
      · rw [if_neg hl] at hR
        rw [hR]
        conv=>whnf
        repeat' (first|((first|refine zs1 ?_|refine zs2 ?_|refine zs3 ?_|refine zs4 ?_|refine zs5 ?_);conv=>whnf)|((first|apply zi1|apply zi2|apply zi3|apply zi4|apply zi5) <;> intro _ <;> conv=>whnf)|(refine VCall.intro (cP _) ?_;conv=>whnf))
        all_goals try (exfalso;omega)
        exact VOut.same rfl
  · rw [if_neg h0] at hR
    generalize pas N a b = E at *
    refine VC.bodyC 1 Tryz.func33 rfl Tryz.ntmps33 Tryz.call33 (h.grows_refl) rfl ?_;conv=>whnf
    refine VCut.at' (outer:=h.lift) (marks:=[]) 99 [(1,ints a),(2,ints b),(3,ints hs),(4,.fp (encN N))] [] ?_ ?_
    · conv=>whnf
      refine Retell.turn ⟨[],1,[(0,encN N)],[]⟩ (TurnOk.mk' _ _ [(0,encN N)] [] (OutOk.lift _) rfl (by decide) zb zf trivial rfl) zw zm
    · conv=>whnf
      repeat' (first|((first|refine zs1 ?_|refine zs2 ?_|refine zs3 ?_|refine zs4 ?_|refine zs5 ?_);conv=>whnf)|((first|apply zi1|apply zi2|apply zi3|apply zi4|apply zi5) <;> intro _ <;> conv=>whnf)|(refine VCall.intro (cP _) ?_;conv=>whnf))
      all_goals try (exfalso;omega)
      rw [hR]
      exact VOut.same rfl
end Go.Proofs.YtoeendggmalcpaaGreat

open Go.Vm
open Psg
namespace Psg
theorem all_at {l : List Int} {k : Nat} {x : Int} (q : Int → Bool) (h : l[k]? = some x) : (l.drop k).all q = (q x && (l.drop (k + 1)).all q):=by
  obtain ⟨h1,rfl⟩:=List.getElem?_eq_some_iff.1 h
  rw [List.drop_eq_getElem_cons h1,List.all_cons]
end Psg
namespace Go.Proofs.YtoeendggmalcpaaGreat
set_option maxRecDepth 20000
set_option maxHeartbeats 4000000
theorem vc_has (l : List Int) (x : Int) (h : Hp) (hl : l.length ≤ 4000000) : VC Tryz.prog 71 [ints l,I x] h (B (decide (x ∈ l))) h:=by
  obtain ⟨E,hE⟩ : ∃ E,E = decide (x ∈ l):=⟨_,rfl⟩
  rw [← hE]
  refine VC.body Tryz.func71 rfl Tryz.ntmps71 Tryz.call71 (h.grows_refl) rfl ?_;conv=>whnf
  repeat' (first|((first|refine zs1 ?_|refine zs2 ?_|refine zs3 ?_|refine zs4 ?_|refine zs5 ?_);conv=>whnf)|((first|apply zi1|apply zi2|apply zi3|apply zi4|apply zi5) <;> intro _ <;> conv=>whnf))
  refine VCode.lp (outer:=h.lift) (marks:=[]) (fun k : Nat=>[(0,ints l),(1,I x),(5,I k)]) (fun _=>[]) (fun k=>k ≤ l.length ∧ E = decide (x ∈ l.drop k)) (fun k=>l.length - k) 0 ⟨Nat.zero_le _,hE⟩ ?_ ?_
  · conv=>whnf
    refine Retell.turn ⟨[],0,[],[]⟩ (TurnOk.mk' _ _ [] [] (OutOk.lift _) rfl (by decide) zb trivial trivial rfl) zw zm
  · rintro k ⟨h1,h2⟩
    rcases Nat.lt_or_ge k l.length with h3|h3
    · have ha : l[k]? = some l[k]:=List.getElem?_eq_getElem h3
      rw [List.drop_eq_getElem_cons h3] at h2
      generalize l[k] = a at ha h2
      conv=>whnf
      repeat' (first|((first|refine zs1 ?_|refine zs2 ?_|refine zs3 ?_|refine zs4 ?_|refine zs5 ?_);conv=>whnf)|((first|apply zi1|apply zi2|apply zi3|apply zi4|apply zi5) <;> intro _ <;> conv=>whnf)|(refine VAny.ix encI_len k rfl rfl ha ?_;conv=>whnf))
      all_goals try (exfalso;omega)
      · rename_i hq
        rw [h2,decide_eq_true (by rw [List.mem_cons];exact .inl hq.symm)]
        exact VOut.same rfl
      · rename_i hq
        refine LEnd.intro (k + 1) ⟨by omega,?_⟩ (by omega) ?_
        · rw [h2]
          exact decide_eq_decide.2 (by rw [List.mem_cons];exact ⟨fun h=>h.resolve_left fun e=>hq e.symm,.inr⟩)
        · conv=>whnf
          refine Retell.turn ⟨[],0,[],[]⟩ (TurnOk.mk' _ _ [] [] (OutOk.lift _) rfl (by decide) zb trivial trivial rfl) zw zm
    · rw [List.drop_of_length_le h3] at h2
      have : E = false:=by rw [h2];simp
      conv=>whnf
      repeat' (first|((first|refine zs1 ?_|refine zs2 ?_|refine zs3 ?_|refine zs4 ?_|refine zs5 ?_);conv=>whnf)|((first|apply zi1|apply zi2|apply zi3|apply zi4|apply zi5) <;> intro _ <;> conv=>whnf))
      all_goals try (exfalso;omega)
      rw [this]
      exact VOut.same rfl
theorem vc_mixed (l : List Int) (h : Hp) (hl : l.length ≤ 4000000) : VC Tryz.prog 75 [ints l] h (B (!risB l)) h:=by
  obtain ⟨E,hE⟩ : ∃ E,E = risB l:=⟨_,rfl⟩
  rw [← hE]
  refine VC.body Tryz.func75 rfl Tryz.ntmps75 Tryz.call75 (h.grows_refl) rfl ?_;conv=>whnf
  repeat' (first|((first|refine zs1 ?_|refine zs2 ?_|refine zs3 ?_|refine zs4 ?_|refine zs5 ?_);conv=>whnf)|((first|apply zi1|apply zi2|apply zi3|apply zi4|apply zi5) <;> intro _ <;> conv=>whnf))
  refine VCode.lp (outer:=h.lift) (marks:=[]) (fun k : Nat=>[(0,ints l),(3,I ((k + 1 : Nat) : Int))]) (fun _=>[]) (fun k=>E = risB (l.drop k)) (fun k=>l.length - k) 0 hE ?_ ?_
  · conv=>whnf
    refine Retell.turn ⟨[],0,[],[]⟩ (TurnOk.mk' _ _ [] [] (OutOk.lift _) rfl (by decide) zb trivial trivial rfl) zw zm
  · intro k h1
    rcases Nat.lt_or_ge (k + 1) l.length with h3|h3
    · have ha : l[k]? = some l[k]:=List.getElem?_eq_getElem (by omega)
      have hb : l[k + 1]? = some l[k + 1]:=List.getElem?_eq_getElem h3
      rw [risB_at ha hb] at h1
      generalize l[k] = a at ha h1
      generalize l[k + 1] = b at hb h1
      conv=>whnf
      repeat' (first|((first|refine zs1 ?_|refine zs2 ?_|refine zs3 ?_|refine zs4 ?_|refine zs5 ?_);conv=>whnf)|((first|apply zi1|apply zi2|apply zi3|apply zi4|apply zi5) <;> intro _ <;> conv=>whnf))
      all_goals try (exfalso;omega)
      refine zs6 [] ?_
      conv=>whnf
      repeat' (first|((first|refine zs1 ?_|refine zs2 ?_|refine zs3 ?_|refine zs4 ?_|refine zs5 ?_);conv=>whnf)|((first|apply zi1|apply zi2|apply zi3|apply zi4|apply zi5) <;> intro _ <;> conv=>whnf)|(refine VAny.ix encI_len (k + 1) rfl rfl hb ?_;conv=>whnf)|(refine VAny.ix encI_len k (by omega) rfl ha ?_;conv=>whnf))
      all_goals try (exfalso;omega)
      · rename_i hh
        rw [decide_eq_false (by omega)] at h1
        rw [h1]
        exact VOut.same rfl
      · rename_i hh
        rw [decide_eq_true (by omega),Bool.true_and] at h1
        refine LEnd.intro (k + 1) h1 (by omega) ?_
        conv=>whnf
        refine Retell.turn ⟨[],0,[],[]⟩ (TurnOk.mk' _ _ [] [] (OutOk.lift _) rfl (by decide) zb trivial trivial rfl) zw zm
    · rw [risB_end (by omega)] at h1
      conv=>whnf
      repeat' (first|((first|refine zs1 ?_|refine zs2 ?_|refine zs3 ?_|refine zs4 ?_|refine zs5 ?_);conv=>whnf)|((first|apply zi1|apply zi2|apply zi3|apply zi4|apply zi5) <;> intro _ <;> conv=>whnf))
      all_goals try (exfalso;omega)
      rw [h1]
      exact VOut.same rfl
end Go.Proofs.YtoeendggmalcpaaGreat

open Go.Vm
open Psg
namespace Go.Proofs.YtoeendggmalcpaaGreat
set_option maxRecDepth 20000
set_option maxHeartbeats 4000000
theorem vc_rPastured (N : Nt) (a b : List Int) (h : Hp) (hn : N.ws.length ≤ 4000000) (ha : a.length ≤ 4000000) (hb : b.length ≤ 4000000) : VC Tryz.prog 70 [vN N,ints a,ints b] h (I (pas N a b)) h:=by
  obtain ⟨R,hR⟩ : ∃ R,R = pas N a b:=⟨_,rfl⟩
  rw [← hR]
  unfold pas at hR
  have cC:=fun h=>vc_rcheck N h hn
  by_cases h0 : chk N = 0
  · obtain ⟨n,hN⟩:=chk_ok h0
    have hp:=hN.p
    have hn1:=hN.n1
    rw [h0] at cC
    rw [if_pos h0] at hR
    have cR:=fun h=>vc_mixed a h ha
    have cS:=fun h=>vc_mixed b h hb
    have cH:=fun x h=>vc_has b x h hb
    generalize hA : a.all (pstB N) = A at hR
    generalize hBB : b.all (pstB N) = BB at hR
    generalize risB a = RA at cR hR
    generalize risB b = RB at cS hR
    generalize hP : (a.all fun p=>decide (¬ p ∈ b)) = P at hR
    replace hA:=hA.symm
    replace hBB:=hBB.symm
    replace hP:=hP.symm
    refine VC.bodyC 1 Tryz.func70 rfl Tryz.ntmps70 Tryz.call70 (h.grows_refl) rfl ?_;conv=>whnf
    refine VCut.at' (outer:=h.lift) (marks:=[]) 99 [(1,ints a),(2,ints b),(3,.fp (encN N))] [] ?_ ?_
    · conv=>whnf
      refine Retell.turn ⟨[],1,[(0,encN N)],[]⟩ (TurnOk.mk' _ _ [(0,encN N)] [] (OutOk.lift _) rfl (by decide) zb zf trivial rfl) zw zm
    · conv=>whnf
      repeat' (first|((first|refine zs1 ?_|refine zs2 ?_|refine zs3 ?_|refine zs4 ?_|refine zs5 ?_);conv=>whnf)|((first|apply zi1|apply zi2|apply zi3|apply zi4|apply zi5) <;> intro _ <;> conv=>whnf)|(refine VCall.intro (cC _) ?_;conv=>whnf))
      all_goals try (exfalso;omega)
      refine VCode.lp (outer:=h.lift) (marks:=[]) (fun k : Nat=>[(1,ints a),(2,ints b),(3,.fp (encN N)),(8,I k)]) (fun _=>[]) (fun k=>k ≤ a.length ∧ A = (a.drop k).all (pstB N)) (fun k=>a.length - k) 0 ⟨Nat.zero_le _,hA⟩ ?_ ?_
      · conv=>whnf
        refine Retell.turn ⟨[],0,[],[]⟩ (TurnOk.mk' _ _ [] [] (OutOk.lift _) rfl (by decide) zb trivial trivial rfl) zw zm
      · rintro k ⟨k1,k2⟩
        rcases Nat.lt_or_ge k a.length with h3|h3
        · have hx : a[k]? = some a[k]:=List.getElem?_eq_getElem h3
          rw [all_at _ hx] at k2
          generalize a[k] = x at hx k2
          have cF:=fun h=>vc_beside x 0 (N.p - 1) h
          by_cases hq : 0 ≤ x ∧ x ≤ N.p - 1
          · have hq2 : pstB N x = true:=decide_eq_true hq
            rw [decide_eq_false (by omega)] at cF
            rw [hq2,Bool.true_and] at k2
            conv=>whnf
            repeat' (first|((first|refine zs1 ?_|refine zs2 ?_|refine zs3 ?_|refine zs4 ?_|refine zs5 ?_);conv=>whnf)|((first|apply zi1|apply zi2|apply zi3|apply zi4|apply zi5) <;> intro _ <;> conv=>whnf))
            all_goals try (exfalso;omega)
            refine zs6 [] ?_
            conv=>whnf
            repeat' (first|((first|refine zs1 ?_|refine zs2 ?_|refine zs3 ?_|refine zs4 ?_|refine zs5 ?_);conv=>whnf)|((first|apply zi1|apply zi2|apply zi3|apply zi4|apply zi5) <;> intro _ <;> conv=>whnf)|(refine VAny.ix encI_len k rfl rfl hx ?_;conv=>whnf)|(refine VCall.intro (cF _) ?_;conv=>whnf))
            all_goals try (exfalso;omega)
            refine LEnd.intro (k + 1) ⟨by omega,k2⟩ (by omega) ?_
            conv=>whnf
            refine Retell.turn ⟨[],0,[],[]⟩ (TurnOk.mk' _ _ [] [] (OutOk.lift _) rfl (by decide) zb trivial trivial rfl) zw zm
          · have hq2 : pstB N x = false:=decide_eq_false hq
            rw [decide_eq_true (by omega)] at cF
            rw [hq2,Bool.false_and] at k2
            rw [if_neg (by rw [k2];simp)] at hR
            conv=>whnf
            repeat' (first|((first|refine zs1 ?_|refine zs2 ?_|refine zs3 ?_|refine zs4 ?_|refine zs5 ?_);conv=>whnf)|((first|apply zi1|apply zi2|apply zi3|apply zi4|apply zi5) <;> intro _ <;> conv=>whnf))
            all_goals try (exfalso;omega)
            refine zs6 [] ?_
            conv=>whnf
            repeat' (first|((first|refine zs1 ?_|refine zs2 ?_|refine zs3 ?_|refine zs4 ?_|refine zs5 ?_);conv=>whnf)|((first|apply zi1|apply zi2|apply zi3|apply zi4|apply zi5) <;> intro _ <;> conv=>whnf)|(refine VAny.ix encI_len k rfl rfl hx ?_;conv=>whnf)|(refine VCall.intro (cF _) ?_;conv=>whnf))
            all_goals try (exfalso;omega)
            rw [hR]
            exact VOut.same rfl
        · rw [List.drop_of_length_le h3,List.all_nil] at k2
          subst k2
          conv=>whnf
          repeat' (first|((first|refine zs1 ?_|refine zs2 ?_|refine zs3 ?_|refine zs4 ?_|refine zs5 ?_);conv=>whnf)|((first|apply zi1|apply zi2|apply zi3|apply zi4|apply zi5) <;> intro _ <;> conv=>whnf))
          all_goals try (exfalso;omega)
          refine VCode.lp (outer:=h.lift) (marks:=[]) (fun k : Nat=>[(1,ints a),(2,ints b),(3,.fp (encN N)),(9,I k)]) (fun _=>[]) (fun k=>k ≤ b.length ∧ BB = (b.drop k).all (pstB N)) (fun k=>b.length - k) 0 ⟨Nat.zero_le _,hBB⟩ ?_ ?_
          · conv=>whnf
            refine Retell.turn ⟨[],0,[],[]⟩ (TurnOk.mk' _ _ [] [] (OutOk.lift _) rfl (by decide) zb trivial trivial rfl) zw zm
          · rintro k ⟨k1,k2⟩
            rcases Nat.lt_or_ge k b.length with h3|h3
            · have hx : b[k]? = some b[k]:=List.getElem?_eq_getElem h3
              rw [all_at _ hx] at k2
              generalize b[k] = x at hx k2
              have cF:=fun h=>vc_beside x 0 (N.p - 1) h
              by_cases hq : 0 ≤ x ∧ x ≤ N.p - 1
              · have hq2 : pstB N x = true:=decide_eq_true hq
                rw [decide_eq_false (by omega)] at cF
                rw [hq2,Bool.true_and] at k2
                conv=>whnf
                repeat' (first|((first|refine zs1 ?_|refine zs2 ?_|refine zs3 ?_|refine zs4 ?_|refine zs5 ?_);conv=>whnf)|((first|apply zi1|apply zi2|apply zi3|apply zi4|apply zi5) <;> intro _ <;> conv=>whnf))
                all_goals try (exfalso;omega)
                refine zs6 [] ?_
                conv=>whnf
                repeat' (first|((first|refine zs1 ?_|refine zs2 ?_|refine zs3 ?_|refine zs4 ?_|refine zs5 ?_);conv=>whnf)|((first|apply zi1|apply zi2|apply zi3|apply zi4|apply zi5) <;> intro _ <;> conv=>whnf)|(refine VAny.ix encI_len k rfl rfl hx ?_;conv=>whnf)|(refine VCall.intro (cF _) ?_;conv=>whnf))
                all_goals try (exfalso;omega)
                refine LEnd.intro (k + 1) ⟨by omega,k2⟩ (by omega) ?_
                conv=>whnf
                refine Retell.turn ⟨[],0,[],[]⟩ (TurnOk.mk' _ _ [] [] (OutOk.lift _) rfl (by decide) zb trivial trivial rfl) zw zm
              · have hq2 : pstB N x = false:=decide_eq_false hq
                rw [decide_eq_true (by omega)] at cF
                rw [hq2,Bool.false_and] at k2
                rw [if_neg (by rw [k2];simp)] at hR
                conv=>whnf
                repeat' (first|((first|refine zs1 ?_|refine zs2 ?_|refine zs3 ?_|refine zs4 ?_|refine zs5 ?_);conv=>whnf)|((first|apply zi1|apply zi2|apply zi3|apply zi4|apply zi5) <;> intro _ <;> conv=>whnf))
                all_goals try (exfalso;omega)
                refine zs6 [] ?_
                conv=>whnf
                repeat' (first|((first|refine zs1 ?_|refine zs2 ?_|refine zs3 ?_|refine zs4 ?_|refine zs5 ?_);conv=>whnf)|((first|apply zi1|apply zi2|apply zi3|apply zi4|apply zi5) <;> intro _ <;> conv=>whnf)|(refine VAny.ix encI_len k rfl rfl hx ?_;conv=>whnf)|(refine VCall.intro (cF _) ?_;conv=>whnf))
                all_goals try (exfalso;omega)
                rw [hR]
                exact VOut.same rfl
            · rw [List.drop_of_length_le h3,List.all_nil] at k2
              subst k2
              rw [if_pos ⟨rfl,rfl⟩] at hR
              by_cases hz : a.length = 0 ∨ b.length = 0
              · rw [if_pos hz] at hR
                rw [hR]
                conv=>whnf
                repeat' (first|((first|refine zs1 ?_|refine zs2 ?_|refine zs3 ?_|refine zs4 ?_|refine zs5 ?_);conv=>whnf)|((first|apply zi1|apply zi2|apply zi3|apply zi4|apply zi5) <;> intro _ <;> conv=>whnf))
                all_goals try (exfalso;omega)
                all_goals exact VOut.same rfl
              · rw [if_neg hz] at hR
                cases RA
                · rw [if_neg (by simp)] at hR
                  rw [hR]
                  conv=>whnf
                  repeat' (first|((first|refine zs1 ?_|refine zs2 ?_|refine zs3 ?_|refine zs4 ?_|refine zs5 ?_);conv=>whnf)|((first|apply zi1|apply zi2|apply zi3|apply zi4|apply zi5) <;> intro _ <;> conv=>whnf)|(refine VCall.intro (cR _) ?_;conv=>whnf))
                  all_goals try (exfalso;omega)
                  exact VOut.same rfl
                · cases RB
                  · rw [if_neg (by simp)] at hR
                    rw [hR]
                    conv=>whnf
                    repeat' (first|((first|refine zs1 ?_|refine zs2 ?_|refine zs3 ?_|refine zs4 ?_|refine zs5 ?_);conv=>whnf)|((first|apply zi1|apply zi2|apply zi3|apply zi4|apply zi5) <;> intro _ <;> conv=>whnf)|(refine VCall.intro (cR _) ?_;conv=>whnf)|(refine VCall.intro (cS _) ?_;conv=>whnf))
                    all_goals try (exfalso;omega)
                    exact VOut.same rfl
                  · rw [if_pos ⟨rfl,rfl⟩] at hR
                    conv=>whnf
                    repeat' (first|((first|refine zs1 ?_|refine zs2 ?_|refine zs3 ?_|refine zs4 ?_|refine zs5 ?_);conv=>whnf)|((first|apply zi1|apply zi2|apply zi3|apply zi4|apply zi5) <;> intro _ <;> conv=>whnf)|(refine VCall.intro (cR _) ?_;conv=>whnf)|(refine VCall.intro (cS _) ?_;conv=>whnf))
                    all_goals try (exfalso;omega)
                    refine VCode.lp (outer:=h.lift) (marks:=[]) (fun k : Nat=>[(1,ints a),(2,ints b),(10,I k)]) (fun _=>[]) (fun k=>k ≤ a.length ∧ P = (a.drop k).all fun p=>decide (¬ p ∈ b)) (fun k=>a.length - k) 0 ⟨Nat.zero_le _,hP⟩ ?_ ?_
                    · conv=>whnf
                      refine Retell.turn ⟨[],0,[],[]⟩ (TurnOk.mk' _ _ [] [] (OutOk.lift _) rfl (by decide) zb trivial trivial rfl) zw zm
                    · rintro k ⟨k1,k2⟩
                      rcases Nat.lt_or_ge k a.length with h3|h3
                      · have hx : a[k]? = some a[k]:=List.getElem?_eq_getElem h3
                        rw [all_at _ hx] at k2
                        generalize a[k] = x at hx k2
                        have cF:=fun h=>cH x h
                        by_cases hq : x ∈ b
                        · rw [decide_eq_true hq] at cF
                          rw [decide_eq_false (fun h=>h hq),Bool.false_and] at k2
                          rw [if_neg (by rw [k2];simp)] at hR
                          conv=>whnf
                          repeat' (first|((first|refine zs1 ?_|refine zs2 ?_|refine zs3 ?_|refine zs4 ?_|refine zs5 ?_);conv=>whnf)|((first|apply zi1|apply zi2|apply zi3|apply zi4|apply zi5) <;> intro _ <;> conv=>whnf)|(refine VAny.ix encI_len k rfl rfl hx ?_;conv=>whnf)|(refine VCall.intro (cF _) ?_;conv=>whnf))
                          all_goals try (exfalso;omega)
                          rw [hR]
                          exact VOut.same rfl
                        · rw [decide_eq_false hq] at cF
                          rw [decide_eq_true hq,Bool.true_and] at k2
                          conv=>whnf
                          repeat' (first|((first|refine zs1 ?_|refine zs2 ?_|refine zs3 ?_|refine zs4 ?_|refine zs5 ?_);conv=>whnf)|((first|apply zi1|apply zi2|apply zi3|apply zi4|apply zi5) <;> intro _ <;> conv=>whnf)|(refine VAny.ix encI_len k rfl rfl hx ?_;conv=>whnf)|(refine VCall.intro (cF _) ?_;conv=>whnf))
                          all_goals try (exfalso;omega)
                          refine LEnd.intro (k + 1) ⟨by omega,k2⟩ (by omega) ?_
                          conv=>whnf
                          refine Retell.turn ⟨[],0,[],[]⟩ (TurnOk.mk' _ _ [] [] (OutOk.lift _) rfl (by decide) zb trivial trivial rfl) zw zm
                      · rw [List.drop_of_length_le h3,List.all_nil] at k2
                        rw [if_pos k2] at hR
                        conv=>whnf
                        repeat' (first|((first|refine zs1 ?_|refine zs2 ?_|refine zs3 ?_|refine zs4 ?_|refine zs5 ?_);conv=>whnf)|((first|apply zi1|apply zi2|apply zi3|apply zi4|apply zi5) <;> intro _ <;> conv=>whnf))
                        all_goals try (exfalso;omega)
                        rw [hR]
                        exact VOut.same rfl
  · rw [if_neg h0] at hR
    generalize chk N = E at *
    refine VC.bodyC 1 Tryz.func70 rfl Tryz.ntmps70 Tryz.call70 (h.grows_refl) rfl ?_;conv=>whnf
    refine VCut.at' (outer:=h.lift) (marks:=[]) 99 [(1,ints a),(2,ints b),(3,.fp (encN N))] [] ?_ ?_
    · conv=>whnf
      refine Retell.turn ⟨[],1,[(0,encN N)],[]⟩ (TurnOk.mk' _ _ [(0,encN N)] [] (OutOk.lift _) rfl (by decide) zb zf trivial rfl) zw zm
    · conv=>whnf
      repeat' (first|((first|refine zs1 ?_|refine zs2 ?_|refine zs3 ?_|refine zs4 ?_|refine zs5 ?_);conv=>whnf)|((first|apply zi1|apply zi2|apply zi3|apply zi4|apply zi5) <;> intro _ <;> conv=>whnf)|(refine VCall.intro (cC _) ?_;conv=>whnf))
      all_goals try (exfalso;omega)
      rw [hR]
      exact VOut.same rfl
end Go.Proofs.YtoeendggmalcpaaGreat

open Go.Vm
open Psg
namespace Psg
theorem bar_take {S : Int → Bool} : ∀ {ws : List Wy} {k : Nat} {w : Wy},ws[k]? = some w → bar S (ws.take (k + 1)) = bar S (ws.take k) + one (S w.f && !S w.t) w.h
  | u :: ws,0,w,h=>by
    simp only [List.getElem?_cons_zero,Option.some.injEq] at h
    subst h
    simp [bar]
  | u :: ws,k + 1,w,h=>by
    rw [List.getElem?_cons_succ] at h
    have:=bar_take (S:=S) h
    simp only [List.take_succ_cons,bar]
    rw [this];omega
  | [],_,_,h=>by simp at h
def setL (L : List Bool) (q : Int) : Bool:=L.getD q.toNat false
end Psg
namespace Go.Proofs.YtoeendggmalcpaaGreat
set_option maxRecDepth 20000
set_option maxHeartbeats 4000000
def encB (b : Bool) : List D:=[.s (.bool b)]
theorem encB_len (b : Bool) : (encB b).length = 1:=rfl
def bools (l : List Bool) : V:=.fs 1 l.length (l.flatMap encB)
theorem vc_rbars {n : Nat} (N : Nt) (L : List Bool) (h : Hp) (hws : ∀ w ∈ N.ws,WOk n w) (hn : n ≤ 10) (hwl : N.ws.length ≤ 24) (hL : L.length = n) : VC Tryz.prog 76 [vN N,bools L] h (I (bar (setL L) N.ws)) h:=by
  refine VC.bodyC 1 Tryz.func76 rfl Tryz.ntmps76 Tryz.call76 (h.grows_refl) rfl ?_;conv=>whnf
  refine VCut.at' (outer:=h.lift) (marks:=[]) 99 [(1,bools L),(2,.fp (encN N))] [] ?_ ?_
  · conv=>whnf
    refine Retell.turn ⟨[],1,[(0,encN N)],[]⟩ (TurnOk.mk' _ _ [(0,encN N)] [] (OutOk.lift _) rfl (by decide) zb zf trivial rfl) zw zm
  · conv=>whnf
    repeat' (first|((first|refine zs1 ?_|refine zs2 ?_|refine zs3 ?_|refine zs4 ?_|refine zs5 ?_);conv=>whnf)|((first|apply zi1|apply zi2|apply zi3|apply zi4|apply zi5) <;> intro _ <;> conv=>whnf))
    refine VCode.lp (outer:=h.lift) (marks:=[]) (fun k : Nat=>[(1,bools L),(2,.fp (encN N)),(5,I (bar (setL L) (N.ws.take k))),(6,I k)]) (fun _=>[]) (fun k=>k ≤ N.ws.length) (fun k=>N.ws.length - k) 0 (Nat.zero_le _) ?_ ?_
    · conv=>whnf
      refine Retell.turn ⟨[],0,[],[]⟩ (TurnOk.mk' _ _ [] [] (OutOk.lift _) rfl (by decide) zb trivial trivial rfl) zw zm
    · intro k hk
      rcases Nat.lt_or_ge k N.ws.length with h3|h3
      · have hw : N.ws[k]? = some N.ws[k]:=List.getElem?_eq_getElem h3
        have hwo:=hws N.ws[k] (List.getElem_mem h3)
        have ht:=bar_take (S:=setL L) hw
        have hb:=bar_le (setL L) (N.ws.take k) fun w hw=>(hws w (List.mem_of_mem_take hw)).h
        rw [List.length_take,Nat.min_eq_left (by omega)] at hb
        generalize N.ws[k] = w at hw hwo ht
        have hwf:=hwo.f
        have hwt:=hwo.t
        have hwh:=hwo.h
        have hf : L[w.f.toNat]? = some (setL L w.f):=by unfold setL;rw [List.getD_eq_getElem?_getD,List.getElem?_eq_getElem (by omega)];rfl
        have hg : L[w.t.toNat]? = some (setL L w.t):=by unfold setL;rw [List.getD_eq_getElem?_getD,List.getElem?_eq_getElem (by omega)];rfl
        generalize bar (setL L) (N.ws.take k) = s at ht hb ⊢
        generalize setL L w.f = B1 at hf ht
        generalize setL L w.t = B2 at hg ht
        cases B1 <;> cases B2
        all_goals (
          simp only [Bool.true_and,Bool.false_and,Bool.not_true,Bool.not_false,Psg.one_t,Psg.one_f,Int.add_zero] at ht
          conv=>whnf
          repeat' (first|((first|refine zs1 ?_|refine zs2 ?_|refine zs3 ?_|refine zs4 ?_|refine zs5 ?_);conv=>whnf)|((first|apply zi1|apply zi2|apply zi3|apply zi4|apply zi5) <;> intro _ <;> conv=>whnf)|(refine VAny.ix encWy_len k rfl rfl hw ?_;conv=>whnf)|(refine VAny.ix encB_len w.f.toNat (by omega) rfl hf ?_;conv=>whnf)|(refine VAny.ix encB_len w.t.toNat (by omega) rfl hg ?_;conv=>whnf))
          all_goals try (exfalso;omega)
          refine LEnd.intro (k + 1) (by omega) (by omega) ?_
          rw [ht]
          conv=>whnf
          refine Retell.turn ⟨[],0,[],[]⟩ (TurnOk.mk' _ _ [] [] (OutOk.lift _) rfl (by decide) zb trivial trivial rfl) zw zm)
      · rw [List.take_of_length_le h3]
        conv=>whnf
        repeat' (first|((first|refine zs1 ?_|refine zs2 ?_|refine zs3 ?_|refine zs4 ?_|refine zs5 ?_);conv=>whnf)|((first|apply zi1|apply zi2|apply zi3|apply zi4|apply zi5) <;> intro _ <;> conv=>whnf))
        all_goals try (exfalso;omega)
        exact VOut.same rfl
end Go.Proofs.YtoeendggmalcpaaGreat

open Go.Vm
open Psg
namespace Go.Proofs.YtoeendggmalcpaaGreat
set_option maxRecDepth 20000
set_option maxHeartbeats 4000000
def memL (S : List Int) (k : Nat) : List Bool:=(List.range k).map fun q : Nat=>decide ((q : Int) ∈ S)
theorem memL_succ (S : List Int) (k : Nat) : memL S (k + 1) = memL S k ++ [decide ((k : Int) ∈ S)]:=by
  unfold memL;rw [List.range_succ,List.map_append];rfl
theorem memL_len (S : List Int) (k : Nat) : (memL S k).length = k:=by unfold memL;simp
theorem memL_set {n : Nat} {S : List Int} {q : Int} (h0 : 0 ≤ q) (h1 : q < n) : setL (memL S n) q = decide (q ∈ S):=by
  have hq : q.toNat < n:=by omega
  unfold setL memL
  rw [List.getD_eq_getElem?_getD,List.getElem?_map,List.getElem?_range hq]
  show decide (((q.toNat : Nat) : Int) ∈ S) = _
  rw [Int.toNat_of_nonneg h0]
theorem vc_rBars (N : Nt) (a b S : List Int) (h : Hp) (hn : N.ws.length ≤ 4000000) (ha : a.length ≤ 4000000) (hb : b.length ≤ 4000000) (hS : S.length ≤ 4000000) : VC Tryz.prog 36 [vN N,ints a,ints b,ints S] h (.tuple [I (brsN N a b S).1,I (brsN N a b S).2]) h:=by
  obtain ⟨R,hR⟩ : ∃ R,R = brsN N a b S:=⟨_,rfl⟩
  rw [← hR]
  unfold brsN at hR
  have cP:=fun h=>vc_rPastured N a b h hn ha hb
  by_cases h0 : pas N a b = 0
  · rw [if_pos h0] at hR
    rw [h0] at cP
    obtain ⟨n,hN,hPs,ha0,hb0,_,_⟩:=pas_ok h0
    have hp:=hN.p
    have hn1:=hN.n1
    have hwl:=hN.len
    have cR:=fun h=>vc_mixed S h hS
    have cH:=fun x h=>vc_has S x h hS
    generalize hA : S.all (pstB N) = A at hR
    generalize risB S = RS at cR hR
    generalize hA1 : (a.all fun p=>decide (p ∈ S)) = A1 at hR
    generalize hA2 : (b.all fun p=>!decide (p ∈ S)) = A2 at hR
    replace hA:=hA.symm
    replace hA1:=hA1.symm
    replace hA2:=hA2.symm
    refine VC.bodyC 1 Tryz.func36 rfl Tryz.ntmps36 Tryz.call36 (h.grows_refl) rfl ?_;conv=>whnf
    refine VCut.at' (outer:=h.lift) (marks:=[]) 99 [(1,ints a),(2,ints b),(3,ints S),(4,.fp (encN N))] [] ?_ ?_
    · conv=>whnf
      refine Retell.turn ⟨[],1,[(0,encN N)],[]⟩ (TurnOk.mk' _ _ [(0,encN N)] [] (OutOk.lift _) rfl (by decide) zb zf trivial rfl) zw zm
    · conv=>whnf
      repeat' (first|((first|refine zs1 ?_|refine zs2 ?_|refine zs3 ?_|refine zs4 ?_|refine zs5 ?_);conv=>whnf)|((first|apply zi1|apply zi2|apply zi3|apply zi4|apply zi5) <;> intro _ <;> conv=>whnf)|(refine VCall.intro (cP _) ?_;conv=>whnf))
      all_goals try (exfalso;omega)
      refine VCode.lp (outer:=h.lift) (marks:=[]) (fun k : Nat=>[(1,ints a),(2,ints b),(3,ints S),(4,.fp (encN N)),(11,I k)]) (fun _=>[]) (fun k=>k ≤ S.length ∧ A = (S.drop k).all (pstB N)) (fun k=>S.length - k) 0 ⟨Nat.zero_le _,hA⟩ ?_ ?_
      · conv=>whnf
        refine Retell.turn ⟨[],0,[],[]⟩ (TurnOk.mk' _ _ [] [] (OutOk.lift _) rfl (by decide) zb trivial trivial rfl) zw zm
      · rintro k ⟨k1,k2⟩
        rcases Nat.lt_or_ge k S.length with h3|h3
        · have hx : S[k]? = some S[k]:=List.getElem?_eq_getElem h3
          rw [all_at _ hx] at k2
          generalize S[k] = x at hx k2
          have cF:=fun h=>vc_beside x 0 (N.p - 1) h
          by_cases hq : 0 ≤ x ∧ x ≤ N.p - 1
          · have hq2 : pstB N x = true:=decide_eq_true hq
            rw [decide_eq_false (by omega)] at cF
            rw [hq2,Bool.true_and] at k2
            conv=>whnf
            repeat' (first|((first|refine zs1 ?_|refine zs2 ?_|refine zs3 ?_|refine zs4 ?_|refine zs5 ?_);conv=>whnf)|((first|apply zi1|apply zi2|apply zi3|apply zi4|apply zi5) <;> intro _ <;> conv=>whnf))
            all_goals try (exfalso;omega)
            refine zs6 [] ?_
            conv=>whnf
            repeat' (first|((first|refine zs1 ?_|refine zs2 ?_|refine zs3 ?_|refine zs4 ?_|refine zs5 ?_);conv=>whnf)|((first|apply zi1|apply zi2|apply zi3|apply zi4|apply zi5) <;> intro _ <;> conv=>whnf)|(refine VAny.ix encI_len k rfl rfl hx ?_;conv=>whnf)|(refine VCall.intro (cF _) ?_;conv=>whnf))
            all_goals try (exfalso;omega)
            refine LEnd.intro (k + 1) ⟨by omega,k2⟩ (by omega) ?_
            conv=>whnf
            refine Retell.turn ⟨[],0,[],[]⟩ (TurnOk.mk' _ _ [] [] (OutOk.lift _) rfl (by decide) zb trivial trivial rfl) zw zm
          · have hq2 : pstB N x = false:=decide_eq_false hq
            rw [decide_eq_true (by omega)] at cF
            rw [hq2,Bool.false_and] at k2
            rw [if_neg (by rw [k2];simp)] at hR
            conv=>whnf
            repeat' (first|((first|refine zs1 ?_|refine zs2 ?_|refine zs3 ?_|refine zs4 ?_|refine zs5 ?_);conv=>whnf)|((first|apply zi1|apply zi2|apply zi3|apply zi4|apply zi5) <;> intro _ <;> conv=>whnf))
            all_goals try (exfalso;omega)
            refine zs6 [] ?_
            conv=>whnf
            repeat' (first|((first|refine zs1 ?_|refine zs2 ?_|refine zs3 ?_|refine zs4 ?_|refine zs5 ?_);conv=>whnf)|((first|apply zi1|apply zi2|apply zi3|apply zi4|apply zi5) <;> intro _ <;> conv=>whnf)|(refine VAny.ix encI_len k rfl rfl hx ?_;conv=>whnf)|(refine VCall.intro (cF _) ?_;conv=>whnf))
            all_goals try (exfalso;omega)
            rw [hR]
            exact VOut.same rfl
        · rw [List.drop_of_length_le h3,List.all_nil] at k2
          rw [if_pos k2] at hR
          cases RS
          · rw [if_neg (by simp)] at hR
            rw [hR]
            conv=>whnf
            repeat' (first|((first|refine zs1 ?_|refine zs2 ?_|refine zs3 ?_|refine zs4 ?_|refine zs5 ?_);conv=>whnf)|((first|apply zi1|apply zi2|apply zi3|apply zi4|apply zi5) <;> intro _ <;> conv=>whnf)|(refine VCall.intro (cR _) ?_;conv=>whnf))
            all_goals try (exfalso;omega)
            exact VOut.same rfl
          · rw [if_pos rfl] at hR
            conv=>whnf
            repeat' (first|((first|refine zs1 ?_|refine zs2 ?_|refine zs3 ?_|refine zs4 ?_|refine zs5 ?_);conv=>whnf)|((first|apply zi1|apply zi2|apply zi3|apply zi4|apply zi5) <;> intro _ <;> conv=>whnf)|(refine VCall.intro (cR _) ?_;conv=>whnf))
            all_goals try (exfalso;omega)
            refine VCode.lp (outer:=h.lift) (marks:=[]) (fun k : Nat=>[(1,ints a),(2,ints b),(3,ints S),(4,.fp (encN N)),(12,I k)]) (fun _=>[]) (fun k=>k ≤ a.length ∧ A1 = (a.drop k).all (fun p=>decide (p ∈ S))) (fun k=>a.length - k) 0 ⟨Nat.zero_le _,hA1⟩ ?_ ?_
            · conv=>whnf
              refine Retell.turn ⟨[],0,[],[]⟩ (TurnOk.mk' _ _ [] [] (OutOk.lift _) rfl (by decide) zb trivial trivial rfl) zw zm
            · rintro k ⟨k1,k2⟩
              rcases Nat.lt_or_ge k a.length with h3|h3
              · have hx : a[k]? = some a[k]:=List.getElem?_eq_getElem h3
                rw [all_at _ hx] at k2
                generalize a[k] = x at hx k2
                have cF:=fun h=>cH x h
                by_cases hq : x ∈ S
                · rw [decide_eq_true hq] at cF k2
                  simp only [Bool.not_false,Bool.not_true,Bool.true_and] at k2
                  conv=>whnf
                  repeat' (first|((first|refine zs1 ?_|refine zs2 ?_|refine zs3 ?_|refine zs4 ?_|refine zs5 ?_);conv=>whnf)|((first|apply zi1|apply zi2|apply zi3|apply zi4|apply zi5) <;> intro _ <;> conv=>whnf)|(refine VAny.ix encI_len k rfl rfl hx ?_;conv=>whnf)|(refine VCall.intro (cF _) ?_;conv=>whnf))
                  all_goals try (exfalso;omega)
                  refine LEnd.intro (k + 1) ⟨by omega,k2⟩ (by omega) ?_
                  conv=>whnf
                  refine Retell.turn ⟨[],0,[],[]⟩ (TurnOk.mk' _ _ [] [] (OutOk.lift _) rfl (by decide) zb trivial trivial rfl) zw zm
                · rw [decide_eq_false hq] at cF k2
                  simp only [Bool.not_false,Bool.not_true,Bool.false_and] at k2
                  rw [if_neg (by rw [k2];simp)] at hR
                  conv=>whnf
                  repeat' (first|((first|refine zs1 ?_|refine zs2 ?_|refine zs3 ?_|refine zs4 ?_|refine zs5 ?_);conv=>whnf)|((first|apply zi1|apply zi2|apply zi3|apply zi4|apply zi5) <;> intro _ <;> conv=>whnf)|(refine VAny.ix encI_len k rfl rfl hx ?_;conv=>whnf)|(refine VCall.intro (cF _) ?_;conv=>whnf))
                  all_goals try (exfalso;omega)
                  rw [hR]
                  exact VOut.same rfl
              · rw [List.drop_of_length_le h3,List.all_nil] at k2
                subst k2
                conv=>whnf
                repeat' (first|((first|refine zs1 ?_|refine zs2 ?_|refine zs3 ?_|refine zs4 ?_|refine zs5 ?_);conv=>whnf)|((first|apply zi1|apply zi2|apply zi3|apply zi4|apply zi5) <;> intro _ <;> conv=>whnf))
                all_goals try (exfalso;omega)
                refine VCode.lp (outer:=h.lift) (marks:=[]) (fun k : Nat=>[(1,ints a),(2,ints b),(3,ints S),(4,.fp (encN N)),(13,I k)]) (fun _=>[]) (fun k=>k ≤ b.length ∧ A2 = (b.drop k).all (fun p=>!decide (p ∈ S))) (fun k=>b.length - k) 0 ⟨Nat.zero_le _,hA2⟩ ?_ ?_
                · conv=>whnf
                  refine Retell.turn ⟨[],0,[],[]⟩ (TurnOk.mk' _ _ [] [] (OutOk.lift _) rfl (by decide) zb trivial trivial rfl) zw zm
                · rintro k ⟨k1,k2⟩
                  rcases Nat.lt_or_ge k b.length with h3|h3
                  · have hx : b[k]? = some b[k]:=List.getElem?_eq_getElem h3
                    rw [all_at _ hx] at k2
                    generalize b[k] = x at hx k2
                    have cF:=fun h=>cH x h
                    by_cases hq : x ∈ S
                    · rw [decide_eq_true hq] at cF k2
                      simp only [Bool.not_false,Bool.not_true,Bool.false_and] at k2
                      rw [if_neg (by rw [k2];simp)] at hR
                      conv=>whnf
                      repeat' (first|((first|refine zs1 ?_|refine zs2 ?_|refine zs3 ?_|refine zs4 ?_|refine zs5 ?_);conv=>whnf)|((first|apply zi1|apply zi2|apply zi3|apply zi4|apply zi5) <;> intro _ <;> conv=>whnf)|(refine VAny.ix encI_len k rfl rfl hx ?_;conv=>whnf)|(refine VCall.intro (cF _) ?_;conv=>whnf))
                      all_goals try (exfalso;omega)
                      rw [hR]
                      exact VOut.same rfl
                    · rw [decide_eq_false hq] at cF k2
                      simp only [Bool.not_false,Bool.not_true,Bool.true_and] at k2
                      conv=>whnf
                      repeat' (first|((first|refine zs1 ?_|refine zs2 ?_|refine zs3 ?_|refine zs4 ?_|refine zs5 ?_);conv=>whnf)|((first|apply zi1|apply zi2|apply zi3|apply zi4|apply zi5) <;> intro _ <;> conv=>whnf)|(refine VAny.ix encI_len k rfl rfl hx ?_;conv=>whnf)|(refine VCall.intro (cF _) ?_;conv=>whnf))
                      all_goals try (exfalso;omega)
                      refine LEnd.intro (k + 1) ⟨by omega,k2⟩ (by omega) ?_
                      conv=>whnf
                      refine Retell.turn ⟨[],0,[],[]⟩ (TurnOk.mk' _ _ [] [] (OutOk.lift _) rfl (by decide) zb trivial trivial rfl) zw zm
                  · rw [List.drop_of_length_le h3,List.all_nil] at k2
                    rw [if_pos ⟨rfl,k2⟩] at hR
                    have hbar : bar (fun q=>decide (q ∈ S)) N.ws = bar (setL (memL S n)) N.ws:=bar_congr (n:=n) (fun q q0 q1=>(memL_set q0 q1).symm) N.ws hN.inN
                    rw [hbar] at hR
                    have cB:=fun h=>vc_rbars N (memL S n) h hN.ws hn1.2 hwl (memL_len S n)
                    conv=>whnf
                    repeat' (first|((first|refine zs1 ?_|refine zs2 ?_|refine zs3 ?_|refine zs4 ?_|refine zs5 ?_);conv=>whnf)|((first|apply zi1|apply zi2|apply zi3|apply zi4|apply zi5) <;> intro _ <;> conv=>whnf))
                    all_goals try (exfalso;omega)
                    refine VCode.lp (outer:=h.lift) (marks:=[]) (fun k : Nat=>[(3,ints S),(4,.fp (encN N)),(14,.gl (.loc 0) 1 (memL S k).length),(15,I k)]) (fun k=>[.flat true ((memL S k).flatMap encB)]) (fun k=>k ≤ n) (fun k=>n - k) 0 (Nat.zero_le _) ?_ ?_
                    · conv=>whnf
                      refine Retell.turn ⟨[0],0,[],[]⟩ (TurnOk.mk' _ _ [] [] (OutOk.lift _) rfl (by decide) zb trivial trivial rfl) zw zm
                    · intro k k1
                      have hl:=memL_len S k
                      rcases Nat.lt_or_ge k n with h4|h4
                      · have hs:=memL_succ S k
                        have cF:=fun h=>cH (k : Int) h
                        generalize decide ((k : Int) ∈ S) = v at cF hs
                        generalize memL S k = L at hs hl ⊢
                        conv=>whnf
                        repeat' (first|((first|refine zs1 ?_|refine zs2 ?_|refine zs3 ?_|refine zs4 ?_|refine zs5 ?_);conv=>whnf)|((first|apply zi1|apply zi2|apply zi3|apply zi4|apply zi5) <;> intro _ <;> conv=>whnf)|(refine VCall.intro (cF _) ?_;conv=>whnf)|(refine VMem.app1 (l:=L) v encB_len rfl rfl rfl rfl rfl (by omega) ?_;conv=>whnf))
                        all_goals try (exfalso;omega)
                        refine LEnd.intro (k + 1) (by omega) (by omega) ?_
                        rw [hs,List.length_append]
                        conv=>whnf
                        refine Retell.turn ⟨[2],3,[],[]⟩ (TurnOk.mk' _ _ [] [] (OutOk.lift _) rfl (by decide) zb trivial trivial rfl) zw zm
                      · have hk : k = n:=by omega
                        subst hk
                        rw [hR]
                        have hfl : ((memL S k).flatMap encB).length = (memL S k).length * 1:=flat_len encB_len _
                        generalize memL S k = L at hl cB hfl ⊢
                        conv=>whnf
                        repeat' (first|((first|refine zs1 ?_|refine zs2 ?_|refine zs3 ?_|refine zs4 ?_|refine zs5 ?_);conv=>whnf)|((first|apply zi1|apply zi2|apply zi3|apply zi4|apply zi5) <;> intro _ <;> conv=>whnf))
                        all_goals try (exfalso;omega)
                        refine VCall.intro (VC.give (args':=[vN N,bools L]) (loc':=[.dead]) [(0,L.flatMap encB)] [] (OutOk.lift _) zb zf (by exact FmAll.nil) rfl zw (cB _)) ?_
                        conv=>whnf
                        repeat' (first|((first|refine zs1 ?_|refine zs2 ?_|refine zs3 ?_|refine zs4 ?_|refine zs5 ?_);conv=>whnf)|((first|apply zi1|apply zi2|apply zi3|apply zi4|apply zi5) <;> intro _ <;> conv=>whnf))
                        exact VOut.same rfl
  · rw [if_neg h0] at hR
    generalize pas N a b = E at *
    refine VC.bodyC 1 Tryz.func36 rfl Tryz.ntmps36 Tryz.call36 (h.grows_refl) rfl ?_;conv=>whnf
    refine VCut.at' (outer:=h.lift) (marks:=[]) 99 [(1,ints a),(2,ints b),(3,ints S),(4,.fp (encN N))] [] ?_ ?_
    · conv=>whnf
      refine Retell.turn ⟨[],1,[(0,encN N)],[]⟩ (TurnOk.mk' _ _ [(0,encN N)] [] (OutOk.lift _) rfl (by decide) zb zf trivial rfl) zw zm
    · conv=>whnf
      repeat' (first|((first|refine zs1 ?_|refine zs2 ?_|refine zs3 ?_|refine zs4 ?_|refine zs5 ?_);conv=>whnf)|((first|apply zi1|apply zi2|apply zi3|apply zi4|apply zi5) <;> intro _ <;> conv=>whnf)|(refine VCall.intro (cP _) ?_;conv=>whnf))
      all_goals try (exfalso;omega)
      rw [hR]
      exact VOut.same rfl
end Go.Proofs.YtoeendggmalcpaaGreat

open Go.Vm
open Psg
namespace Psg
theorem flux_bd (S : Int → Bool) {ws : List Wy} {xs : List Int} (hh : ∀ w ∈ ws,0 ≤ w.h ∧ w.h ≤ 1000) (hb : Bnd ws xs) : ∀ k : Nat,k ≤ ws.length → -(1000 * (k : Int)) ≤ flux S (ws.take k) (xs.take k) ∧ flux S (ws.take k) (xs.take k) ≤ 1000 * (k : Int)
  | 0,_=>by simp [flux]
  | k + 1,hk=>by
    have ih:=flux_bd S hh hb k (by omega)
    have hl:=hb.len
    have hw : ws[k]? = some ws[k]:=List.getElem?_eq_getElem (by omega)
    have hx : xs[k]? = some xs[k]:=List.getElem?_eq_getElem (by omega)
    have h1:=hb.at hw hx
    have h2:=hh _ (List.mem_of_getElem? hw)
    rw [flux_take S hw hx]
    generalize ws[k] = w at *
    generalize xs[k] = x at *
    cases S w.f <;> cases S w.t <;> simp only [Psg.one_t,Psg.one_f] <;> push_cast <;> omega
theorem sumTo_bd (u : Nat → Int) (c : Int) (h : ∀ i,-c ≤ u i ∧ u i ≤ c) : ∀ k : Nat,-(c * (k : Int)) ≤ sumTo k u ∧ sumTo k u ≤ c * (k : Int)
  | 0=>by simp [sumTo]
  | k + 1=>by
    have ih:=sumTo_bd u c h k
    have:=h k
    rw [sumTo]
    have e : c * ((k + 1 : Nat) : Int) = c * k + c:=by push_cast;rw [Int.mul_add];simp
    omega
end Psg
namespace Go.Proofs.YtoeendggmalcpaaGreat
set_option maxRecDepth 20000
set_option maxHeartbeats 4000000
theorem vc_rBrings (N : Nt) (a b hs : List Int) (h : Hp) (hn : N.ws.length ≤ 4000000) (ha : a.length ≤ 4000000) (hb : b.length ≤ 4000000) (hh : hs.length ≤ 4000000) : VC Tryz.prog 34 [vN N,ints a,ints b,ints hs] h (.tuple [I (brgN N a b hs).1,I (brgN N a b hs).2]) h:=by
  obtain ⟨R,hR⟩ : ∃ R,R = brgN N a b hs:=⟨_,rfl⟩
  rw [← hR]
  unfold brgN at hR
  have cP:=fun h=>vc_rPastured N a b h hn ha hb
  by_cases h0 : pas N a b = 0
  · rw [if_pos h0] at hR
    rw [h0] at cP
    obtain ⟨n,hN,hPs,ha0,hb0,_,_⟩:=pas_ok h0
    have hp:=hN.p
    have hn1:=hN.n1
    have hwl:=hN.len
    rw [nok_nat hN] at hR
    have hhN : ∀ w ∈ N.ws,0 ≤ w.h ∧ w.h ≤ 1000:=fun w hw=>(hN.ws w hw).h
    refine VC.bodyC 1 Tryz.func34 rfl Tryz.ntmps34 Tryz.call34 (h.grows_refl) rfl ?_;conv=>whnf
    refine VCut.at' (outer:=h.lift) (marks:=[]) 99 [(1,ints a),(2,ints b),(3,ints hs),(4,.fp (encN N))] [] ?_ ?_
    · conv=>whnf
      refine Retell.turn ⟨[],1,[(0,encN N)],[]⟩ (TurnOk.mk' _ _ [(0,encN N)] [] (OutOk.lift _) rfl (by decide) zb zf trivial rfl) zw zm
    · by_cases hl : hs.length = N.ws.length
      · rw [if_pos hl] at hR
        conv=>whnf
        repeat' (first|((first|refine zs1 ?_|refine zs2 ?_|refine zs3 ?_|refine zs4 ?_|refine zs5 ?_);conv=>whnf)|((first|apply zi1|apply zi2|apply zi3|apply zi4|apply zi5) <;> intro _ <;> conv=>whnf)|(refine VCall.intro (cP _) ?_;conv=>whnf))
        all_goals try (exfalso;omega)
        refine VCode.lp (outer:=h.lift) (marks:=[]) (fun k : Nat=>[(1,ints a),(2,ints b),(3,ints hs),(4,.fp (encN N)),(11,I k)]) (fun _=>[]) (fun k=>k ≤ N.ws.length ∧ bndA N.ws hs = bndA (N.ws.drop k) (hs.drop k)) (fun k=>N.ws.length - k) 0 ⟨Nat.zero_le _,rfl⟩ ?_ ?_
        · conv=>whnf
          refine Retell.turn ⟨[],0,[],[]⟩ (TurnOk.mk' _ _ [] [] (OutOk.lift _) rfl (by decide) zb trivial trivial rfl) zw zm
        · rintro k ⟨k1,k2⟩
          rcases Nat.lt_or_ge k N.ws.length with h3|h3
          · have hw : N.ws[k]? = some N.ws[k]:=List.getElem?_eq_getElem h3
            have hx : hs[k]? = some hs[k]:=List.getElem?_eq_getElem (by omega)
            rw [bndA_at hw hx] at k2
            generalize N.ws[k] = w at hw k2
            generalize hs[k] = x at hx k2
            have cF:=fun h=>vc_beside x 0 w.h h
            by_cases hb : 0 ≤ x ∧ x ≤ w.h
            · rw [decide_eq_false (by omega)] at cF
              rw [inB_iff.2 hb,Bool.true_and] at k2
              conv=>whnf
              repeat' (first|((first|refine zs1 ?_|refine zs2 ?_|refine zs3 ?_|refine zs4 ?_|refine zs5 ?_);conv=>whnf)|((first|apply zi1|apply zi2|apply zi3|apply zi4|apply zi5) <;> intro _ <;> conv=>whnf))
              all_goals try (exfalso;omega)
              refine zs6 [] ?_
              conv=>whnf
              repeat' (first|((first|refine zs1 ?_|refine zs2 ?_|refine zs3 ?_|refine zs4 ?_|refine zs5 ?_);conv=>whnf)|((first|apply zi1|apply zi2|apply zi3|apply zi4|apply zi5) <;> intro _ <;> conv=>whnf)|(refine VAny.ix encWy_len k rfl rfl hw ?_;conv=>whnf)|(refine VAny.ix encI_len k rfl rfl hx ?_;conv=>whnf)|(refine VCall.intro (cF _) ?_;conv=>whnf))
              all_goals try (exfalso;omega)
              refine LEnd.intro (k + 1) ⟨by omega,k2⟩ (by omega) ?_
              conv=>whnf
              refine Retell.turn ⟨[],0,[],[]⟩ (TurnOk.mk' _ _ [] [] (OutOk.lift _) rfl (by decide) zb trivial trivial rfl) zw zm
            · rw [decide_eq_true (by omega)] at cF
              have : inB x 0 w.h = false:=by
                cases hq : inB x 0 w.h
                · rfl
                · exact absurd (inB_iff.1 hq) hb
              rw [this,Bool.false_and] at k2
              rw [if_neg (by rw [k2];simp)] at hR
              conv=>whnf
              repeat' (first|((first|refine zs1 ?_|refine zs2 ?_|refine zs3 ?_|refine zs4 ?_|refine zs5 ?_);conv=>whnf)|((first|apply zi1|apply zi2|apply zi3|apply zi4|apply zi5) <;> intro _ <;> conv=>whnf))
              all_goals try (exfalso;omega)
              refine zs6 [] ?_
              conv=>whnf
              repeat' (first|((first|refine zs1 ?_|refine zs2 ?_|refine zs3 ?_|refine zs4 ?_|refine zs5 ?_);conv=>whnf)|((first|apply zi1|apply zi2|apply zi3|apply zi4|apply zi5) <;> intro _ <;> conv=>whnf)|(refine VAny.ix encWy_len k rfl rfl hw ?_;conv=>whnf)|(refine VAny.ix encI_len k rfl rfl hx ?_;conv=>whnf)|(refine VCall.intro (cF _) ?_;conv=>whnf))
              all_goals try (exfalso;omega)
              rw [hR]
              exact VOut.same rfl
          · have hk : k = N.ws.length:=by omega
            subst hk
            have e1 : bndA ([] : List Wy) (hs.drop N.ws.length) = true:=by cases hs.drop N.ws.length <;> rfl
            rw [List.drop_of_length_le (Nat.le_refl N.ws.length),e1] at k2
            rw [if_pos k2] at hR
            have hB:=(bndA_iff hl).1 k2
            clear k2 e1
            have hnb : ∀ p,-24000 ≤ net p N.ws hs ∧ net p N.ws hs ≤ 24000:=fun p=>by
              have:=flux_bd (eqB p) hhN hB N.ws.length (Nat.le_refl _)
              rw [List.take_of_length_le (Nat.le_refl _),List.take_of_length_le (by omega)] at this
              unfold net
              omega
            obtain ⟨u,hu⟩ : ∃ u : Nat → Int,u = fun p : Nat=>Psg.one (decide ((p : Int) ∈ a)) (net (p : Int) N.ws hs):=⟨_,rfl⟩
            have hub : ∀ i,-24000 ≤ u i ∧ u i ≤ 24000:=fun i=>by
              have:=hnb (i : Int)
              have e : u i = Psg.one (decide ((i : Int) ∈ a)) (net (i : Int) N.ws hs):=by rw [hu]
              rw [e]
              by_cases hi : (i : Int) ∈ a
              · rw [decide_eq_true hi,Psg.one_t];omega
              · rw [decide_eq_false hi,Psg.one_f];omega
            have hval : val n N.ws a hs = sumTo n u:=by rw [hu];rfl
            rw [hval] at hR
            conv=>whnf
            repeat' (first|((first|refine zs1 ?_|refine zs2 ?_|refine zs3 ?_|refine zs4 ?_|refine zs5 ?_);conv=>whnf)|((first|apply zi1|apply zi2|apply zi3|apply zi4|apply zi5) <;> intro _ <;> conv=>whnf))
            all_goals try (exfalso;omega)
            refine VCode.lp (outer:=h.lift) (marks:=[]) (fun k : Nat=>[(1,ints a),(2,ints b),(3,ints hs),(4,.fp (encN N)),(12,I (sumTo k u)),(13,I k)]) (fun _=>[]) (fun k=>k ≤ n ∧ ∀ j < k,(j : Int) ∈ a ∨ (j : Int) ∈ b ∨ net j N.ws hs = 0) (fun k=>n - k) 0 ⟨Nat.zero_le _,fun j hj=>absurd hj (by omega)⟩ ?_ ?_
            · conv=>whnf
              refine Retell.turn ⟨[],0,[],[]⟩ (TurnOk.mk' _ _ [] [] (OutOk.lift _) rfl (by decide) zb trivial trivial rfl) zw zm
            · rintro k ⟨q1,q2⟩
              have hsb:=sumTo_bd u 24000 hub k
              rcases Nat.lt_or_ge k n with h4|h4
              · have hq : ((k : Int) ∈ a ∨ (k : Int) ∈ b ∨ net k N.ws hs = 0) → ∀ j < k + 1,(j : Int) ∈ a ∨ (j : Int) ∈ b ∨ net j N.ws hs = 0:=fun h j hj=>by
                  rcases Nat.lt_or_ge j k with h5|h5
                  · exact q2 j h5
                  · have : j = k:=by omega
                    subst this;exact h
                have hsu : sumTo (k + 1) u = sumTo k u + u k:=rfl
                have huk : u k = Psg.one (decide ((k : Int) ∈ a)) (net k N.ws hs):=by rw [hu]
                generalize hs0 : sumTo k u = s0 at hsb hsu ⊢
                conv=>whnf
                repeat' (first|((first|refine zs1 ?_|refine zs2 ?_|refine zs3 ?_|refine zs4 ?_|refine zs5 ?_);conv=>whnf)|((first|apply zi1|apply zi2|apply zi3|apply zi4|apply zi5) <;> intro _ <;> conv=>whnf))
                all_goals try (exfalso;omega)
                refine VCode.lp (outer:=h.lift) (marks:=[]) (fun j : Nat=>[(1,ints a),(2,ints b),(3,ints hs),(4,.fp (encN N)),(12,I s0),(13,I k),(14,I (net k (N.ws.take j) (hs.take j))),(15,I j)]) (fun _=>[]) (fun j=>j ≤ N.ws.length) (fun j=>N.ws.length - j) 0 (Nat.zero_le _) ?_ ?_
                · conv=>whnf
                  refine Retell.turn ⟨[],0,[],[]⟩ (TurnOk.mk' _ _ [] [] (OutOk.lift _) rfl (by decide) zb trivial trivial rfl) zw zm
                · intro j j1
                  have hfb:=flux_bd (eqB k) hhN hB j j1
                  rcases Nat.lt_or_ge j N.ws.length with h5|h5
                  · have hw : N.ws[j]? = some N.ws[j]:=List.getElem?_eq_getElem h5
                    have hx : hs[j]? = some hs[j]:=List.getElem?_eq_getElem (by omega)
                    have ht : net k (N.ws.take (j + 1)) (hs.take (j + 1)) = net k (N.ws.take j) (hs.take j) + Psg.one (eqB k N.ws[j].f) hs[j] - Psg.one (eqB k N.ws[j].t) hs[j]:=flux_take (eqB k) hw hx
                    have hxb:=hB.at hw hx
                    have hwh:=hhN _ (List.mem_of_getElem? hw)
                    generalize N.ws[j] = w at hw ht hxb hwh
                    generalize hs[j] = x at hx ht hxb
                    change -(1000 * (j : Int)) ≤ net k (N.ws.take j) (hs.take j) ∧ net k (N.ws.take j) (hs.take j) ≤ 1000 * (j : Int) at hfb
                    generalize net k (N.ws.take j) (hs.take j) = s at ht hfb ⊢
                    by_cases e1 : w.f = k <;> by_cases e2 : w.t = k
                    all_goals (
                      unfold eqB at ht
                      simp only [e1,e2,decide_true,decide_false,Psg.one_t,Psg.one_f,Int.add_zero,Int.sub_zero] at ht
                      conv=>whnf
                      repeat' (first|((first|refine zs1 ?_|refine zs2 ?_|refine zs3 ?_|refine zs4 ?_|refine zs5 ?_);conv=>whnf)|((first|apply zi1|apply zi2|apply zi3|apply zi4|apply zi5) <;> intro _ <;> conv=>whnf)|(refine VAny.ix encWy_len j rfl rfl hw ?_;conv=>whnf)|(refine VAny.ix encI_len j rfl rfl hx ?_;conv=>whnf))
                      all_goals try (exfalso;omega)
                      refine LEnd.intro (j + 1) (by omega) (by omega) ?_
                      rw [ht]
                      conv=>whnf
                      refine Retell.turn ⟨[],0,[],[]⟩ (TurnOk.mk' _ _ [] [] (OutOk.lift _) rfl (by decide) zb trivial trivial rfl) zw zm)
                  · rw [List.take_of_length_le h5,List.take_of_length_le (by omega)]
                    have hnk:=hnb k
                    have cA:=fun h=>vc_has a (k : Int) h ha
                    have cB:=fun h=>vc_has b (k : Int) h hb
                    generalize hv0 : net k N.ws hs = v at hnk huk hq ⊢
                    by_cases hka : (k : Int) ∈ a
                    · rw [decide_eq_true hka] at cA huk
                      rw [Psg.one_t] at huk
                      conv=>whnf
                      repeat' (first|((first|refine zs1 ?_|refine zs2 ?_|refine zs3 ?_|refine zs4 ?_|refine zs5 ?_);conv=>whnf)|((first|apply zi1|apply zi2|apply zi3|apply zi4|apply zi5) <;> intro _ <;> conv=>whnf)|(refine VCall.intro (cA _) ?_;conv=>whnf))
                      all_goals try (exfalso;omega)
                      refine LEnd.intro (k + 1) ⟨by omega,hq (.inl hka)⟩ (by omega) ?_
                      rw [hsu,huk]
                      conv=>whnf
                      refine Retell.turn ⟨[],0,[],[]⟩ (TurnOk.mk' _ _ [] [] (OutOk.lift _) rfl (by decide) zb trivial trivial rfl) zw zm
                    · rw [decide_eq_false hka] at cA huk
                      rw [Psg.one_f] at huk
                      by_cases hkb : (k : Int) ∈ b
                      · rw [decide_eq_true hkb] at cB
                        conv=>whnf
                        repeat' (first|((first|refine zs1 ?_|refine zs2 ?_|refine zs3 ?_|refine zs4 ?_|refine zs5 ?_);conv=>whnf)|((first|apply zi1|apply zi2|apply zi3|apply zi4|apply zi5) <;> intro _ <;> conv=>whnf)|(refine VCall.intro (cA _) ?_;conv=>whnf)|(refine VCall.intro (cB _) ?_;conv=>whnf))
                        all_goals try (exfalso;omega)
                        refine LEnd.intro (k + 1) ⟨by omega,hq (.inr (.inl hkb))⟩ (by omega) ?_
                        rw [hsu,huk,Int.add_zero]
                        conv=>whnf
                        refine Retell.turn ⟨[],0,[],[]⟩ (TurnOk.mk' _ _ [] [] (OutOk.lift _) rfl (by decide) zb trivial trivial rfl) zw zm
                      · rw [decide_eq_false hkb] at cB
                        by_cases hv : v = 0
                        · conv=>whnf
                          repeat' (first|((first|refine zs1 ?_|refine zs2 ?_|refine zs3 ?_|refine zs4 ?_|refine zs5 ?_);conv=>whnf)|((first|apply zi1|apply zi2|apply zi3|apply zi4|apply zi5) <;> intro _ <;> conv=>whnf)|(refine VCall.intro (cA _) ?_;conv=>whnf)|(refine VCall.intro (cB _) ?_;conv=>whnf))
                          all_goals try (exfalso;omega)
                          refine LEnd.intro (k + 1) ⟨by omega,hq (.inr (.inr hv))⟩ (by omega) ?_
                          rw [hsu,huk,Int.add_zero]
                          conv=>whnf
                          refine Retell.turn ⟨[],0,[],[]⟩ (TurnOk.mk' _ _ [] [] (OutOk.lift _) rfl (by decide) zb trivial trivial rfl) zw zm
                        · rw [if_neg (fun h6=>by
                            rcases conB_iff.1 h6 k h4 with h7|h7|h7
                            · exact hka h7
                            · exact hkb h7
                            · exact hv (by omega))] at hR
                          conv=>whnf
                          repeat' (first|((first|refine zs1 ?_|refine zs2 ?_|refine zs3 ?_|refine zs4 ?_|refine zs5 ?_);conv=>whnf)|((first|apply zi1|apply zi2|apply zi3|apply zi4|apply zi5) <;> intro _ <;> conv=>whnf)|(refine VCall.intro (cA _) ?_;conv=>whnf)|(refine VCall.intro (cB _) ?_;conv=>whnf))
                          all_goals try (exfalso;omega)
                          rw [hR]
                          exact VOut.same rfl
              · have hk : k = n:=by omega
                subst hk
                rw [if_pos (conB_iff.2 q2)] at hR
                rw [hR]
                generalize sumTo k u = s0
                conv=>whnf
                repeat' (first|((first|refine zs1 ?_|refine zs2 ?_|refine zs3 ?_|refine zs4 ?_|refine zs5 ?_);conv=>whnf)|((first|apply zi1|apply zi2|apply zi3|apply zi4|apply zi5) <;> intro _ <;> conv=>whnf))
                all_goals try (exfalso;omega)
                exact VOut.same rfl
      · rw [if_neg hl] at hR
        rw [hR]
        conv=>whnf
        repeat' (first|((first|refine zs1 ?_|refine zs2 ?_|refine zs3 ?_|refine zs4 ?_|refine zs5 ?_);conv=>whnf)|((first|apply zi1|apply zi2|apply zi3|apply zi4|apply zi5) <;> intro _ <;> conv=>whnf)|(refine VCall.intro (cP _) ?_;conv=>whnf))
        all_goals try (exfalso;omega)
        exact VOut.same rfl
  · rw [if_neg h0] at hR
    generalize pas N a b = E at *
    refine VC.bodyC 1 Tryz.func34 rfl Tryz.ntmps34 Tryz.call34 (h.grows_refl) rfl ?_;conv=>whnf
    refine VCut.at' (outer:=h.lift) (marks:=[]) 99 [(1,ints a),(2,ints b),(3,ints hs),(4,.fp (encN N))] [] ?_ ?_
    · conv=>whnf
      refine Retell.turn ⟨[],1,[(0,encN N)],[]⟩ (TurnOk.mk' _ _ [(0,encN N)] [] (OutOk.lift _) rfl (by decide) zb zf trivial rfl) zw zm
    · conv=>whnf
      repeat' (first|((first|refine zs1 ?_|refine zs2 ?_|refine zs3 ?_|refine zs4 ?_|refine zs5 ?_);conv=>whnf)|((first|apply zi1|apply zi2|apply zi3|apply zi4|apply zi5) <;> intro _ <;> conv=>whnf)|(refine VCall.intro (cP _) ?_;conv=>whnf))
      all_goals try (exfalso;omega)
      rw [hR]
      exact VOut.same rfl
end Go.Proofs.YtoeendggmalcpaaGreat

open Go.Vm
open Psg
namespace Go.Vm
theorem zbit {m : Nat} {K : Int → Prop} (hm : m < 1024) (k : K ((m % 2 : Nat) : Int)) : VArith .i64 (((BitVec.ofInt IntKind.i64.bits (m : Int) &&& BitVec.ofInt IntKind.i64.bits 1).toNat : Nat) : Int) K:=by
  have e : (((BitVec.ofInt IntKind.i64.bits (m : Int) &&& BitVec.ofInt IntKind.i64.bits 1).toNat : Nat) : Int) = ((m % 2 : Nat) : Int):=by
    have : ∀ i : Fin 1024,(BitVec.ofInt 64 ((i : Nat) : Int) &&& BitVec.ofInt 64 1).toNat = (i : Nat) % 2:=by decide +kernel
    exact congrArg _ (this ⟨m,hm⟩)
  rw [e]
  exact zs2 k (by omega)
end Go.Vm
namespace Psg
theorem fdiv_bit (m k : Nat) (hk : k ≤ 10) : (m : Int).fdiv (2 ^ (min (k : Int).toNat 64)) = ((m / 2 ^ k : Nat) : Int):=by
  rw [Int.toNat_natCast,Nat.min_eq_left (by omega)]
  rw [show ((2 : Int) ^ k) = ((2 ^ k : Nat) : Int) by push_cast;rfl]
  rw [Int.fdiv_eq_ediv_of_nonneg _ (Int.natCast_nonneg _)]
  exact (Int.natCast_ediv m (2 ^ k)).symm
theorem bit_test (m k : Nat) : decide (((m / 2 ^ k % 2 : Nat) : Int) = 1) = m.testBit k:=by
  rw [Nat.testBit_eq_decide_div_mod_eq]
  exact decide_eq_decide.2 (by omega)
theorem shl_pow (n : Nat) (h : n ≤ 10) : Go.IntKind.i64.wrap (1 * 2 ^ (min (n : Int).toNat 64)) = ((2 ^ n : Nat) : Int):=by
  rw [Int.toNat_natCast,Nat.min_eq_left (by omega)]
  have : ∀ i : Fin 11,Go.IntKind.i64.wrap (1 * 2 ^ (i : Nat)) = ((2 ^ (i : Nat) : Nat) : Int):=by decide
  exact this ⟨n,by omega⟩
end Psg
namespace Psg
theorem all_ext {p q : Int → Bool} : ∀ {l : List Int},(∀ x ∈ l,p x = q x) → l.all p = l.all q
  | [],_=>rfl
  | x :: l,h=>by rw [List.all_cons,List.all_cons,h x List.mem_cons_self,all_ext fun y hy=>h y (List.mem_cons_of_mem _ hy)]
theorem take_all {l : List Int} {k : Nat} {x : Int} (q : Int → Bool) (h : l[k]? = some x) : (l.take (k + 1)).all q = ((l.take k).all q && q x):=by
  rw [List.take_add_one,h,List.all_append];simp
def bitL (m k : Nat) : List Bool:=(List.range k).map fun q : Nat=>m.testBit q
theorem bitL_succ (m k : Nat) : bitL m (k + 1) = bitL m k ++ [m.testBit k]:=by unfold bitL;rw [List.range_succ,List.map_append];rfl
theorem bitL_len (m k : Nat) : (bitL m k).length = k:=by unfold bitL;simp
theorem bitL_set {n m : Nat} {q : Int} (h0 : 0 ≤ q) (h1 : q < n) : setL (bitL m n) q = bitS m q:=by
  have hq : q.toNat < n:=by omega
  unfold setL bitL bitS
  rw [List.getD_eq_getElem?_getD,List.getElem?_map,List.getElem?_range hq]
  rfl
end Psg
namespace Go.Proofs.YtoeendggmalcpaaGreat
set_option maxRecDepth 20000
set_option maxHeartbeats 4000000
theorem vc_rmost {n : Nat} (N : Nt) (a b : List Int) (h : Hp) (hN : NOk n N) (hP : Ps n N.ws a b) (ha : a.length ≤ 4000000) (hb : b.length ≤ 4000000) : VC Tryz.prog 77 [vN N,ints a,ints b] h (I (mgo N.ws a b (2 ^ n))) h:=by
  obtain ⟨M,hM⟩ : ∃ M,M = 2 ^ n:=⟨_,rfl⟩
  rw [← hM]
  have hp:=hN.p
  have hn1:=hN.n1
  have hwl:=hN.len
  have hM2 : M ≤ 1024:=by rw [hM];exact Nat.pow_le_pow_right (by decide) hn1.2
  have hsh : IntKind.i64.wrap (1 * 2 ^ (min N.p.toNat IntKind.i64.bits)) = (M : Int):=by rw [hp,hM];exact shl_pow n hn1.2
  refine VC.bodyC 1 Tryz.func77 rfl Tryz.ntmps77 Tryz.call77 (h.grows_refl) rfl ?_;conv=>whnf
  refine VCut.at' (outer:=h.lift) (marks:=[]) 99 [(1,ints a),(2,ints b),(3,.fp (encN N))] [] ?_ ?_
  · conv=>whnf
    refine Retell.turn ⟨[],1,[(0,encN N)],[]⟩ (TurnOk.mk' _ _ [(0,encN N)] [] (OutOk.lift _) rfl (by decide) zb zf trivial rfl) zw zm
  · conv=>whnf
    repeat' (first|((first|refine zs1 ?_|refine zs2 ?_|refine zs3 ?_|refine zs4 ?_|refine zs5 ?_);conv=>whnf)|((first|apply zi1|apply zi2|apply zi3|apply zi4|apply zi5) <;> intro _ <;> conv=>whnf))
    refine VCode.lp (outer:=h.lift) (marks:=[]) (fun m : Nat=>[(1,ints a),(2,ints b),(3,.fp (encN N)),(7,I (mgo N.ws a b m)),(8,I m)]) (fun _=>[]) (fun m=>m ≤ M) (fun m=>M - m) 0 (Nat.zero_le _) ?_ ?_
    · conv=>whnf
      refine Retell.turn ⟨[],0,[],[]⟩ (TurnOk.mk' _ _ [] [] (OutOk.lift _) rfl (by decide) zb trivial trivial rfl) zw zm
    · intro m hm
      rcases Nat.lt_or_ge m M with h3|h3
      · have hst : mgo N.ws a b (m + 1) = bif cutB a b (bitS m) && (decide (mgo N.ws a b m = -1) || decide (bar (bitS m) N.ws < mgo N.ws a b m)) then bar (bitS m) N.ws else mgo N.ws a b m:=rfl
        generalize mgo N.ws a b m = g at hst ⊢
        conv=>whnf
        repeat' (first|((first|refine zs1 ?_|refine zs2 ?_|refine zs3 ?_|refine zs4 ?_|refine zs5 ?_);conv=>whnf)|((first|apply zi1|apply zi2|apply zi3|apply zi4|apply zi5) <;> intro _ <;> conv=>whnf))
        all_goals try (exfalso;omega)
        refine VCode.lp (outer:=h.lift) (marks:=[]) (fun k : Nat=>[(1,ints a),(2,ints b),(3,.fp (encN N)),(7,I g),(8,I m),(9,.gl (.loc 0) 1 (bitL m k).length),(10,I k)]) (fun k=>[.flat true ((bitL m k).flatMap encB)]) (fun k=>k ≤ n) (fun k=>n - k) 0 (Nat.zero_le _) ?_ ?_
        · conv=>whnf
          refine Retell.turn ⟨[0],0,[],[]⟩ (TurnOk.mk' _ _ [] [] (OutOk.lift _) rfl (by decide) zb trivial trivial rfl) zw zm
        · intro k k1
          have hl:=bitL_len m k
          rcases Nat.lt_or_ge k n with h4|h4
          · have hs:=bitL_succ m k
            have hfd : (m : Int).fdiv (2 ^ (min (k : Int).toNat IntKind.i64.bits)) = ((m / 2 ^ k : Nat) : Int):=fdiv_bit m k (by omega)
            have hbt:=bit_test m k
            have hlt : m / 2 ^ k < 1024:=Nat.lt_of_le_of_lt (Nat.div_le_self _ _) (by omega)
            generalize m.testBit k = v at hs hbt
            generalize m / 2 ^ k = q at hfd hbt hlt
            generalize bitL m k = L at hs hl ⊢
            conv=>whnf
            repeat' (first|((first|refine zs1 ?_|refine zs2 ?_|refine zs3 ?_|refine zs4 ?_|refine zs5 ?_);conv=>whnf)|((first|apply zi1|apply zi2|apply zi3|apply zi4|apply zi5) <;> intro _ <;> conv=>whnf)|(rw [hfd];refine zbit hlt ?_;conv=>whnf)|(refine VMem.app1 (l:=L) (decide (((q % 2 : Nat) : Int) = 1)) encB_len rfl rfl rfl rfl rfl (by omega) ?_;conv=>whnf))
            all_goals try (exfalso;omega)
            refine LEnd.intro (k + 1) (by omega) (by omega) ?_
            rw [hs,← hbt,List.length_append]
            conv=>whnf
            refine Retell.turn ⟨[2],3,[],[]⟩ (TurnOk.mk' _ _ [] [] (OutOk.lift _) rfl (by decide) zb trivial trivial rfl) zw zm
          · have hk : k = n:=by omega
            subst hk
            have eS : ∀ q : Int,0 ≤ q → q < k → setL (bitL m k) q = bitS m q:=fun q q0 q1=>bitL_set q0 q1
            have hA0 : a.all (setL (bitL m k)) = a.all (bitS m):=all_ext fun x hx=>eS x (hP.smt.inN x hx).1 (hP.smt.inN x hx).2
            have hB0 : (b.all fun p=>!setL (bitL m k) p) = b.all fun p=>!bitS m p:=all_ext fun x hx=>by rw [eS x (hP.gin x hx).1 (hP.gin x hx).2]
            have hbar : bar (setL (bitL m k)) N.ws = bar (bitS m) N.ws:=bar_congr (n:=k) eS N.ws hN.inN
            have cB:=fun h=>vc_rbars N (bitL m k) h hN.ws hn1.2 hwl hl
            have hbb:=bar_le (bitS m) N.ws fun w hw=>(hN.ws w hw).h
            rw [hbar] at cB
            have hcut : cutB a b (bitS m) = (a.all (setL (bitL m k)) && b.all fun p=>!setL (bitL m k) p):=by rw [hA0,hB0];rfl
            rw [hcut] at hst
            have hLx : ∀ x,(0 ≤ x ∧ x < (k : Int)) → (bitL m k)[x.toNat]? = some (setL (bitL m k) x):=fun x hx=>by unfold setL;rw [List.getD_eq_getElem?_getD,List.getElem?_eq_getElem (by omega)];rfl
            generalize bar (bitS m) N.ws = v at hst cB hbb
            generalize bitL m k = L at hl hst cB hLx ⊢
            have hfl : (L.flatMap encB).length = L.length * 1:=flat_len encB_len _
            have hin:=hP.smt.inN
            have hgi:=hP.gin
            conv=>whnf
            repeat' (first|((first|refine zs1 ?_|refine zs2 ?_|refine zs3 ?_|refine zs4 ?_|refine zs5 ?_);conv=>whnf)|((first|apply zi1|apply zi2|apply zi3|apply zi4|apply zi5) <;> intro _ <;> conv=>whnf))
            all_goals try (exfalso;omega)
            refine VCode.lp (outer:=h.lift) (marks:=[]) (fun j : Nat=>[(1,ints a),(2,ints b),(3,.fp (encN N)),(7,I g),(8,I m),(9,bools L),(11,B ((a.take j).all (setL L))),(12,I j)]) (fun _=>[]) (fun j=>j ≤ a.length) (fun j=>a.length - j) 0 (Nat.zero_le _) ?_ ?_
            · conv=>whnf
              refine Retell.turn ⟨[],1,[(0,L.flatMap encB)],[]⟩ (TurnOk.mk' _ _ [(0,L.flatMap encB)] [] (OutOk.lift _) rfl (by decide) zb zf trivial rfl) zw zm
            · intro j j1
              rcases Nat.lt_or_ge j a.length with h5|h5
              · have hx : a[j]? = some a[j]:=List.getElem?_eq_getElem h5
                have hxi:=hin _ (List.getElem_mem h5)
                have ht:=take_all (setL L) hx
                generalize a[j] = x at hx hxi ht
                have hLv:=hLx x hxi
                generalize setL L x = y at hLv ht
                generalize (a.take j).all (setL L) = A at ht ⊢
                cases A <;> cases y
                all_goals (
                  conv=>whnf
                  repeat' (first|((first|refine zs1 ?_|refine zs2 ?_|refine zs3 ?_|refine zs4 ?_|refine zs5 ?_);conv=>whnf)|((first|apply zi1|apply zi2|apply zi3|apply zi4|apply zi5) <;> intro _ <;> conv=>whnf)|(refine VAny.ix encI_len j rfl rfl hx ?_;conv=>whnf)|(refine VAny.ix encB_len x.toNat (by omega) rfl hLv ?_;conv=>whnf))
                  all_goals try (exfalso;omega)
                  refine LEnd.intro (j + 1) (by omega) (by omega) ?_
                  rw [ht]
                  conv=>whnf
                  refine Retell.turn ⟨[],0,[],[]⟩ (TurnOk.mk' _ _ [] [] (OutOk.lift _) rfl (by decide) zb trivial trivial rfl) zw zm)
              · rw [List.take_of_length_le h5]
                generalize a.all (setL L) = A at hst ⊢
                conv=>whnf
                repeat' (first|((first|refine zs1 ?_|refine zs2 ?_|refine zs3 ?_|refine zs4 ?_|refine zs5 ?_);conv=>whnf)|((first|apply zi1|apply zi2|apply zi3|apply zi4|apply zi5) <;> intro _ <;> conv=>whnf))
                all_goals try (exfalso;omega)
                refine VCode.lp (outer:=h.lift) (marks:=[]) (fun j : Nat=>[(1,ints a),(2,ints b),(3,.fp (encN N)),(7,I g),(8,I m),(9,bools L),(11,B (A && (b.take j).all fun p=>!setL L p)),(13,I j)]) (fun _=>[]) (fun j=>j ≤ b.length) (fun j=>b.length - j) 0 (Nat.zero_le _) ?_ ?_
                · rw [List.take_zero,List.all_nil,Bool.and_true]
                  conv=>whnf
                  refine Retell.turn ⟨[],0,[],[]⟩ (TurnOk.mk' _ _ [] [] (OutOk.lift _) rfl (by decide) zb trivial trivial rfl) zw zm
                · intro j j1
                  rcases Nat.lt_or_ge j b.length with h5|h5
                  · have hx : b[j]? = some b[j]:=List.getElem?_eq_getElem h5
                    have hxi:=hgi _ (List.getElem_mem h5)
                    have ht:=take_all (fun p=>!setL L p) hx
                    generalize b[j] = x at hx hxi ht
                    have hLv:=hLx x hxi
                    generalize setL L x = y at hLv ht
                    generalize ((b.take j).all fun p=>!setL L p) = C at ht ⊢
                    cases A <;> cases C <;> cases y
                    all_goals (
                      conv=>whnf
                      repeat' (first|((first|refine zs1 ?_|refine zs2 ?_|refine zs3 ?_|refine zs4 ?_|refine zs5 ?_);conv=>whnf)|((first|apply zi1|apply zi2|apply zi3|apply zi4|apply zi5) <;> intro _ <;> conv=>whnf)|(refine VAny.ix encI_len j rfl rfl hx ?_;conv=>whnf)|(refine VAny.ix encB_len x.toNat (by omega) rfl hLv ?_;conv=>whnf))
                      all_goals try (exfalso;omega)
                      refine LEnd.intro (j + 1) (by omega) (by omega) ?_
                      rw [ht]
                      conv=>whnf
                      refine Retell.turn ⟨[],0,[],[]⟩ (TurnOk.mk' _ _ [] [] (OutOk.lift _) rfl (by decide) zb trivial trivial rfl) zw zm)
                  · rw [List.take_of_length_le h5]
                    generalize (b.all fun p=>!setL L p) = C at hst ⊢
                    by_cases g1 : g = -1 <;> by_cases g2 : v < g <;> cases A <;> cases C
                    all_goals (
                      first|rw [decide_eq_true g1] at hst|rw [decide_eq_false g1] at hst
                      first|rw [decide_eq_true g2] at hst|rw [decide_eq_false g2] at hst
                      simp only [Bool.true_and,Bool.false_and,Bool.and_true,Bool.and_false,Bool.true_or,Bool.false_or,cond_true,cond_false] at hst
                      conv=>whnf
                      repeat' (first|((first|refine zs1 ?_|refine zs2 ?_|refine zs3 ?_|refine zs4 ?_|refine zs5 ?_);conv=>whnf)|((first|apply zi1|apply zi2|apply zi3|apply zi4|apply zi5) <;> intro _ <;> conv=>whnf)|(refine VCall.intro (cB _) ?_;conv=>whnf))
                      all_goals try (exfalso;omega)
                      all_goals (
                        refine LEnd.intro (m + 1) (by omega) (by omega) ?_
                        rw [hst]
                        conv=>whnf
                        refine Retell.turn ⟨[],0,[],[]⟩ (TurnOk.mk' _ _ [] [] (OutOk.lift _) rfl (by decide) zb trivial trivial rfl) zw zm))
      · have hk : m = M:=by omega
        subst hk
        generalize mgo N.ws a b m = g
        conv=>whnf
        repeat' (first|((first|refine zs1 ?_|refine zs2 ?_|refine zs3 ?_|refine zs4 ?_|refine zs5 ?_);conv=>whnf)|((first|apply zi1|apply zi2|apply zi3|apply zi4|apply zi5) <;> intro _ <;> conv=>whnf))
        all_goals try (exfalso;omega)
        exact VOut.same rfl
end Go.Proofs.YtoeendggmalcpaaGreat

open Go.Vm
open Psg
namespace Go.Proofs.YtoeendggmalcpaaGreat
set_option maxRecDepth 20000
set_option maxHeartbeats 4000000
def mosN (N : Nt) (a b : List Int) : Int × Int:=if pas N a b = 0 then (mgo N.ws a b (2 ^ N.p.toNat),0) else (0,pas N a b)
theorem vc_rMost (N : Nt) (a b : List Int) (h : Hp) (hn : N.ws.length ≤ 4000000) (ha : a.length ≤ 4000000) (hb : b.length ≤ 4000000) : VC Tryz.prog 37 [vN N,ints a,ints b] h (.tuple [I (mosN N a b).1,I (mosN N a b).2]) h:=by
  have cP:=fun h=>vc_rPastured N a b h hn ha hb
  unfold mosN
  by_cases h0 : pas N a b = 0
  · rw [if_pos h0]
    rw [h0] at cP
    obtain ⟨n,hN,hPs,ha0,hb0,_,_⟩:=pas_ok h0
    have cM:=fun h=>vc_rmost N a b h hN hPs ha hb
    rw [nok_nat hN]
    generalize mgo N.ws a b (2 ^ n) = r at cM ⊢
    refine VC.bodyC 1 Tryz.func37 rfl Tryz.ntmps37 Tryz.call37 (h.grows_refl) rfl ?_;conv=>whnf
    refine VCut.at' (outer:=h.lift) (marks:=[]) 99 [(1,ints a),(2,ints b),(3,.fp (encN N))] [] ?_ ?_
    · conv=>whnf
      refine Retell.turn ⟨[],1,[(0,encN N)],[]⟩ (TurnOk.mk' _ _ [(0,encN N)] [] (OutOk.lift _) rfl (by decide) zb zf trivial rfl) zw zm
    · conv=>whnf
      repeat' (first|((first|refine zs1 ?_|refine zs2 ?_|refine zs3 ?_|refine zs4 ?_|refine zs5 ?_);conv=>whnf)|((first|apply zi1|apply zi2|apply zi3|apply zi4|apply zi5) <;> intro _ <;> conv=>whnf)|(refine VCall.intro (cP _) ?_;conv=>whnf)|(refine VCall.intro (cM _) ?_;conv=>whnf))
      all_goals try (exfalso;omega)
      exact VOut.same rfl
  · rw [if_neg h0]
    generalize pas N a b = E at *
    refine VC.bodyC 1 Tryz.func37 rfl Tryz.ntmps37 Tryz.call37 (h.grows_refl) rfl ?_;conv=>whnf
    refine VCut.at' (outer:=h.lift) (marks:=[]) 99 [(1,ints a),(2,ints b),(3,.fp (encN N))] [] ?_ ?_
    · conv=>whnf
      refine Retell.turn ⟨[],1,[(0,encN N)],[]⟩ (TurnOk.mk' _ _ [(0,encN N)] [] (OutOk.lift _) rfl (by decide) zb zf trivial rfl) zw zm
    · conv=>whnf
      repeat' (first|((first|refine zs1 ?_|refine zs2 ?_|refine zs3 ?_|refine zs4 ?_|refine zs5 ?_);conv=>whnf)|((first|apply zi1|apply zi2|apply zi3|apply zi4|apply zi5) <;> intro _ <;> conv=>whnf)|(refine VCall.intro (cP _) ?_;conv=>whnf))
      all_goals try (exfalso;omega)
      exact VOut.same rfl
theorem most_same {N : Nt} {a b : List Int} (h0 : pas N a b = 0) : (dvP N a b).2.1 = mgo N.ws a b (2 ^ N.p.toNat):=by
  obtain ⟨n,hN,hPs,ha0,hb0,_,_⟩:=pas_ok h0
  have hh : ∀ w ∈ N.ws,0 ≤ w.h ∧ w.h ≤ 1000:=fun w hw=>(hN.ws w hw).h
  have hr:=drv_ok hPs hh hN.len 24001 (List.replicate N.ws.length 0) 0 (dr0 hh) val0 (Int.le_refl _) (by omega)
  unfold dvP dvN
  rw [nok_nat hN]
  exact (most_eq hPs hh hr).symm
end Go.Proofs.YtoeendggmalcpaaGreat

open Go.Vm
open Psg
namespace Go.Proofs.YtoeendggmalcpaaGreat
set_option maxRecDepth 20000
set_option maxHeartbeats 4000000
theorem vc_rNarrow (N : Nt) (a b : List Int) (h : Hp) (hn : N.ws.length ≤ 4000000) (ha : a.length ≤ 4000000) (hb : b.length ≤ 4000000) : VC Tryz.prog 41 [vN N,ints a,ints b] h (narV N a b) h:=by
  have cP:=fun h=>vc_rPastured N a b h hn ha hb
  unfold narV
  by_cases h0 : pas N a b = 0
  · rw [if_pos h0]
    rw [h0] at cP
    obtain ⟨n,hN,hPs,ha0,hb0,_,_⟩:=pas_ok h0
    have hwl:=hN.len
    have hh : ∀ w ∈ N.ws,0 ≤ w.h ∧ w.h ≤ 1000:=fun w hw=>(hN.ws w hw).h
    have cD:=fun h=>vc_rmost N a b h hN hPs ha hb
    have e:=most_same h0
    rw [nok_nat hN] at e
    rw [← e] at cD
    obtain ⟨r,hr⟩ : ∃ r,r = dvP N a b:=⟨_,rfl⟩
    rw [← hr] at cD
    refine VC.bodyC 1 Tryz.func41 rfl Tryz.ntmps41 Tryz.call41 (h.grows_refl) rfl ?_;conv=>whnf
    refine VCut.at' (outer:=h.lift) (marks:=[]) 99 [(1,ints a),(2,ints b),(3,.fp (encN N))] [] ?_ ?_
    · conv=>whnf
      refine Retell.turn ⟨[],1,[(0,encN N)],[]⟩ (TurnOk.mk' _ _ [(0,encN N)] [] (OutOk.lift _) rfl (by decide) zb zf trivial rfl) zw zm
    · conv=>whnf
      repeat' (first|((first|refine zs1 ?_|refine zs2 ?_|refine zs3 ?_|refine zs4 ?_|refine zs5 ?_);conv=>whnf)|((first|apply zi1|apply zi2|apply zi3|apply zi4|apply zi5) <;> intro _ <;> conv=>whnf)|(refine VCall.intro (cP _) ?_;conv=>whnf))
      all_goals try (exfalso;omega)
      refine VCode.lp (outer:=h.lift) (marks:=[]) (fun k : Nat=>[(1,ints a),(2,ints b),(3,.fp (encN N)),(9,.gl (.loc 0) 1 (narL N a b k).length),(10,I k)]) (fun k=>[.flat true ((narL N a b k).flatMap Vm.encI)]) (fun k=>k ≤ N.ws.length) (fun k=>N.ws.length - k) 0 (Nat.zero_le _) ?_ ?_
      · conv=>whnf
        refine Retell.turn ⟨[0],0,[],[]⟩ (TurnOk.mk' _ _ [] [] (OutOk.lift _) rfl (by decide) zb trivial trivial rfl) zw zm
      · intro k hk
        rcases Nat.lt_or_ge k N.ws.length with h3|h3
        · have hw : N.ws[k]? = some N.ws[k]:=List.getElem?_eq_getElem h3
          have hx:=(hN.ws N.ws[k] (List.getElem_mem h3)).h
          have hl:=narL_len N a b k
          have hB : narB N a b k = (decide (1 ≤ N.ws[k].h) && decide ((dvP (lessN N k N.ws[k]) a b).2.1 < r.2.1)):=by
            have : N.ws.getD k ⟨0,0,0,0,0,0,0,0⟩ = N.ws[k]:=by rw [List.getD_eq_getElem?_getD,hw];rfl
            unfold narB
            rw [this,hr]
          have hL : narL N a b (k + 1) = if narB N a b k = true then narL N a b k ++ [(k : Int)] else narL N a b k:=rfl
          rw [hB] at hL
          generalize N.ws[k] = w at hw hx hL
          generalize narL N a b k = L at hl hL ⊢
          have hw' : (N.ws.set k (lessW w))[k]? = some (lessW w):=by rw [List.getElem?_set_self h3]
          have hlh : (lessW w).h = w.h - 1:=rfl
          have hfl : ((N.ws.set k (lessW w)).flatMap encWy).length = N.ws.length * 8:=by rw [flat_len encWy_len,List.length_set]
          by_cases h1 : 1 ≤ w.h
          · have h7:=nok_less hN hw h1
            have cE:=fun h=>vc_rmost (lessN N k w) a b h h7 (ps_less hPs hw) ha hb
            have e2 : (dvP (lessN N k w) a b).2.1 = mgo (lessN N k w).ws a b (2 ^ n):=by
              have hr2:=drv_ok (ps_less hPs hw) (fun v hv=>(h7.ws v hv).h) h7.len 24001 (List.replicate (lessN N k w).ws.length 0) 0 (dr0 fun v hv=>(h7.ws v hv).h) val0 (Int.le_refl _) (by omega)
              unfold dvP dvN
              rw [nok_nat h7]
              exact (most_eq (ps_less hPs hw) (fun v hv=>(h7.ws v hv).h) hr2).symm
            rw [← e2] at cE
            rw [decide_eq_true h1,Bool.true_and] at hL
            generalize (dvP (lessN N k w) a b).2.1 = r2 at cE hL
            simp only [vN,wys,lessN,List.length_set] at cE
            have hfl' : ((N.ws.set k (lessW w)).flatMap encWy).length = (0 + N.ws.length) * 8:=by rw [Nat.zero_add];exact hfl
            replace cE : ∀ h,VC Tryz.prog 77 [.agg [I N.p,.fs 8 (0 + N.ws.length) ((N.ws.set k (lessW w)).flatMap encWy)],ints a,ints b] h (I r2) h:=fun h=>by rw [Nat.zero_add];exact cE h
            conv=>whnf
            repeat' (first|((first|refine zs1 ?_|refine zs2 ?_|refine zs3 ?_|refine zs4 ?_|refine zs5 ?_);conv=>whnf)|((first|apply zi1|apply zi2|apply zi3|apply zi4|apply zi5) <;> intro _ <;> conv=>whnf))
            all_goals try (exfalso;omega)
            refine zs6 [(1,5)] ?_
            conv=>whnf
            repeat' (first|((first|refine zs1 ?_|refine zs2 ?_|refine zs3 ?_|refine zs4 ?_|refine zs5 ?_);conv=>whnf)|((first|apply zi1|apply zi2|apply zi3|apply zi4|apply zi5) <;> intro _ <;> conv=>whnf)|(refine VMem.appN (l:=([] : List Wy)) (l2:=N.ws) encWy_len rfl rfl rfl rfl rfl (by show 0 + N.ws.length ≤ _;omega) ?_;rw [Nat.zero_add];conv=>whnf))
            refine zs6 [] ?_
            conv=>whnf
            repeat' (first|((first|refine zs1 ?_|refine zs2 ?_|refine zs3 ?_|refine zs4 ?_|refine zs5 ?_);conv=>whnf)|((first|apply zi1|apply zi2|apply zi3|apply zi4|apply zi5) <;> intro _ <;> conv=>whnf)|(refine VLd.recc encWy_len k 3 rfl rfl rfl hw (by decide) rfl (by show (k : Int).toNat * 8 + 3 = k * 8 + 3;omega) ?_;conv=>whnf)|(refine VMem.setRec encWy_len k 3 (lessW w) rfl rfl rfl hw (by decide) rfl (by show (k : Int).toNat * 8 + 3 = k * 8 + 3;omega) ?_;conv=>whnf))
            all_goals try (exfalso;omega)
            refine zs6 [(11,12)] ?_
            conv=>whnf
            repeat' (first|((first|refine zs1 ?_|refine zs2 ?_|refine zs3 ?_|refine zs4 ?_|refine zs5 ?_);conv=>whnf)|((first|apply zi1|apply zi2|apply zi3|apply zi4|apply zi5) <;> intro _ <;> conv=>whnf)|(refine VLd.recc encWy_len k 3 rfl rfl rfl hw' (by decide) rfl (by show (k : Int).toNat * 8 + 3 = k * 8 + 3;omega) ?_;conv=>whnf))
            all_goals try (exfalso;omega)
            refine VCall.intro (VC.give (args':=[.agg [I N.p,.fs 8 (0 + N.ws.length) ((N.ws.set k (lessW w)).flatMap encWy)],ints a,ints b]) (loc':=[.flat true (L.flatMap Vm.encI),.dead,.dead,.dead]) [(2,(N.ws.set k (lessW w)).flatMap encWy)] [] (OutOk.lift _) zb zf (by exact FmAll.nil) rfl zw (cE _)) ?_
            conv=>whnf
            repeat' (first|((first|refine zs1 ?_|refine zs2 ?_|refine zs3 ?_|refine zs4 ?_|refine zs5 ?_);conv=>whnf)|((first|apply zi1|apply zi2|apply zi3|apply zi4|apply zi5) <;> intro _ <;> conv=>whnf)|(refine VCall.intro (cD _) ?_;conv=>whnf)|(refine VMem.app1 (l:=L) (k : Int) encI_len rfl rfl rfl rfl rfl (by omega) ?_;conv=>whnf))
            · rename_i hlt
              rw [if_pos (decide_eq_true hlt)] at hL
              refine LEnd.intro (k + 1) (by omega) (by omega) ?_
              rw [hL,List.length_append]
              conv=>whnf
              refine Retell.turn ⟨[5],6,[],[]⟩ (TurnOk.mk' _ _ [] [] (OutOk.lift _) rfl (by decide) zb trivial trivial rfl) zw zm
            · rename_i hlt
              rw [if_neg (by simpa using hlt)] at hL
              refine LEnd.intro (k + 1) (by omega) (by omega) ?_
              rw [hL]
              conv=>whnf
              refine Retell.turn ⟨[0],4,[],[]⟩ (TurnOk.mk' _ _ [] [] (OutOk.lift _) rfl (by decide) zb trivial trivial rfl) zw zm
          · rw [decide_eq_false h1,Bool.false_and,if_neg (by simp)] at hL
            conv=>whnf
            repeat' (first|((first|refine zs1 ?_|refine zs2 ?_|refine zs3 ?_|refine zs4 ?_|refine zs5 ?_);conv=>whnf)|((first|apply zi1|apply zi2|apply zi3|apply zi4|apply zi5) <;> intro _ <;> conv=>whnf))
            all_goals try (exfalso;omega)
            refine zs6 [(1,5)] ?_
            conv=>whnf
            repeat' (first|((first|refine zs1 ?_|refine zs2 ?_|refine zs3 ?_|refine zs4 ?_|refine zs5 ?_);conv=>whnf)|((first|apply zi1|apply zi2|apply zi3|apply zi4|apply zi5) <;> intro _ <;> conv=>whnf)|(refine VMem.appN (l:=([] : List Wy)) (l2:=N.ws) encWy_len rfl rfl rfl rfl rfl (by show 0 + N.ws.length ≤ _;omega) ?_;rw [Nat.zero_add];conv=>whnf))
            refine zs6 [] ?_
            conv=>whnf
            repeat' (first|((first|refine zs1 ?_|refine zs2 ?_|refine zs3 ?_|refine zs4 ?_|refine zs5 ?_);conv=>whnf)|((first|apply zi1|apply zi2|apply zi3|apply zi4|apply zi5) <;> intro _ <;> conv=>whnf)|(refine VLd.recc encWy_len k 3 rfl rfl rfl hw (by decide) rfl (by show (k : Int).toNat * 8 + 3 = k * 8 + 3;omega) ?_;conv=>whnf)|(refine VMem.setRec encWy_len k 3 (lessW w) rfl rfl rfl hw (by decide) rfl (by show (k : Int).toNat * 8 + 3 = k * 8 + 3;omega) ?_;conv=>whnf))
            all_goals try (exfalso;omega)
            refine zs6 [(11,12)] ?_
            conv=>whnf
            repeat' (first|((first|refine zs1 ?_|refine zs2 ?_|refine zs3 ?_|refine zs4 ?_|refine zs5 ?_);conv=>whnf)|((first|apply zi1|apply zi2|apply zi3|apply zi4|apply zi5) <;> intro _ <;> conv=>whnf)|(refine VLd.recc encWy_len k 3 rfl rfl rfl hw' (by decide) rfl (by show (k : Int).toNat * 8 + 3 = k * 8 + 3;omega) ?_;conv=>whnf))
            all_goals try (exfalso;omega)
            refine LEnd.intro (k + 1) (by omega) (by omega) ?_
            rw [hL]
            conv=>whnf
            refine Retell.turn ⟨[0],4,[],[]⟩ (TurnOk.mk' _ _ [] [] (OutOk.lift _) rfl (by decide) zb trivial trivial rfl) zw zm
        · have hkl : k = N.ws.length:=by omega
          subst hkl
          generalize narL N a b N.ws.length = L
          conv=>whnf
          repeat' (first|((first|refine zs1 ?_|refine zs2 ?_|refine zs3 ?_|refine zs4 ?_|refine zs5 ?_);conv=>whnf)|((first|apply zi1|apply zi2|apply zi3|apply zi4|apply zi5) <;> intro _ <;> conv=>whnf))
          all_goals try (exfalso;omega)
          refine VOut.data 1 [(0,L.flatMap Vm.encI)] [] rfl zf (by exact FmAll.nil) zw
  · rw [if_neg h0]
    generalize pas N a b = E at *
    refine VC.bodyC 1 Tryz.func41 rfl Tryz.ntmps41 Tryz.call41 (h.grows_refl) rfl ?_;conv=>whnf
    refine VCut.at' (outer:=h.lift) (marks:=[]) 99 [(1,ints a),(2,ints b),(3,.fp (encN N))] [] ?_ ?_
    · conv=>whnf
      refine Retell.turn ⟨[],1,[(0,encN N)],[]⟩ (TurnOk.mk' _ _ [(0,encN N)] [] (OutOk.lift _) rfl (by decide) zb zf trivial rfl) zw zm
    · conv=>whnf
      repeat' (first|((first|refine zs1 ?_|refine zs2 ?_|refine zs3 ?_|refine zs4 ?_|refine zs5 ?_);conv=>whnf)|((first|apply zi1|apply zi2|apply zi3|apply zi4|apply zi5) <;> intro _ <;> conv=>whnf)|(refine VCall.intro (cP _) ?_;conv=>whnf))
      all_goals try (exfalso;omega)
      exact VOut.same rfl
end Go.Proofs.YtoeendggmalcpaaGreat

open Go.Vm
open Psg
namespace Go.Proofs.YtoeendggmalcpaaGreat
set_option maxRecDepth 20000
set_option maxHeartbeats 4000000
/-! ### Copies -/
theorem vc_kcloneI (l : List Int) (h : Hp) (hl : l.length ≤ 4000000) : VC Tryz.prog 13 [ints l] h (ints l) h:=by
  refine VC.body Tryz.func13 rfl Tryz.ntmps13 Tryz.call13 (h.grows_refl) rfl ?_;conv=>whnf
  repeat' (first|((first|refine zs1 ?_|refine zs2 ?_|refine zs3 ?_|refine zs4 ?_|refine zs5 ?_);conv=>whnf)|((first|apply zi1|apply zi2|apply zi3|apply zi4|apply zi5) <;> intro _ <;> conv=>whnf))
  refine VMem.appNil encI_len rfl rfl rfl (by omega) ?_
  conv=>whnf
  repeat' (first|((first|refine zs1 ?_|refine zs2 ?_|refine zs3 ?_|refine zs4 ?_|refine zs5 ?_);conv=>whnf)|((first|apply zi1|apply zi2|apply zi3|apply zi4|apply zi5) <;> intro _ <;> conv=>whnf))
  refine VOut.data 1 [(0,l.flatMap Vm.encI)] [] rfl zf (by exact FmAll.nil) zw
theorem vc_kcloneH (l : List Hd) (h : Hp) (hl : l.length ≤ 4000000) : VC Tryz.prog 14 [hds l] h (hds l) h:=by
  have hfl : (l.flatMap encHd).length = l.length * 3:=flat_len encHd_len _
  refine VC.body Tryz.func14 rfl Tryz.ntmps14 Tryz.call14 (h.grows_refl) rfl ?_;conv=>whnf
  repeat' (first|((first|refine zs1 ?_|refine zs2 ?_|refine zs3 ?_|refine zs4 ?_|refine zs5 ?_);conv=>whnf)|((first|apply zi1|apply zi2|apply zi3|apply zi4|apply zi5) <;> intro _ <;> conv=>whnf))
  refine VMem.appNil encHd_len rfl rfl rfl (by omega) ?_
  conv=>whnf
  repeat' (first|((first|refine zs1 ?_|refine zs2 ?_|refine zs3 ?_|refine zs4 ?_|refine zs5 ?_);conv=>whnf)|((first|apply zi1|apply zi2|apply zi3|apply zi4|apply zi5) <;> intro _ <;> conv=>whnf))
  refine VOut.data 1 [(0,l.flatMap encHd)] [] rfl zf (by exact FmAll.nil) zw
theorem vc_kcloneW (l : List Wy) (h : Hp) (hl : l.length ≤ 4000000) : VC Tryz.prog 45 [wys l] h (wys l) h:=by
  have hfl : (l.flatMap encWy).length = l.length * 8:=flat_len encWy_len _
  refine VC.body Tryz.func45 rfl Tryz.ntmps45 Tryz.call45 (h.grows_refl) rfl ?_;conv=>whnf
  repeat' (first|((first|refine zs1 ?_|refine zs2 ?_|refine zs3 ?_|refine zs4 ?_|refine zs5 ?_);conv=>whnf)|((first|apply zi1|apply zi2|apply zi3|apply zi4|apply zi5) <;> intro _ <;> conv=>whnf))
  refine VMem.appNil encWy_len rfl rfl rfl (by omega) ?_
  conv=>whnf
  repeat' (first|((first|refine zs1 ?_|refine zs2 ?_|refine zs3 ?_|refine zs4 ?_|refine zs5 ?_);conv=>whnf)|((first|apply zi1|apply zi2|apply zi3|apply zi4|apply zi5) <;> intro _ <;> conv=>whnf))
  refine VOut.data 1 [(0,l.flatMap encWy)] [] rfl zf (by exact FmAll.nil) zw
theorem vc_CloneNet (N : Nt) (h : Hp) (hn : N.ws.length ≤ 4000000) : VC Tryz.prog 12 [vN N] h (vN N) h:=by
  have c:=fun h=>vc_kcloneW N.ws h hn
  refine VC.body Tryz.func12 rfl Tryz.ntmps12 Tryz.call12 (h.grows_refl) rfl ?_;conv=>whnf
  repeat' (first|((first|refine zs1 ?_|refine zs2 ?_|refine zs3 ?_|refine zs4 ?_|refine zs5 ?_);conv=>whnf)|((first|apply zi1|apply zi2|apply zi3|apply zi4|apply zi5) <;> intro _ <;> conv=>whnf))
  refine zs6 [(1,4)] ?_
  conv=>whnf
  repeat' (first|((first|refine zs1 ?_|refine zs2 ?_|refine zs3 ?_|refine zs4 ?_|refine zs5 ?_);conv=>whnf)|((first|apply zi1|apply zi2|apply zi3|apply zi4|apply zi5) <;> intro _ <;> conv=>whnf)|(refine VCall.intro (c _) ?_;conv=>whnf))
  exact VOut.same rfl
end Go.Proofs.YtoeendggmalcpaaGreat

open Go.Vm
open Psg
namespace Go.Proofs.YtoeendggmalcpaaGreat
set_option maxRecDepth 20000
set_option maxHeartbeats 4000000
theorem drop_eq_dec {α : Type} [DecidableEq α] {a b : List α} {k : Nat} {x y : α} (hx : a[k]? = some x) (hy : b[k]? = some y) : decide (a.drop k = b.drop k) = (decide (x = y) && decide (a.drop (k + 1) = b.drop (k + 1))):=by
  obtain ⟨h1,rfl⟩:=List.getElem?_eq_some_iff.1 hx
  obtain ⟨h2,rfl⟩:=List.getElem?_eq_some_iff.1 hy
  rw [List.drop_eq_getElem_cons h1,List.drop_eq_getElem_cons h2,Bool.eq_iff_iff,Bool.and_eq_true,decide_eq_true_eq,decide_eq_true_eq,decide_eq_true_eq,List.cons.injEq]
theorem ne_I {x y : Int} (h : ¬ x = y) : ¬ x = y:=h
theorem eq_I {x y : Int} (h : x = y) : x = y:=h
theorem ne_X {α : Type} {x y : α} (h : ¬ x = y) : ¬ x = y:=h
theorem eq_X {α : Type} {x y : α} (h : ¬ ¬ x = y) : x = y:=Classical.not_not.1 h
theorem vc_kequalI (a b : List Int) (h : Hp) (ha : a.length ≤ 4000000) (hb : b.length ≤ 4000000) : VC Tryz.prog 21 [ints a,ints b] h (B (decide (a = b))) h:=by
  obtain ⟨E,hE⟩ : ∃ E,E = decide (a = b):=⟨_,rfl⟩
  rw [← hE]
  refine VC.body Tryz.func21 rfl Tryz.ntmps21 Tryz.call21 (h.grows_refl) rfl ?_;conv=>whnf
  refine VCode.lp (fun k : Nat=>[(0,ints a),(1,ints b),(4,B false),(7,I a.length),(8,I k)]) (fun _=>[]) (fun k=>k ≤ a.length ∧ k ≤ b.length ∧ E = decide (a.drop k = b.drop k)) (fun k=>a.length - k) 0 ⟨Nat.zero_le _,Nat.zero_le _,hE⟩ ?_ ?_
  · conv=>whnf
    refine Retell.turn ⟨[],0,[],[]⟩ (TurnOk.mk' _ _ [] [] (OutOk.lift _) rfl (by decide) zb trivial trivial rfl) zw zm
  · rintro k ⟨h1,h2,h3⟩
    conv=>whnf
    refine VIte.dec (fun h4=>?_) (fun h4=>?_)
    · have hx : a[k]? = some a[k]:=List.getElem?_eq_getElem (by omega)
      rcases Nat.eq_or_lt_of_le h2 with h5|h5
      · have hF : E = false:=by
          rw [h3,decide_eq_false_iff_not]
          intro hh
          have:=congrArg List.length hh
          simp at this;omega
        rw [hF]
        conv=>whnf
        repeat' (first|((first|refine zs1 ?_|refine zs2 ?_|refine zs3 ?_|refine zs4 ?_|refine zs5 ?_|refine zs6 [] ?_);conv=>whnf)|((first|apply zi1|apply zi2|apply zi3|apply zi4|apply zi5) <;> intro _ <;> conv=>whnf))
        · exact VOut.same rfl
        all_goals omega
      · have hy : b[k]? = some b[k]:=List.getElem?_eq_getElem h5
        rw [drop_eq_dec hx hy] at h3
        generalize a[k] = x at hx h3
        generalize b[k] = y at hy h3
        conv=>whnf
        repeat' (first|((first|refine zs1 ?_|refine zs2 ?_|refine zs3 ?_|refine zs4 ?_|refine zs5 ?_|refine zs6 [] ?_);conv=>whnf)|((first|apply zi1|apply zi2|apply zi3|apply zi4|apply zi5) <;> intro _ <;> conv=>whnf)|(refine VAny.ix encI_len k rfl rfl hx ?_;conv=>whnf)|(refine VAny.ix encI_len k rfl rfl hy ?_;conv=>whnf))
        all_goals (try omega)
        all_goals first
          | (rw [decide_eq_false (ne_I (by first|assumption|omega)),Bool.false_and] at h3;rw [h3];exact VOut.same rfl)
          | (rw [decide_eq_true (eq_I (by first|assumption|omega)),Bool.true_and] at h3
             refine LEnd.intro (k + 1) ⟨by omega,by omega,h3⟩ (by omega) ?_
             conv=>whnf
             refine Retell.turn ⟨[],0,[],[]⟩ (TurnOk.mk' _ _ [] [] (OutOk.lift _) rfl (by decide) zb trivial trivial rfl) zw zm)
    · have hk : k = a.length:=by omega
      rw [h3,hk,List.drop_length]
      conv=>whnf
      repeat' (first|((first|refine zs1 ?_|refine zs2 ?_|refine zs3 ?_|refine zs4 ?_|refine zs5 ?_|refine zs6 [] ?_);conv=>whnf)|((first|apply zi1|apply zi2|apply zi3|apply zi4|apply zi5) <;> intro _ <;> conv=>whnf))
      refine VOut.same ?_
      have : ((a.length : Int) == b.length) = decide ([] = b.drop a.length):=by
        rw [Bool.eq_iff_iff,decide_eq_true_eq,beq_iff_eq]
        constructor
        · intro hh;rw [List.drop_of_length_le (by omega)]
        · intro hh
          have:=congrArg List.length hh
          simp at this;omega
      simp only [V.ren,this]
end Go.Proofs.YtoeendggmalcpaaGreat


/- Part 8 of the proof that answers about rivers are as the given statement says. No condition. -/
import Derived.Test.YtkbbfeljlepgoaaGreatBs7
import Derived.Shelf.Sort.AssemblyIn
import Derived.Sort.EveryDepth
import Derived.Shelf.Small.Strs
set_option linter.unusedVariables false
set_option linter.unusedSimpArgs false
namespace Go.Vm
open Go.Sort (grow putRow putCells Holds onCells mapBlock)

theorem Rel.growS {σ : Sig} {h : Hp} {w : World} (hr : Rel σ h w) (os : Array Obj) : Rel σ h (grow w os) where
  blk:=fun i e b hi hb=>by
    obtain ⟨h1,o,h2,h3⟩:=hr.blk i e b hi hb
    refine ⟨by show e.rid < (w.heap ++ os).size;rw [Array.size_append];omega,o,?_,h3⟩
    show (w.heap ++ os)[e.rid]? = some o
    rw [Array.getElem?_append_left h1];exact h2
  apart:=hr.apart
  dom:=hr.dom
  nmd:=hr.nmd
  fz:=fun r o hro=>by
    obtain ⟨h1,h2⟩:=hr.fz r o hro
    refine ⟨?_,h2⟩
    show (w.heap ++ os)[r]? = some o
    rw [Array.getElem?_append_left (Array.getElem?_eq_some_iff.1 h1).1];exact h1
theorem Ext.growS {σ : Sig} {h : Hp} {w : World} (os : Array Obj) : Ext σ h w σ h (grow w os) where
  le:=Sig.le_refl σ
  lo:=rfl
  fzn:=fun _ _ h=>h
  size:=by show w.heap.size ≤ (w.heap ++ os).size;rw [Array.size_append];omega
  os:=rfl
  tape:=rfl
  output:=rfl
  frame:=fun r hr _=>by show (w.heap ++ os)[r]? = w.heap[r]?;rw [Array.getElem?_append_left hr]
  new:=fun j ej hj hn=>by rw [hj] at hn;cases hn
  down:=fun j ej bj _ hbj hwj=>⟨bj,hbj,hwj⟩
  ro:=fun j ej bj hj hbj hwj hal=>⟨hj,bj,hbj,hal,hwj⟩
  old:=fun j hj=>⟨hj,fun x=>x⟩
  oldn:=fun j _ hx=>hx
theorem flatI_get {l : List Int} {j : Nat} : (l.flatMap encI)[j]? = (l[j]?).map DI:=by
  induction l generalizing j with
  | nil=>rfl
  | cons a l ih =>
    cases j with
    | zero=>rfl
    | succ j=>rw [List.flatMap_cons];exact ih
def srtI (n : Nat) (l : List Int) : List Int:=((l.take n).mergeSort fun x y=>decide (x ≤ y)) ++ l.drop n
theorem VC.sortI {P : Program} {f : FuncId} {h : Hp} {i : Id} {n : Nat} {l : List Int} (hent : ∀ as0 w,(callFunc f as0).run P w = .ok (.enter f as0) w) (hb : h.get i = some (.flat true (l.flatMap encI))) (hn : n ≤ l.length) (h0 : 0 < n) (hl : l.length ≤ 4000000) (R : List Int) (hR : R <+: srtI n l)
    (hc : ∀ (blk off cap : Nat) (zs : List Int) (w : World),Holds (Value.int .i64) w blk off zs.toArray → blk < w.heap.size → zs.length < 4611686018427387904 → Calls P f #[.slice (some ⟨blk,off,none⟩) zs.length cap] w fun e w'=>e = .returned (.tuple #[]) ∧ ∃ n os,w' = grow (putRow (Value.int .i64) (Sort.ahead w n) blk off (zs.mergeSort fun x y=>decide (x ≤ y)).toArray) os) :
    VC P f [.gl i 1 n] h (.tuple []) (h.set i (.flat true (R.flatMap encI))):=by
  refine ⟨hent,Hp.grows_set h i _,fun σ w xs hr hxs=>?_⟩
  rw [callsIn_wide]
  obtain ⟨x,rfl,hx⟩:=VRs_one hxs
  simp only [VR] at hx
  obtain ⟨_,hx⟩:=hx
  rcases hx with ⟨hz,_⟩|⟨e,cap,o,hi,h1,h2,h3,rfl⟩
  · omega
  obtain ⟨hlt,ob,hob,hrel⟩:=hr.blk i e _ hi hb
  simp only [BlkRel] at hrel
  obtain ⟨cur,TT,fz,rfl,hs1,hs2,hfz,hcell⟩:=hrel
  have hfz:=hfz rfl
  subst hfz
  rw [Nat.mul_one] at h2
  have h3:=h3 (by omega)
  subst h3
  have hcur : ∀ j x,l[j]? = some x → cur[e.base + j]? = some (.int .i64 x):=fun j x hj=>by
    obtain ⟨y,hy,hv,_⟩:=hcell j (.s (.int .i64 x)) (by simp only [flatI_get,hj,Option.map_some];rfl)
    simp only [VR,S.val] at hv
    rw [hy,hv]
  rw [flat_len encI_len,Nat.mul_one] at hs2
  have hlen : (l.take n).length = n:=by rw [List.length_take];omega
  have hH : Holds (Value.int .i64) w e.rid e.base (l.take n).toArray:=by
    intro j hj
    have hj' : j < n:=by simpa [hlen] using hj
    have hg : l[j]? = some (l[j]'(by omega)):=List.getElem?_eq_getElem _
    refine ⟨?_,by simp [World.frozen?,hob]⟩
    have:=hcur j _ hg
    simp only [World.cell?,hob]
    simp only [Option.isSome_none,Bool.false_eq_true,if_false]
    rw [this]
    have hj2 : j < (l.take n).toArray.size:=hj
    rw [getElem!_pos _ j hj2]
    simp
  have hcall:=hc e.rid e.base cap (l.take n) w hH hlt (by omega)
  rw [hlen] at hcall
  refine Calls.mono hcall ?_
  rintro en w' ⟨rfl,q,os,rfl⟩
  obtain ⟨T,hT⟩ : ∃ T,T = (l.take n).mergeSort (fun x y=>decide (x ≤ y)):=⟨_,rfl⟩
  have hTl : T.length = n:=by rw [hT,List.length_mergeSort,hlen]
  rw [← hT]
  have hcs : e.base + n ≤ cur.size:=by omega
  obtain ⟨w1,hw1⟩ : ∃ w1,w1 = putRow (Value.int .i64) (Sort.ahead w q) e.rid e.base T.toArray:=⟨_,rfl⟩
  rw [← hw1]
  have hheap : w1.heap = w.heap.modify e.rid (onCells (putCells (Value.int .i64) e.base T.toArray)):=by rw [hw1];rfl
  have hsz : w1.heap.size = w.heap.size:=by rw [hheap,Array.size_modify]
  have hsame : ∀ r,r ≠ e.rid → w1.heap[r]? = w.heap[r]?:=fun r hne=>by rw [hheap,Array.getElem?_modify,if_neg (Ne.symm hne)]
  have hnew : w1.heap[e.rid]? = some (.cells (putCells (Value.int .i64) e.base T.toArray cur) TT (0,0)):=by rw [hheap,Array.getElem?_modify,if_pos rfl,hob];rfl
  have hput : ∀ k,(putCells (Value.int .i64) e.base T.toArray cur)[k]? = (cur[k]?).map fun x=>if e.base ≤ k ∧ k < e.base + T.length then Value.int .i64 (T.getD (k - e.base) 0) else x:=fun k=>by
    unfold putCells
    rw [Array.getElem?_mapIdx]
    cases hk : cur[k]? with
    | none=>rfl
    | some x =>
      simp only [Option.map_some,Option.some.injEq,List.size_toArray]
      split
      · rename_i hh
        congr 1
        rw [getElem!_pos _ (k - e.base) (by simp;omega)]
        simp [List.getD_eq_getElem?_getD,List.getElem?_eq_getElem (show k - e.base < T.length by omega)]
      · rfl
  have hrel' : BlkRel σ e (.flat true (R.flatMap encI)) (.cells (putCells (Value.int .i64) e.base T.toArray cur) TT (0,0)):=by
    have hsl : (srtI n l).length = l.length:=by unfold srtI;rw [List.length_append,List.length_mergeSort,hlen,List.length_drop];omega
    refine ⟨_,TT,(0,0),rfl,by simp [putCells];exact hs1,by rw [flat_len encI_len,Nat.mul_one];have:=hR.length_le;omega,fun _=>rfl,?_⟩
    intro j v hv
    dsimp only at hv
    rw [flatI_get] at hv
    have hjR : j < R.length:=by
      rcases Nat.lt_or_ge j R.length with h|h
      · exact h
      · rw [List.getElem?_eq_none h] at hv;cases hv
    have hjl : j < (srtI n l).length:=by have:=hR.length_le;omega
    rw [show R[j]? = (srtI n l)[j]? by
      obtain ⟨t,ht⟩:=hR
      rw [← ht,List.getElem?_append_left hjR]] at hv
    have hcj : cur[e.base + j]? = some (.int .i64 (l[j]'(by omega))):=hcur j _ (List.getElem?_eq_getElem _)
    rw [hput,hcj,Option.map_some]
    refine ⟨_,rfl,?_,?_⟩
    · have hsr : (srtI n l)[j]? = some (if j < n then T.getD j 0 else l[j]'(by omega)):=by
        unfold srtI
        rw [← hT]
        by_cases hjn : j < n
        · rw [if_pos hjn,List.getElem?_append_left (by omega),List.getElem?_eq_getElem (by omega)]
          simp [List.getD_eq_getElem?_getD,List.getElem?_eq_getElem (show j < T.length by omega)]
        · rw [if_neg hjn,List.getElem?_append_right (by omega),hTl,List.getElem?_drop,show n + (j - n) = j by omega,List.getElem?_eq_getElem]
      rw [hsr] at hv
      cases hv
      simp only [VR,S.val,D.v]
      by_cases hjn : j < n
      · rw [if_pos (by omega),if_pos hjn,show e.base + j - e.base = j by omega]
      · rw [if_neg (by omega),if_neg hjn]
    · split <;> rfl
  have hrel2:=hr.upd hi hb rfl (fun _=>rfl) hsz hsame hnew hrel'
  have hext:=Ext.upd (h:=h) (b':=.flat true (R.flatMap encI)) hi hb rfl (fun _=>rfl) hsz (by rw [hw1];rfl) (by rw [hw1];rfl) (by rw [hw1];rfl) hsame
  exact ⟨σ,.tuple #[],rfl,by simp only [VR];exact ⟨#[],rfl,rfl⟩,hrel2.growS os,(hext.trans (Ext.growS os)).toK⟩
end Go.Vm

namespace Go.Proofs.YtkbbfeljlepgoaaGreat
open Go.Shelf
def srtRen : Ren:=⟨fun|125=>103|128=>143|129=>144|189=>61|215=>164|216=>140|257=>102|294=>134|295=>135|296=>136|297=>137|298=>138|299=>139|300=>141|301=>142|328=>159|329=>160|330=>161|331=>162|332=>163|343=>169|n=>n,fun|0=>0|3=>3|4=>4|5=>5|9=>9|28=>24|46=>175|51=>145|53=>209|131=>205|182=>200|183=>201|218=>218|222=>64|228=>228|229=>229|n=>n,fun n=>n⟩
theorem srtLays : Lays.n189 Tryz.prog srtRen:={
  mixed:=by kernel_rfl
  f125:=by kernel_rfl
  f128:=by kernel_rfl
  f129:=by kernel_rfl
  f189:=by kernel_rfl
  f215:=by kernel_rfl
  f216:=by kernel_rfl
  f257:=by kernel_rfl
  f294:=by kernel_rfl
  f295:=by kernel_rfl
  f296:=by kernel_rfl
  f297:=by kernel_rfl
  f298:=by kernel_rfl
  f299:=by kernel_rfl
  f300:=by kernel_rfl
  f301:=by kernel_rfl
  f328:=by kernel_rfl
  f329:=by kernel_rfl
  f330:=by kernel_rfl
  f331:=by kernel_rfl
  f332:=by kernel_rfl
  f343:=by kernel_rfl
  t0:=by kernel_rfl
  a0:=fun _=>by kernel_rfl
  z0:=fun _=>by kernel_rfl
  v0:=fun _=>by kernel_rfl
  t3:=by kernel_rfl
  a3:=fun _=>by kernel_rfl
  z3:=fun _=>by kernel_rfl
  v3:=fun _=>by kernel_rfl
  t4:=by kernel_rfl
  a4:=fun _=>by kernel_rfl
  z4:=fun _=>by kernel_rfl
  v4:=fun _=>by kernel_rfl
  t5:=by kernel_rfl
  a5:=fun _=>by kernel_rfl
  z5:=fun _=>by kernel_rfl
  v5:=fun _=>by kernel_rfl
  t9:=by kernel_rfl
  a9:=fun _=>by kernel_rfl
  z9:=fun _=>by kernel_rfl
  v9:=fun _=>by kernel_rfl
  t28:=by kernel_rfl
  a28:=fun _=>by kernel_rfl
  z28:=fun _=>by kernel_rfl
  v28:=fun _=>by kernel_rfl
  t46:=by kernel_rfl
  a46:=fun _=>by kernel_rfl
  z46:=fun _=>by kernel_rfl
  v46:=fun _=>by kernel_rfl
  t51:=by kernel_rfl
  a51:=fun _=>by kernel_rfl
  z51:=fun _=>by kernel_rfl
  v51:=fun _=>by kernel_rfl
  t53:=by kernel_rfl
  a53:=fun _=>by kernel_rfl
  z53:=fun _=>by kernel_rfl
  v53:=fun _=>by kernel_rfl
  t131:=by kernel_rfl
  a131:=fun _=>by kernel_rfl
  z131:=fun _=>by kernel_rfl
  v131:=fun _=>by kernel_rfl
  t182:=by kernel_rfl
  a182:=fun _=>by kernel_rfl
  z182:=fun _=>by kernel_rfl
  v182:=fun _=>by kernel_rfl
  t183:=by kernel_rfl
  a183:=fun _=>by kernel_rfl
  z183:=fun _=>by kernel_rfl
  v183:=fun _=>by kernel_rfl
  t218:=by kernel_rfl
  a218:=fun _=>by kernel_rfl
  z218:=fun _=>by kernel_rfl
  v218:=fun _=>by kernel_rfl
  t222:=by kernel_rfl
  a222:=fun _=>by kernel_rfl
  z222:=fun _=>by kernel_rfl
  v222:=fun _=>by kernel_rfl
  t228:=by kernel_rfl
  a228:=fun _=>by kernel_rfl
  z228:=fun _=>by kernel_rfl
  v228:=fun _=>by kernel_rfl
  t229:=by kernel_rfl
  a229:=fun _=>by kernel_rfl
  z229:=fun _=>by kernel_rfl
  v229:=fun _=>by kernel_rfl
}
theorem vc_Sort (n : Nat) (l : List Int) (i : Go.Vm.Id) (h : Go.Vm.Hp) (hb : h.get i = some (.flat true (l.flatMap Go.Vm.encI))) (hn : n ≤ l.length) (h0 : 0 < n) (hl : l.length ≤ 4000000) (R : List Int) (hR : R <+: Go.Vm.srtI n l) : Go.Vm.VC Tryz.prog 61 [.gl i 1 n] h (.tuple []) (h.set i (.flat true (R.flatMap Go.Vm.encI))) :=
  Go.Vm.VC.sortI Tryz.call61 hb hn h0 hl R hR fun blk off cap zs w h1 h2 h3=>calls_of_every_depth fun D=>AnyS.slices_Sort_int_in srtLays D blk off cap zs w h1 h2 h3
end Go.Proofs.YtkbbfeljlepgoaaGreat

open Go.Vm
open Riv
namespace Go.Vm
theorem hid_new {outer : Id → Option Blk} {loc : List Blk} {fz : List (Nat × List D)} (n : Nat) (hl : Nat.beq loc.length n = true) : ∀ i,(⟨outer,loc⟩ : Hp).get i ≠ none → (⟨List.range n ++ [n],n,fz,[]⟩ : TCtx).ρ i = i:=by
  intro i hi
  have hl : loc.length = n:=Nat.eq_of_beq_eq_true hl
  cases i with
  | out i=>rfl
  | loc k =>
    have hlt : k < n:=by
      rcases Nat.lt_or_ge k n with h1|h1
      · exact h1
      · exact absurd (List.getElem?_eq_none (show loc.length ≤ k by omega)) hi
    have : (List.range n ++ [n])[k]? = some k:=by rw [List.getElem?_append_left (by simpa using hlt)];exact rangeLt hlt
    simp [TCtx.ρ,this]
end Go.Vm
namespace Go.Proofs.YtkbbfeljlepgoaaGreat
set_option maxRecDepth 20000
set_option maxHeartbeats 4000000

def natLL (l : List (List Nat)) : List (List Int):=l.map natI
theorem natI_srt (l : List Nat) : natI (srtN l) = (natI l).mergeSort fun x y=>decide (x ≤ y):=by
  unfold natI srtN
  rw [List.map_mergeSort]
  intro a _ b _
  rw [Bool.eq_iff_iff,decide_eq_true_eq,decide_eq_true_eq]
  exact Int.ofNat_le.symm
def pfK (mk : List Bool) (W k : Nat) : List Nat × List (List Nat):=(List.range k).foldl (pstep mk W) ([],[])
theorem pfK_step (mk : List Bool) (W k : Nat) : pfK mk W (k + 1) = pstep mk W (pfK mk W k) k:=by unfold pfK;rw [List.range_succ,List.foldl_append];rfl
theorem pfK_ok {mk : List Bool} {W H : Nat} (hW : 2 ≤ W) (hL : mk.length = W * H) : ∀ k,(pfK mk W k).1.Nodup ∧ (∀ x ∈ (pfK mk W k).1,x < mk.length) ∧ (pfK mk W k).2.length ≤ k
  | 0=>⟨List.nodup_nil,fun x hx=>(by cases hx),Nat.le_refl _⟩
  | k + 1=>by
    obtain ⟨h1,h2,h3⟩:=pfK_ok hW hL k
    rw [pfK_step]
    generalize pfK mk W k = x at h1 h2 h3
    unfold pstep
    split
    · rename_i hc
      have h:=(folW_mi (N:=mk.length) hW hL hc.2 hc.1 h1 h2 (by omega)).1
      refine ⟨h.nd,h.lt,?_⟩
      dsimp only
      rw [List.length_append,List.length_singleton];omega
    · exact ⟨h1,h2,by omega⟩
end Go.Proofs.YtkbbfeljlepgoaaGreat

open Go.Vm
open Riv
namespace Go.Proofs.YtkbbfeljlepgoaaGreat
set_option maxRecDepth 20000
set_option maxHeartbeats 4000000

theorem vc_partsI {W H : Nat} (m : Mp) (h : Hp) (o : MOk W H m.c) (hw : m.w = W) : VC Tryz.prog 129 [vM m,ints m.c,.func (.func 130) [] []] h (intss (natLL (parts (marks m.c) W))) h:=by
  have hWb:=o.w
  have hHb:=o.h
  have hL:=o.len
  have hm144:=MOk.le o
  have hmkl:=marks_len m.c
  have hLm : (marks m.c).length = W * H:=by rw [hmkl];exact hL
  have hok:=fun k=>pfK_ok (mk:=(marks m.c)) (W:=W) (H:=H) (by omega) hLm k
  have hst:=fun k=>pfK_step (marks m.c) W k
  have hfin : parts (marks m.c) W = (pfK (marks m.c) W (marks m.c).length).2:=rfl
  have cF:=fun n M h h1 h2 h3 h4 hM hO=>vc_folI m o hw (marks m.c).length n M [] (.loc 0) (.loc 1) (.loc 2) (.loc 4) h h1 h2 h3 h4 (by rw [hmkl];omega) (Nat.zero_le _) hM hO ⟨by decide,by decide,by decide,by decide,by decide⟩
  obtain ⟨R,hR⟩ : ∃ R,R = parts (marks m.c) W:=⟨_,rfl⟩
  rw [← hR] at hfin ⊢
  obtain ⟨mw,mh,c⟩:=m
  dsimp only at *
  subst hw
  show VC Tryz.prog 129 [.agg [I W,I mh,ints c],ints c,.func (.func 130) [] []] h _ h
  refine VC.bodyC 2 Tryz.func129 rfl Tryz.ntmps129 Tryz.call129 (h.grows_refl) rfl ?_
  conv=>whnf
  repeat' (first|((first|refine zs1 ?_|refine zs2 ?_|refine zs3 ?_|refine zs4 ?_|refine zs5 ?_);conv=>whnf)|((first|apply zi1|apply zi2|apply zi3|apply zi4|apply zi5) <;> intro _ <;> conv=>whnf)|(refine VMem.make false encB_len rfl rfl rfl rfl rfl rfl (by omega) ?_;conv=>whnf))
  refine VCut.at' (outer:=h.lift) (marks:=[]) 99 [(3,.fp [DI W,DI mh,dints c]),(4,.fp [dints c]),(5,.fp [.func (.func 130) [] []]),(7,.ptr (.loc 0) 0)] [.cells true [.gl (.loc 1) 1 c.length],.flat true ((metB c.length []).flatMap encB)] ?_ ?_
  · rw [metB_nil]
    conv=>whnf
    refine Retell.turn ⟨[4,3],5,[(0,[DI W,DI mh,dints c]),(1,[dints c]),(2,[.func (.func 130) [] []])],[]⟩ (TurnOk.mk' _ _ [(0,[DI W,DI mh,dints c]),(1,[dints c]),(2,[.func (.func 130) [] []])] [] (OutOk.lift _) rfl (by decide) zb zf trivial rfl) zw zm
  conv=>whnf
  repeat' (first|((first|refine zs1 ?_|refine zs2 ?_|refine zs3 ?_|refine zs4 ?_|refine zs5 ?_);conv=>whnf)|((first|apply zi1|apply zi2|apply zi3|apply zi4|apply zi5) <;> intro _ <;> conv=>whnf))
  refine VCode.lpC (outer:=h.lift) (marks:=[]) 99 (fun k : Nat=>[(3,.fp [DI W,DI mh,dints c]),(4,.fp [dints c]),(5,.fp [.func (.func 130) [] []]),(7,.ptr (.loc 0) 0),(8,.gl (.loc 3) 1 (pfK (marks c) W k).2.length),(9,.ptr (.loc 2) 0),(17,ints c),(18,I c.length),(19,I k)]) (fun k=>[.cells true [.gl (.loc 1) 1 c.length],.flat true ((metB c.length (pfK (marks c) W k).1).flatMap encB),.cells true [vFolI W mh c (.loc 0) (.loc 2)],.flat true ((natLL (pfK (marks c) W k).2).flatMap encL)]) (fun k=>k ≤ c.length) (fun k=>c.length - k) 0 (Nat.zero_le _) ?_ ?_
  · rw [show pfK (marks c) W 0 = ([],[]) from rfl]
    conv=>whnf
    refine Retell.turn ⟨[0,1,2,3],3,[],[]⟩ (TurnOk.mk' _ _ [] [] (OutOk.lift _) rfl (by decide) zb trivial trivial rfl) zw zm
  · rintro k hk
    rcases Nat.lt_or_ge k c.length with hkl|hkl
    · obtain ⟨a1,a2,a3⟩:=hok k
      have hstk:=hst k
      generalize pfK (marks c) W k = x at a1 a2 a3 hstk
      obtain ⟨M,outs⟩:=x
      dsimp only at a1 a2 a3 ⊢
      have hx:=at0_get hkl
      have hqm:=metB_at M hkl
      have cSq:=fun h=>vc_isl1 (at0 c k) h
      rw [← bat_marks] at cSq
      by_cases hgo : k ∉ M ∧ bat (marks c) k = true
      · unfold pstep at hstk
        dsimp only at hstk
        rw [if_pos hgo] at hstk
        have hmi:=folW_mi (N:=(marks c).length) (by omega) hLm hgo.2 hgo.1 a1 a2 (by omega)
        have cFk:=fun H hM hO=>cF k M H hgo.2 hgo.1 a1 (fun x hx=>by have:=a2 x hx;omega) hM hO
        have hol:=ownF_len [] hmi.1.pre.length_le
        have hol1:=hmi.1.len
        have hne : M.length < (folW (marks c) W (marks c).length k M).length:=by
          have h1:=hmi.1.pre.length_le
          refine Nat.lt_of_le_of_ne h1 fun e=>hgo.1 ?_
          rw [hmi.1.pre.eq_of_length e]
          exact hmi.2
        have hown : ownF [] M (folW (marks c) W (marks c).length k M) = natI ((folW (marks c) W (marks c).length k M).drop M.length):=List.nil_append _
        rw [decide_eq_false hgo.1] at hqm
        rw [hgo.2] at cSq
        have hsrt:=natI_srt ((folW (marks c) W (marks c).length k M).drop M.length)
        rw [← hown] at hsrt
        generalize (folW (marks c) W (marks c).length k M).drop M.length = own at hown hsrt hstk
        generalize folW (marks c) W (marks c).length k M = S at cFk hol hol1 hne hown hsrt hstk
        generalize ownF [] M S = l at cFk hol hown hsrt
        have hll : 0 < l.length:=by rw [hol,List.length_nil];omega
        have cSrt:=fun h hb=>vc_Sort l.length l (.loc 5) h hb (Nat.le_refl _) hll (by rw [hol,List.length_nil];omega) (natI (srtN own)) (by rw [hsrt];unfold Go.Vm.srtI;rw [List.take_length];exact List.prefix_append _ _)
        have hsl : (natI (srtN own)).length = l.length:=by rw [hsrt,List.length_mergeSort]
        conv=>whnf
        repeat' (first|((first|refine zs1 ?_|refine zs2 ?_|refine zs3 ?_|refine zs4 ?_|refine zs5 ?_);conv=>whnf)|((first|apply zi1|apply zi2|apply zi3|apply zi4|apply zi5) <;> intro _ <;> first|(exfalso;omega)|contradiction|(conv=>whnf))|(refine VAny.ix encI_len k (by omega) (by first|rfl|omega) hx ?_;conv=>whnf)|(refine VLd.recc encB_len k 0 rfl rfl rfl hqm (by decide) rfl (ofs _) ?_;conv=>whnf)|(refine VCall.intro (cSq _) ?_;conv=>whnf))
        refine VCall.intro (VC.turn ⟨[0,1,2,3,4],4,[],[]⟩ (args':=[I k,.gl (.loc 4) 1 0,.ptr (.loc 0) 0,.fp [DI W,DI mh,dints c],.fp [.func (.func 130) [] []],.fp [dints c],.ptr (.loc 2) 0]) (loc':=[.cells true [.gl (.loc 1) 1 c.length],.flat true ((metB c.length M).flatMap encB),.cells true [vFolI W mh c (.loc 0) (.loc 2)],.flat true ((natLL outs).flatMap encL),.flat true []]) (TurnOk.mk' _ _ [] [] (OutOk.lift _) rfl (by decide) zb trivial trivial rfl) (hid_new 4 rfl) zv (cFk _ ⟨rfl,rfl,rfl⟩ rfl)) ?_
        conv=>whnf
        repeat' (first|((first|refine zs1 ?_|refine zs2 ?_|refine zs3 ?_|refine zs4 ?_|refine zs5 ?_);conv=>whnf)|((first|apply zi1|apply zi2|apply zi3|apply zi4|apply zi5) <;> intro _ <;> conv=>whnf))
        refine VCall.intro (cSrt _ rfl) ?_
        conv=>whnf
        repeat' (first|((first|refine zs1 ?_|refine zs2 ?_|refine zs3 ?_|refine zs4 ?_|refine zs5 ?_);conv=>whnf)|((first|apply zi1|apply zi2|apply zi3|apply zi4|apply zi5) <;> intro _ <;> conv=>whnf))
        refine VMem.appCell (l:=((natLL outs).flatMap encL).map D.v) (v:=.gl (.loc 5) 1 l.length) rfl rfl rfl rfl (by simp [flat_len encL_len,natLL]) rfl (by simp [flat_len encL_len,natLL];omega) ?_
        conv=>whnf
        repeat' (first|((first|refine zs1 ?_|refine zs2 ?_|refine zs3 ?_|refine zs4 ?_|refine zs5 ?_);conv=>whnf)|((first|apply zi1|apply zi2|apply zi3|apply zi4|apply zi5) <;> intro _ <;> conv=>whnf))
        refine LEnd.intro (k + 1) (by omega) (by omega) ?_
        rw [hstk]
        dsimp only
        have hnl : natLL (outs ++ [srtN own]) = natLL outs ++ [natI (srtN own)]:=by unfold natLL;simp
        have hnn : (outs ++ [srtN own]).length = outs.length + 1:=by simp
        rw [hnl,hnn]
        generalize natI (srtN own) = srt at hsl ⊢
        rw [← hsl]
        conv=>whnf
        refine Retell.turn ⟨[0,1,2,7],8,[(5,srt.flatMap Vm.encI)],[]⟩ (TurnOk.mk' _ _ [(5,srt.flatMap Vm.encI)] [] (OutOk.lift _) rfl (by decide) zb zf trivial rfl) zw zm
      · unfold pstep at hstk
        dsimp only at hstk
        rw [if_neg hgo] at hstk
        have hgo2 : k ∈ M ∨ bat (marks c) k = false:=by
          by_cases hqM : k ∈ M
          · exact .inl hqM
          · right
            cases hb : bat (marks c) k with
            | false=>rfl
            | true=>exact absurd ⟨hqM,hb⟩ hgo
        rcases hgo2 with hb|hb
        all_goals (
          first|rw [decide_eq_true hb] at hqm|rw [hb] at cSq
          conv=>whnf
          repeat' (first|((first|refine zs1 ?_|refine zs2 ?_|refine zs3 ?_|refine zs4 ?_|refine zs5 ?_);conv=>whnf)|((first|apply zi1|apply zi2|apply zi3|apply zi4|apply zi5) <;> intro _ <;> first|(exfalso;omega)|contradiction|(conv=>whnf))|(refine VAny.ix encI_len k (by omega) (by first|rfl|omega) hx ?_;conv=>whnf)|(refine VLd.recc encB_len k 0 rfl rfl rfl hqm (by decide) rfl (ofs _) ?_;conv=>whnf)|(refine VCall.intro (cSq _) ?_;conv=>whnf))
          all_goals first
            | contradiction
            | (refine LEnd.intro (k + 1) (by omega) (by omega) ?_
               rw [hstk]
               dsimp only
               conv=>whnf
               refine Retell.turn ⟨[0,1,2,3],4,[],[]⟩ (TurnOk.mk' _ _ [] [] (OutOk.lift _) rfl (by decide) zb trivial trivial rfl) zw zm))
    · obtain rfl : k = c.length:=by omega
      have hx2 : (pfK (marks c) W c.length).2 = R:=by rw [hfin,hmkl]
      rw [hx2]
      generalize (pfK (marks c) W c.length).1 = M
      have hRl : (natLL R).length = R.length:=by unfold natLL;rw [List.length_map]
      rw [show intss (natLL R) = .fs 1 R.length ((natLL R).flatMap encL) by unfold intss;rw [hRl]]
      have hRf : ((natLL R).flatMap encL).length = R.length * 1:=by rw [flat_len encL_len,hRl]
      conv=>whnf
      repeat' (first|((first|refine zs1 ?_|refine zs2 ?_|refine zs3 ?_|refine zs4 ?_|refine zs5 ?_);conv=>whnf)|((first|apply zi1|apply zi2|apply zi3|apply zi4|apply zi5) <;> intro _ <;> first|(exfalso;omega)|contradiction|(conv=>whnf)))
      refine VOut.data 4 [(3,(natLL R).flatMap encL)] [] rfl zf (by exact FmAll.nil) zw
end Go.Proofs.YtkbbfeljlepgoaaGreat

open Go.Vm
open Riv
namespace Go.Proofs.YtkbbfeljlepgoaaGreat
set_option maxRecDepth 20000
set_option maxHeartbeats 4000000

theorem vc_partsB {W H : Nat} (m : Mp) (mk : List Bool) (h : Hp) (o : MOk W H m.c) (hw : m.w = W) (hmk : mk.length = m.c.length) : VC Tryz.prog 94 [vM m,bools mk,.func (.func 95) [] []] h (intss (natLL (parts mk W))) h:=by
  have hWb:=o.w
  have hHb:=o.h
  have hL:=o.len
  have hm144:=MOk.le o
  
  have hLm : mk.length = W * H:=by rw [hmk];exact hL
  have hok:=fun k=>pfK_ok (mk:=mk) (W:=W) (H:=H) (by omega) hLm k
  have hst:=fun k=>pfK_step mk W k
  have hfin : parts mk W = (pfK mk W mk.length).2:=rfl
  have cF:=fun n M h h1 h2 h3 h4 hM hO=>vc_folB m mk o hw hmk mk.length n M [] (.loc 0) (.loc 1) (.loc 2) (.loc 4) h h1 h2 h3 h4 (by rw [hmk];omega) (Nat.zero_le _) hM hO ⟨by decide,by decide,by decide,by decide,by decide⟩
  obtain ⟨R,hR⟩ : ∃ R,R = parts mk W:=⟨_,rfl⟩
  rw [← hR] at hfin ⊢
  obtain ⟨mw,mh,c⟩:=m
  dsimp only at *
  subst hw
  show VC Tryz.prog 94 [.agg [I W,I mh,ints c],bools mk,.func (.func 95) [] []] h _ h
  refine VC.bodyC 2 Tryz.func94 rfl Tryz.ntmps94 Tryz.call94 (h.grows_refl) rfl ?_
  conv=>whnf
  repeat' (first|((first|refine zs1 ?_|refine zs2 ?_|refine zs3 ?_|refine zs4 ?_|refine zs5 ?_);conv=>whnf)|((first|apply zi1|apply zi2|apply zi3|apply zi4|apply zi5) <;> intro _ <;> conv=>whnf)|(refine VMem.make false encB_len rfl rfl rfl rfl rfl rfl (by omega) ?_;conv=>whnf))
  refine VCut.at' (outer:=h.lift) (marks:=[]) 99 [(3,.fp [DI W,DI mh,dints c]),(4,.fp [dbools mk]),(5,.fp [.func (.func 95) [] []]),(7,.ptr (.loc 0) 0)] [.cells true [.gl (.loc 1) 1 mk.length],.flat true ((metB mk.length []).flatMap encB)] ?_ ?_
  · rw [metB_nil]
    conv=>whnf
    refine Retell.turn ⟨[4,3],5,[(0,[DI W,DI mh,dints c]),(1,[dbools mk]),(2,[.func (.func 95) [] []])],[]⟩ (TurnOk.mk' _ _ [(0,[DI W,DI mh,dints c]),(1,[dbools mk]),(2,[.func (.func 95) [] []])] [] (OutOk.lift _) rfl (by decide) zb zf trivial rfl) zw zm
  conv=>whnf
  repeat' (first|((first|refine zs1 ?_|refine zs2 ?_|refine zs3 ?_|refine zs4 ?_|refine zs5 ?_);conv=>whnf)|((first|apply zi1|apply zi2|apply zi3|apply zi4|apply zi5) <;> intro _ <;> conv=>whnf))
  refine VCode.lpC (outer:=h.lift) (marks:=[]) 99 (fun k : Nat=>[(3,.fp [DI W,DI mh,dints c]),(4,.fp [dbools mk]),(5,.fp [.func (.func 95) [] []]),(7,.ptr (.loc 0) 0),(8,.gl (.loc 3) 1 (pfK mk W k).2.length),(9,.ptr (.loc 2) 0),(17,bools mk),(18,I mk.length),(19,I k)]) (fun k=>[.cells true [.gl (.loc 1) 1 mk.length],.flat true ((metB mk.length (pfK mk W k).1).flatMap encB),.cells true [vFolB W mh c mk (.loc 0) (.loc 2)],.flat true ((natLL (pfK mk W k).2).flatMap encL)]) (fun k=>k ≤ mk.length) (fun k=>mk.length - k) 0 (Nat.zero_le _) ?_ ?_
  · rw [show pfK mk W 0 = ([],[]) from rfl]
    conv=>whnf
    refine Retell.turn ⟨[0,1,2,3],3,[],[]⟩ (TurnOk.mk' _ _ [] [] (OutOk.lift _) rfl (by decide) zb trivial trivial rfl) zw zm
  · rintro k hk
    rcases Nat.lt_or_ge k mk.length with hkl|hkl
    · obtain ⟨a1,a2,a3⟩:=hok k
      have hstk:=hst k
      generalize pfK mk W k = x at a1 a2 a3 hstk
      obtain ⟨M,outs⟩:=x
      dsimp only at a1 a2 a3 ⊢
      have hx:=bat_get hkl
      have hqm:=metB_at M hkl
      have cSq:=fun h=>vc_chg1 (bat mk k) h
      by_cases hgo : k ∉ M ∧ bat mk k = true
      · unfold pstep at hstk
        dsimp only at hstk
        rw [if_pos hgo] at hstk
        have hmi:=folW_mi (N:=mk.length) (by omega) hLm hgo.2 hgo.1 a1 a2 (by omega)
        have cFk:=fun H hM hO=>cF k M H hgo.2 hgo.1 a1 (fun x hx=>by have:=a2 x hx;omega) hM hO
        have hol:=ownF_len [] hmi.1.pre.length_le
        have hol1:=hmi.1.len
        have hne : M.length < (folW mk W mk.length k M).length:=by
          have h1:=hmi.1.pre.length_le
          refine Nat.lt_of_le_of_ne h1 fun e=>hgo.1 ?_
          rw [hmi.1.pre.eq_of_length e]
          exact hmi.2
        have hown : ownF [] M (folW mk W mk.length k M) = natI ((folW mk W mk.length k M).drop M.length):=List.nil_append _
        rw [decide_eq_false hgo.1] at hqm
        rw [hgo.2] at hx cSq
        have hsrt:=natI_srt ((folW mk W mk.length k M).drop M.length)
        rw [← hown] at hsrt
        generalize (folW mk W mk.length k M).drop M.length = own at hown hsrt hstk
        generalize folW mk W mk.length k M = S at cFk hol hol1 hne hown hsrt hstk
        generalize ownF [] M S = l at cFk hol hown hsrt
        have hll : 0 < l.length:=by rw [hol,List.length_nil];omega
        have cSrt:=fun h hb=>vc_Sort l.length l (.loc 5) h hb (Nat.le_refl _) hll (by rw [hol,List.length_nil];omega) (natI (srtN own)) (by rw [hsrt];unfold Go.Vm.srtI;rw [List.take_length];exact List.prefix_append _ _)
        have hsl : (natI (srtN own)).length = l.length:=by rw [hsrt,List.length_mergeSort]
        conv=>whnf
        repeat' (first|((first|refine zs1 ?_|refine zs2 ?_|refine zs3 ?_|refine zs4 ?_|refine zs5 ?_);conv=>whnf)|((first|apply zi1|apply zi2|apply zi3|apply zi4|apply zi5) <;> intro _ <;> first|(exfalso;omega)|contradiction|(conv=>whnf))|(refine VAny.ix encB_len k (by omega) (by first|rfl|omega) hx ?_;conv=>whnf)|(refine VLd.recc encB_len k 0 rfl rfl rfl hqm (by decide) rfl (ofs _) ?_;conv=>whnf)|(refine VCall.intro (cSq _) ?_;conv=>whnf))
        refine VCall.intro (VC.turn ⟨[0,1,2,3,4],4,[],[]⟩ (args':=[I k,.gl (.loc 4) 1 0,.ptr (.loc 0) 0,.fp [DI W,DI mh,dints c],.fp [.func (.func 95) [] []],.fp [dbools mk],.ptr (.loc 2) 0]) (loc':=[.cells true [.gl (.loc 1) 1 mk.length],.flat true ((metB mk.length M).flatMap encB),.cells true [vFolB W mh c mk (.loc 0) (.loc 2)],.flat true ((natLL outs).flatMap encL),.flat true []]) (TurnOk.mk' _ _ [] [] (OutOk.lift _) rfl (by decide) zb trivial trivial rfl) (hid_new 4 rfl) zv (cFk _ ⟨rfl,rfl,rfl⟩ rfl)) ?_
        conv=>whnf
        repeat' (first|((first|refine zs1 ?_|refine zs2 ?_|refine zs3 ?_|refine zs4 ?_|refine zs5 ?_);conv=>whnf)|((first|apply zi1|apply zi2|apply zi3|apply zi4|apply zi5) <;> intro _ <;> conv=>whnf))
        refine VCall.intro (cSrt _ rfl) ?_
        conv=>whnf
        repeat' (first|((first|refine zs1 ?_|refine zs2 ?_|refine zs3 ?_|refine zs4 ?_|refine zs5 ?_);conv=>whnf)|((first|apply zi1|apply zi2|apply zi3|apply zi4|apply zi5) <;> intro _ <;> conv=>whnf))
        refine VMem.appCell (l:=((natLL outs).flatMap encL).map D.v) (v:=.gl (.loc 5) 1 l.length) rfl rfl rfl rfl (by simp [flat_len encL_len,natLL]) rfl (by simp [flat_len encL_len,natLL];omega) ?_
        conv=>whnf
        repeat' (first|((first|refine zs1 ?_|refine zs2 ?_|refine zs3 ?_|refine zs4 ?_|refine zs5 ?_);conv=>whnf)|((first|apply zi1|apply zi2|apply zi3|apply zi4|apply zi5) <;> intro _ <;> conv=>whnf))
        refine LEnd.intro (k + 1) (by omega) (by omega) ?_
        rw [hstk]
        dsimp only
        have hnl : natLL (outs ++ [srtN own]) = natLL outs ++ [natI (srtN own)]:=by unfold natLL;simp
        have hnn : (outs ++ [srtN own]).length = outs.length + 1:=by simp
        rw [hnl,hnn]
        generalize natI (srtN own) = srt at hsl ⊢
        rw [← hsl]
        conv=>whnf
        refine Retell.turn ⟨[0,1,2,7],8,[(5,srt.flatMap Vm.encI)],[]⟩ (TurnOk.mk' _ _ [(5,srt.flatMap Vm.encI)] [] (OutOk.lift _) rfl (by decide) zb zf trivial rfl) zw zm
      · unfold pstep at hstk
        dsimp only at hstk
        rw [if_neg hgo] at hstk
        have hgo2 : k ∈ M ∨ bat mk k = false:=by
          by_cases hqM : k ∈ M
          · exact .inl hqM
          · right
            cases hb : bat mk k with
            | false=>rfl
            | true=>exact absurd ⟨hqM,hb⟩ hgo
        rcases hgo2 with hb|hb
        all_goals (
          first|rw [decide_eq_true hb] at hqm|rw [hb] at hx cSq
          conv=>whnf
          repeat' (first|((first|refine zs1 ?_|refine zs2 ?_|refine zs3 ?_|refine zs4 ?_|refine zs5 ?_);conv=>whnf)|((first|apply zi1|apply zi2|apply zi3|apply zi4|apply zi5) <;> intro _ <;> first|(exfalso;omega)|contradiction|(conv=>whnf))|(refine VAny.ix encB_len k (by omega) (by first|rfl|omega) hx ?_;conv=>whnf)|(refine VLd.recc encB_len k 0 rfl rfl rfl hqm (by decide) rfl (ofs _) ?_;conv=>whnf)|(refine VCall.intro (cSq _) ?_;conv=>whnf))
          all_goals first
            | contradiction
            | (refine LEnd.intro (k + 1) (by omega) (by omega) ?_
               rw [hstk]
               dsimp only
               conv=>whnf
               refine Retell.turn ⟨[0,1,2,3],4,[],[]⟩ (TurnOk.mk' _ _ [] [] (OutOk.lift _) rfl (by decide) zb trivial trivial rfl) zw zm))
    · obtain rfl : k = mk.length:=by omega
      have hx2 : (pfK mk W mk.length).2 = R:=by rw [hfin]
      rw [hx2]
      generalize (pfK mk W mk.length).1 = M
      have hRl : (natLL R).length = R.length:=by unfold natLL;rw [List.length_map]
      rw [show intss (natLL R) = .fs 1 R.length ((natLL R).flatMap encL) by unfold intss;rw [hRl]]
      have hRf : ((natLL R).flatMap encL).length = R.length * 1:=by rw [flat_len encL_len,hRl]
      conv=>whnf
      repeat' (first|((first|refine zs1 ?_|refine zs2 ?_|refine zs3 ?_|refine zs4 ?_|refine zs5 ?_);conv=>whnf)|((first|apply zi1|apply zi2|apply zi3|apply zi4|apply zi5) <;> intro _ <;> first|(exfalso;omega)|contradiction|(conv=>whnf)))
      refine VOut.data 4 [(3,(natLL R).flatMap encL)] [] rfl zf (by exact FmAll.nil) zw
end Go.Proofs.YtkbbfeljlepgoaaGreat

open Go.Vm
open Riv
namespace Riv
def mgt (a : List (Int × Int)) (k : Int) : Option Int:=(a.find? fun x=>decide (x.1 = k)).map (·.2)
def mget (a : List (Int × Int)) (k : Int) : Int:=(mgt a k).getD 0
def mput : List (Int × Int) → Int → Int → List (Int × Int)
  | [],k,v=>[(k,v)]
  | x :: a,k,v=>if x.1 = k then (k,v) :: a else x :: mput a k v
theorem mget_put : ∀ (a : List (Int × Int)) (k v j : Int),mget (mput a k v) j = if j = k then v else mget a j
  | [],k,v,j=>by
    unfold mget mgt mput
    by_cases h : j = k
    · subst h;simp
    · rw [if_neg h]
      have h2 : ¬ k = j:=fun e=>h e.symm
      simp [h2]
  | x :: a,k,v,j=>by
    rw [mput]
    by_cases h : x.1 = k
    · rw [if_pos h]
      by_cases h2 : j = k
      · subst h2;rw [if_pos rfl];simp [mget,mgt]
      · rw [if_neg h2]
        have h4 : ¬ k = j:=fun e=>h2 e.symm
        have h5 : ¬ x.1 = j:=fun e=>h2 (e.symm.trans h)
        simp [mget,mgt,List.find?_cons,h4,h5]
    · rw [if_neg h]
      by_cases h3 : x.1 = j
      · have : ¬ j = k:=fun e=>h (h3.trans e)
        rw [if_neg this]
        simp [mget,mgt,List.find?_cons,h3]
      · have ih:=mget_put a k v j
        unfold mget mgt at ih ⊢
        rw [List.find?_cons,List.find?_cons]
        simp only [h3,decide_false]
        exact ih
theorem mput_none : ∀ {a : List (Int × Int)} {k : Int} (v : Int),mgt a k = none → mput a k v = a ++ [(k,v)]
  | [],_,_,_=>rfl
  | x :: a,k,v,h=>by
    have hx : ¬ x.1 = k:=fun e=>by simp [mgt,List.find?_cons,e] at h
    have h' : mgt a k = none:=by simpa [mgt,List.find?_cons,hx] using h
    rw [mput,if_neg hx,mput_none v h'];rfl
def shL (L : List (List Nat)) (O own : List Int) : List Sh:=(L.zip (O.zip own)).map fun x=>⟨((x.1.headD 0 : Nat) : Int),x.2.2,decide (x.2.1 = 1 ∨ x.2.1 = 2)⟩
theorem shr_shL (c : List Int) (W : Nat) : shr c W = shL (isl c W) (own0 c W) (ownI c W):=rfl
theorem shL_at {L : List (List Nat)} {O own : List Int} {i : Nat} (hO : O.length = L.length) (hw : own.length = L.length) (hi : i < L.length) : (shL L O own)[i]? = some ⟨(((L.getD i []).headD 0 : Nat) : Int),at0 own i,decide (at0 O i = 1 ∨ at0 O i = 2)⟩:=by
  have e1 : at0 O i = O[i]:=by unfold at0;rw [List.getD_eq_getElem?_getD,List.getElem?_eq_getElem (by omega)];rfl
  have e2 : at0 own i = own[i]:=by unfold at0;rw [List.getD_eq_getElem?_getD,List.getElem?_eq_getElem (by omega)];rfl
  have e3 : L.getD i [] = L[i]:=by rw [List.getD_eq_getElem?_getD,List.getElem?_eq_getElem hi];rfl
  unfold shL
  rw [List.getElem?_map,List.zip,List.getElem?_zipWith,List.getElem?_eq_getElem hi,List.zip,List.getElem?_zipWith,List.getElem?_eq_getElem (show i < O.length by omega),List.getElem?_eq_getElem (show i < own.length by omega),e1,e2,e3]
  rfl
theorem shL_len {L : List (List Nat)} {O own : List Int} (hO : O.length = L.length) (hw : own.length = L.length) : (shL L O own).length = L.length:=by
  unfold shL
  rw [List.length_map,List.length_zip,List.length_zip];omega
theorem shL_set {L : List (List Nat)} {O own : List Int} {i : Nat} {x : Sh} (v : Int) (hO : O.length = L.length) (hw : own.length = L.length) (hx : (shL L O own)[i]? = some x) : shL L O (own.set i v) = (shL L O own).set i ⟨x.f,v,x.nr⟩:=by
  have hi : i < L.length:=by
    have:=(List.getElem?_eq_some_iff.1 hx).1
    rw [shL_len hO hw] at this;exact this
  apply List.ext_getElem?
  intro j
  rcases Nat.lt_or_ge j L.length with hj|hj
  · rw [shL_at hO (by rw [List.length_set];exact hw) hj,at0_set (by omega)]
    by_cases e : j = i
    · subst e
      rw [if_pos rfl,List.getElem?_set_self (by rw [shL_len hO hw];exact hj)]
      rw [shL_at hO hw hi,Option.some.injEq] at hx
      rw [← hx]
    · rw [if_neg e,List.getElem?_set_ne (fun e2=>e e2.symm),shL_at hO hw hj]
  · rw [List.getElem?_eq_none (by rw [shL_len hO (by rw [List.length_set];exact hw)];exact hj),List.getElem?_eq_none (by rw [List.length_set,shL_len hO hw];exact hj)]
def rgK (O : List Int) (i : Nat) : List Int:=(List.range i).foldl rg1 O
theorem rgK_step (O : List Int) (i : Nat) : rgK O (i + 1) = rg1 (rgK O i) i:=by unfold rgK;rw [List.range_succ,List.foldl_append];rfl
theorem rgK_len (O : List Int) : ∀ i,(rgK O i).length = O.length
  | 0=>rfl
  | i + 1=>by
    rw [rgK_step]
    have:=rgK_len O i
    unfold rg1
    split
    · rw [List.length_set];exact this
    · exact this
theorem many_set {l : List Int} {i : Nat} {k v : Int} (hi : i < l.length) (h3 : at0 l i = 3) (hk : k ≠ 3) : many k (l.set i v) = many k l + (if v = k then 1 else 0):=by
  have e : l[i] = 3:=by
    rw [← h3];unfold at0;rw [List.getD_eq_getElem?_getD,List.getElem?_eq_getElem hi];rfl
  have h1 : l = l.take i ++ 3 :: l.drop (i + 1):=by
    rw [← e,← List.drop_eq_getElem_cons hi,List.take_append_drop]
  have h2 : l.set i v = l.take i ++ v :: l.drop (i + 1):=by
    rw [List.set_eq_take_append_cons_drop,if_pos hi]
  rw [h2]
  conv=>rhs;rw [h1]
  have h3k : ¬ (3 : Int) = k:=fun e=>hk e.symm
  rw [many_app,many_app,many_cons,many_cons,if_neg h3k]
  omega
theorem many_bd (k : Int) (l : List Int) : 0 ≤ many k l ∧ many k l ≤ l.length:=by
  unfold many
  have:=List.countP_le_length (p:=fun o=>decide (o = k)) (l:=l)
  omega
theorem many_snoc (k : Int) (l : List Int) (o : Int) : many k (l ++ [o]) = many k l + (if o = k then 1 else 0):=by
  rw [many_app,many_cons]
  have : many k [] = 0:=rfl
  omega
end Riv
namespace Go.Vm
def esM (a : List (Int × Int)) : List (V × V):=a.map fun x=>(I x.1,I x.2)
theorem esM_fst (a : List (Int × Int)) : (esM a).map (·.1) = (a.map fun x=>DI x.1).map D.v:=by simp only [esM,List.map_map];rfl
theorem esM_snd (a : List (Int × Int)) : (esM a).map (·.2) = (a.map fun x=>DI x.2).map D.v:=by simp only [esM,List.map_map];rfl
theorem esM_ren (a : List (Int × Int)) (ρ : Vm.Id → Vm.Id) : (Blk.map (esM a)).ren ρ = .map (esM a):=by
  unfold Blk.ren
  congr 1
  simp only [esM,List.map_map]
  rfl
theorem BTos.esE {c : TCtx} {loc : List Blk} {pm : List Nat} {bs : List Blk} {j : Nat} {a : List (Int × Int)} (hj : Nat.blt j c.L = true) (hl : loc[j]? = some (.map (esM a))) (r : BTos c loc pm bs) : BTos c loc (j :: pm) (.map (esM a) :: bs) :=
  BTos.map hj hl (by rw [esM_fst];exact RowTo.dv c _) (by rw [esM_snd];exact RowTo.dv c _) r
theorem veqI3 (x y : Int) : veqSh Sh.int (I x) (I y) = some (decide (x = y)):=by
  have : (x == y) = decide (x = y):=by rw [Bool.eq_iff_iff];simp
  rw [← this];rfl
theorem foundM_none {a : List (Int × Int)} {e : Int} (h : Riv.mgt a e = none) : Vm.Found Sh.int (I e) (esM a) none:=by
  intro j p hp
  simp only [esM,List.getElem?_map,Option.map_eq_some_iff] at hp
  obtain ⟨x,hx,rfl⟩:=hp
  simp only [veqI3]
  have hm : x ∈ a:=List.mem_of_getElem? hx
  unfold Riv.mgt at h
  rw [Option.map_eq_none_iff,List.find?_eq_none] at h
  have:=h x hm
  simp only [decide_eq_true_eq] at this
  rw [decide_eq_false (fun e1=>this e1.symm)]
theorem foundM_some : ∀ {a : List (Int × Int)} {e v : Int},Riv.mgt a e = some v → ∃ i,Vm.Found Sh.int (I e) (esM a) (some (i,I v)) ∧ a[i]? = some (e,v) ∧ ∀ u,Riv.mput a e u = a.set i (e,u)
  | [],e,v,h=>by simp [Riv.mgt] at h
  | x :: a,e,v,h=>by
    by_cases hx : x.1 = e
    · have hv : x.2 = v:=by simpa [Riv.mgt,List.find?_cons,hx] using h
      refine ⟨0,⟨I x.1,by simp [esM,hv],by rw [veqI3];simp [hx],fun j p hj=>by omega⟩,?_,fun u=>?_⟩
      · simp [← hx,← hv]
      · rw [Riv.mput,if_pos hx];rfl
    · have h' : Riv.mgt a e = some v:=by simpa [Riv.mgt,List.find?_cons,hx] using h
      obtain ⟨i,⟨k0,h1,h2,h3⟩,h4,h5⟩:=foundM_some h'
      refine ⟨i + 1,⟨k0,by simpa [esM] using h1,h2,fun j p hj hp=>?_⟩,by simpa using h4,fun u=>by rw [Riv.mput,if_neg hx,h5 u];rfl⟩
      cases j with
      | zero =>
        simp only [esM,List.map_cons,List.getElem?_cons_zero,Option.some.injEq] at hp
        subst hp
        rw [veqI3,decide_eq_false (fun e1=>hx e1.symm)]
      | succ j=>exact h3 j p (by omega) (by simpa [esM] using hp)
end Go.Vm
namespace Go.Proofs.YtkbbfeljlepgoaaGreat
set_option maxRecDepth 20000
set_option maxHeartbeats 4000000
theorem top3 : eqTop Tryz.prog 3 = some Sh.int:=by kernel_rfl
theorem VMem.putM {a : List (Int × Int)} {e v : Int} {h : Hp} {i : Vm.Id} {K : V → Hp → Prop} (hb : h.get i = some (.map (esM a))) (hK : K .undef (h.set i (.map (esM (mput a e v))))) : VMem Tryz.prog (opMapUpdate 195) [.map i,I e,I v] h K:=by
  cases hl : mgt a e with
  | none =>
    have : esM (mput a e v) = esM a ++ [(I e,I v)]:=by rw [mput_none v hl];simp [esM]
    rw [this] at hK
    exact VMem.intro (does_mapNew (tiOf_ok _) (t:=195) rfl rfl top3 (by rw [veqI3]) (foundM_none hl) hb) hK
  | some u =>
    obtain ⟨j,h1,h2,h3⟩:=foundM_some hl
    have : esM (mput a e v) = (esM a).set j (I e,I v):=by rw [h3];simp [esM]
    rw [this] at hK
    exact VMem.intro (does_mapSetI (tiOf_ok _) (t:=195) (l:=e) rfl rfl top3 (by rw [veqI3]) h1 (by simp only [esM,List.getElem?_map,h2];rfl) hb) hK
theorem look_esM (a : List (Int × Int)) (e : Int) : Look Tryz.prog (tiOf Tryz.prog) 195 false (I e) (esM a) (I (mget a e)):=by
  unfold mget
  cases hl : mgt a e with
  | none=>exact ⟨_,3,3,_,Sh.int,true,none,rfl,rfl,top3,by rw [veqI3];simp,foundM_none hl,rfl⟩
  | some u =>
    obtain ⟨j,h1,_⟩:=foundM_some hl
    exact ⟨_,3,3,_,Sh.int,true,some (j,I u),rfl,rfl,top3,by rw [veqI3];simp,h1,rfl⟩
def encSh (x : Riv.Sh) : List D:=[DI x.f,DI x.o,DB x.nr]
theorem encSh_len (x : Riv.Sh) : (encSh x).length = 3:=rfl
def shs (l : List Riv.Sh) : V:=.fs 3 l.length (l.flatMap encSh)
theorem vc_given (a : List (Int × Int)) (cI mI : Vm.Id) (h : Hp) (h1 : h.get cI = some (.cells true [.map mI])) (h2 : h.get mI = some (.map (esM a))) : VC Tryz.prog 131 [.ptr cI 0] h (I (if mget a 2 < mget a 1 then 2 else 1)) h:=by
  obtain ⟨E,hE⟩ : ∃ E,E = (if mget a 2 < mget a 1 then (2 : Int) else 1):=⟨_,rfl⟩
  rw [← hE]
  have l1:=look_esM a 1
  have l2:=look_esM a 2
  have g1:=fun loc=>get_out h1 loc
  have g2 : ∀ loc,(⟨h.lift,loc⟩ : Hp).get (.out mI) = some (.map (esM a)):=fun loc=>by rw [get_out h2 loc,esM_ren]
  generalize mget a 1 = x at l1 hE
  generalize mget a 2 = y at l2 hE
  refine VC.body Tryz.func131 rfl Tryz.ntmps131 Tryz.call131 (h.grows_refl) rfl ?_;conv=>whnf
  repeat' (first|((first|refine zs1 ?_|refine zs2 ?_|refine zs3 ?_|refine zs4 ?_|refine zs5 ?_);conv=>whnf)|((first|apply zi1|apply zi2|apply zi3|apply zi4|apply zi5) <;> intro _ <;> conv=>whnf)|(refine VLd.cell rfl rfl (g1 _) rfl ?_;conv=>whnf)|(refine VLook.intro (g2 _) l1 ?_;conv=>whnf)|(refine VLook.intro (g2 _) l2 ?_;conv=>whnf))
  all_goals first
    | (rw [if_pos (by omega)] at hE;rw [hE];exact VOut.same rfl)
    | (rw [if_neg (by omega)] at hE;rw [hE];exact VOut.same rfl)
end Go.Proofs.YtkbbfeljlepgoaaGreat

open Go.Vm
open Riv
namespace Go.Proofs.YtkbbfeljlepgoaaGreat
set_option maxRecDepth 20000
set_option maxHeartbeats 4000000

theorem isl_ne {c : List Int} {W H : Nat} (hW : 2 ≤ W) (hL : c.length = W * H) (h1 : c.length ≤ 160) {l : List Nat} (h : l ∈ isl c W) : 0 < l.length ∧ l.length ≤ c.length:=by
  unfold isl at h
  rw [parts_eq hW (by rw [marks_len];exact hL) (rnm_ok hW h1).1] at h
  unfold canon at h
  obtain ⟨i,hi,rfl⟩:=List.mem_map.1 h
  obtain ⟨hi1,hi2⟩:=List.mem_filter.1 hi
  have hi1:=List.mem_range.1 hi1
  have hi2:=of_decide_eq_true hi2
  constructor
  · exact List.length_pos_of_mem (List.mem_filter.2 ⟨List.mem_range.2 hi1,decide_eq_true hi2⟩)
  · have:=List.length_filter_le (fun k=>decide (at0 (rnm c W) k = (i : Int))) (List.range (marks c).length)
    rw [List.length_range] at this
    rw [marks_len] at this ⊢
    exact this
theorem isl_len {c : List Int} {W H : Nat} (hW : 2 ≤ W) (hL : c.length = W * H) : (isl c W).length ≤ c.length:=by
  have:=(pfK_ok (mk:=marks c) (W:=W) (H:=H) hW (by rw [marks_len];exact hL) (marks c).length).2.2
  rw [marks_len] at this
  have e : isl c W = (pfK (marks c) W c.length).2:=by unfold isl parts pfK;rw [marks_len]
  rw [e];exact this
theorem lowT_step (T : List Int) (l : List Nat) (n : Nat) : lowT T (l ++ [n]) = ls1 (lowT T l) (at0 T n):=by unfold lowT;rw [List.foldl_append];rfl
theorem vneSh (a b c d : Int) (x y : Bool) : vaggeq Tryz.prog .neq 106 (.agg [I a,I b,B x]) (.agg [I c,I d,B y]) = some (B (decide (¬ (a = c ∧ b = d ∧ x = y)))):=by
  have : (!((a == c) && ((b == d) && ((x == y) && true)))) = decide (¬ (a = c ∧ b = d ∧ x = y)):=by
    rw [Bool.eq_iff_iff,decide_eq_true_eq];simp [-not_and];cases x <;> cases y <;> simp <;> omega
  rw [← this]
  unfold vaggeq
  rw [show eqTop Tryz.prog 106 = some (Sh.cons 0 1 false Sh.int (Sh.cons 1 1 false Sh.int (Sh.cons 2 1 false Sh.bool Sh.nil))) by kernel_rfl]
  rfl
theorem vc_islands {W H : Nat} (m : Mp) (h : Hp) (o : MOk W H m.c) (hw : m.w = W) : VC Tryz.prog 92 [vM m] h (.tuple [shs (shr m.c W),intss (natLL (isl m.c W))]) h:=by
  have hWb:=o.w
  have hHb:=o.h
  have hL:=o.len
  have hm144:=MOk.le o
  have cT1:=fun h=>vc_table m 1 h o hw (.inl rfl)
  have cT2:=fun h=>vc_table m 2 h o hw (.inr rfl)
  have cP:=fun h=>vc_partsI m h o hw
  have hb1 : (bfs m.c W 1).length = m.c.length:=bfsK_len _ _ _ _
  have hb2 : (bfs m.c W 2).length = m.c.length:=bfsK_len _ _ _ _
  have hin:=isl_in (c:=m.c) (W:=W) (by omega) hL (by omega)
  have hne:=fun l hl=>isl_ne (c:=m.c) (W:=W) (l:=l) (by omega) hL (by omega) hl
  have hil:=isl_len (c:=m.c) (W:=W) (by omega) hL
  rw [shr_shL]
  have hO : own0 m.c W = (isl m.c W).map fun l=>ownr (lowT (bfs m.c W 1) l) (lowT (bfs m.c W 2) l):=rfl
  have hrg : ownI m.c W = rgK (own0 m.c W) (own0 m.c W).length:=(rg_eq (own0 m.c W)).symm
  rw [hrg]
  rw [show parts (marks m.c) W = isl m.c W from rfl] at cP
  generalize own0 m.c W = O at hO hrg
  generalize bfs m.c W 1 = F1 at cT1 hb1 hO
  generalize bfs m.c W 2 = F2 at cT2 hb2 hO
  generalize isl m.c W = L at hO hin hne hil cP
  clear hrg
  obtain ⟨mw,mh,c⟩:=m
  dsimp only at *
  subst hw
  show VC Tryz.prog 92 [.agg [I W,I mh,ints c]] h _ h
  refine VC.bodyC 4 Tryz.func92 rfl Tryz.ntmps92 Tryz.call92 (h.grows_refl) rfl ?_
  conv=>whnf
  repeat' (first|((first|refine zs1 ?_|refine zs2 ?_|refine zs3 ?_|refine zs4 ?_|refine zs5 ?_);conv=>whnf)|((first|apply zi1|apply zi2|apply zi3|apply zi4|apply zi5) <;> intro _ <;> conv=>whnf))
  refine zs6 [(2,3)] ?_
  conv=>whnf
  repeat' (first|((first|refine zs1 ?_|refine zs2 ?_|refine zs3 ?_|refine zs4 ?_|refine zs5 ?_);conv=>whnf)|((first|apply zi1|apply zi2|apply zi3|apply zi4|apply zi5) <;> intro _ <;> conv=>whnf)|(refine VCall.intro (cT1 _) ?_;conv=>whnf)|(refine VCall.intro (cT2 _) ?_;conv=>whnf)|(refine VCall.intro (cP _) ?_;conv=>whnf))
  refine VCut.at' (outer:=h.lift) (marks:=[]) 99 [(4,ints F1),(5,ints F2),(6,intss (natLL L)),(7,.nilslice)] [] ?_ ?_
  · conv=>whnf
    refine Retell.turn ⟨[],1,[(0,[DI W,DI mh,dints c])],[]⟩ (TurnOk.mk' _ _ [(0,[DI W,DI mh,dints c])] [] (OutOk.lift _) rfl (by decide) zb zf trivial rfl) zw zm
  conv=>whnf
  repeat' (first|((first|refine zs1 ?_|refine zs2 ?_|refine zs3 ?_|refine zs4 ?_|refine zs5 ?_);conv=>whnf)|((first|apply zi1|apply zi2|apply zi3|apply zi4|apply zi5) <;> intro _ <;> conv=>whnf))
  have hOl : O.length = L.length:=by rw [hO,List.length_map]
  have hSl : (shL L O O).length = L.length:=shL_len hOl hOl
  have hSat:=fun i hi=>shL_at (L:=L) (O:=O) (own:=O) (i:=i) hOl hOl hi
  have hLl : (natLL L).length = L.length:=by unfold natLL;rw [List.length_map]
  refine VCode.lpC (outer:=h.lift) (marks:=[]) 99 (fun y : Nat × List (Int × Int)=>[(4,ints F1),(5,ints F2),(6,intss (natLL L)),(7,.gl (.loc 2) 3 y.1),(8,.ptr (.loc 0) 0),(29,intss (natLL L)),(30,I L.length),(31,I y.1)]) (fun y=>[.cells true [.map (.loc 1)],.map (esM y.2),.flat true (((shL L O O).take y.1).flatMap encSh)]) (fun y=>y.1 ≤ L.length ∧ ∀ j,mget y.2 j = many j (O.take y.1)) (fun y=>L.length - y.1) (0,[]) ⟨Nat.zero_le _,fun j=>rfl⟩ ?_ ?_
  · rw [← hLl]
    conv=>whnf
    refine Retell.turn ⟨[1,0,2],2,[],[]⟩ (TurnOk.mk' _ _ [] [] (OutOk.lift _) rfl (by decide) zb trivial trivial rfl) zw zm
  · rintro ⟨k,a⟩ ⟨y1,y2⟩
    dsimp only at y1 y2
    rcases Nat.lt_or_ge k L.length with hk|hk
    · have hlk : L[k]? = some (L.getD k []):=by rw [List.getD_eq_getElem?_getD,List.getElem?_eq_getElem hk];rfl
      have hmem : L.getD k [] ∈ L:=List.mem_of_getElem? hlk
      have hSk:=hSat k hk
      have hok : at0 O k = ownr (lowT F1 (L.getD k [])) (lowT F2 (L.getD k [])):=by
        rw [hO]
        unfold at0
        rw [List.getD_eq_getElem?_getD,List.getElem?_map,hlk];rfl
      have hnk : (natLL L)[k]? = some (natI (L.getD k [])):=by unfold natLL;rw [List.getElem?_map,hlk];rfl
      have hin:=hin _ hmem
      have hne:=hne _ hmem
      have hsnoc : (shL L O O).take (k + 1) = (shL L O O).take k ++ [⟨(((L.getD k []).headD 0 : Nat) : Int),at0 O k,decide (at0 O k = 1 ∨ at0 O k = 2)⟩]:=by rw [List.take_add_one,hSk];rfl
      have hmsnoc : ∀ j,many j (O.take (k + 1)) = many j (O.take k) + (if at0 O k = j then 1 else 0):=fun j=>by
        rw [List.take_add_one,at0_get (l:=O) (n:=k) (by omega)]
        exact many_snoc j _ _
      have hnat:=fun i hi=>natI_at (ks:=L.getD k []) (i:=i) hi
      have hnl:=natI_len (L.getD k [])
      have hhead : (L.getD k []).headD 0 = (L.getD k []).getD 0 0:=by cases L.getD k [] <;> rfl
      rw [hhead] at hsnoc
      clear hlk hmem hSk
      generalize L.getD k [] = l at *
      generalize natI l = nl at *
      have hmb:=many_bd (at0 O k) (O.take k)
      rw [List.length_take] at hmb
      conv=>whnf
      repeat' (first|((first|refine zs1 ?_|refine zs2 ?_|refine zs3 ?_|refine zs4 ?_|refine zs5 ?_);conv=>whnf)|((first|apply zi1|apply zi2|apply zi3|apply zi4|apply zi5) <;> intro _ <;> first|(exfalso;omega)|contradiction|(conv=>whnf))|(refine VAny.ix encL_len k (by omega) (by omega) hnk ?_;conv=>whnf))
      refine VCode.lpC (outer:=h.lift) (marks:=[]) 99 (fun j : Nat=>[(4,ints F1),(5,ints F2),(6,intss (natLL L)),(7,.gl (.loc 2) 3 k),(8,.ptr (.loc 0) 0),(29,intss (natLL L)),(30,I L.length),(31,I k),(10,ints nl),(11,I (lowT F1 (l.take j))),(12,I (lowT F2 (l.take j))),(35,ints nl),(36,I l.length),(37,I j)]) (fun j=>[.cells true [.map (.loc 1)],.map (esM a),.flat true (((shL L O O).take k).flatMap encSh)]) (fun j=>j ≤ l.length) (fun j=>l.length - j) 0 (Nat.zero_le _) ?_ ?_
      · rw [← hnl]
        conv=>whnf
        refine Retell.turn ⟨[0,1,2],3,[],[]⟩ (TurnOk.mk' _ _ [] [] (OutOk.lift _) rfl (by decide) zb trivial trivial rfl) zw zm
      · rintro j hj
        rcases Nat.lt_or_ge j l.length with hjl|hjl
        · have hn:=hnat j hjl
          have hnc : l.getD j 0 < c.length:=by
            refine hin _ ?_
            rw [List.getD_eq_getElem?_getD,List.getElem?_eq_getElem hjl]
            exact List.getElem_mem hjl
          have htk : l.take (j + 1) = l.take j ++ [l.getD j 0]:=by
            rw [List.take_add_one,List.getD_eq_getElem?_getD,List.getElem?_eq_getElem hjl];rfl
          have hl1:=lowT_step F1 (l.take j) (l.getD j 0)
          have hl2:=lowT_step F2 (l.take j) (l.getD j 0)
          rw [← htk] at hl1 hl2
          have hf1:=at0_get (l:=F1) (n:=l.getD j 0) (by omega)
          have hf2:=at0_get (l:=F2) (n:=l.getD j 0) (by omega)
          generalize l.getD j 0 = n at *
          generalize at0 F1 n = u at *
          generalize at0 F2 n = v at *
          generalize lowT F1 (l.take j) = p at *
          generalize lowT F2 (l.take j) = q at *
          have cL1:=fun h=>vc_least [p,u] h (by simp)
          have cL2:=fun h=>vc_least [q,v] h (by simp)
          rw [ls1_least] at cL1 cL2
          rw [← hl1] at cL1
          rw [← hl2] at cL2
          conv=>whnf
          repeat' (first|((first|refine zs1 ?_|refine zs2 ?_|refine zs3 ?_|refine zs4 ?_|refine zs5 ?_);conv=>whnf)|((first|apply zi1|apply zi2|apply zi3|apply zi4|apply zi5) <;> intro _ <;> conv=>whnf)|(refine VAny.ix encI_len j rfl (by omega) hn ?_;conv=>whnf))
          all_goals try (exfalso;omega)
          refine zs6 [(6,11)] ?_
          conv=>whnf
          repeat' (first|((first|refine zs1 ?_|refine zs2 ?_|refine zs3 ?_|refine zs4 ?_|refine zs5 ?_);conv=>whnf)|((first|apply zi1|apply zi2|apply zi3|apply zi4|apply zi5) <;> intro _ <;> conv=>whnf)|(refine VAny.ix encI_len n rfl (by omega) hf1 ?_;conv=>whnf))
          refine VCall.intro (VC.give (args':=[ints [p,u]]) (loc':=[.cells true [.map (.loc 1)],.map (esM a),.flat true (((shL L O O).take k).flatMap encSh),.dead]) [(3,[p,u].flatMap Vm.encI)] [] (OutOk.lift _) zb zf (by exact FmAll.nil) rfl zw (cL1 _)) ?_
          conv=>whnf
          repeat' (first|((first|refine zs1 ?_|refine zs2 ?_|refine zs3 ?_|refine zs4 ?_|refine zs5 ?_);conv=>whnf)|((first|apply zi1|apply zi2|apply zi3|apply zi4|apply zi5) <;> intro _ <;> conv=>whnf)|(refine VAny.ix encI_len n rfl (by omega) hf2 ?_;conv=>whnf))
          refine VCall.intro (VC.give (args':=[ints [q,v]]) (loc':=[.cells true [.map (.loc 1)],.map (esM a),.flat true (((shL L O O).take k).flatMap encSh),.dead,.dead]) [(4,[q,v].flatMap Vm.encI)] [] (OutOk.lift _) zb zf (by exact FmAll.nil) rfl zw (cL2 _)) ?_
          conv=>whnf
          repeat' (first|((first|refine zs1 ?_|refine zs2 ?_|refine zs3 ?_|refine zs4 ?_|refine zs5 ?_);conv=>whnf)|((first|apply zi1|apply zi2|apply zi3|apply zi4|apply zi5) <;> intro _ <;> conv=>whnf))
          refine LEnd.intro (j + 1) (by omega) (by omega) ?_
          generalize lowT F1 (l.take (j + 1)) = p2
          generalize lowT F2 (l.take (j + 1)) = q2
          conv=>whnf
          refine Retell.turn ⟨[0,1,2],5,[],[]⟩ (TurnOk.mk' _ _ [] [] (OutOk.lift _) rfl (by decide) zb trivial trivial rfl) zw zm
        · obtain rfl : j = l.length:=by omega
          rw [List.take_of_length_le (Nat.le_refl _)]
          have hn:=hnat 0 hne.1
          have cN:=fun h=>vc_nearer (lowT F1 l) (lowT F2 l) h
          rw [← hok] at cN
          have hbd:=ownr_bd (lowT F1 l) (lowT F2 l)
          rw [← hok] at hbd
          generalize lowT F1 l = p at *
          generalize lowT F2 l = q at *
          generalize at0 O k = w at *
          generalize l.getD 0 0 = n0 at *
          have hlk:=look_esM a w
          rw [y2] at hlk
          have hmp:=mget_put a w (many w (O.take k) + 1)
          obtain ⟨cw,hcw⟩ : ∃ cw,cw = many w (O.take k):=⟨_,rfl⟩
          rw [← hcw] at hlk hmp hmb
          have hst : ((shL L O O).take k).length = k:=by rw [List.length_take];omega
          conv=>whnf
          repeat' (first|((first|refine zs1 ?_|refine zs2 ?_|refine zs3 ?_|refine zs4 ?_|refine zs5 ?_);conv=>whnf)|((first|apply zi1|apply zi2|apply zi3|apply zi4|apply zi5) <;> intro _ <;> conv=>whnf))
          all_goals try (exfalso;omega)
          refine zs6 [(2,5)] ?_
          conv=>whnf
          repeat' (first|((first|refine zs1 ?_|refine zs2 ?_|refine zs3 ?_|refine zs4 ?_|refine zs5 ?_);conv=>whnf)|((first|apply zi1|apply zi2|apply zi3|apply zi4|apply zi5) <;> intro _ <;> conv=>whnf)|(refine VAny.ix encI_len 0 rfl (by omega) hn ?_;conv=>whnf)|(refine VCall.intro (cN _) ?_;conv=>whnf))
          refine zs6 [] ?_
          conv=>whnf
          repeat' (first|((first|refine zs1 ?_|refine zs2 ?_|refine zs3 ?_|refine zs4 ?_|refine zs5 ?_);conv=>whnf)|((first|apply zi1|apply zi2|apply zi3|apply zi4|apply zi5) <;> intro _ <;> conv=>whnf)|(refine VAny.ix encI_len 0 rfl (by omega) hn ?_;conv=>whnf)|(refine VAgg.intro (vneSh _ _ _ _ _ _) ?_;conv=>whnf))
          · have hnr : decide (w = 1 ∨ w = 2) = (w != 3):=by
              rename_i hh
              rw [Bool.eq_iff_iff]
              simp at hh ⊢
              omega
            rw [hnr] at hsnoc
            refine VLook.intro rfl hlk ?_
            conv=>whnf
            repeat' (first|((first|refine zs1 ?_|refine zs2 ?_|refine zs3 ?_|refine zs4 ?_|refine zs5 ?_);conv=>whnf)|((first|apply zi1|apply zi2|apply zi3|apply zi4|apply zi5) <;> intro _ <;> conv=>whnf))
            refine VMem.putM rfl ?_
            conv=>whnf
            repeat' (first|((first|refine zs1 ?_|refine zs2 ?_|refine zs3 ?_|refine zs4 ?_|refine zs5 ?_);conv=>whnf)|((first|apply zi1|apply zi2|apply zi3|apply zi4|apply zi5) <;> intro _ <;> conv=>whnf))
            refine VMem.app1 (l:=(shL L O O).take k) ⟨(n0 : Int),w,(w != 3)⟩ encSh_len rfl rfl rfl hst.symm rfl (by omega) ?_
            rw [← hsnoc]
            conv=>whnf
            repeat' (first|((first|refine zs1 ?_|refine zs2 ?_|refine zs3 ?_|refine zs4 ?_|refine zs5 ?_);conv=>whnf)|((first|apply zi1|apply zi2|apply zi3|apply zi4|apply zi5) <;> intro _ <;> conv=>whnf))
            refine LEnd.intro (k + 1,mput a w (cw + 1)) ⟨by dsimp only;omega,fun j=>?_⟩ (by dsimp only;omega) ?_
            · dsimp only
              rw [hmp,y2,hmsnoc]
              by_cases hjw : j = w
              · subst hjw;rw [if_pos rfl,if_pos rfl,hcw]
              · have hjw2 : ¬ w = j:=fun e=>hjw e.symm
                rw [if_neg hjw,if_neg hjw2];omega
            · generalize mput a w (cw + 1) = a2
              generalize (shL L O O).take (k + 1) = S2
              conv=>whnf
              refine Retell.turn ⟨[0,1,5],6,[],[]⟩ (TurnOk.mk' _ _ [] [] (OutOk.lift _) rfl (by decide) zb trivial trivial rfl) zw zm
          · have hnr : decide (w = 1 ∨ w = 2) = false:=by
              rename_i hh
              rw [Bool.eq_iff_iff]
              simp at hh ⊢
              omega
            rw [hnr] at hsnoc
            refine VLook.intro rfl hlk ?_
            conv=>whnf
            repeat' (first|((first|refine zs1 ?_|refine zs2 ?_|refine zs3 ?_|refine zs4 ?_|refine zs5 ?_);conv=>whnf)|((first|apply zi1|apply zi2|apply zi3|apply zi4|apply zi5) <;> intro _ <;> conv=>whnf))
            refine VMem.putM rfl ?_
            conv=>whnf
            repeat' (first|((first|refine zs1 ?_|refine zs2 ?_|refine zs3 ?_|refine zs4 ?_|refine zs5 ?_);conv=>whnf)|((first|apply zi1|apply zi2|apply zi3|apply zi4|apply zi5) <;> intro _ <;> conv=>whnf))
            refine VMem.app1 (l:=(shL L O O).take k) ⟨(n0 : Int),w,false⟩ encSh_len rfl rfl rfl hst.symm rfl (by omega) ?_
            rw [← hsnoc]
            conv=>whnf
            repeat' (first|((first|refine zs1 ?_|refine zs2 ?_|refine zs3 ?_|refine zs4 ?_|refine zs5 ?_);conv=>whnf)|((first|apply zi1|apply zi2|apply zi3|apply zi4|apply zi5) <;> intro _ <;> conv=>whnf))
            refine LEnd.intro (k + 1,mput a w (cw + 1)) ⟨by dsimp only;omega,fun j=>?_⟩ (by dsimp only;omega) ?_
            · dsimp only
              rw [hmp,y2,hmsnoc]
              by_cases hjw : j = w
              · subst hjw;rw [if_pos rfl,if_pos rfl,hcw]
              · have hjw2 : ¬ w = j:=fun e=>hjw e.symm
                rw [if_neg hjw,if_neg hjw2];omega
            · generalize mput a w (cw + 1) = a2
              generalize (shL L O O).take (k + 1) = S2
              conv=>whnf
              refine Retell.turn ⟨[0,1,5],6,[],[]⟩ (TurnOk.mk' _ _ [] [] (OutOk.lift _) rfl (by decide) zb trivial trivial rfl) zw zm
    · obtain rfl : k = L.length:=by omega
      rw [List.take_of_length_le (by omega)] at y2
      have hOb : ∀ i,0 ≤ at0 O i + 1:=fun i=>by
        rcases Nat.lt_or_ge i L.length with hi|hi
        · have hok : at0 O i = ownr (lowT F1 (L.getD i [])) (lowT F2 (L.getD i [])):=by
            rw [hO]
            unfold at0
            rw [List.getD_eq_getElem?_getD,List.getElem?_map,List.getD_eq_getElem?_getD,List.getElem?_eq_getElem hi];rfl
          have:=ownr_bd (lowT F1 (L.getD i [])) (lowT F2 (L.getD i []))
          omega
        · rw [at0_out (by omega)];omega
      have hrl:=rgK_len O
      have hrs:=rgK_step O
      rw [hOl] at hrl ⊢
      conv=>whnf
      repeat' (first|((first|refine zs1 ?_|refine zs2 ?_|refine zs3 ?_|refine zs4 ?_|refine zs5 ?_);conv=>whnf)|((first|apply zi1|apply zi2|apply zi3|apply zi4|apply zi5) <;> intro _ <;> first|(exfalso;omega)|contradiction|(conv=>whnf)))
      refine VCode.lpC (outer:=h.lift) (marks:=[]) 99 (fun y : Nat × List (Int × Int)=>[(6,intss (natLL L)),(7,.gl (.loc 2) 3 L.length),(8,.ptr (.loc 0) 0),(16,.ptr (.loc 3) 0),(88,I L.length),(89,I y.1)]) (fun y=>[.cells true [.map (.loc 1)],.map (esM y.2),.flat true ((shL L O (rgK O y.1)).flatMap encSh),.cells true [.func (.func 131) [] [.ptr (.loc 0) 0]]]) (fun y=>y.1 ≤ L.length ∧ (mget y.2 1 = many 1 (rgK O y.1) ∧ mget y.2 2 = many 2 (rgK O y.1))) (fun y=>L.length - y.1) (0,a) ⟨Nat.zero_le _,y2 1,y2 2⟩ ?_ ?_
      · rw [show rgK O 0 = O from rfl,List.take_of_length_le (by omega)]
        conv=>whnf
        refine Retell.turn ⟨[0,1,2,3],4,[],[]⟩ (TurnOk.mk' _ _ [] [] (OutOk.lift _) rfl (by decide) zb trivial trivial rfl) zw zm
      · rintro ⟨i,a⟩ ⟨z1,z2,z3⟩
        dsimp only at z1 z2 z3
        rcases Nat.lt_or_ge i L.length with hi|hi
        · have hri:=hrl i
          have hSi:=shL_at (L:=L) (O:=O) (own:=rgK O i) (i:=i) hOl hri hi
          have hset:=fun v=>shL_set (L:=L) (O:=O) (own:=rgK O i) (i:=i) v hOl hri hSi
          have hms:=fun k v h3 hk=>many_set (l:=rgK O i) (i:=i) (k:=k) (v:=v) (by omega) h3 hk
          have hb1:=many_bd 1 (rgK O i)
          have hb2:=many_bd 2 (rgK O i)
          have hrs:=hrs i
          unfold rg1 at hrs
          have hgv:=fun h=>vc_given a (.loc 0) (.loc 1) h
          rw [z2,z3] at hgv
          generalize rgK O i = U at *
          obtain ⟨r,hr⟩ : ∃ r,r = at0 U i:=⟨_,rfl⟩
          rw [← hr] at hSi hrs hms hset
          generalize (((L.getD i []).headD 0 : Nat) : Int) = f at hSi hset
          generalize decide (at0 O i = 1 ∨ at0 O i = 2) = nr at hSi hset
          by_cases hr3 : r = 3
          · rw [if_pos hr3] at hrs
            obtain ⟨v,hv⟩ : ∃ v : Int,v = (if many 2 U < many 1 U then 2 else 1):=⟨_,rfl⟩
            rw [← hv] at hrs hgv
            have hv12 : v = 1 ∨ v = 2:=by rw [hv];split <;> omega
            have hset:=hset v
            rw [← hrs] at hset
            have hm1:=hms 1 v hr3 (by decide)
            have hm2:=hms 2 v hr3 (by decide)
            rw [← hrs] at hm1 hm2
            have hlk:=look_esM a v
            have hmp:=mget_put a v (mget a v + 1)
            have hmv : mget a v = many v U:=by rcases hv12 with h|h <;> rw [h] <;> assumption
            have hmb : 0 ≤ mget a v ∧ mget a v ≤ U.length:=by rw [hmv];exact many_bd v U
            have hl2 : ((shL L O U).set i ⟨f,v,nr⟩)[i]? = some ⟨f,v,nr⟩:=List.getElem?_set_self (List.getElem?_eq_some_iff.1 hSi).1
            clear hms hv
            obtain ⟨cv,hcv⟩ : ∃ cv,cv = mget a v:=⟨_,rfl⟩
            rw [← hcv] at hlk hmp hmb hmv
            obtain ⟨S2,hS2⟩ : ∃ S,S = shL L O (rgK O (i + 1)):=⟨_,rfl⟩
            rw [← hS2] at hset
            generalize shL L O U = S1 at *
            conv=>whnf
            repeat' (first|((first|refine zs1 ?_|refine zs2 ?_|refine zs3 ?_|refine zs4 ?_|refine zs5 ?_);conv=>whnf)|((first|apply zi1|apply zi2|apply zi3|apply zi4|apply zi5) <;> intro _ <;> conv=>whnf)|(refine VLd.recc (d:=DI r) encSh_len i 1 rfl rfl rfl hSi (by decide) rfl (by simp) ?_;conv=>whnf)|(refine VCall.intro (hgv _ rfl rfl) ?_;conv=>whnf))
            all_goals try (exfalso;omega)
            refine VMem.setRec encSh_len i 1 ⟨f,v,nr⟩ rfl rfl rfl hSi (by decide) rfl (by simp) ?_
            conv=>whnf
            repeat' (first|((first|refine zs1 ?_|refine zs2 ?_|refine zs3 ?_|refine zs4 ?_|refine zs5 ?_);conv=>whnf)|((first|apply zi1|apply zi2|apply zi3|apply zi4|apply zi5) <;> intro _ <;> conv=>whnf))
            refine zs6 [] ?_
            conv=>whnf
            repeat' (first|((first|refine zs1 ?_|refine zs2 ?_|refine zs3 ?_|refine zs4 ?_|refine zs5 ?_);conv=>whnf)|((first|apply zi1|apply zi2|apply zi3|apply zi4|apply zi5) <;> intro _ <;> conv=>whnf)|(refine VLd.recc (d:=DI v) encSh_len i 1 rfl rfl rfl hl2 (by decide) rfl (by simp) ?_;conv=>whnf)|(refine VLook.intro rfl hlk ?_;conv=>whnf))
            refine VMem.putM rfl ?_
            rw [← hset]
            conv=>whnf
            repeat' (first|((first|refine zs1 ?_|refine zs2 ?_|refine zs3 ?_|refine zs4 ?_|refine zs5 ?_);conv=>whnf)|((first|apply zi1|apply zi2|apply zi3|apply zi4|apply zi5) <;> intro _ <;> conv=>whnf))
            refine LEnd.intro (i + 1,mput a v (cv + 1)) ⟨by dsimp only;omega,?_,?_⟩ (by dsimp only;omega) ?_
            · dsimp only
              rw [hmp,hm1]
              rcases hv12 with hv1|hv1
              · rw [hv1] at hmv ⊢
                rw [if_pos rfl,if_pos rfl,hmv]
              · rw [hv1]
                rw [if_neg (by decide),if_neg (by decide),z2];omega
            · dsimp only
              rw [hmp,hm2]
              rcases hv12 with hv1|hv1
              · rw [hv1]
                rw [if_neg (by decide),if_neg (by decide),z3];omega
              · rw [hv1] at hmv ⊢
                rw [if_pos rfl,if_pos rfl,hmv]
            · generalize mput a v (cv + 1) = a2
              dsimp only
              rw [hS2]
              conv=>whnf
              refine Retell.turn ⟨[0,1,2,3],4,[],[]⟩ (TurnOk.mk' _ _ [] [] (OutOk.lift _) rfl (by decide) zb trivial trivial rfl) zw zm
          · rw [if_neg hr3] at hrs
            conv=>whnf
            repeat' (first|((first|refine zs1 ?_|refine zs2 ?_|refine zs3 ?_|refine zs4 ?_|refine zs5 ?_);conv=>whnf)|((first|apply zi1|apply zi2|apply zi3|apply zi4|apply zi5) <;> intro _ <;> first|(exfalso;omega)|contradiction|(conv=>whnf))|(refine VLd.recc (d:=DI r) encSh_len i 1 rfl rfl rfl hSi (by decide) rfl (by simp) ?_;conv=>whnf))
            refine LEnd.intro (i + 1,a) ⟨by dsimp only;omega,by dsimp only;rw [hrs];exact z2,by dsimp only;rw [hrs];exact z3⟩ (by dsimp only;omega) ?_
            dsimp only
            rw [hrs]
            conv=>whnf
            refine Retell.turn ⟨[0,1,2,3],4,[],[]⟩ (TurnOk.mk' _ _ [] [] (OutOk.lift _) rfl (by decide) zb trivial trivial rfl) zw zm
        · obtain rfl : i = L.length:=by omega
          have hRl : (shL L O (rgK O L.length)).length = L.length:=shL_len hOl (hrl _)
          generalize shL L O (rgK O L.length) = S at *
          rw [show shs S = .fs 3 L.length (S.flatMap encSh) by unfold shs;rw [hRl]]
          have hRf : (S.flatMap encSh).length = L.length * 3:=by rw [flat_len encSh_len,hRl]
          conv=>whnf
          repeat' (first|((first|refine zs1 ?_|refine zs2 ?_|refine zs3 ?_|refine zs4 ?_|refine zs5 ?_);conv=>whnf)|((first|apply zi1|apply zi2|apply zi3|apply zi4|apply zi5) <;> intro _ <;> first|(exfalso;omega)|contradiction|(conv=>whnf)))
          refine VOut.data 4 [(2,S.flatMap encSh)] [] rfl zf (by exact FmAll.nil) zw
end Go.Proofs.YtkbbfeljlepgoaaGreat

open Go.Vm
open Riv
namespace Go.Proofs.YtkbbfeljlepgoaaGreat
set_option maxRecDepth 20000
set_option maxHeartbeats 4000000

def owS (c F1 F2 : List Int) (out : List Int) (n : Nat) : List Int:=if at0 c n = 0 then out.set n (ownr (at0 F1 n) (at0 F2 n)) else out
def owK (c F1 F2 : List Int) (k : Nat) : List Int:=(List.range k).foldl (owS c F1 F2) c
theorem owK_step (c F1 F2 : List Int) (k : Nat) : owK c F1 F2 (k + 1) = owS c F1 F2 (owK c F1 F2 k) k:=by unfold owK;rw [List.range_succ,List.foldl_append];rfl
theorem owK_len (c F1 F2 : List Int) (k : Nat) : (owK c F1 F2 k).length = c.length:=fold_len (fun T n=>by unfold owS;split <;> simp) _ _
theorem owK_at (c F1 F2 : List Int) : ∀ k j,j < c.length → at0 (owK c F1 F2 k) j = if j < k ∧ at0 c j = 0 then ownr (at0 F1 j) (at0 F2 j) else at0 c j
  | 0,j,_=>by rw [if_neg (by omega)];rfl
  | k + 1,j,hj=>by
    have ih:=owK_at c F1 F2 k j hj
    have hl:=owK_len c F1 F2 k
    rw [owK_step]
    generalize owK c F1 F2 k = U at *
    unfold owS
    by_cases h0 : at0 c k = 0
    · rw [if_pos h0]
      by_cases hk : k < c.length
      · rw [at0_set (by omega)]
        by_cases e : j = k
        · subst e;rw [if_pos rfl,if_pos ⟨by omega,h0⟩]
        · rw [if_neg e,ih]
          have : (j < k ∧ at0 c j = 0) ↔ (j < k + 1 ∧ at0 c j = 0):=by omega
          simp only [this]
      · rw [List.set_eq_of_length_le (by omega),ih]
        have : (j < k ∧ at0 c j = 0) ↔ (j < k + 1 ∧ at0 c j = 0):=by omega
        simp only [this]
    · rw [if_neg h0,ih]
      have : (j < k ∧ at0 c j = 0) ↔ (j < k + 1 ∧ at0 c j = 0):=by
        constructor
        · intro h;exact ⟨by omega,h.2⟩
        · intro h
          refine ⟨?_,h.2⟩
          rcases Nat.lt_or_ge j k with h1|h1
          · exact h1
          · have : j = k:=by omega
            subst this;exact absurd h.2 h0
      simp only [this]
theorem owK_all (c : List Int) (W : Nat) : owK c (bfs c W 1) (bfs c W 2) c.length = ownW c W:=by
  have hl:=owK_len c (bfs c W 1) (bfs c W 2) c.length
  refine ext0 (by rw [hl,ownW_len]) fun n hn=>?_
  rw [hl] at hn
  rw [owK_at c _ _ _ n hn,at0_ownW hn]
  by_cases h0 : at0 c n = 0
  · rw [if_pos ⟨hn,h0⟩,if_pos h0]
  · rw [if_neg (fun h=>h0 h.2),if_neg h0]
def ostK (L : List (List Nat)) (G base : List Int) (i : Nat) : List Int:=((L.zip G).take i).foldl (fun out x=>setAll out x.1 x.2) base
theorem ostK_step {L : List (List Nat)} {G base : List Int} {i : Nat} (hG : G.length = L.length) (hi : i < L.length) : ostK L G base (i + 1) = setAll (ostK L G base i) (L.getD i []) (at0 G i):=by
  have h1 : (L.zip G)[i]? = some (L.getD i [],at0 G i):=by
    unfold at0
    rw [List.zip,List.getElem?_zipWith,List.getElem?_eq_getElem hi,List.getElem?_eq_getElem (show i < G.length by omega),List.getD_eq_getElem?_getD,List.getElem?_eq_getElem hi,List.getD_eq_getElem?_getD,List.getElem?_eq_getElem (show i < G.length by omega)]
    rfl
  unfold ostK
  rw [List.take_add_one,h1,List.foldl_append];rfl
theorem ostK_len (L : List (List Nat)) (G base : List Int) (i : Nat) : (ostK L G base i).length = base.length:=fold_set_len _ _
theorem ostK_all {c : List Int} {W : Nat} (hG : (ownI c W).length = (isl c W).length) : ostK (isl c W) (ownI c W) (ownW c W) (isl c W).length = owns c W:=by
  unfold ostK owns
  rw [List.take_of_length_le (by rw [List.length_zip];omega)]
theorem setAll_step (out : List Int) (l : List Nat) (o : Int) (n : Nat) : setAll out (l ++ [n]) o = (setAll out l o).set n o:=by unfold setAll;rw [List.foldl_append];rfl
theorem vc_cloneI (l : List Int) (h : Hp) (h0 : 0 < l.length) (hl : l.length ≤ 4000000) : VC Tryz.prog 97 [ints l] h (.gl h.fresh 1 l.length) (h.push (.flat true (l.flatMap Vm.encI))):=by
  refine VC.body Tryz.func97 rfl Tryz.ntmps97 Tryz.call97 (h.grows_push _) rfl ?_;conv=>whnf
  repeat' (first|((first|refine zs1 ?_|refine zs2 ?_|refine zs3 ?_|refine zs4 ?_|refine zs5 ?_);conv=>whnf)|((first|apply zi1|apply zi2|apply zi3|apply zi4|apply zi5) <;> intro _ <;> conv=>whnf))
  refine VMem.appN (l:=([] : List Int)) Vm.encI_len rfl rfl rfl rfl rfl (by show 0 + l.length ≤ _;omega) ?_
  conv=>whnf
  repeat' (first|((first|refine zs1 ?_|refine zs2 ?_|refine zs3 ?_|refine zs4 ?_|refine zs5 ?_);conv=>whnf)|((first|apply zi1|apply zi2|apply zi3|apply zi4|apply zi5) <;> intro _ <;> conv=>whnf))
  show VOut h _ (.gl (.loc 1) 1 (0 + l.length)) _ _
  rw [Nat.zero_add]
  exact VOut.own1 (h:=h) (loc:=[.dead,.flat true (l.flatMap Vm.encI)]) (ds:=l.flatMap Vm.encI) 1 2 rfl rfl
theorem vc_owners {W H : Nat} (m : Mp) (h : Hp) (o : MOk W H m.c) (hw : m.w = W) : VC Tryz.prog 58 [vM m] h (ints (owns m.c W)) h:=by
  have hWb:=o.w
  have hHb:=o.h
  have hL:=o.len
  have hm144:=MOk.le o
  have hpos : 0 < m.c.length:=by rw [hL];exact Nat.mul_pos (by omega) (by omega)
  have cT1:=fun h=>vc_table m 1 h o hw (.inl rfl)
  have cT2:=fun h=>vc_table m 2 h o hw (.inr rfl)
  have cI:=fun h=>vc_islands m h o hw
  have hb1 : (bfs m.c W 1).length = m.c.length:=bfsK_len _ _ _ _
  have hb2 : (bfs m.c W 2).length = m.c.length:=bfsK_len _ _ _ _
  have hin:=isl_in (c:=m.c) (W:=W) (by omega) hL (by omega)
  have hne:=fun l hl=>isl_ne (c:=m.c) (W:=W) (l:=l) (by omega) hL (by omega) hl
  have hol:=ownI_len (c:=m.c) (W:=W) (by omega) hL (by omega)
  have hGl : (ownI m.c W).length = (isl m.c W).length ∧ (own0 m.c W).length = (isl m.c W).length:=by
    have : (own0 m.c W).length = (isl m.c W).length:=by unfold own0;rw [List.length_map]
    omega
  have hE:=ostK_all (c:=m.c) (W:=W) hGl.1
  have hW1:=owK_all m.c W
  rw [← hE]
  have hSh : ∀ i,i < (isl m.c W).length → (shr m.c W)[i]? = some ⟨((((isl m.c W).getD i []).headD 0 : Nat) : Int),at0 (ownI m.c W) i,decide (at0 (own0 m.c W) i = 1 ∨ at0 (own0 m.c W) i = 2)⟩:=fun i hi=>by rw [shr_shL];exact shL_at hGl.2 hGl.1 hi
  have hShl : (shr m.c W).length = (isl m.c W).length:=by rw [shr_shL];exact shL_len hGl.2 hGl.1
  have hil:=isl_len (c:=m.c) (W:=W) (by omega) hL
  have hos:=fun i hi=>ostK_step (L:=isl m.c W) (G:=ownI m.c W) (base:=ownW m.c W) (i:=i) hGl.1 hi
  have hot:=ostK_len (isl m.c W) (ownI m.c W) (ownW m.c W)
  have h0s : ostK (isl m.c W) (ownI m.c W) (ownW m.c W) 0 = ownW m.c W:=rfl
  rw [ownW_len] at hot
  rw [← hW1] at hot hos h0s ⊢
  generalize shr m.c W = S at *
  generalize ownI m.c W = G at *
  generalize own0 m.c W = O at *
  generalize isl m.c W = L at *
  have hks:=owK_step m.c (bfs m.c W 1) (bfs m.c W 2)
  have hkl:=owK_len m.c (bfs m.c W 1) (bfs m.c W 2)
  clear hE hW1
  generalize bfs m.c W 1 = F1 at *
  generalize bfs m.c W 2 = F2 at *
  obtain ⟨mw,mh,c⟩:=m
  dsimp only at *
  subst hw
  have hLl : (natLL L).length = L.length:=by unfold natLL;rw [List.length_map]
  have cC:=fun h=>vc_cloneI c h hpos (by omega)
  show VC Tryz.prog 58 [.agg [I W,I mh,ints c]] h _ h
  refine VC.bodyC 2 Tryz.func58 rfl Tryz.ntmps58 Tryz.call58 (h.grows_refl) rfl ?_
  conv=>whnf
  repeat' (first|((first|refine zs1 ?_|refine zs2 ?_|refine zs3 ?_|refine zs4 ?_|refine zs5 ?_);conv=>whnf)|((first|apply zi1|apply zi2|apply zi3|apply zi4|apply zi5) <;> intro _ <;> conv=>whnf))
  refine zs6 [(2,3)] ?_
  conv=>whnf
  repeat' (first|((first|refine zs1 ?_|refine zs2 ?_|refine zs3 ?_|refine zs4 ?_|refine zs5 ?_);conv=>whnf)|((first|apply zi1|apply zi2|apply zi3|apply zi4|apply zi5) <;> intro _ <;> conv=>whnf)|(refine VCall.intro (cT1 _) ?_;conv=>whnf)|(refine VCall.intro (cT2 _) ?_;conv=>whnf))
  refine VCut.at' (outer:=h.lift) (marks:=[]) 99 [(1,.fp [DI W,DI mh,dints c]),(3,ints F1),(4,ints F2)] [] ?_ ?_
  · conv=>whnf
    refine Retell.turn ⟨[],1,[(0,[DI W,DI mh,dints c])],[]⟩ (TurnOk.mk' _ _ [(0,[DI W,DI mh,dints c])] [] (OutOk.lift _) rfl (by decide) zb zf trivial rfl) zw zm
  conv=>whnf
  repeat' (first|((first|refine zs1 ?_|refine zs2 ?_|refine zs3 ?_|refine zs4 ?_|refine zs5 ?_);conv=>whnf)|((first|apply zi1|apply zi2|apply zi3|apply zi4|apply zi5) <;> intro _ <;> conv=>whnf)|(refine VCall.intro (cC _) ?_;conv=>whnf))
  refine VCode.lpC (outer:=h.lift) (marks:=[]) 99 (fun k : Nat=>[(1,.fp [DI W,DI mh,dints c]),(3,ints F1),(4,ints F2),(5,.gl (.loc 0) 1 c.length),(24,ints c),(25,I c.length),(26,I k)]) (fun k=>[.flat true ((owK c F1 F2 k).flatMap Vm.encI)]) (fun k=>k ≤ c.length) (fun k=>c.length - k) 0 (Nat.zero_le _) ?_ ?_
  · rw [show owK c F1 F2 0 = c from rfl]
    conv=>whnf
    refine Retell.turn ⟨[0],1,[],[]⟩ (TurnOk.mk' _ _ [] [] (OutOk.lift _) rfl (by decide) zb trivial trivial rfl) zw zm
  · rintro k hk
    rcases Nat.lt_or_ge k c.length with h3|h3
    · have hx:=at0_get h3
      have hf1:=at0_get (l:=F1) (n:=k) (by omega)
      have hf2:=at0_get (l:=F2) (n:=k) (by omega)
      have hks:=hks k
      have hkl:=hkl k
      generalize owK c F1 F2 k = U at *
      have hu:=at0_get (l:=U) (n:=k) (by omega)
      unfold owS at hks
      have cN:=fun h=>vc_nearer (at0 F1 k) (at0 F2 k) h
      generalize at0 c k = x at *
      generalize at0 F1 k = u at *
      generalize at0 F2 k = v at *
      by_cases hx0 : x = 0
      · rw [if_pos hx0] at hks
        conv=>whnf
        repeat' (first|((first|refine zs1 ?_|refine zs2 ?_|refine zs3 ?_|refine zs4 ?_|refine zs5 ?_);conv=>whnf)|((first|apply zi1|apply zi2|apply zi3|apply zi4|apply zi5) <;> intro _ <;> conv=>whnf)|(refine VAny.ix encI_len k rfl rfl hx ?_;conv=>whnf))
        all_goals try (exfalso;omega)
        refine zs6 [] ?_
        conv=>whnf
        repeat' (first|((first|refine zs1 ?_|refine zs2 ?_|refine zs3 ?_|refine zs4 ?_|refine zs5 ?_);conv=>whnf)|((first|apply zi1|apply zi2|apply zi3|apply zi4|apply zi5) <;> intro _ <;> conv=>whnf)|(refine VAny.ix encI_len k rfl (by omega) hf1 ?_;conv=>whnf)|(refine VAny.ix encI_len k rfl (by omega) hf2 ?_;conv=>whnf)|(refine VCall.intro (cN _) ?_;conv=>whnf)|(refine VMem.setRec encI_len k 0 (ownr u v) rfl rfl rfl hu (by decide) rfl (ofs _) ?_;conv=>whnf))
        refine LEnd.intro (k + 1) (by omega) (by omega) ?_
        rw [hks]
        conv=>whnf
        refine Retell.turn ⟨[0],1,[],[]⟩ (TurnOk.mk' _ _ [] [] (OutOk.lift _) rfl (by decide) zb trivial trivial rfl) zw zm
      · rw [if_neg hx0] at hks
        conv=>whnf
        repeat' (first|((first|refine zs1 ?_|refine zs2 ?_|refine zs3 ?_|refine zs4 ?_|refine zs5 ?_);conv=>whnf)|((first|apply zi1|apply zi2|apply zi3|apply zi4|apply zi5) <;> intro _ <;> first|(exfalso;omega)|contradiction|(conv=>whnf))|(refine VAny.ix encI_len k rfl rfl hx ?_;conv=>whnf))
        refine LEnd.intro (k + 1) (by omega) (by omega) ?_
        rw [hks]
        conv=>whnf
        refine Retell.turn ⟨[0],1,[],[]⟩ (TurnOk.mk' _ _ [] [] (OutOk.lift _) rfl (by decide) zb trivial trivial rfl) zw zm
    · obtain rfl : k = c.length:=by omega
      generalize owK c F1 F2 c.length = B0 at *
      conv=>whnf
      repeat' (first|((first|refine zs1 ?_|refine zs2 ?_|refine zs3 ?_|refine zs4 ?_|refine zs5 ?_);conv=>whnf)|((first|apply zi1|apply zi2|apply zi3|apply zi4|apply zi5) <;> intro _ <;> first|(exfalso;omega)|contradiction|(conv=>whnf))|(refine VCall.intro (cI _) ?_;conv=>whnf))
      refine VCode.lpC (outer:=h.lift) (marks:=[]) 99 (fun i : Nat=>[(5,.gl (.loc 0) 1 c.length),(8,shs S),(9,intss (natLL L)),(51,intss (natLL L)),(52,I L.length),(53,I i)]) (fun i=>[.flat true ((ostK L G B0 i).flatMap Vm.encI)]) (fun i=>i ≤ L.length) (fun i=>L.length - i) 0 (Nat.zero_le _) ?_ ?_
      · rw [← hLl,show ostK L G B0 0 = B0 from rfl]
        conv=>whnf
        refine Retell.turn ⟨[0],1,[],[]⟩ (TurnOk.mk' _ _ [] [] (OutOk.lift _) rfl (by decide) zb trivial trivial rfl) zw zm
      · rintro i hi
        rcases Nat.lt_or_ge i L.length with h4|h4
        · have hlk : L[i]? = some (L.getD i []):=by rw [List.getD_eq_getElem?_getD,List.getElem?_eq_getElem h4];rfl
          have hmem : L.getD i [] ∈ L:=List.mem_of_getElem? hlk
          have hnk : (natLL L)[i]? = some (natI (L.getD i [])):=by unfold natLL;rw [List.getElem?_map,hlk];rfl
          have hin:=hin _ hmem
          have hne:=hne _ hmem
          have hos:=hos i h4
          have hSi:=hSh i h4
          have hot:=hot i
          have hnat:=fun j hj=>natI_at (ks:=L.getD i []) (i:=j) hj
          have hnl:=natI_len (L.getD i [])
          clear hlk hmem
          generalize L.getD i [] = l at *
          generalize natI l = nl at *
          generalize at0 G i = g at *
          generalize decide (at0 O i = 1 ∨ at0 O i = 2) = nr at *
          generalize ((l.headD 0 : Nat) : Int) = f at *
          generalize ostK L G B0 i = U at *
          conv=>whnf
          repeat' (first|((first|refine zs1 ?_|refine zs2 ?_|refine zs3 ?_|refine zs4 ?_|refine zs5 ?_);conv=>whnf)|((first|apply zi1|apply zi2|apply zi3|apply zi4|apply zi5) <;> intro _ <;> first|(exfalso;omega)|contradiction|(conv=>whnf))|(refine VAny.ix encL_len i (by omega) (by omega) hnk ?_;conv=>whnf))
          refine VCode.lpC (outer:=h.lift) (marks:=[]) 99 (fun j : Nat=>[(5,.gl (.loc 0) 1 c.length),(8,shs S),(9,intss (natLL L)),(51,intss (natLL L)),(52,I L.length),(53,I i),(10,I i),(58,ints nl),(59,I l.length),(60,I j)]) (fun j=>[.flat true ((setAll U (l.take j) g).flatMap Vm.encI)]) (fun j=>j ≤ l.length) (fun j=>l.length - j) 0 (Nat.zero_le _) ?_ ?_
          · rw [← hnl,show setAll U (l.take 0) g = U from rfl]
            conv=>whnf
            refine Retell.turn ⟨[0],1,[],[]⟩ (TurnOk.mk' _ _ [] [] (OutOk.lift _) rfl (by decide) zb trivial trivial rfl) zw zm
          · rintro j hj
            rcases Nat.lt_or_ge j l.length with h5|h5
            · have hn:=hnat j h5
              have hnc : l.getD j 0 < c.length:=by
                refine hin _ ?_
                rw [List.getD_eq_getElem?_getD,List.getElem?_eq_getElem h5]
                exact List.getElem_mem h5
              have htk : l.take (j + 1) = l.take j ++ [l.getD j 0]:=by
                rw [List.take_add_one,List.getD_eq_getElem?_getD,List.getElem?_eq_getElem h5];rfl
              have hst:=setAll_step U (l.take j) g (l.getD j 0)
              rw [← htk] at hst
              have hul:=setAll_len (l.take j) U g
              generalize setAll U (l.take j) g = V1 at *
              generalize l.getD j 0 = n at *
              have hu:=at0_get (l:=V1) (n:=n) (by omega)
              conv=>whnf
              repeat' (first|((first|refine zs1 ?_|refine zs2 ?_|refine zs3 ?_|refine zs4 ?_|refine zs5 ?_);conv=>whnf)|((first|apply zi1|apply zi2|apply zi3|apply zi4|apply zi5) <;> intro _ <;> first|(exfalso;omega)|contradiction|(conv=>whnf))|(refine VAny.ix encI_len j rfl (by omega) hn ?_;conv=>whnf)|(refine VAny.ix encSh_len i rfl (by omega) hSi ?_;conv=>whnf)|(refine VMem.setRec encI_len n 0 g rfl rfl rfl hu (by decide) rfl (ofs _) ?_;conv=>whnf))
              refine LEnd.intro (j + 1) (by omega) (by omega) ?_
              rw [hst]
              conv=>whnf
              refine Retell.turn ⟨[0],1,[],[]⟩ (TurnOk.mk' _ _ [] [] (OutOk.lift _) rfl (by decide) zb trivial trivial rfl) zw zm
            · obtain rfl : j = l.length:=by omega
              rw [List.take_of_length_le (Nat.le_refl _),← hos]
              conv=>whnf
              repeat' (first|((first|refine zs1 ?_|refine zs2 ?_|refine zs3 ?_|refine zs4 ?_|refine zs5 ?_);conv=>whnf)|((first|apply zi1|apply zi2|apply zi3|apply zi4|apply zi5) <;> intro _ <;> first|(exfalso;omega)|contradiction|(conv=>whnf)))
              refine LEnd.intro (i + 1) (by omega) (by omega) ?_
              generalize ostK L G B0 (i + 1) = V1
              conv=>whnf
              refine Retell.turn ⟨[0],1,[],[]⟩ (TurnOk.mk' _ _ [] [] (OutOk.lift _) rfl (by decide) zb trivial trivial rfl) zw zm
        · obtain rfl : i = L.length:=by omega
          have hRl:=hot L.length
          generalize ostK L G B0 L.length = R at *
          rw [show ints R = .fs 1 c.length (R.flatMap Vm.encI) by unfold ints;rw [hRl]]
          have hRf : (R.flatMap Vm.encI).length = c.length * 1:=by rw [flat_len encI_len,hRl]
          conv=>whnf
          repeat' (first|((first|refine zs1 ?_|refine zs2 ?_|refine zs3 ?_|refine zs4 ?_|refine zs5 ?_);conv=>whnf)|((first|apply zi1|apply zi2|apply zi3|apply zi4|apply zi5) <;> intro _ <;> first|(exfalso;omega)|contradiction|(conv=>whnf)))
          refine VOut.data 1 [(0,R.flatMap Vm.encI)] [] rfl zf (by exact FmAll.nil) zw
theorem vc_Owners (m : Mp) (h : Hp) (hl : m.c.length ≤ 4000000) : VC Tryz.prog 36 [vM m] h (.tuple [ints (if chkM m = 0 then owns m.c m.w.toNat else []),I (chkM m)]) h:=by
  have c:=fun h=>vc_check m h hl
  by_cases h0 : chkM m = 0
  · obtain ⟨W,H,e1,_,o⟩:=chkM_ok h0
    have cO:=fun h=>vc_owners m h o e1
    rw [if_pos h0,e1,Int.toNat_natCast]
    rw [h0] at c ⊢
    generalize owns m.c W = T at cO
    obtain ⟨mw,mh,mc⟩:=m
    refine VC.body Tryz.func36 rfl Tryz.ntmps36 Tryz.call36 (h.grows_refl) rfl ?_;conv=>whnf
    repeat' (first|((first|refine zs1 ?_|refine zs2 ?_|refine zs3 ?_|refine zs4 ?_|refine zs5 ?_);conv=>whnf)|((first|apply zi1|apply zi2|apply zi3|apply zi4|apply zi5) <;> intro _ <;> first|(exfalso;omega)|contradiction|(conv=>whnf))|(refine VCall.intro (c _) ?_;conv=>whnf)|(refine VCall.intro (cO _) ?_;conv=>whnf))
    exact VOut.same rfl
  · rw [if_neg h0]
    generalize chkM m = E at c h0
    obtain ⟨mw,mh,mc⟩:=m
    refine VC.body Tryz.func36 rfl Tryz.ntmps36 Tryz.call36 (h.grows_refl) rfl ?_;conv=>whnf
    repeat' (first|((first|refine zs1 ?_|refine zs2 ?_|refine zs3 ?_|refine zs4 ?_|refine zs5 ?_);conv=>whnf)|((first|apply zi1|apply zi2|apply zi3|apply zi4|apply zi5) <;> intro _ <;> first|(exfalso;omega)|contradiction|(conv=>whnf))|(refine VCall.intro (c _) ?_;conv=>whnf))
    refine VOut.data 1 [] [] rfl zf (by exact FmAll.nil) zw
theorem vc_Islands (m : Mp) (h : Hp) (hl : m.c.length ≤ 4000000) : VC Tryz.prog 44 [vM m] h (.tuple [shs (if chkM m = 0 then shr m.c m.w.toNat else []),I (chkM m)]) h:=by
  have c:=fun h=>vc_check m h hl
  by_cases h0 : chkM m = 0
  · obtain ⟨W,H,e1,_,o⟩:=chkM_ok h0
    have cO:=fun h=>vc_islands m h o e1
    rw [if_pos h0,e1,Int.toNat_natCast]
    rw [h0] at c ⊢
    generalize shr m.c W = T at cO
    generalize natLL (isl m.c W) = T2 at cO
    obtain ⟨mw,mh,mc⟩:=m
    refine VC.body Tryz.func44 rfl Tryz.ntmps44 Tryz.call44 (h.grows_refl) rfl ?_;conv=>whnf
    repeat' (first|((first|refine zs1 ?_|refine zs2 ?_|refine zs3 ?_|refine zs4 ?_|refine zs5 ?_);conv=>whnf)|((first|apply zi1|apply zi2|apply zi3|apply zi4|apply zi5) <;> intro _ <;> first|(exfalso;omega)|contradiction|(conv=>whnf))|(refine VCall.intro (c _) ?_;conv=>whnf)|(refine VCall.intro (cO _) ?_;conv=>whnf))
    exact VOut.same rfl
  · rw [if_neg h0]
    generalize chkM m = E at c h0
    obtain ⟨mw,mh,mc⟩:=m
    refine VC.body Tryz.func44 rfl Tryz.ntmps44 Tryz.call44 (h.grows_refl) rfl ?_;conv=>whnf
    repeat' (first|((first|refine zs1 ?_|refine zs2 ?_|refine zs3 ?_|refine zs4 ?_|refine zs5 ?_);conv=>whnf)|((first|apply zi1|apply zi2|apply zi3|apply zi4|apply zi5) <;> intro _ <;> first|(exfalso;omega)|contradiction|(conv=>whnf))|(refine VCall.intro (c _) ?_;conv=>whnf))
    refine VOut.data 1 [] [] rfl zf (by exact FmAll.nil) zw
end Go.Proofs.YtkbbfeljlepgoaaGreat

open Go.Vm
open Riv
namespace Go.Proofs.YtkbbfeljlepgoaaGreat
set_option maxRecDepth 20000
set_option maxHeartbeats 4000000

/-! ### Lists that are filled from the left -/
def fill {α : Type} (f : Nat → α) (z : α) (L k : Nat) : List α:=(List.range k).map f ++ List.replicate (L - k) z
theorem fill_zero {α : Type} (f : Nat → α) (z : α) (L : Nat) : fill f z L 0 = List.replicate L z:=rfl
theorem fill_len {α : Type} (f : Nat → α) (z : α) {L k : Nat} (h : k ≤ L) : (fill f z L k).length = L:=by unfold fill;simp;omega
theorem fill_all {α : Type} (f : Nat → α) (z : α) (L : Nat) : fill f z L L = (List.range L).map f:=by unfold fill;rw [Nat.sub_self];simp
theorem fill_at {α : Type} (f : Nat → α) (z : α) {L k : Nat} (h : k < L) : (fill f z L k)[k]? = some z:=by
  unfold fill
  rw [List.getElem?_append_right (by simp)]
  simp only [List.length_map,List.length_range,Nat.sub_self]
  rw [List.getElem?_replicate,if_pos (by omega)]
theorem fill_step {α : Type} (f : Nat → α) (z : α) {L k : Nat} (h : k < L) : fill f z L (k + 1) = (fill f z L k).set k (f k):=by
  have e : List.replicate (L - k) z = z :: List.replicate (L - (k + 1)) z:=by
    rw [show L - k = (L - (k + 1)) + 1 by omega];rfl
  unfold fill
  rw [e,List.set_append_right _ _ (by simp)]
  simp only [List.length_map,List.length_range,Nat.sub_self,List.set_cons_zero]
  rw [List.range_succ,List.map_append];simp
theorem n0_eq (mk : List Bool) : n0 mk = (List.range mk.length).map fun k : Nat=>(bif bat mk k then (k : Int) else -1):=by
  have hl : (n0 mk).length = mk.length:=by unfold n0;simp
  refine ext0 (by rw [hl];simp) fun n hn=>?_
  rw [hl] at hn
  rw [at0_n0]
  unfold at0
  rw [List.getD_eq_getElem?_getD,List.getElem?_map,List.getElem?_range hn];rfl
def ncK (W L : Nat) (T : List Int) (a : Nat) : TB:=(List.range a).foldl (ncell W L) (T,false)
def npK (W a : Nat) (x : TB) (b : Nat) : TB:=(List.range b).foldl (nput W a) x
theorem ncK_step (W L : Nat) (T : List Int) (a : Nat) : ncK W L T (a + 1) = ncell W L (ncK W L T a) a:=by unfold ncK;rw [List.range_succ,List.foldl_append];rfl
theorem npK_step (W a : Nat) (x : TB) (b : Nat) : npK W a x (b + 1) = nput W a (npK W a x b) b:=by unfold npK;rw [List.range_succ,List.foldl_append];rfl
theorem nput_len (W a : Nat) (x : TB) (b : Nat) : (nput W a x b).1.length = x.1.length:=by unfold nput;split <;> simp
theorem npK_len (W a : Nat) (x : TB) : ∀ b,(npK W a x b).1.length = x.1.length
  | 0=>rfl
  | b + 1=>by rw [npK_step,nput_len,npK_len W a x b]
theorem ncK_len (W L : Nat) (T : List Int) : ∀ a,(ncK W L T a).1.length = T.length
  | 0=>rfl
  | a + 1=>by rw [ncK_step];unfold ncell;exact (npK_len W a _ L).trans (ncK_len W L T a)
theorem bat_at {mk : List Bool} {k : Nat} (h : k < mk.length) : mk[k]? = some (bat mk k):=by
  unfold bat;rw [List.getD_eq_getElem?_getD,List.getElem?_eq_getElem h];rfl
theorem vc_names (m : Mp) (W : Nat) (mk : List Bool) (h : Hp) (hW : 2 ≤ W ∧ W ≤ 100) (hw : m.w = W) (hl : mk.length ≤ 144) : VC Tryz.prog 96 [vM m,bools mk] h (ints (names W mk)) h:=by
  obtain ⟨R,hR⟩ : ∃ R,R = names W mk:=⟨_,rfl⟩
  have hRl : R.length = mk.length:=by rw [hR];exact (names_ok (by omega) (by omega)).2
  have hW0 : wgt (n0 mk) < 40000:=by
    have:=wgt_le (T:=n0 mk) fun n=>by
      rw [at0_n0]
      cases hb : bat mk n with
      | true=>have:=bat_lt hb;simp only [cond_true];omega
      | false=>simp
    have h2:=(ni0 (mk:=mk) (W:=W)).len
    rw [h2] at this
    omega
  have hI0 : NI mk W (n0 mk):=ni0
  rw [← hR]
  unfold names at hR
  have cN:=fun a b h ha hb=>vc_rnext m W a b h (by omega) hw ha hb (by omega)
  have hn0:=n0_eq mk
  obtain ⟨fz,hfz⟩ : ∃ f,f = fun k : Nat=>(bif bat mk k then (k : Int) else -1):=⟨_,rfl⟩
  rw [← hfz] at hn0
  obtain ⟨mw,mh,c⟩:=m
  dsimp only at hw cN
  subst hw
  show VC Tryz.prog 96 [.agg [I W,I mh,ints c],bools mk] h (ints R) h
  refine VC.bodyC 1 Tryz.func96 rfl Tryz.ntmps96 Tryz.call96 (h.grows_refl) rfl ?_
  conv=>whnf
  repeat' (first|((first|refine zs1 ?_|refine zs2 ?_|refine zs3 ?_|refine zs4 ?_|refine zs5 ?_);conv=>whnf)|((first|apply zi1|apply zi2|apply zi3|apply zi4|apply zi5) <;> intro _ <;> conv=>whnf))
  refine VCut.at' (outer:=h.lift) (marks:=[]) 99 [(1,bools mk),(2,.fp [DI W,DI mh,dints c])] [] ?_ ?_
  · conv=>whnf
    refine Retell.turn ⟨[],1,[(0,[DI W,DI mh,dints c])],[]⟩ (TurnOk.mk' _ _ [(0,[DI W,DI mh,dints c])] [] (OutOk.lift _) rfl (by decide) zb zf trivial rfl) zw zm
  conv=>whnf
  repeat' (first|((first|refine zs1 ?_|refine zs2 ?_|refine zs3 ?_|refine zs4 ?_|refine zs5 ?_);conv=>whnf)|((first|apply zi1|apply zi2|apply zi3|apply zi4|apply zi5) <;> intro _ <;> conv=>whnf)|(refine VMem.make (0 : Int) encI_len rfl rfl rfl rfl rfl rfl (by omega) ?_;conv=>whnf))
  refine VCode.lpC (outer:=h.lift) (marks:=[]) 99 (fun k : Nat=>[(1,bools mk),(2,.fp [DI W,DI mh,dints c]),(5,.gl (.loc 0) 1 mk.length),(6,I k)]) (fun k=>[.flat true ((fill fz 0 mk.length k).flatMap Vm.encI)]) (fun k=>k ≤ mk.length) (fun k=>mk.length - k) 0 (Nat.zero_le _) ?_ ?_
  · rw [fill_zero]
    conv=>whnf
    refine Retell.turn ⟨[0],1,[],[]⟩ (TurnOk.mk' _ _ [] [] (OutOk.lift _) rfl (by decide) zb trivial trivial rfl) zw zm
  · rintro k hk
    rcases Nat.lt_or_ge k mk.length with h3|h3
    · have hx:=bat_at h3
      have hst:=fill_step fz 0 h3
      have hkl:=fill_at fz 0 h3
      have hTl:=fill_len fz 0 hk
      have hfk : fz k = bif bat mk k then (k : Int) else -1:=by rw [hfz]
      generalize bat mk k = x at hx hfk
      generalize fill fz 0 mk.length k = T at hst hkl hTl
      have hk2 : (T.set k (-1))[k]? = some (-1):=List.getElem?_set_self (by omega)
      cases x with
      | true =>
        rw [hfk,cond_true] at hst
        conv=>whnf
        repeat' (first|((first|refine zs1 ?_|refine zs2 ?_|refine zs3 ?_|refine zs4 ?_|refine zs5 ?_);conv=>whnf)|((first|apply zi1|apply zi2|apply zi3|apply zi4|apply zi5) <;> intro _ <;> first|(exfalso;omega)|contradiction|(conv=>whnf))|(refine VAny.ix encB_len k rfl rfl hx ?_;conv=>whnf)|(refine VMem.setRec encI_len k 0 (-1 : Int) rfl rfl rfl hkl (by decide) rfl (ofs _) ?_;conv=>whnf)|(refine VMem.setRec encI_len k 0 (k : Int) rfl rfl rfl hk2 (by decide) rfl (ofs _) ?_;conv=>whnf))
        all_goals first
          | contradiction
          | (refine LEnd.intro (k + 1) (by omega) (by omega) ?_
             rw [hst,← List.set_set (a:=(-1 : Int))]
             conv=>whnf
             refine Retell.turn ⟨[0],1,[],[]⟩ (TurnOk.mk' _ _ [] [] (OutOk.lift _) rfl (by decide) zb trivial trivial rfl) zw zm)
      | false =>
        rw [hfk,cond_false] at hst
        conv=>whnf
        repeat' (first|((first|refine zs1 ?_|refine zs2 ?_|refine zs3 ?_|refine zs4 ?_|refine zs5 ?_);conv=>whnf)|((first|apply zi1|apply zi2|apply zi3|apply zi4|apply zi5) <;> intro _ <;> first|(exfalso;omega)|contradiction|(conv=>whnf))|(refine VAny.ix encB_len k rfl rfl hx ?_;conv=>whnf)|(refine VMem.setRec encI_len k 0 (-1 : Int) rfl rfl rfl hkl (by decide) rfl (ofs _) ?_;conv=>whnf))
        all_goals first
          | contradiction
          | (refine LEnd.intro (k + 1) (by omega) (by omega) ?_
             rw [hst]
             conv=>whnf
             refine Retell.turn ⟨[0],1,[],[]⟩ (TurnOk.mk' _ _ [] [] (OutOk.lift _) rfl (by decide) zb trivial trivial rfl) zw zm)
    · obtain rfl : k = mk.length:=by omega
      rw [fill_all,← hn0]
      conv=>whnf
      repeat' (first|((first|refine zs1 ?_|refine zs2 ?_|refine zs3 ?_|refine zs4 ?_|refine zs5 ?_);conv=>whnf)|((first|apply zi1|apply zi2|apply zi3|apply zi4|apply zi5) <;> intro _ <;> first|(exfalso;omega)|contradiction|(conv=>whnf)))
      refine VCode.lpC (outer:=h.lift) (marks:=[]) 99 (fun y : TB=>[(2,.fp [DI W,DI mh,dints c]),(5,.gl (.loc 0) 1 mk.length),(7,B y.2)]) (fun y=>[.flat true (y.1.flatMap Vm.encI)]) (fun y=>NI mk W y.1 ∧ ∃ N,wgt y.1 < N ∧ R = bif y.2 then ngo W mk.length N y.1 else y.1) (fun y=>2 * wgt y.1 + (bif y.2 then 1 else 0)) (n0 mk,true) ⟨hI0,40000,hW0,hR⟩ ?_ ?_
      · generalize n0 mk = N0
        conv=>whnf
        refine Retell.turn ⟨[0],1,[],[]⟩ (TurnOk.mk' _ _ [] [] (OutOk.lift _) rfl (by decide) zb trivial trivial rfl) zw zm
      · rintro ⟨T,ch⟩ ⟨y1,N,y2,y3⟩
        dsimp only at y1 y2 y3
        cases ch with
        | false =>
          rw [cond_false] at y3
          subst y3
          rw [show ints R = .fs 1 mk.length (R.flatMap Vm.encI) by unfold ints;rw [hRl]]
          have hRf : (R.flatMap Vm.encI).length = mk.length * 1:=by rw [flat_len encI_len,hRl]
          conv=>whnf
          repeat' (first|((first|refine zs1 ?_|refine zs2 ?_|refine zs3 ?_|refine zs4 ?_|refine zs5 ?_|refine zs6 [] ?_);conv=>whnf)|((first|apply zi1|apply zi2|apply zi3|apply zi4|apply zi5) <;> intro _ <;> conv=>whnf))
          refine VOut.data 1 [(0,R.flatMap Vm.encI)] [] rfl zf (by exact FmAll.nil) zw
        | true =>
          rw [cond_true] at y3
          have hTl:=y1.len
          have hst:=ncK_step W mk.length T
          have hcl:=ncK_len W mk.length T
          rw [hTl] at hcl
          have hro : nround W mk.length T = ncK W mk.length T mk.length:=rfl
          have h1 : NJ mk W T (ncK W mk.length T mk.length).1 (ncK W mk.length T mk.length).2 (fun i _=>i < mk.length):=nround_ok (by omega) (by omega) y1 mk.length (Nat.le_refl _)
          have hN : ∀ y : TB,y = ncK W mk.length T mk.length → (NI mk W y.1 ∧ ∃ N,wgt y.1 < N ∧ R = bif y.2 then ngo W mk.length N y.1 else y.1) ∧ 2 * wgt y.1 + (bif y.2 then 1 else 0) < 2 * wgt T + 1:=by
            rintro y rfl
            cases N with
            | zero=>omega
            | succ N =>
              rw [ngo,hro] at y3
              cases hc : (ncK W mk.length T mk.length).2 with
              | true =>
                have h2:=h1.yes hc
                rw [hc] at y3
                exact ⟨⟨h1.ri,N,by omega,y3⟩,by rw [cond_true];omega⟩
              | false =>
                have h2:=(h1.no hc).1
                rw [hc] at y3
                rw [h2] at y3 ⊢
                exact ⟨⟨y1,N + 1,by omega,y3⟩,by rw [cond_false];omega⟩
          clear y3 y2 hro h1
          conv=>whnf
          repeat' (first|((first|refine zs1 ?_|refine zs2 ?_|refine zs3 ?_|refine zs4 ?_|refine zs5 ?_|refine zs6 [] ?_);conv=>whnf)|((first|apply zi1|apply zi2|apply zi3|apply zi4|apply zi5) <;> intro _ <;> conv=>whnf))
          refine VCode.lpC (outer:=h.lift) (marks:=[]) 99 (fun a : Nat=>[(2,.fp [DI W,DI mh,dints c]),(5,.gl (.loc 0) 1 mk.length),(7,B (ncK W mk.length T a).2),(8,I a)]) (fun a=>[.flat true ((ncK W mk.length T a).1.flatMap Vm.encI)]) (fun a=>a ≤ mk.length) (fun a=>mk.length - a) 0 (Nat.zero_le _) ?_ ?_
          · rw [show ncK W mk.length T 0 = (T,false) from rfl]
            conv=>whnf
            refine Retell.turn ⟨[0],1,[],[]⟩ (TurnOk.mk' _ _ [] [] (OutOk.lift _) rfl (by decide) zb trivial trivial rfl) zw zm
          · rintro a ha
            rcases Nat.lt_or_ge a mk.length with h5|h5
            · have hsa:=hst a
              have hcl:=hcl a
              unfold ncell at hsa
              have hse : (List.range mk.length).foldl (nput W a) (ncK W mk.length T a) = npK W a (ncK W mk.length T a) mk.length:=rfl
              rw [hse] at hsa
              have hpl:=npK_len W a (ncK W mk.length T a)
              have hsb:=npK_step W a (ncK W mk.length T a)
              have hp0 : npK W a (ncK W mk.length T a) 0 = ncK W mk.length T a:=rfl
              rw [hcl] at hpl
              generalize ncK W mk.length T a = x0 at *
              conv=>whnf
              repeat' (first|((first|refine zs1 ?_|refine zs2 ?_|refine zs3 ?_|refine zs4 ?_|refine zs5 ?_);conv=>whnf)|((first|apply zi1|apply zi2|apply zi3|apply zi4|apply zi5) <;> intro _ <;> first|(exfalso;omega)|contradiction|(conv=>whnf)))
              refine VCode.lpC (outer:=h.lift) (marks:=[]) 99 (fun b : Nat=>[(2,.fp [DI W,DI mh,dints c]),(5,.gl (.loc 0) 1 mk.length),(7,B (npK W a x0 b).2),(8,I a),(9,I b)]) (fun b=>[.flat true ((npK W a x0 b).1.flatMap Vm.encI)]) (fun b=>b ≤ mk.length) (fun b=>mk.length - b) 0 (Nat.zero_le _) ?_ ?_
              · rw [hp0]
                obtain ⟨X,cx⟩:=x0
                conv=>whnf
                refine Retell.turn ⟨[0],1,[],[]⟩ (TurnOk.mk' _ _ [] [] (OutOk.lift _) rfl (by decide) zb trivial trivial rfl) zw zm
              · rintro b hb'
                rcases Nat.lt_or_ge b mk.length with h6|h6
                · have hsb:=hsb b
                  have hZl:=hpl b
                  have cNb:=fun h=>cN a b h (by omega) (by omega)
                  generalize npK W a x0 b = z at hsb hZl
                  obtain ⟨Z,cz⟩:=z
                  dsimp only at hZl
                  have hzb:=at0_get (l:=Z) (n:=b) (by omega)
                  have hza:=at0_get (l:=Z) (n:=a) (by omega)
                  unfold nput at hsb
                  dsimp only at hsb
                  generalize at0 Z a = v at *
                  generalize at0 Z b = w at *
                  by_cases hnb : Nb W a b
                  · rw [decide_eq_true hnb] at cNb
                    by_cases hput : v ≠ -1 ∧ w ≠ -1 ∧ v < w
                    · rw [if_pos ⟨hput.1,hput.2.1,hnb,hput.2.2⟩] at hsb
                      conv=>whnf
                      repeat' (first|((first|refine zs1 ?_|refine zs2 ?_|refine zs3 ?_|refine zs4 ?_|refine zs5 ?_);conv=>whnf)|((first|apply zi1|apply zi2|apply zi3|apply zi4|apply zi5) <;> intro _ <;> conv=>whnf))
                      all_goals try (exfalso;omega)
                      refine zs6 [] ?_
                      conv=>whnf
                      repeat' (first|((first|refine zs1 ?_|refine zs2 ?_|refine zs3 ?_|refine zs4 ?_|refine zs5 ?_);conv=>whnf)|((first|apply zi1|apply zi2|apply zi3|apply zi4|apply zi5) <;> intro _ <;> first|(exfalso;omega)|contradiction|(conv=>whnf))|(refine VCall.intro (cNb _) ?_;conv=>whnf)|(refine VLd.recc encI_len a 0 rfl rfl rfl hza (by decide) rfl (ofs _) ?_;conv=>whnf)|(refine VLd.recc encI_len b 0 rfl rfl rfl hzb (by decide) rfl (ofs _) ?_;conv=>whnf)|(refine VMem.setRec encI_len b 0 v rfl rfl rfl hzb (by decide) rfl (ofs _) ?_;conv=>whnf))
                      all_goals (
                        refine LEnd.intro (b + 1) (by omega) (by omega) ?_
                        rw [hsb]
                        conv=>whnf
                        refine Retell.turn ⟨[0],1,[],[]⟩ (TurnOk.mk' _ _ [] [] (OutOk.lift _) rfl (by decide) zb trivial trivial rfl) zw zm)
                    · rw [if_neg (fun hh=>hput ⟨hh.1,hh.2.1,hh.2.2.2⟩)] at hsb
                      conv=>whnf
                      repeat' (first|((first|refine zs1 ?_|refine zs2 ?_|refine zs3 ?_|refine zs4 ?_|refine zs5 ?_);conv=>whnf)|((first|apply zi1|apply zi2|apply zi3|apply zi4|apply zi5) <;> intro _ <;> conv=>whnf))
                      all_goals try (exfalso;omega)
                      refine zs6 [] ?_
                      conv=>whnf
                      repeat' (first|((first|refine zs1 ?_|refine zs2 ?_|refine zs3 ?_|refine zs4 ?_|refine zs5 ?_);conv=>whnf)|((first|apply zi1|apply zi2|apply zi3|apply zi4|apply zi5) <;> intro _ <;> first|(exfalso;omega)|contradiction|(conv=>whnf))|(refine VCall.intro (cNb _) ?_;conv=>whnf)|(refine VLd.recc encI_len a 0 rfl rfl rfl hza (by decide) rfl (ofs _) ?_;conv=>whnf)|(refine VLd.recc encI_len b 0 rfl rfl rfl hzb (by decide) rfl (ofs _) ?_;conv=>whnf))
                      all_goals first
                        | (exfalso;omega)
                        | (refine LEnd.intro (b + 1) (by omega) (by omega) ?_
                           rw [hsb]
                           conv=>whnf
                           refine Retell.turn ⟨[0],1,[],[]⟩ (TurnOk.mk' _ _ [] [] (OutOk.lift _) rfl (by decide) zb trivial trivial rfl) zw zm)
                  · rw [decide_eq_false hnb] at cNb
                    rw [if_neg (fun hh=>hnb hh.2.2.1)] at hsb
                    conv=>whnf
                    repeat' (first|((first|refine zs1 ?_|refine zs2 ?_|refine zs3 ?_|refine zs4 ?_|refine zs5 ?_);conv=>whnf)|((first|apply zi1|apply zi2|apply zi3|apply zi4|apply zi5) <;> intro _ <;> conv=>whnf))
                    all_goals try (exfalso;omega)
                    refine zs6 [] ?_
                    conv=>whnf
                    repeat' (first|((first|refine zs1 ?_|refine zs2 ?_|refine zs3 ?_|refine zs4 ?_|refine zs5 ?_);conv=>whnf)|((first|apply zi1|apply zi2|apply zi3|apply zi4|apply zi5) <;> intro _ <;> first|(exfalso;omega)|contradiction|(conv=>whnf))|(refine VCall.intro (cNb _) ?_;conv=>whnf)|(refine VLd.recc encI_len a 0 rfl rfl rfl hza (by decide) rfl (ofs _) ?_;conv=>whnf)|(refine VLd.recc encI_len b 0 rfl rfl rfl hzb (by decide) rfl (ofs _) ?_;conv=>whnf))
                    all_goals first
                      | contradiction
                      | (exfalso;omega)
                      | (refine LEnd.intro (b + 1) (by omega) (by omega) ?_
                         rw [hsb]
                         conv=>whnf
                         refine Retell.turn ⟨[0],1,[],[]⟩ (TurnOk.mk' _ _ [] [] (OutOk.lift _) rfl (by decide) zb trivial trivial rfl) zw zm)
                · obtain rfl : b = mk.length:=by omega
                  rw [← hsa]
                  conv=>whnf
                  repeat' (first|((first|refine zs1 ?_|refine zs2 ?_|refine zs3 ?_|refine zs4 ?_|refine zs5 ?_);conv=>whnf)|((first|apply zi1|apply zi2|apply zi3|apply zi4|apply zi5) <;> intro _ <;> first|(exfalso;omega)|contradiction|(conv=>whnf)))
                  refine LEnd.intro (a + 1) (by omega) (by omega) ?_
                  generalize ncK W mk.length T (a + 1) = z
                  obtain ⟨Z,cz⟩:=z
                  conv=>whnf
                  refine Retell.turn ⟨[0],1,[],[]⟩ (TurnOk.mk' _ _ [] [] (OutOk.lift _) rfl (by decide) zb trivial trivial rfl) zw zm
            · obtain rfl : a = mk.length:=by omega
              have hN:=hN _ rfl
              generalize ncK W mk.length T mk.length = z at hN
              obtain ⟨Z,cz⟩:=z
              conv=>whnf
              repeat' (first|((first|refine zs1 ?_|refine zs2 ?_|refine zs3 ?_|refine zs4 ?_|refine zs5 ?_);conv=>whnf)|((first|apply zi1|apply zi2|apply zi3|apply zi4|apply zi5) <;> intro _ <;> first|(exfalso;omega)|contradiction|(conv=>whnf)))
              refine LEnd.intro (Z,cz) hN.1 hN.2 ?_
              conv=>whnf
              refine Retell.turn ⟨[0],1,[],[]⟩ (TurnOk.mk' _ _ [] [] (OutOk.lift _) rfl (by decide) zb trivial trivial rfl) zw zm
end Go.Proofs.YtkbbfeljlepgoaaGreat

open Go.Vm
open Riv
namespace Riv
def cntF (p : Nat → Bool) (i : Nat) : Nat:=((List.range i).filter p).length
theorem cntF_step (p : Nat → Bool) (i : Nat) : cntF p (i + 1) = if p i = true then cntF p i + 1 else cntF p i:=by
  unfold cntF
  rw [List.range_succ,List.filter_append,List.length_append]
  by_cases h : p i = true
  · rw [if_pos h];simp [h]
  · rw [if_neg h];simp [h]
theorem cntF_at {p : Nat → Bool} {i L : Nat} (hi : i < L) (h : p i = true) : ((List.range L).filter p)[cntF p i]? = some i:=by
  have e : List.range L = List.range i ++ i :: List.range' (i + 1) (L - (i + 1)):=by
    rw [List.range_eq_range',List.range_eq_range',show L = i + ((L - (i + 1)) + 1) by omega,← List.range'_append_1]
    congr 1
    rw [show i + (L - (i + 1) + 1) - (i + 1) = L - (i + 1) by omega,Nat.zero_add]
    rfl
  rw [e,List.filter_append,List.filter_cons_of_pos h,cntF,List.getElem?_append_right (Nat.le_refl _),Nat.sub_self]
  rfl
theorem cntF_le (p : Nat → Bool) (i : Nat) : cntF p i ≤ i:=by
  unfold cntF
  have:=List.length_filter_le p (List.range i)
  rw [List.length_range] at this;exact this
def rlK (T nm : List Int) (i k : Nat) : Int:=(List.range k).foldl (fun o k=>if at0 nm k = (i : Int) then (if o = -1 ∨ (at0 T k ≠ -1 ∧ at0 T k < o) then at0 T k else o) else o) (-1)
theorem rlK_step (T nm : List Int) (i k : Nat) : rlK T nm i (k + 1) = if at0 nm k = (i : Int) then (if rlK T nm i k = -1 ∨ (at0 T k ≠ -1 ∧ at0 T k < rlK T nm i k) then at0 T k else rlK T nm i k) else rlK T nm i k:=by unfold rlK;rw [List.range_succ,List.foldl_append];rfl
def fst1 (l : List Nat) : List (List Nat):=l.map fun i=>[i]
theorem rshr_shL (c : List Int) (W : Nat) : rshr c W = shL (fst1 (firsts c W)) (rown0 c W) (rgL (rown0 c W)):=by
  unfold rshr shL fst1
  generalize rown0 c W = O
  generalize rgL O = G
  generalize firsts c W = F
  rw [List.zip_map_left,List.map_map]
  rfl
theorem marks_eq (c : List Int) : marks c = (List.range c.length).map fun k=>decide (at0 c k = 3):=by
  apply List.ext_getElem?
  intro k
  unfold marks
  rw [List.getElem?_map]
  rcases Nat.lt_or_ge k c.length with h|h
  · rw [List.getElem?_map,List.getElem?_range h,List.getElem?_eq_getElem h]
    have : at0 c k = c[k]:=by unfold at0;rw [List.getD_eq_getElem?_getD,List.getElem?_eq_getElem h];rfl
    simp [this]
  · rw [List.getElem?_eq_none h,List.getElem?_eq_none (by simpa using h)];rfl
def mnK (v : Int) (l : List Int) (k : Nat) : Int:=many v (l.take k)
theorem mnK_step {v : Int} {l : List Int} {k : Nat} (h : k < l.length) : mnK v l (k + 1) = mnK v l k + (if at0 l k = v then 1 else 0):=by
  unfold mnK
  have e : at0 l k = l[k]:=by unfold at0;rw [List.getD_eq_getElem?_getD,List.getElem?_eq_getElem h];rfl
  rw [List.take_add_one,List.getElem?_eq_getElem h,e]
  exact many_snoc v _ _
theorem mnK_bd (v : Int) (l : List Int) (k : Nat) : 0 ≤ mnK v l k ∧ mnK v l k ≤ l.length:=by
  have h:=many_bd v (l.take k)
  have : (l.take k).length ≤ l.length:=by rw [List.length_take];omega
  unfold mnK;omega
end Riv
namespace Go.Proofs.YtkbbfeljlepgoaaGreat
set_option maxRecDepth 20000
set_option maxHeartbeats 4000000

theorem vc_rislands {W H : Nat} (m : Mp) (h : Hp) (o : MOk W H m.c) (hw : m.w = W) : VC Tryz.prog 100 [vM m] h (.tuple [shs (shr m.c W),ints (rnm m.c W)]) h:=by
  have hWb:=o.w
  have hHb:=o.h
  have hL:=o.len
  have hm144:=MOk.le o
  have cT1:=fun h=>vc_rfar m 1 h o hw (.inl rfl)
  have cT2:=fun h=>vc_rfar m 2 h o hw (.inr rfl)
  have cN:=fun h=>vc_names m W (marks m.c) h (by omega) hw (by rw [marks_len];omega)
  rw [show names W (marks m.c) = rnm m.c W from rfl] at cN
  have hb1 : (bfs m.c W 1).length = m.c.length:=bfsK_len _ _ _ _
  have hb2 : (bfs m.c W 2).length = m.c.length:=bfsK_len _ _ _ _
  have hnl:=(rnm_ok (c:=m.c) (W:=W) (by omega) (by omega)).2
  have hmk:=marks_eq m.c
  have hmkl:=marks_len m.c
  rw [← rshr_eq (by omega) hL (by omega),rshr_shL]
  have hrg : rgL (rown0 m.c W) = rgK (rown0 m.c W) (rown0 m.c W).length:=rfl
  rw [hrg]
  have hO : rown0 m.c W = (firsts m.c W).map fun i=>ownr (rlow (bfs m.c W 1) (rnm m.c W) m.c.length i) (rlow (bfs m.c W 2) (rnm m.c W) m.c.length i):=rfl
  have hF : firsts m.c W = (List.range m.c.length).filter fun i : Nat=>decide (at0 (rnm m.c W) i = (i : Int)):=rfl
  clear hrg
  generalize rown0 m.c W = O at *
  generalize firsts m.c W = F at *
  generalize bfs m.c W 1 = F1 at *
  generalize bfs m.c W 2 = F2 at *
  generalize rnm m.c W = nm at *
  generalize marks m.c = mk at *
  obtain ⟨mw,mh,c⟩:=m
  dsimp only at *
  subst hw
  obtain ⟨p,hp⟩ : ∃ p,p = fun i : Nat=>decide (at0 nm i = (i : Int)):=⟨_,rfl⟩
  rw [← hp] at hF
  have hOl : O.length = F.length:=by rw [hO,List.length_map]
  have hFl : F.length = cntF p c.length:=by rw [hF];rfl
  have hFc : F.length ≤ c.length:=by rw [hFl];exact cntF_le _ _
  have h1l : (fst1 F).length = F.length:=by unfold fst1;rw [List.length_map]
  have hSat:=fun i hi=>shL_at (L:=fst1 F) (O:=O) (own:=O) (i:=i) (by omega) (by omega) hi
  obtain ⟨S,hS⟩ : ∃ S,S = shL (fst1 F) O O:=⟨_,rfl⟩
  rw [← hS] at hSat
  have hSl : S.length = F.length:=by rw [hS,shL_len (by omega) (by omega),h1l]
  obtain ⟨fz,hfz⟩ : ∃ f,f = fun k : Nat=>decide (at0 c k = 3):=⟨_,rfl⟩
  rw [← hfz] at hmk
  show VC Tryz.prog 100 [.agg [I W,I mh,ints c]] h _ h
  refine VC.bodyC 1 Tryz.func100 rfl Tryz.ntmps100 Tryz.call100 (h.grows_refl) rfl ?_
  conv=>whnf
  repeat' (first|((first|refine zs1 ?_|refine zs2 ?_|refine zs3 ?_|refine zs4 ?_|refine zs5 ?_);conv=>whnf)|((first|apply zi1|apply zi2|apply zi3|apply zi4|apply zi5) <;> intro _ <;> conv=>whnf))
  refine VCut.at' (outer:=h.lift) (marks:=[]) 99 [(1,.fp [DI W,DI mh,dints c])] [] ?_ ?_
  · conv=>whnf
    refine Retell.turn ⟨[],1,[(0,[DI W,DI mh,dints c])],[]⟩ (TurnOk.mk' _ _ [(0,[DI W,DI mh,dints c])] [] (OutOk.lift _) rfl (by decide) zb zf trivial rfl) zw zm
  conv=>whnf
  repeat' (first|((first|refine zs1 ?_|refine zs2 ?_|refine zs3 ?_|refine zs4 ?_|refine zs5 ?_);conv=>whnf)|((first|apply zi1|apply zi2|apply zi3|apply zi4|apply zi5) <;> intro _ <;> conv=>whnf)|(refine VMem.make false encB_len rfl rfl rfl rfl rfl rfl (by omega) ?_;conv=>whnf))
  refine VCode.lpC (outer:=h.lift) (marks:=[]) 99 (fun k : Nat=>[(1,.fp [DI W,DI mh,dints c]),(4,.gl (.loc 0) 1 c.length),(5,I k)]) (fun k=>[.flat true ((fill fz false c.length k).flatMap encB)]) (fun k=>k ≤ c.length) (fun k=>c.length - k) 0 (Nat.zero_le _) ?_ ?_
  · rw [fill_zero]
    conv=>whnf
    refine Retell.turn ⟨[0],1,[],[]⟩ (TurnOk.mk' _ _ [] [] (OutOk.lift _) rfl (by decide) zb trivial trivial rfl) zw zm
  · rintro k hk
    rcases Nat.lt_or_ge k c.length with h3|h3
    · have hx:=at0_get h3
      have hst:=fill_step fz false h3
      have hkl:=fill_at fz false h3
      have hfk : fz k = decide (at0 c k = 3):=by rw [hfz]
      generalize at0 c k = x at hx hfk
      generalize fill fz false c.length k = T at hst hkl
      have hdx : decide (x = 3) = (x == 3):=by rw [Bool.eq_iff_iff,decide_eq_true_eq,beq_iff_eq]
      rw [hfk,hdx] at hst
      conv=>whnf
      repeat' (first|((first|refine zs1 ?_|refine zs2 ?_|refine zs3 ?_|refine zs4 ?_|refine zs5 ?_);conv=>whnf)|((first|apply zi1|apply zi2|apply zi3|apply zi4|apply zi5) <;> intro _ <;> conv=>whnf)|(refine VAny.ix encI_len k rfl rfl hx ?_;conv=>whnf)|(refine VMem.setRec encB_len k 0 (x == 3) rfl rfl rfl hkl (by decide) rfl (ofs _) ?_;conv=>whnf))
      all_goals first
        | (exfalso;omega)
        | (refine LEnd.intro (k + 1) (by omega) (by omega) ?_
           rw [hst]
           conv=>whnf
           refine Retell.turn ⟨[0],1,[],[]⟩ (TurnOk.mk' _ _ [] [] (OutOk.lift _) rfl (by decide) zb trivial trivial rfl) zw zm)
    · obtain rfl : k = c.length:=by omega
      rw [fill_all,← hmk]
      have hmf : (mk.flatMap encB).length = mk.length * 1:=flat_len encB_len _
      rw [← hmkl]
      conv=>whnf
      repeat' (first|((first|refine zs1 ?_|refine zs2 ?_|refine zs3 ?_|refine zs4 ?_|refine zs5 ?_);conv=>whnf)|((first|apply zi1|apply zi2|apply zi3|apply zi4|apply zi5) <;> intro _ <;> first|(exfalso;omega)|contradiction|(conv=>whnf)))
      refine VCall.intro (VC.give (args':=[.agg [I W,I mh,ints c],bools mk]) (loc':=[.dead]) [(0,mk.flatMap encB)] [] (OutOk.lift _) zb zf (by exact FmAll.nil) rfl zw (cN _)) ?_
      conv=>whnf
      repeat' (first|((first|refine zs1 ?_|refine zs2 ?_|refine zs3 ?_|refine zs4 ?_|refine zs5 ?_);conv=>whnf)|((first|apply zi1|apply zi2|apply zi3|apply zi4|apply zi5) <;> intro _ <;> conv=>whnf))
      refine zs6 [(1,2)] ?_
      conv=>whnf
      repeat' (first|((first|refine zs1 ?_|refine zs2 ?_|refine zs3 ?_|refine zs4 ?_|refine zs5 ?_);conv=>whnf)|((first|apply zi1|apply zi2|apply zi3|apply zi4|apply zi5) <;> intro _ <;> conv=>whnf)|(refine VCall.intro (cT1 _) ?_;conv=>whnf)|(refine VCall.intro (cT2 _) ?_;conv=>whnf))
      refine VCode.lpC (outer:=h.lift) (marks:=[]) 99 (fun i : Nat=>[(6,ints nm),(7,ints F1),(8,ints F2),(9,.gl (.loc 0) 3 (cntF p i)),(10,I i)]) (fun i=>[.flat true ((S.take (cntF p i)).flatMap encSh)]) (fun i=>i ≤ c.length) (fun i=>c.length - i) 0 (Nat.zero_le _) ?_ ?_
      · rw [show cntF p 0 = 0 from rfl]
        conv=>whnf
        refine Retell.turn ⟨[1],1,[],[]⟩ (TurnOk.mk' _ _ [] [] (OutOk.lift _) rfl (by decide) zb trivial trivial rfl) zw zm
      · rintro i hi
        rcases Nat.lt_or_ge i c.length with h4|h4
        · have hcs:=cntF_step p i
          have hcl:=cntF_le p i
          have hnm:=at0_get (l:=nm) (n:=i) (by omega)
          have hpi : p i = decide (at0 nm i = (i : Int)):=by rw [hp]
          by_cases hpt : p i = true
          · have hcF:=cntF_at h4 hpt
            rw [← hF] at hcF
            have hcl2 : cntF p i < F.length:=(List.getElem?_eq_some_iff.1 hcF).1
            have hSc:=hSat (cntF p i) (by omega)
            have hhd : ((fst1 F).getD (cntF p i) []).headD 0 = i:=by
              unfold fst1
              rw [List.getD_eq_getElem?_getD,List.getElem?_map,hcF];rfl
            have hOi : at0 O (cntF p i) = ownr (rlow F1 nm c.length i) (rlow F2 nm c.length i):=by
              rw [hO]
              unfold at0
              rw [List.getD_eq_getElem?_getD,List.getElem?_map,hcF];rfl
            rw [hhd] at hSc
            have hsn : S.take (cntF p i + 1) = S.take (cntF p i) ++ [⟨(i : Int),at0 O (cntF p i),decide (at0 O (cntF p i) = 1 ∨ at0 O (cntF p i) = 2)⟩]:=by rw [List.take_add_one,hSc];rfl
            have hst : (S.take (cntF p i)).length = cntF p i:=by rw [List.length_take];omega
            rw [if_pos hpt] at hcs
            rw [hpt] at hpi
            have hni : at0 nm i = (i : Int):=of_decide_eq_true hpi.symm
            have hr1:=rlK_step F1 nm i
            have hr2:=rlK_step F2 nm i
            have hra : rlow F1 nm c.length i = rlK F1 nm i c.length:=rfl
            have hrb : rlow F2 nm c.length i = rlK F2 nm i c.length:=rfl
            rw [hra,hrb] at hOi
            have hobd:=ownr_bd (rlK F1 nm i c.length) (rlK F2 nm i c.length)
            rw [← hOi] at hobd
            generalize at0 O (cntF p i) = ow at *
            generalize hcc : cntF p i = cc at *
            conv=>whnf
            repeat' (first|((first|refine zs1 ?_|refine zs2 ?_|refine zs3 ?_|refine zs4 ?_|refine zs5 ?_);conv=>whnf)|((first|apply zi1|apply zi2|apply zi3|apply zi4|apply zi5) <;> intro _ <;> conv=>whnf)|(refine VAny.ix encI_len i rfl (by omega) hnm ?_;conv=>whnf))
            all_goals try (exfalso;omega)
            refine VCode.lpC (outer:=h.lift) (marks:=[]) 99 (fun k : Nat=>[(6,ints nm),(7,ints F1),(8,ints F2),(9,.gl (.loc 0) 3 cc),(10,I i),(11,I (rlK F1 nm i k)),(12,I (rlK F2 nm i k)),(13,I k)]) (fun k=>[.flat true ((S.take cc).flatMap encSh)]) (fun k=>k ≤ c.length) (fun k=>c.length - k) 0 (Nat.zero_le _) ?_ ?_
            · conv=>whnf
              refine Retell.turn ⟨[0],1,[],[]⟩ (TurnOk.mk' _ _ [] [] (OutOk.lift _) rfl (by decide) zb trivial trivial rfl) zw zm
            · rintro k hk
              rcases Nat.lt_or_ge k c.length with h5|h5
              · have hx:=at0_get (l:=nm) (n:=k) (by omega)
                have hf1:=at0_get (l:=F1) (n:=k) (by omega)
                have hf2:=at0_get (l:=F2) (n:=k) (by omega)
                have hr1:=hr1 k
                have hr2:=hr2 k
                generalize rlK F1 nm i k = a1 at *
                generalize rlK F2 nm i k = a2 at *
                have cL1:=fun h=>vc_lesser a1 (at0 F1 k) h
                have cL2:=fun h=>vc_lesser a2 (at0 F2 k) h
                generalize at0 nm k = x at *
                generalize at0 F1 k = u at *
                generalize at0 F2 k = v at *
                by_cases hxi : x = (i : Int)
                · rw [if_pos hxi] at hr1 hr2
                  rw [← hr1] at cL1
                  rw [← hr2] at cL2
                  conv=>whnf
                  repeat' (first|((first|refine zs1 ?_|refine zs2 ?_|refine zs3 ?_|refine zs4 ?_|refine zs5 ?_);conv=>whnf)|((first|apply zi1|apply zi2|apply zi3|apply zi4|apply zi5) <;> intro _ <;> conv=>whnf)|(refine VAny.ix encI_len k rfl (by omega) hx ?_;conv=>whnf))
                  all_goals try (exfalso;omega)
                  refine zs6 [(5,10)] ?_
                  conv=>whnf
                  repeat' (first|((first|refine zs1 ?_|refine zs2 ?_|refine zs3 ?_|refine zs4 ?_|refine zs5 ?_);conv=>whnf)|((first|apply zi1|apply zi2|apply zi3|apply zi4|apply zi5) <;> intro _ <;> conv=>whnf)|(refine VAny.ix encI_len k rfl (by omega) hf1 ?_;conv=>whnf)|(refine VAny.ix encI_len k rfl (by omega) hf2 ?_;conv=>whnf)|(refine VCall.intro (cL1 _) ?_;conv=>whnf)|(refine VCall.intro (cL2 _) ?_;conv=>whnf))
                  refine LEnd.intro (k + 1) (by omega) (by omega) ?_
                  conv=>whnf
                  refine Retell.turn ⟨[0],1,[],[]⟩ (TurnOk.mk' _ _ [] [] (OutOk.lift _) rfl (by decide) zb trivial trivial rfl) zw zm
                · rw [if_neg hxi] at hr1 hr2
                  conv=>whnf
                  repeat' (first|((first|refine zs1 ?_|refine zs2 ?_|refine zs3 ?_|refine zs4 ?_|refine zs5 ?_);conv=>whnf)|((first|apply zi1|apply zi2|apply zi3|apply zi4|apply zi5) <;> intro _ <;> first|(exfalso;omega)|contradiction|(conv=>whnf))|(refine VAny.ix encI_len k rfl (by omega) hx ?_;conv=>whnf))
                  refine LEnd.intro (k + 1) (by omega) (by omega) ?_
                  rw [hr1,hr2]
                  conv=>whnf
                  refine Retell.turn ⟨[0],1,[],[]⟩ (TurnOk.mk' _ _ [] [] (OutOk.lift _) rfl (by decide) zb trivial trivial rfl) zw zm
              · obtain rfl : k = c.length:=by omega
                have cW:=fun h=>vc_whose (rlK F1 nm i c.length) (rlK F2 nm i c.length) h
                rw [← hOi] at cW
                generalize rlK F1 nm i c.length = a1 at *
                generalize rlK F2 nm i c.length = a2 at *
                conv=>whnf
                repeat' (first|((first|refine zs1 ?_|refine zs2 ?_|refine zs3 ?_|refine zs4 ?_|refine zs5 ?_);conv=>whnf)|((first|apply zi1|apply zi2|apply zi3|apply zi4|apply zi5) <;> intro _ <;> first|(exfalso;omega)|contradiction|(conv=>whnf))|(refine VCall.intro (cW _) ?_;conv=>whnf))
                · have hnr : decide (ow = 1 ∨ ow = 2) = true:=by
                    rename_i hh
                    rw [Bool.eq_iff_iff]
                    simp at hh ⊢
                    omega
                  rw [hnr] at hsn
                  refine VMem.app1 (l:=S.take cc) ⟨(i : Int),ow,true⟩ encSh_len rfl rfl rfl hst.symm rfl (by omega) ?_
                  rw [← hsn]
                  conv=>whnf
                  repeat' (first|((first|refine zs1 ?_|refine zs2 ?_|refine zs3 ?_|refine zs4 ?_|refine zs5 ?_);conv=>whnf)|((first|apply zi1|apply zi2|apply zi3|apply zi4|apply zi5) <;> intro _ <;> conv=>whnf))
                  refine LEnd.intro (i + 1) (by omega) (by omega) ?_
                  rw [hcs]
                  generalize S.take (cc + 1) = S2
                  conv=>whnf
                  refine Retell.turn ⟨[2],3,[],[]⟩ (TurnOk.mk' _ _ [] [] (OutOk.lift _) rfl (by decide) zb trivial trivial rfl) zw zm
                · have hnr : decide (ow = 1 ∨ ow = 2) = (ow == 2):=by
                    rename_i hh
                    rw [Bool.eq_iff_iff]
                    simp at hh ⊢
                    omega
                  rw [hnr] at hsn
                  refine VMem.app1 (l:=S.take cc) ⟨(i : Int),ow,(ow == 2)⟩ encSh_len rfl rfl rfl hst.symm rfl (by omega) ?_
                  rw [← hsn]
                  conv=>whnf
                  repeat' (first|((first|refine zs1 ?_|refine zs2 ?_|refine zs3 ?_|refine zs4 ?_|refine zs5 ?_);conv=>whnf)|((first|apply zi1|apply zi2|apply zi3|apply zi4|apply zi5) <;> intro _ <;> conv=>whnf))
                  refine LEnd.intro (i + 1) (by omega) (by omega) ?_
                  rw [hcs]
                  generalize S.take (cc + 1) = S2
                  conv=>whnf
                  refine Retell.turn ⟨[2],3,[],[]⟩ (TurnOk.mk' _ _ [] [] (OutOk.lift _) rfl (by decide) zb trivial trivial rfl) zw zm
          · rw [if_neg hpt] at hcs
            have hni : at0 nm i ≠ (i : Int):=fun e=>hpt (by rw [hpi];exact decide_eq_true e)
            conv=>whnf
            repeat' (first|((first|refine zs1 ?_|refine zs2 ?_|refine zs3 ?_|refine zs4 ?_|refine zs5 ?_);conv=>whnf)|((first|apply zi1|apply zi2|apply zi3|apply zi4|apply zi5) <;> intro _ <;> conv=>whnf)|(refine VAny.ix encI_len i rfl (by omega) hnm ?_;conv=>whnf))
            all_goals first
              | (exfalso;omega)
              | (refine LEnd.intro (i + 1) (by omega) (by omega) ?_
                 rw [hcs]
                 conv=>whnf
                 refine Retell.turn ⟨[0],1,[],[]⟩ (TurnOk.mk' _ _ [] [] (OutOk.lift _) rfl (by decide) zb trivial trivial rfl) zw zm)
        · obtain rfl : i = c.length:=by omega
          rw [← hFl,List.take_of_length_le (by omega)]
          have hrl:=rgK_len O
          have hrs:=rgK_step O
          rw [hOl] at hrl ⊢
          rw [show S = shL (fst1 F) O (rgK O 0) by rw [hS];rfl]
          conv=>whnf
          repeat' (first|((first|refine zs1 ?_|refine zs2 ?_|refine zs3 ?_|refine zs4 ?_|refine zs5 ?_);conv=>whnf)|((first|apply zi1|apply zi2|apply zi3|apply zi4|apply zi5) <;> intro _ <;> first|(exfalso;omega)|contradiction|(conv=>whnf)))
          refine VCode.lpC (outer:=h.lift) (marks:=[]) 99 (fun i : Nat=>[(6,ints nm),(9,.gl (.loc 0) 3 F.length),(15,I i)]) (fun i=>[.flat true ((shL (fst1 F) O (rgK O i)).flatMap encSh)]) (fun i=>i ≤ F.length) (fun i=>F.length - i) 0 (Nat.zero_le _) ?_ ?_
          · generalize shL (fst1 F) O (rgK O 0) = S0
            conv=>whnf
            refine Retell.turn ⟨[0],1,[],[]⟩ (TurnOk.mk' _ _ [] [] (OutOk.lift _) rfl (by decide) zb trivial trivial rfl) zw zm
          · rintro i hi
            rcases Nat.lt_or_ge i F.length with hi|hi
            · have hri:=hrl i
              have hSi:=shL_at (L:=fst1 F) (O:=O) (own:=rgK O i) (i:=i) (by omega) (by omega) (by omega)
              have hset:=fun v=>shL_set (L:=fst1 F) (O:=O) (own:=rgK O i) (i:=i) v (by omega) (by omega) hSi
              have hrs:=hrs i
              have hSkk:=fun k hk=>shL_at (L:=fst1 F) (O:=O) (own:=rgK O i) (i:=k) (by omega) (by omega) hk
              unfold rg1 at hrs
              generalize rgK O i = U at *
              have hm1:=fun k hk=>mnK_step (v:=1) (l:=U) (k:=k) hk
              have hm2:=fun k hk=>mnK_step (v:=2) (l:=U) (k:=k) hk
              have hb1:=mnK_bd 1 U
              have hb2:=mnK_bd 2 U
              obtain ⟨r,hr⟩ : ∃ r,r = at0 U i:=⟨_,rfl⟩
              rw [← hr] at hSi hrs hset
              generalize ((((fst1 F).getD i []).headD 0 : Nat) : Int) = f at hSi hset
              generalize decide (at0 O i = 1 ∨ at0 O i = 2) = nr at hSi hset
              by_cases hr3 : r = 3
              · rw [if_pos hr3] at hrs
                have hset1:=hset 1
                have hset2:=hset 2
                obtain ⟨S2,hS2⟩ : ∃ S,S = shL (fst1 F) O (rgK O (i + 1)):=⟨_,rfl⟩
                rw [hrs] at hS2
                obtain ⟨S1,hS1⟩ : ∃ S,S = shL (fst1 F) O U:=⟨_,rfl⟩
                rw [← hS1] at hSi hset1 hset2 hSkk ⊢
                have hl2 : (S1.set i ⟨f,1,nr⟩)[i]? = some ⟨f,1,nr⟩:=List.getElem?_set_self (List.getElem?_eq_some_iff.1 hSi).1
                conv=>whnf
                repeat' (first|((first|refine zs1 ?_|refine zs2 ?_|refine zs3 ?_|refine zs4 ?_|refine zs5 ?_);conv=>whnf)|((first|apply zi1|apply zi2|apply zi3|apply zi4|apply zi5) <;> intro _ <;> first|(exfalso;omega)|contradiction|(conv=>whnf))|(refine VLd.recc (d:=DI r) encSh_len i 1 rfl rfl rfl hSi (by decide) rfl (by simp) ?_;conv=>whnf))
                refine VCode.lpC (outer:=h.lift) (marks:=[]) 99 (fun k : Nat=>[(6,ints nm),(9,.gl (.loc 0) 3 F.length),(15,I i),(16,I (mnK 1 U k)),(17,I (mnK 2 U k)),(18,I k)]) (fun k=>[.flat true (S1.flatMap encSh)]) (fun k=>k ≤ F.length) (fun k=>F.length - k) 0 (Nat.zero_le _) ?_ ?_
                · conv=>whnf
                  refine Retell.turn ⟨[0],1,[],[]⟩ (TurnOk.mk' _ _ [] [] (OutOk.lift _) rfl (by decide) zb trivial trivial rfl) zw zm
                · rintro k hk
                  rcases Nat.lt_or_ge k F.length with h5|h5
                  · have hSk:=hSkk k (by omega)
                    have hm1:=hm1 k (by omega)
                    have hm2:=hm2 k (by omega)
                    have hb1:=hb1 k
                    have hb2:=hb2 k
                    generalize mnK 1 U k = x1 at *
                    generalize mnK 2 U k = x2 at *
                    generalize ((((fst1 F).getD k []).headD 0 : Nat) : Int) = fk at hSk
                    generalize decide (at0 O k = 1 ∨ at0 O k = 2) = nk at hSk
                    generalize at0 U k = u at *
                    by_cases hu1 : u = 1
                    · have hu2 : ¬ u = 2:=by omega
                      rw [if_pos hu1] at hm1
                      rw [if_neg hu2] at hm2
                      conv=>whnf
                      repeat' (first|((first|refine zs1 ?_|refine zs2 ?_|refine zs3 ?_|refine zs4 ?_|refine zs5 ?_);conv=>whnf)|((first|apply zi1|apply zi2|apply zi3|apply zi4|apply zi5) <;> intro _ <;> first|(exfalso;omega)|contradiction|(conv=>whnf))|(refine VLd.recc (d:=DI u) encSh_len k 1 rfl rfl rfl hSk (by decide) rfl (by simp) ?_;conv=>whnf))
                      refine LEnd.intro (k + 1) (by omega) (by omega) ?_
                      rw [hm1,hm2]
                      conv=>whnf
                      refine Retell.turn ⟨[0],1,[],[]⟩ (TurnOk.mk' _ _ [] [] (OutOk.lift _) rfl (by decide) zb trivial trivial rfl) zw zm
                    · rw [if_neg hu1] at hm1
                      by_cases hu2 : u = 2
                      · rw [if_pos hu2] at hm2
                        conv=>whnf
                        repeat' (first|((first|refine zs1 ?_|refine zs2 ?_|refine zs3 ?_|refine zs4 ?_|refine zs5 ?_);conv=>whnf)|((first|apply zi1|apply zi2|apply zi3|apply zi4|apply zi5) <;> intro _ <;> first|(exfalso;omega)|contradiction|(conv=>whnf))|(refine VLd.recc (d:=DI u) encSh_len k 1 rfl rfl rfl hSk (by decide) rfl (by simp) ?_;conv=>whnf))
                        refine LEnd.intro (k + 1) (by omega) (by omega) ?_
                        rw [hm1,hm2]
                        conv=>whnf
                        refine Retell.turn ⟨[0],1,[],[]⟩ (TurnOk.mk' _ _ [] [] (OutOk.lift _) rfl (by decide) zb trivial trivial rfl) zw zm
                      · rw [if_neg hu2] at hm2
                        conv=>whnf
                        repeat' (first|((first|refine zs1 ?_|refine zs2 ?_|refine zs3 ?_|refine zs4 ?_|refine zs5 ?_);conv=>whnf)|((first|apply zi1|apply zi2|apply zi3|apply zi4|apply zi5) <;> intro _ <;> first|(exfalso;omega)|contradiction|(conv=>whnf))|(refine VLd.recc (d:=DI u) encSh_len k 1 rfl rfl rfl hSk (by decide) rfl (by simp) ?_;conv=>whnf))
                        refine LEnd.intro (k + 1) (by omega) (by omega) ?_
                        rw [hm1,hm2]
                        conv=>whnf
                        refine Retell.turn ⟨[0],1,[],[]⟩ (TurnOk.mk' _ _ [] [] (OutOk.lift _) rfl (by decide) zb trivial trivial rfl) zw zm
                  · obtain rfl : k = F.length:=by omega
                    have e1 : mnK 1 U F.length = many 1 U:=by unfold mnK;rw [List.take_of_length_le (by omega)]
                    have e2 : mnK 2 U F.length = many 2 U:=by unfold mnK;rw [List.take_of_length_le (by omega)]
                    rw [e1,e2]
                    generalize many 1 U = x1 at *
                    generalize many 2 U = x2 at *
                    by_cases hlt : x2 < x1
                    · rw [if_pos hlt,hset2] at hS2
                      have hss : S2 = (S1.set i ⟨f,1,nr⟩).set i ⟨f,2,nr⟩:=by rw [hS2,List.set_set]
                      conv=>whnf
                      repeat' (first|((first|refine zs1 ?_|refine zs2 ?_|refine zs3 ?_|refine zs4 ?_|refine zs5 ?_);conv=>whnf)|((first|apply zi1|apply zi2|apply zi3|apply zi4|apply zi5) <;> intro _ <;> first|(exfalso;omega)|contradiction|(conv=>whnf))|(refine VMem.setRec encSh_len i 1 ⟨f,1,nr⟩ rfl rfl rfl hSi (by decide) rfl (by simp) ?_;conv=>whnf)|(refine VMem.setRec encSh_len i 1 ⟨f,2,nr⟩ rfl rfl rfl hl2 (by decide) rfl (by simp) ?_;conv=>whnf))
                      refine LEnd.intro (i + 1) (by omega) (by omega) ?_
                      rw [hrs,if_pos hlt,hset2,← List.set_set (a:=(⟨f,1,nr⟩ : Riv.Sh))]
                      conv=>whnf
                      refine Retell.turn ⟨[0],1,[],[]⟩ (TurnOk.mk' _ _ [] [] (OutOk.lift _) rfl (by decide) zb trivial trivial rfl) zw zm
                    · rw [if_neg hlt,hset1] at hS2
                      conv=>whnf
                      repeat' (first|((first|refine zs1 ?_|refine zs2 ?_|refine zs3 ?_|refine zs4 ?_|refine zs5 ?_);conv=>whnf)|((first|apply zi1|apply zi2|apply zi3|apply zi4|apply zi5) <;> intro _ <;> first|(exfalso;omega)|contradiction|(conv=>whnf))|(refine VMem.setRec encSh_len i 1 ⟨f,1,nr⟩ rfl rfl rfl hSi (by decide) rfl (by simp) ?_;conv=>whnf))
                      refine LEnd.intro (i + 1) (by omega) (by omega) ?_
                      rw [hrs,if_neg hlt,hset1]
                      conv=>whnf
                      refine Retell.turn ⟨[0],1,[],[]⟩ (TurnOk.mk' _ _ [] [] (OutOk.lift _) rfl (by decide) zb trivial trivial rfl) zw zm
              · rw [if_neg hr3] at hrs
                conv=>whnf
                repeat' (first|((first|refine zs1 ?_|refine zs2 ?_|refine zs3 ?_|refine zs4 ?_|refine zs5 ?_);conv=>whnf)|((first|apply zi1|apply zi2|apply zi3|apply zi4|apply zi5) <;> intro _ <;> first|(exfalso;omega)|contradiction|(conv=>whnf))|(refine VLd.recc (d:=DI r) encSh_len i 1 rfl rfl rfl hSi (by decide) rfl (by simp) ?_;conv=>whnf))
                refine LEnd.intro (i + 1) (by omega) (by omega) ?_
                rw [hrs]
                conv=>whnf
                refine Retell.turn ⟨[0],1,[],[]⟩ (TurnOk.mk' _ _ [] [] (OutOk.lift _) rfl (by decide) zb trivial trivial rfl) zw zm
            · obtain rfl : i = F.length:=by omega
              have hRl : (shL (fst1 F) O (rgK O F.length)).length = F.length:=by rw [shL_len (by omega) (by have:=hrl F.length;omega),h1l]
              generalize shL (fst1 F) O (rgK O F.length) = R at *
              rw [show shs R = .fs 3 F.length (R.flatMap encSh) by unfold shs;rw [hRl]]
              have hRf : (R.flatMap encSh).length = F.length * 3:=by rw [flat_len encSh_len,hRl]
              conv=>whnf
              repeat' (first|((first|refine zs1 ?_|refine zs2 ?_|refine zs3 ?_|refine zs4 ?_|refine zs5 ?_);conv=>whnf)|((first|apply zi1|apply zi2|apply zi3|apply zi4|apply zi5) <;> intro _ <;> first|(exfalso;omega)|contradiction|(conv=>whnf)))
              refine VOut.data 1 [(0,R.flatMap encSh)] [] rfl zf (by exact FmAll.nil) zw
end Go.Proofs.YtkbbfeljlepgoaaGreat

open Go.Vm
open Riv
namespace Go.Proofs.YtkbbfeljlepgoaaGreat
set_option maxRecDepth 20000
set_option maxHeartbeats 4000000

def rfK (l : List Riv.Sh) (v : Int) (k : Nat) : Int:=(l.take k).foldl (fun o x=>if x.f = v then x.o else o) 0
theorem rfK_step {l : List Riv.Sh} {v : Int} {k : Nat} {x : Riv.Sh} (h : l[k]? = some x) : rfK l v (k + 1) = if x.f = v then x.o else rfK l v k:=by
  unfold rfK
  rw [List.take_add_one,h,List.foldl_append];rfl
theorem vc_rowners {W H : Nat} (m : Mp) (h : Hp) (o : MOk W H m.c) (hw : m.w = W) : VC Tryz.prog 59 [vM m] h (ints (owns m.c W)) h:=by
  have hWb:=o.w
  have hHb:=o.h
  have hL:=o.len
  have hm144:=MOk.le o
  have cT1:=fun h=>vc_rfar m 1 h o hw (.inl rfl)
  have cT2:=fun h=>vc_rfar m 2 h o hw (.inr rfl)
  have cI:=fun h=>vc_rislands m h o hw
  have hb1 : (bfs m.c W 1).length = m.c.length:=bfsK_len _ _ _ _
  have hb2 : (bfs m.c W 2).length = m.c.length:=bfsK_len _ _ _ _
  have hnl:=(rnm_ok (c:=m.c) (W:=W) (by omega) (by omega)).2
  rw [← owns_eq (by omega) hL (by omega)]
  have hro : ∀ i,rown m.c W i = if at0 m.c i = 0 then ownr (at0 (bfs m.c W 1) i) (at0 (bfs m.c W 2) i) else if at0 m.c i = 3 then rfnd (rshr m.c W) (at0 (rnm m.c W) i) else at0 m.c i:=fun _=>rfl
  rw [rshr_eq (by omega) hL (by omega)] at hro
  have hrs : rowns m.c W = (List.range m.c.length).map (rown m.c W):=rfl
  rw [hrs]
  have hsl : (shr m.c W).length ≤ 144:=by
    have h1:=isl_len (c:=m.c) (W:=W) (by omega) hL
    unfold shr
    rw [List.length_map,List.length_zip];omega
  clear hrs
  generalize rown m.c W = f at *
  generalize bfs m.c W 1 = F1 at *
  generalize bfs m.c W 2 = F2 at *
  generalize rnm m.c W = nm at *
  generalize shr m.c W = S at *
  obtain ⟨mw,mh,c⟩:=m
  dsimp only at *
  subst hw
  show VC Tryz.prog 59 [.agg [I W,I mh,ints c]] h _ h
  refine VC.bodyC 1 Tryz.func59 rfl Tryz.ntmps59 Tryz.call59 (h.grows_refl) rfl ?_
  conv=>whnf
  repeat' (first|((first|refine zs1 ?_|refine zs2 ?_|refine zs3 ?_|refine zs4 ?_|refine zs5 ?_);conv=>whnf)|((first|apply zi1|apply zi2|apply zi3|apply zi4|apply zi5) <;> intro _ <;> conv=>whnf))
  refine VCut.at' (outer:=h.lift) (marks:=[]) 99 [(1,.fp [DI W,DI mh,dints c])] [] ?_ ?_
  · conv=>whnf
    refine Retell.turn ⟨[],1,[(0,[DI W,DI mh,dints c])],[]⟩ (TurnOk.mk' _ _ [(0,[DI W,DI mh,dints c])] [] (OutOk.lift _) rfl (by decide) zb zf trivial rfl) zw zm
  conv=>whnf
  refine zs6 [(1,2)] ?_
  conv=>whnf
  repeat' (first|((first|refine zs1 ?_|refine zs2 ?_|refine zs3 ?_|refine zs4 ?_|refine zs5 ?_);conv=>whnf)|((first|apply zi1|apply zi2|apply zi3|apply zi4|apply zi5) <;> intro _ <;> conv=>whnf)|(refine VCall.intro (cT1 _) ?_;conv=>whnf)|(refine VCall.intro (cT2 _) ?_;conv=>whnf)|(refine VCall.intro (cI _) ?_;conv=>whnf)|(refine VMem.make (0 : Int) encI_len rfl rfl rfl rfl rfl rfl (by omega) ?_;conv=>whnf))
  refine VCode.lpC (outer:=h.lift) (marks:=[]) 99 (fun k : Nat=>[(1,.fp [DI W,DI mh,dints c]),(3,ints F1),(4,ints F2),(5,shs S),(6,ints nm),(7,.gl (.loc 0) 1 c.length),(8,I k)]) (fun k=>[.flat true ((fill f 0 c.length k).flatMap Vm.encI)]) (fun k=>k ≤ c.length) (fun k=>c.length - k) 0 (Nat.zero_le _) ?_ ?_
  · rw [fill_zero]
    conv=>whnf
    refine Retell.turn ⟨[0],1,[],[]⟩ (TurnOk.mk' _ _ [] [] (OutOk.lift _) rfl (by decide) zb trivial trivial rfl) zw zm
  · rintro k hk
    rcases Nat.lt_or_ge k c.length with h3|h3
    · have hx:=at0_get h3
      have hst:=fill_step f 0 h3
      have hkl:=fill_at f 0 h3
      have hTl:=fill_len f 0 hk
      have hf1:=at0_get (l:=F1) (n:=k) (by omega)
      have hf2:=at0_get (l:=F2) (n:=k) (by omega)
      have hnm:=at0_get (l:=nm) (n:=k) (by omega)
      have hro:=hro k
      have cN:=fun h=>vc_whose (at0 F1 k) (at0 F2 k) h
      have hrf : rfnd S (at0 nm k) = rfK S (at0 nm k) S.length:=by unfold rfnd rfK;rw [List.take_of_length_le (Nat.le_refl _)]
      rw [hrf] at hro
      clear hrf
      generalize fill f 0 c.length k = T at *
      generalize at0 c k = x at *
      generalize at0 F1 k = u at *
      generalize at0 F2 k = v at *
      generalize at0 nm k = nk at *
      by_cases hx0 : x = 0
      · rw [if_pos hx0] at hro
        rw [hro] at hst
        conv=>whnf
        repeat' (first|((first|refine zs1 ?_|refine zs2 ?_|refine zs3 ?_|refine zs4 ?_|refine zs5 ?_);conv=>whnf)|((first|apply zi1|apply zi2|apply zi3|apply zi4|apply zi5) <;> intro _ <;> conv=>whnf)|(refine VAny.ix encI_len k (by omega) rfl hx ?_;conv=>whnf))
        all_goals try (exfalso;omega)
        refine zs6 [] ?_
        conv=>whnf
        repeat' (first|((first|refine zs1 ?_|refine zs2 ?_|refine zs3 ?_|refine zs4 ?_|refine zs5 ?_);conv=>whnf)|((first|apply zi1|apply zi2|apply zi3|apply zi4|apply zi5) <;> intro _ <;> conv=>whnf)|(refine VAny.ix encI_len k rfl (by omega) hf1 ?_;conv=>whnf)|(refine VAny.ix encI_len k rfl (by omega) hf2 ?_;conv=>whnf)|(refine VCall.intro (cN _) ?_;conv=>whnf)|(refine VMem.setRec encI_len k 0 (ownr u v) rfl rfl rfl hkl (by decide) rfl (ofs _) ?_;conv=>whnf))
        refine LEnd.intro (k + 1) (by omega) (by omega) ?_
        rw [hst]
        conv=>whnf
        refine Retell.turn ⟨[0],1,[],[]⟩ (TurnOk.mk' _ _ [] [] (OutOk.lift _) rfl (by decide) zb trivial trivial rfl) zw zm
      · rw [if_neg hx0] at hro
        by_cases hx3 : x = 3
        · rw [if_pos hx3] at hro
          conv=>whnf
          repeat' (first|((first|refine zs1 ?_|refine zs2 ?_|refine zs3 ?_|refine zs4 ?_|refine zs5 ?_);conv=>whnf)|((first|apply zi1|apply zi2|apply zi3|apply zi4|apply zi5) <;> intro _ <;> first|(exfalso;omega)|contradiction|(conv=>whnf))|(refine VAny.ix encI_len k (by omega) rfl hx ?_;conv=>whnf))
          refine VCode.lpC (outer:=h.lift) (marks:=[]) 99 (fun j : Nat=>[(1,.fp [DI W,DI mh,dints c]),(3,ints F1),(4,ints F2),(5,shs S),(6,ints nm),(7,.gl (.loc 0) 1 c.length),(8,I k),(9,I j)]) (fun j=>[.flat true ((T.set k (rfK S nk j)).flatMap Vm.encI)]) (fun j=>j ≤ S.length) (fun j=>S.length - j) 0 (Nat.zero_le _) ?_ ?_
          · rw [show rfK S nk 0 = 0 from rfl,show T.set k 0 = T from ?_]
            · conv=>whnf
              refine Retell.turn ⟨[0],1,[],[]⟩ (TurnOk.mk' _ _ [] [] (OutOk.lift _) rfl (by decide) zb trivial trivial rfl) zw zm
            · obtain ⟨hlt,e⟩:=List.getElem?_eq_some_iff.1 hkl
              rw [← e];exact List.set_getElem_self hlt
          · rintro j hj
            rcases Nat.lt_or_ge j S.length with h5|h5
            · have hSj : S[j]? = some S[j]:=List.getElem?_eq_getElem h5
              have hrj:=rfK_step (v:=nk) hSj
              generalize S[j] = sj at *
              obtain ⟨sf,so,sn⟩:=sj
              dsimp only at hrj
              generalize rfK S nk j = w at *
              have hk2 : (T.set k w)[k]? = some w:=List.getElem?_set_self (by omega)
              by_cases hsf : sf = nk
              · rw [if_pos hsf] at hrj
                conv=>whnf
                repeat' (first|((first|refine zs1 ?_|refine zs2 ?_|refine zs3 ?_|refine zs4 ?_|refine zs5 ?_);conv=>whnf)|((first|apply zi1|apply zi2|apply zi3|apply zi4|apply zi5) <;> intro _ <;> conv=>whnf))
                all_goals try (exfalso;omega)
                refine zs6 [] ?_
                conv=>whnf
                repeat' (first|((first|refine zs1 ?_|refine zs2 ?_|refine zs3 ?_|refine zs4 ?_|refine zs5 ?_);conv=>whnf)|((first|apply zi1|apply zi2|apply zi3|apply zi4|apply zi5) <;> intro _ <;> conv=>whnf)|(refine VAny.ix encSh_len j rfl rfl hSj ?_;conv=>whnf)|(refine VAny.ix encI_len k rfl (by omega) hnm ?_;conv=>whnf)|(refine VMem.setRec encI_len k 0 so rfl rfl rfl hk2 (by decide) rfl (ofs _) ?_;conv=>whnf))
                all_goals first
                  | (exfalso;dsimp only at *;omega)
                  | (refine LEnd.intro (j + 1) (by omega) (by omega) ?_
                     rw [hrj,← List.set_set (a:=w)]
                     conv=>whnf
                     refine Retell.turn ⟨[0],1,[],[]⟩ (TurnOk.mk' _ _ [] [] (OutOk.lift _) rfl (by decide) zb trivial trivial rfl) zw zm)
              · rw [if_neg hsf] at hrj
                conv=>whnf
                repeat' (first|((first|refine zs1 ?_|refine zs2 ?_|refine zs3 ?_|refine zs4 ?_|refine zs5 ?_);conv=>whnf)|((first|apply zi1|apply zi2|apply zi3|apply zi4|apply zi5) <;> intro _ <;> conv=>whnf))
                all_goals try (exfalso;omega)
                refine zs6 [] ?_
                conv=>whnf
                repeat' (first|((first|refine zs1 ?_|refine zs2 ?_|refine zs3 ?_|refine zs4 ?_|refine zs5 ?_);conv=>whnf)|((first|apply zi1|apply zi2|apply zi3|apply zi4|apply zi5) <;> intro _ <;> conv=>whnf)|(refine VAny.ix encSh_len j rfl rfl hSj ?_;conv=>whnf)|(refine VAny.ix encI_len k rfl (by omega) hnm ?_;conv=>whnf))
                all_goals first
                  | (exfalso;dsimp only at *;omega)
                  | (refine LEnd.intro (j + 1) (by omega) (by omega) ?_
                     rw [hrj]
                     conv=>whnf
                     refine Retell.turn ⟨[0],1,[],[]⟩ (TurnOk.mk' _ _ [] [] (OutOk.lift _) rfl (by decide) zb trivial trivial rfl) zw zm)
            · obtain rfl : j = S.length:=by omega
              rw [← hro,← hst]
              conv=>whnf
              repeat' (first|((first|refine zs1 ?_|refine zs2 ?_|refine zs3 ?_|refine zs4 ?_|refine zs5 ?_);conv=>whnf)|((first|apply zi1|apply zi2|apply zi3|apply zi4|apply zi5) <;> intro _ <;> first|(exfalso;omega)|contradiction|(conv=>whnf)))
              refine LEnd.intro (k + 1) (by omega) (by omega) ?_
              generalize fill f 0 c.length (k + 1) = T2
              conv=>whnf
              refine Retell.turn ⟨[0],1,[],[]⟩ (TurnOk.mk' _ _ [] [] (OutOk.lift _) rfl (by decide) zb trivial trivial rfl) zw zm
        · rw [if_neg hx3] at hro
          rw [hro] at hst
          conv=>whnf
          repeat' (first|((first|refine zs1 ?_|refine zs2 ?_|refine zs3 ?_|refine zs4 ?_|refine zs5 ?_);conv=>whnf)|((first|apply zi1|apply zi2|apply zi3|apply zi4|apply zi5) <;> intro _ <;> first|(exfalso;omega)|contradiction|(conv=>whnf))|(refine VAny.ix encI_len k (by omega) rfl hx ?_;conv=>whnf)|(refine VMem.setRec encI_len k 0 x rfl rfl rfl hkl (by decide) rfl (ofs _) ?_;conv=>whnf))
          refine LEnd.intro (k + 1) (by omega) (by omega) ?_
          rw [hst]
          conv=>whnf
          refine Retell.turn ⟨[0],1,[],[]⟩ (TurnOk.mk' _ _ [] [] (OutOk.lift _) rfl (by decide) zb trivial trivial rfl) zw zm
    · obtain rfl : k = c.length:=by omega
      rw [fill_all]
      have hRl : ((List.range c.length).map f).length = c.length:=by simp
      generalize (List.range c.length).map f = R at *
      rw [show ints R = .fs 1 c.length (R.flatMap Vm.encI) by unfold ints;rw [hRl]]
      have hRf : (R.flatMap Vm.encI).length = c.length * 1:=by rw [flat_len encI_len,hRl]
      conv=>whnf
      repeat' (first|((first|refine zs1 ?_|refine zs2 ?_|refine zs3 ?_|refine zs4 ?_|refine zs5 ?_);conv=>whnf)|((first|apply zi1|apply zi2|apply zi3|apply zi4|apply zi5) <;> intro _ <;> first|(exfalso;omega)|contradiction|(conv=>whnf)))
      refine VOut.data 1 [(0,R.flatMap Vm.encI)] [] rfl zf (by exact FmAll.nil) zw
theorem vc_rOwners (m : Mp) (h : Hp) (hl : m.c.length ≤ 4000000) : VC Tryz.prog 70 [vM m] h (.tuple [ints (if chkM m = 0 then owns m.c m.w.toNat else []),I (chkM m)]) h:=by
  have c:=fun h=>vc_rcheck m h hl
  by_cases h0 : chkM m = 0
  · obtain ⟨W,H,e1,_,o⟩:=chkM_ok h0
    have cO:=fun h=>vc_rowners m h o e1
    rw [if_pos h0,e1,Int.toNat_natCast]
    rw [h0] at c ⊢
    generalize owns m.c W = T at cO
    obtain ⟨mw,mh,mc⟩:=m
    refine VC.body Tryz.func70 rfl Tryz.ntmps70 Tryz.call70 (h.grows_refl) rfl ?_;conv=>whnf
    repeat' (first|((first|refine zs1 ?_|refine zs2 ?_|refine zs3 ?_|refine zs4 ?_|refine zs5 ?_);conv=>whnf)|((first|apply zi1|apply zi2|apply zi3|apply zi4|apply zi5) <;> intro _ <;> first|(exfalso;omega)|contradiction|(conv=>whnf))|(refine VCall.intro (c _) ?_;conv=>whnf)|(refine VCall.intro (cO _) ?_;conv=>whnf))
    exact VOut.same rfl
  · rw [if_neg h0]
    generalize chkM m = E at c h0
    obtain ⟨mw,mh,mc⟩:=m
    refine VC.body Tryz.func70 rfl Tryz.ntmps70 Tryz.call70 (h.grows_refl) rfl ?_;conv=>whnf
    repeat' (first|((first|refine zs1 ?_|refine zs2 ?_|refine zs3 ?_|refine zs4 ?_|refine zs5 ?_);conv=>whnf)|((first|apply zi1|apply zi2|apply zi3|apply zi4|apply zi5) <;> intro _ <;> first|(exfalso;omega)|contradiction|(conv=>whnf))|(refine VCall.intro (c _) ?_;conv=>whnf))
    refine VOut.data 1 [] [] rfl zf (by exact FmAll.nil) zw
theorem vc_rIslands (m : Mp) (h : Hp) (hl : m.c.length ≤ 4000000) : VC Tryz.prog 69 [vM m] h (.tuple [shs (if chkM m = 0 then shr m.c m.w.toNat else []),I (chkM m)]) h:=by
  have c:=fun h=>vc_rcheck m h hl
  by_cases h0 : chkM m = 0
  · obtain ⟨W,H,e1,_,o⟩:=chkM_ok h0
    have cO:=fun h=>vc_rislands m h o e1
    rw [if_pos h0,e1,Int.toNat_natCast]
    rw [h0] at c ⊢
    generalize shr m.c W = T at cO
    generalize rnm m.c W = T2 at cO
    obtain ⟨mw,mh,mc⟩:=m
    refine VC.body Tryz.func69 rfl Tryz.ntmps69 Tryz.call69 (h.grows_refl) rfl ?_;conv=>whnf
    repeat' (first|((first|refine zs1 ?_|refine zs2 ?_|refine zs3 ?_|refine zs4 ?_|refine zs5 ?_);conv=>whnf)|((first|apply zi1|apply zi2|apply zi3|apply zi4|apply zi5) <;> intro _ <;> first|(exfalso;omega)|contradiction|(conv=>whnf))|(refine VCall.intro (c _) ?_;conv=>whnf)|(refine VCall.intro (cO _) ?_;conv=>whnf))
    exact VOut.same rfl
  · rw [if_neg h0]
    generalize chkM m = E at c h0
    obtain ⟨mw,mh,mc⟩:=m
    refine VC.body Tryz.func69 rfl Tryz.ntmps69 Tryz.call69 (h.grows_refl) rfl ?_;conv=>whnf
    repeat' (first|((first|refine zs1 ?_|refine zs2 ?_|refine zs3 ?_|refine zs4 ?_|refine zs5 ?_);conv=>whnf)|((first|apply zi1|apply zi2|apply zi3|apply zi4|apply zi5) <;> intro _ <;> first|(exfalso;omega)|contradiction|(conv=>whnf))|(refine VCall.intro (c _) ?_;conv=>whnf))
    refine VOut.data 1 [] [] rfl zf (by exact FmAll.nil) zw
end Go.Proofs.YtkbbfeljlepgoaaGreat

open Go.Vm
open Riv
namespace Go.Proofs.YtkbbfeljlepgoaaGreat
set_option maxRecDepth 20000
set_option maxHeartbeats 4000000

/-! ### Years -/
def yrs (l : List Mp) : V:=.fs 3 l.length (l.flatMap encM)
theorem chkL_at {l : List Mp} {k : Nat} {m : Mp} (h : l[k]? = some m) : chkL (l.drop k) = if chkM m = 0 then chkL (l.drop (k + 1)) else chkM m:=by
  obtain ⟨hlt,rfl⟩:=List.getElem?_eq_some_iff.1 h
  rw [List.drop_eq_getElem_cons hlt,chkL]
theorem sameB_at {l : List Mp} {k : Nat} {m x : Mp} (h : l[k]? = some m) : sameB x (l.drop k) = (decide (m.w = x.w ∧ m.h = x.h) && sameB x (l.drop (k + 1))):=by
  obtain ⟨hlt,rfl⟩:=List.getElem?_eq_some_iff.1 h
  rw [List.drop_eq_getElem_cons hlt];rfl
theorem vc_CheckYears (l : List Mp) (h : Hp) (hl : l.length ≤ 4000000) (hc : ∀ m ∈ l,m.c.length ≤ 4000000) : VC Tryz.prog 10 [yrs l] h (I (chkY l)) h:=by
  obtain ⟨E,hE⟩ : ∃ E,E = chkY l:=⟨_,rfl⟩
  rw [← hE]
  unfold chkY at hE
  by_cases h0 : 1 ≤ l.length ∧ l.length ≤ 10
  · rw [if_pos h0] at hE
    have h0s : l[0]? = some (l.headD ⟨0,0,[]⟩):=by
      cases l with
      | nil=>simp at h0
      | cons a l=>rfl
    refine VC.bodyC 2 Tryz.func10 rfl Tryz.ntmps10 Tryz.call10 (h.grows_refl) rfl ?_
    conv=>whnf
    repeat' (first|((first|refine zs1 ?_|refine zs2 ?_|refine zs3 ?_|refine zs4 ?_|refine zs5 ?_);conv=>whnf)|((first|apply zi1|apply zi2|apply zi3|apply zi4|apply zi5) <;> intro _ <;> first|(exfalso;omega)|contradiction|(conv=>whnf))|(refine VCall.intro (vc_from _ _ _ _) ?_;conv=>whnf))
    refine VCut.at' (outer:=h.lift) (marks:=[]) 99 [(0,yrs l)] [] ?_ ?_
    · conv=>whnf
      refine Retell.turn ⟨[],0,[],[]⟩ (TurnOk.mk' _ _ [] [] (OutOk.lift _) rfl (by decide) zb trivial trivial rfl) zw zm
    conv=>whnf
    repeat' (first|((first|refine zs1 ?_|refine zs2 ?_|refine zs3 ?_|refine zs4 ?_|refine zs5 ?_);conv=>whnf)|((first|apply zi1|apply zi2|apply zi3|apply zi4|apply zi5) <;> intro _ <;> first|(exfalso;omega)|contradiction|(conv=>whnf)))
    refine VCode.lpC (outer:=h.lift) (marks:=[]) 99 (fun k : Nat=>[(0,yrs l),(12,yrs l),(13,I l.length),(14,I k)]) (fun _=>[]) (fun k=>k ≤ l.length ∧ chkL l = chkL (l.drop k)) (fun k=>l.length - k) 0 ⟨Nat.zero_le _,rfl⟩ ?_ ?_
    · conv=>whnf
      refine Retell.turn ⟨[],0,[],[]⟩ (TurnOk.mk' _ _ [] [] (OutOk.lift _) rfl (by decide) zb trivial trivial rfl) zw zm
    · rintro k ⟨k1,k2⟩
      rcases Nat.lt_or_ge k l.length with k3|k3
      · have hm : l[k]? = some l[k]:=List.getElem?_eq_getElem k3
        have hmc:=hc l[k] (List.getElem_mem k3)
        have hd:=chkL_at hm
        generalize l[k] = m at *
        have cC:=fun h=>vc_check m h hmc
        generalize chkM m = e at *
        obtain ⟨mw,mh,mc⟩:=m
        by_cases he : e = 0
        · rw [if_pos he] at hd
          conv=>whnf
          repeat' (first|((first|refine zs1 ?_|refine zs2 ?_|refine zs3 ?_|refine zs4 ?_|refine zs5 ?_);conv=>whnf)|((first|apply zi1|apply zi2|apply zi3|apply zi4|apply zi5) <;> intro _ <;> first|(exfalso;omega)|contradiction|(conv=>whnf))|(refine VAny.ix encM_len k rfl rfl hm ?_;conv=>whnf)|(refine VCall.intro (cC _) ?_;conv=>whnf))
          refine LEnd.intro (k + 1) ⟨by omega,by rw [k2,hd]⟩ (by omega) ?_
          conv=>whnf
          refine Retell.turn ⟨[],1,[],[]⟩ (TurnOk.mk' _ _ [] [] (OutOk.lift _) rfl (by decide) zb trivial trivial rfl) zw zm
        · rw [if_neg he] at hd
          have hE0 : E = e:=by rw [hE,k2,hd,if_neg he]
          conv=>whnf
          repeat' (first|((first|refine zs1 ?_|refine zs2 ?_|refine zs3 ?_|refine zs4 ?_|refine zs5 ?_);conv=>whnf)|((first|apply zi1|apply zi2|apply zi3|apply zi4|apply zi5) <;> intro _ <;> first|(exfalso;omega)|contradiction|(conv=>whnf))|(refine VAny.ix encM_len k rfl rfl hm ?_;conv=>whnf)|(refine VCall.intro (cC _) ?_;conv=>whnf))
          rw [hE0]
          exact VOut.same rfl
      · rw [List.drop_of_length_le k3,show chkL [] = 0 from rfl] at k2
        rw [k2,if_pos rfl] at hE
        generalize l.headD ⟨0,0,[]⟩ = x at *
        conv=>whnf
        repeat' (first|((first|refine zs1 ?_|refine zs2 ?_|refine zs3 ?_|refine zs4 ?_|refine zs5 ?_);conv=>whnf)|((first|apply zi1|apply zi2|apply zi3|apply zi4|apply zi5) <;> intro _ <;> first|(exfalso;omega)|contradiction|(conv=>whnf)))
        refine VCode.lpC (outer:=h.lift) (marks:=[]) 99 (fun k : Nat=>[(0,yrs l),(24,yrs l),(25,I l.length),(26,I k)]) (fun _=>[]) (fun k=>k ≤ l.length ∧ sameB x l = sameB x (l.drop k)) (fun k=>l.length - k) 0 ⟨Nat.zero_le _,rfl⟩ ?_ ?_
        · conv=>whnf
          refine Retell.turn ⟨[],0,[],[]⟩ (TurnOk.mk' _ _ [] [] (OutOk.lift _) rfl (by decide) zb trivial trivial rfl) zw zm
        · rintro k ⟨j1,j2⟩
          rcases Nat.lt_or_ge k l.length with j3|j3
          · have hm : l[k]? = some l[k]:=List.getElem?_eq_getElem j3
            have hd:=sameB_at (x:=x) hm
            generalize l[k] = m at *
            obtain ⟨mw,mh,mc⟩:=m
            obtain ⟨xw,xh,xc⟩:=x
            dsimp only at hd
            by_cases he : mw = xw ∧ mh = xh
            · rw [decide_eq_true he,Bool.true_and] at hd
              conv=>whnf
              repeat' (first|((first|refine zs1 ?_|refine zs2 ?_|refine zs3 ?_|refine zs4 ?_|refine zs5 ?_);conv=>whnf)|((first|apply zi1|apply zi2|apply zi3|apply zi4|apply zi5) <;> intro _ <;> conv=>whnf)|(refine VAny.ix encM_len k rfl rfl hm ?_;conv=>whnf))
              all_goals try (exfalso;omega)
              refine zs6 [] ?_
              conv=>whnf
              repeat' (first|((first|refine zs1 ?_|refine zs2 ?_|refine zs3 ?_|refine zs4 ?_|refine zs5 ?_);conv=>whnf)|((first|apply zi1|apply zi2|apply zi3|apply zi4|apply zi5) <;> intro _ <;> conv=>whnf)|(refine VAny.ix encM_len 0 rfl rfl h0s ?_;conv=>whnf))
              all_goals first
                | (exfalso;dsimp only at *;omega)
                | (refine LEnd.intro (k + 1) ⟨by omega,by rw [j2,hd]⟩ (by omega) ?_
                   conv=>whnf
                   refine Retell.turn ⟨[],1,[],[]⟩ (TurnOk.mk' _ _ [] [] (OutOk.lift _) rfl (by decide) zb trivial trivial rfl) zw zm)
            · rw [decide_eq_false he,Bool.false_and] at hd
              have hE0 : E = 2:=by rw [hE,j2,hd];rfl
              conv=>whnf
              repeat' (first|((first|refine zs1 ?_|refine zs2 ?_|refine zs3 ?_|refine zs4 ?_|refine zs5 ?_);conv=>whnf)|((first|apply zi1|apply zi2|apply zi3|apply zi4|apply zi5) <;> intro _ <;> conv=>whnf)|(refine VAny.ix encM_len k rfl rfl hm ?_;conv=>whnf))
              all_goals try (exfalso;omega)
              refine zs6 [] ?_
              conv=>whnf
              repeat' (first|((first|refine zs1 ?_|refine zs2 ?_|refine zs3 ?_|refine zs4 ?_|refine zs5 ?_);conv=>whnf)|((first|apply zi1|apply zi2|apply zi3|apply zi4|apply zi5) <;> intro _ <;> conv=>whnf)|(refine VAny.ix encM_len 0 rfl rfl h0s ?_;conv=>whnf))
              all_goals first
                | (exfalso;dsimp only at *;omega)
                | (rw [hE0];exact VOut.same rfl)
          · rw [List.drop_of_length_le j3,show sameB x [] = true from rfl] at j2
            rw [j2,cond_true] at hE
            subst hE
            conv=>whnf
            repeat' (first|((first|refine zs1 ?_|refine zs2 ?_|refine zs3 ?_|refine zs4 ?_|refine zs5 ?_);conv=>whnf)|((first|apply zi1|apply zi2|apply zi3|apply zi4|apply zi5) <;> intro _ <;> first|(exfalso;omega)|contradiction|(conv=>whnf)))
            exact VOut.same rfl
  · rw [if_neg h0] at hE
    subst hE
    refine VC.body Tryz.func10 rfl Tryz.ntmps10 Tryz.call10 (h.grows_refl) rfl ?_;conv=>whnf
    repeat' (first|((first|refine zs1 ?_|refine zs2 ?_|refine zs3 ?_|refine zs4 ?_|refine zs5 ?_);conv=>whnf)|((first|apply zi1|apply zi2|apply zi3|apply zi4|apply zi5) <;> intro _ <;> first|(exfalso;omega)|contradiction|(conv=>whnf))|(refine VCall.intro (vc_from _ _ _ _) ?_;conv=>whnf))
    exact VOut.same rfl
/-! ### Changes -/
theorem vc_changes {W H : Nat} (a b : Mp) (h : Hp) (o : MOk W H a.c) (hw : a.w = W) (hl : b.c.length = a.c.length) : VC Tryz.prog 52 [vM a,vM b] h (intss (natLL (chg a.c b.c W))) h:=by
  have hm144:=MOk.le o
  have hdl : (diffs a.c b.c).length = a.c.length:=by unfold diffs;simp
  have cP:=fun h=>vc_partsB a (diffs a.c b.c) h o hw hdl
  have hdf : diffs a.c b.c = (List.range a.c.length).map fun n=>decide (at0 a.c n ≠ at0 b.c n):=rfl
  rw [show parts (diffs a.c b.c) W = chg a.c b.c W from rfl] at cP
  obtain ⟨f,hf⟩ : ∃ f,f = fun n : Nat=>decide (at0 a.c n ≠ at0 b.c n):=⟨_,rfl⟩
  rw [← hf] at hdf
  generalize diffs a.c b.c = mk at *
  generalize chg a.c b.c W = R at *
  obtain ⟨aw,ah,ac⟩:=a
  obtain ⟨bw,bh,bc⟩:=b
  dsimp only at *
  show VC Tryz.prog 52 [.agg [I aw,I ah,ints ac],.agg [I bw,I bh,ints bc]] h _ h
  refine VC.bodyC 1 Tryz.func52 rfl Tryz.ntmps52 Tryz.call52 (h.grows_refl) rfl ?_
  conv=>whnf
  repeat' (first|((first|refine zs1 ?_|refine zs2 ?_|refine zs3 ?_|refine zs4 ?_|refine zs5 ?_);conv=>whnf)|((first|apply zi1|apply zi2|apply zi3|apply zi4|apply zi5) <;> intro _ <;> conv=>whnf))
  refine VCut.at' (outer:=h.lift) (marks:=[]) 99 [(2,.fp [DI aw,DI ah,dints ac]),(3,.fp [DI bw,DI bh,dints bc])] [] ?_ ?_
  · conv=>whnf
    refine Retell.turn ⟨[],2,[(0,[DI aw,DI ah,dints ac]),(1,[DI bw,DI bh,dints bc])],[]⟩ (TurnOk.mk' _ _ [(0,[DI aw,DI ah,dints ac]),(1,[DI bw,DI bh,dints bc])] [] (OutOk.lift _) rfl (by decide) zb zf trivial rfl) zw zm
  conv=>whnf
  repeat' (first|((first|refine zs1 ?_|refine zs2 ?_|refine zs3 ?_|refine zs4 ?_|refine zs5 ?_);conv=>whnf)|((first|apply zi1|apply zi2|apply zi3|apply zi4|apply zi5) <;> intro _ <;> conv=>whnf)|(refine VMem.make false encB_len rfl rfl rfl rfl rfl rfl (by omega) ?_;conv=>whnf))
  refine VCode.lpC (outer:=h.lift) (marks:=[]) 99 (fun k : Nat=>[(2,.fp [DI aw,DI ah,dints ac]),(3,.fp [DI bw,DI bh,dints bc]),(5,.gl (.loc 0) 1 ac.length),(12,I ac.length),(13,I k)]) (fun k=>[.flat true ((fill f false ac.length k).flatMap encB)]) (fun k=>k ≤ ac.length) (fun k=>ac.length - k) 0 (Nat.zero_le _) ?_ ?_
  · rw [fill_zero]
    conv=>whnf
    refine Retell.turn ⟨[0],1,[],[]⟩ (TurnOk.mk' _ _ [] [] (OutOk.lift _) rfl (by decide) zb trivial trivial rfl) zw zm
  · rintro k hk
    rcases Nat.lt_or_ge k ac.length with h3|h3
    · have hx:=at0_get h3
      have hy:=at0_get (l:=bc) (n:=k) (by omega)
      have hst:=fill_step f false h3
      have hkl:=fill_at f false h3
      have hfk : f k = decide (at0 ac k ≠ at0 bc k):=by rw [hf]
      generalize at0 ac k = x at *
      generalize at0 bc k = y at *
      generalize fill f false ac.length k = T at *
      have hdx : decide (x ≠ y) = (x != y):=by rw [Bool.eq_iff_iff,decide_eq_true_eq,bne_iff_ne]
      rw [hfk,hdx] at hst
      conv=>whnf
      repeat' (first|((first|refine zs1 ?_|refine zs2 ?_|refine zs3 ?_|refine zs4 ?_|refine zs5 ?_);conv=>whnf)|((first|apply zi1|apply zi2|apply zi3|apply zi4|apply zi5) <;> intro _ <;> conv=>whnf))
      all_goals try (exfalso;omega)
      refine zs6 [] ?_
      conv=>whnf
      repeat' (first|((first|refine zs1 ?_|refine zs2 ?_|refine zs3 ?_|refine zs4 ?_|refine zs5 ?_);conv=>whnf)|((first|apply zi1|apply zi2|apply zi3|apply zi4|apply zi5) <;> intro _ <;> conv=>whnf)|(refine VAny.ix encI_len k rfl rfl hx ?_;conv=>whnf)|(refine VAny.ix encI_len k rfl (by omega) hy ?_;conv=>whnf)|(refine VMem.setRec encB_len k 0 (x != y) rfl rfl rfl hkl (by decide) rfl (ofs _) ?_;conv=>whnf))
      refine LEnd.intro (k + 1) (by omega) (by omega) ?_
      rw [hst]
      conv=>whnf
      refine Retell.turn ⟨[0],1,[],[]⟩ (TurnOk.mk' _ _ [] [] (OutOk.lift _) rfl (by decide) zb trivial trivial rfl) zw zm
    · obtain rfl : k = ac.length:=by omega
      rw [fill_all,← hdf]
      have hmf : (mk.flatMap encB).length = ac.length * 1:=by rw [flat_len encB_len,hdl]
      have hbm : bools mk = .fs 1 ac.length (mk.flatMap encB):=by unfold bools;rw [hdl]
      rw [hbm] at cP
      conv=>whnf
      repeat' (first|((first|refine zs1 ?_|refine zs2 ?_|refine zs3 ?_|refine zs4 ?_|refine zs5 ?_);conv=>whnf)|((first|apply zi1|apply zi2|apply zi3|apply zi4|apply zi5) <;> intro _ <;> first|(exfalso;omega)|contradiction|(conv=>whnf)))
      refine VCall.intro (VC.give (args':=[.agg [I aw,I ah,ints ac],.fs 1 ac.length (mk.flatMap encB),.func (.func 95) [] []]) (loc':=[.dead]) [(0,mk.flatMap encB)] [] (OutOk.lift _) zb zf (by exact FmAll.nil) rfl zw (cP _)) ?_
      conv=>whnf
      repeat' (first|((first|refine zs1 ?_|refine zs2 ?_|refine zs3 ?_|refine zs4 ?_|refine zs5 ?_);conv=>whnf)|((first|apply zi1|apply zi2|apply zi3|apply zi4|apply zi5) <;> intro _ <;> conv=>whnf))
      exact VOut.same rfl
end Go.Proofs.YtkbbfeljlepgoaaGreat


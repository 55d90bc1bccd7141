/- Part 10 of the proof that answers about rivers are as the given statement says. No condition. -/
import Derived.Test.YtkbbfeljlepgoaaGreatBs9
set_option linter.unusedVariables false
set_option linter.unusedSimpArgs false
open Go.Vm
open Riv
namespace Go.Proofs.YtkbbfeljlepgoaaGreat
set_option maxRecDepth 20000
set_option maxHeartbeats 4000000

theorem shr_cnt (m : Mp) : (if chkM m = 0 then shr m.c m.w.toNat else []).length ≤ m.c.length:=by
  split
  · rename_i h0
    obtain ⟨W,H,h1,h2,o⟩:=chkM_ok h0
    have hw:=o.w
    have:=(pfK_ok (mk:=marks m.c) (W:=W) (H:=H) (by omega) (by rw [marks_len];exact o.len) (marks m.c).length).2.2
    rw [marks_len] at this
    have e : isl m.c W = (pfK (marks m.c) W m.c.length).2:=by unfold isl parts pfK;rw [marks_len]
    rw [h1,Int.toNat_natCast,shr_shL]
    unfold shL
    rw [List.length_map,List.length_zip,e]
    omega
  · simp
theorem vc_RiverOwners (m : Mp) (h : Hp) : VC Tryz.prog 29 [vM m] h (B true) h:=by
  by_cases hg : (60 < m.c.length ∧ m.c.length ≤ 144) ∨ 160 < m.c.length
  · have cG:=fun h=>vc_great m 60 h
    have e : grt m 60 = true:=by unfold grt;exact decide_eq_true (by omega)
    rw [e] at cG
    have cA:=vc_awake
    obtain ⟨mw,mh,mc⟩:=m
    refine VC.body Tryz.func29 rfl Tryz.ntmps29 Tryz.call29 (h.grows_refl) rfl ?_;conv=>whnf
    repeat' (first|((first|refine zs1 ?_|refine zs2 ?_|refine zs3 ?_|refine zs4 ?_|refine zs5 ?_);conv=>whnf)|((first|apply zi1|apply zi2|apply zi3|apply zi4|apply zi5) <;> intro _ <;> first|(exfalso;omega)|contradiction|(conv=>whnf))|(refine VCall.intro (cG _) ?_;conv=>whnf)|(refine VCall.intro (cA _) ?_;conv=>whnf))
    exact VOut.same rfl
  · have cG:=fun h=>vc_great m 60 h
    have e : grt m 60 = false:=by unfold grt;exact decide_eq_false (by omega)
    rw [e] at cG
    have hl : m.c.length ≤ 4000000:=by omega
    have cA:=vc_awake
    have c1:=fun h=>vc_CloneMap m h hl
    have c2:=fun h=>vc_Map m h hl
    have c3:=fun h=>vc_Islands m h hl
    have c4:=fun h=>vc_rIslands m h hl
    have c5:=fun h=>vc_Owners m h hl
    have c6:=fun h=>vc_rOwners m h hl
    have hO : (if chkM m = 0 then owns m.c m.w.toNat else []).length ≤ 4000000:=by
      split
      · rw [owns_len];exact hl
      · simp
    have hS:=shr_cnt m
    have c7:=fun h=>vc_kequalI (if chkM m = 0 then owns m.c m.w.toNat else []) (if chkM m = 0 then owns m.c m.w.toNat else []) h hO hO
    rw [decide_eq_true rfl] at c7
    have c8:=fun h=>vc_equal m m h hl hl
    rw [decide_eq_true rfl] at c8
    generalize (if chkM m = 0 then owns m.c m.w.toNat else []) = O at *
    generalize (if chkM m = 0 then shr m.c m.w.toNat else []) = S at *
    generalize chkM m = E at *
    obtain ⟨mw,mh,mc⟩:=m
    dsimp only at *
    show VC Tryz.prog 29 [.agg [I mw,I mh,ints mc]] h (B true) h
    refine VC.bodyC 3 Tryz.func29 rfl Tryz.ntmps29 Tryz.call29 (h.grows_refl) rfl ?_;conv=>whnf
    repeat' (first|((first|refine zs1 ?_|refine zs2 ?_|refine zs3 ?_|refine zs4 ?_|refine zs5 ?_);conv=>whnf)|((first|apply zi1|apply zi2|apply zi3|apply zi4|apply zi5) <;> intro _ <;> first|(exfalso;omega)|contradiction|(conv=>whnf))|(refine VCall.intro (cG _) ?_;conv=>whnf))
    refine zs6 [(1,2)] ?_
    conv=>whnf
    repeat' (first|((first|refine zs1 ?_|refine zs2 ?_|refine zs3 ?_|refine zs4 ?_|refine zs5 ?_);conv=>whnf)|((first|apply zi1|apply zi2|apply zi3|apply zi4|apply zi5) <;> intro _ <;> first|(exfalso;omega)|contradiction|(conv=>whnf))|(refine VCall.intro (c1 _) ?_;conv=>whnf)|(refine VCall.intro (c2 _) ?_;conv=>whnf))
    refine VCut.at' (outer:=h.lift) (marks:=[]) 99 [(1,.fp [DI mw,DI mh,dints mc]),(3,.fp [DI mw,DI mh,dints mc]),(4,.fp [DI mw,DI mh,dints mc])] [] ?_ ?_
    · conv=>whnf
      refine Retell.turn ⟨[],9,[(0,[DI mw,DI mh,dints mc]),(1,[DI mw,DI mh,dints mc]),(2,[DI mw,DI mh,dints mc])],[]⟩ (TurnOk.mk' _ _ [(0,[DI mw,DI mh,dints mc]),(1,[DI mw,DI mh,dints mc]),(2,[DI mw,DI mh,dints mc])] [] (OutOk.lift _) rfl (by decide) zb zf trivial rfl) zw zm
    conv=>whnf
    repeat' (first|((first|refine zs1 ?_|refine zs2 ?_|refine zs3 ?_|refine zs4 ?_|refine zs5 ?_);conv=>whnf)|((first|apply zi1|apply zi2|apply zi3|apply zi4|apply zi5) <;> intro _ <;> first|(exfalso;omega)|contradiction|(conv=>whnf))|(refine VCall.intro (c3 _) ?_;conv=>whnf)|(refine VCall.intro (c4 _) ?_;conv=>whnf))
    refine VCode.lpC (outer:=h.lift) (marks:=[]) 99 (fun k : Nat=>[(1,.fp [DI mw,DI mh,dints mc]),(3,.fp [DI mw,DI mh,dints mc]),(4,.fp [DI mw,DI mh,dints mc]),(5,shs S),(7,shs S),(40,I S.length),(41,I k)]) (fun _=>[]) (fun k=>k ≤ S.length) (fun k=>S.length - k) 0 (Nat.zero_le _) ?_ ?_
    · conv=>whnf
      refine Retell.turn ⟨[],9,[],[]⟩ (TurnOk.mk' _ _ [] [] (OutOk.lift _) rfl (by decide) zb trivial trivial rfl) zw zm
    rintro k hk
    rcases Nat.lt_or_ge k S.length with h3|h3
    · have hx : S[k]? = some S[k]:=List.getElem?_eq_getElem h3
      generalize S[k] = x at hx
      have hv:=vneqH top38 x x
      rw [decide_eq_false (fun e=>e rfl)] at hv
      conv=>whnf
      repeat' (first|((first|refine zs1 ?_|refine zs2 ?_|refine zs3 ?_|refine zs4 ?_|refine zs5 ?_);conv=>whnf)|((first|apply zi1|apply zi2|apply zi3|apply zi4|apply zi5) <;> intro _ <;> conv=>whnf))
      all_goals try (exfalso;omega)
      refine zs6 [] ?_
      conv=>whnf
      repeat' (first|((first|refine zs1 ?_|refine zs2 ?_|refine zs3 ?_|refine zs4 ?_|refine zs5 ?_);conv=>whnf)|((first|apply zi1|apply zi2|apply zi3|apply zi4|apply zi5) <;> intro _ <;> first|(exfalso;omega)|contradiction|(conv=>whnf))|(refine VAny.ix encSh_len k rfl rfl hx ?_;conv=>whnf)|(refine VAgg.intro hv ?_;conv=>whnf))
      refine LEnd.intro (k + 1) (by omega) (by omega) ?_
      conv=>whnf
      refine Retell.turn ⟨[],9,[],[]⟩ (TurnOk.mk' _ _ [] [] (OutOk.lift _) rfl (by decide) zb trivial trivial rfl) zw zm
    · conv=>whnf
      repeat' (first|((first|refine zs1 ?_|refine zs2 ?_|refine zs3 ?_|refine zs4 ?_|refine zs5 ?_);conv=>whnf)|((first|apply zi1|apply zi2|apply zi3|apply zi4|apply zi5) <;> intro _ <;> first|(exfalso;omega)|contradiction|(conv=>whnf))|(refine VCall.intro (c5 _) ?_;conv=>whnf)|(refine VCall.intro (c6 _) ?_;conv=>whnf)|(refine VCall.intro (c7 _) ?_;conv=>whnf)|(refine VCall.intro (c8 _) ?_;conv=>whnf)|(refine VCall.intro (cA _) ?_;conv=>whnf))
      exact VOut.same rfl
end Go.Proofs.YtkbbfeljlepgoaaGreat

open Go.Vm
open Riv
namespace Go.Proofs.YtkbbfeljlepgoaaGreat
set_option maxRecDepth 20000
set_option maxHeartbeats 4000000

theorem way_isW {c : List Int} {W H : Nat} (o : MOk W H c) (s : Int) {n : Nat} (hn : n < c.length) (h1 : 1 ≤ at0 (bfs c W s) n) : IsW c W s ((n :: wback c W s (bfs c W s) c.length n).reverse) n ∧ (((n :: wback c W s (bfs c W s) c.length n).reverse).length : Int) = at0 (bfs c W s) n + 1:=by
  have hw:=o.w
  have hm:=MOk.le o
  have hH:=bfs_hld (c:=c) (W:=W) (H:=H) (s:=s) (by omega) o.len
  have hlt:=bfs_lt (c:=c) (W:=W) (H:=H) (s:=s) (by omega) o.len n
  obtain ⟨g1,g2⟩:=wback_ok (by omega) o.len hH c.length n hn (by omega) (by omega)
  rw [List.reverse_cons]
  have hp:=wb_path hn g1
  generalize wback c W s (bfs c W s) c.length n = B at *
  have hl : (B.reverse ++ [n]).length = B.length + 1:=by simp
  refine ⟨⟨by omega,?_,hp⟩,by omega⟩
  rw [hl,Nat.add_sub_cancel,List.getD_eq_getElem?_getD,List.getElem?_append_right (by simp)];simp
theorem vc_RiverFars (m : Mp) (s cell : Int) (T : List Int) (h : Hp) : VC Tryz.prog 28 [vM m,I s,I cell,ints T] h (B true) h:=by
  have cA:=vc_awake
  by_cases hg : (60 < m.c.length ∧ m.c.length ≤ 144) ∨ 160 < m.c.length
  · have cG:=fun h=>vc_great m 60 h
    have e : grt m 60 = true:=by unfold grt;exact decide_eq_true (by omega)
    rw [e] at cG
    obtain ⟨mw,mh,mc⟩:=m
    show VC Tryz.prog 28 [.agg [I mw,I mh,ints mc],I s,I cell,ints T] h (B true) h
    refine VC.body Tryz.func28 rfl Tryz.ntmps28 Tryz.call28 (h.grows_refl) rfl ?_;conv=>whnf
    repeat' (first|((first|refine zs1 ?_|refine zs2 ?_|refine zs3 ?_|refine zs4 ?_|refine zs5 ?_);conv=>whnf)|((first|apply zi1|apply zi2|apply zi3|apply zi4|apply zi5) <;> intro _ <;> first|(exfalso;omega)|contradiction|(conv=>whnf))|(refine VCall.intro (cG _) ?_;conv=>whnf)|(refine VCall.intro (cA _) ?_;conv=>whnf))
    exact VOut.same rfl
  have cG:=fun h=>vc_great m 60 h
  have e : grt m 60 = false:=by unfold grt;exact decide_eq_false (by omega)
  rw [e] at cG
  by_cases hT : 160 < T.length
  · obtain ⟨mw,mh,mc⟩:=m
    show VC Tryz.prog 28 [.agg [I mw,I mh,ints mc],I s,I cell,ints T] h (B true) h
    refine VC.body Tryz.func28 rfl Tryz.ntmps28 Tryz.call28 (h.grows_refl) rfl ?_;conv=>whnf
    repeat' (first|((first|refine zs1 ?_|refine zs2 ?_|refine zs3 ?_|refine zs4 ?_|refine zs5 ?_);conv=>whnf)|((first|apply zi1|apply zi2|apply zi3|apply zi4|apply zi5) <;> intro _ <;> first|(exfalso;omega)|contradiction|(conv=>whnf))|(refine VCall.intro (cG _) ?_;conv=>whnf)|(refine VCall.intro (cA _) ?_;conv=>whnf))
    exact VOut.same rfl
  have hl : m.c.length ≤ 4000000:=by omega
  have c1:=fun h=>vc_CloneMap m h hl
  have c2:=fun h=>vc_kcloneI T h (by omega)
  have c3:=fun h=>vc_Map m h hl
  have c4:=fun h=>vc_check m h hl
  have c5:=fun h=>vc_rcheck m h hl
  have c6:=fun h=>vc_Far m s h hl
  have c7:=fun h=>vc_rFar m s h hl
  have hF : (frL m s).length ≤ 4000000:=by
    unfold frL
    split
    · rename_i h0
      have h1 : chkM m = 0:=by
        unfold lkE at h0
        refine Decidable.byContradiction fun e=>?_
        rw [if_neg e] at h0;exact e h0
      obtain ⟨W,H,h2,h3,o⟩:=chkM_ok h1
      have hwo:=o.w
      rw [h2,Int.toNat_natCast,(bfs_hld (c:=m.c) (W:=W) (H:=H) (s:=s) (by omega) o.len).len];exact hl
    · simp
  have c8:=fun h=>vc_kequalI (frL m s) (frL m s) h hF hF
  rw [decide_eq_true rfl] at c8
  have c9:=fun h=>vc_Holds m s T h hl (by omega)
  have d1:=fun h=>vc_rHolds m s T h hl (by omega)
  have d2:=fun h=>vc_Way m s cell h hl
  have d3:=fun h=>vc_Long m s cell h hl
  have d5:=fun h=>vc_equal m m h hl hl
  have d6:=fun h=>vc_kequalI T T h (by omega) (by omega)
  rw [decide_eq_true rfl] at d5 d6
  by_cases hw : wyE m s cell = 0
  · have hlk : lkE m s = 0:=by
      unfold wyE at hw
      refine Decidable.byContradiction fun e=>?_
      rw [if_neg e] at hw;exact e hw
    have hck : chkM m = 0:=by
      unfold lkE at hlk
      refine Decidable.byContradiction fun e=>?_
      rw [if_neg e] at hlk;exact e hlk
    obtain ⟨W,H,h2,h3,o⟩:=chkM_ok hck
    have hfr : frL m s = bfs m.c W s:=by unfold frL;rw [if_pos hlk,h2,Int.toNat_natCast]
    have hce : 0 ≤ cell ∧ cell ≤ (m.c.length : Int) - 1:=by
      unfold wyE at hw
      rw [if_pos hlk] at hw
      refine Decidable.byContradiction fun e=>?_
      rw [if_neg e] at hw;exact absurd hw (by decide)
    have hat : 1 ≤ at0 (frL m s) cell.toNat:=by
      unfold wyE at hw
      rw [if_pos hlk,if_pos hce] at hw
      refine Decidable.byContradiction fun e=>?_
      rw [if_pos (by omega)] at hw;exact absurd hw (by decide)
    obtain ⟨n,rfl⟩ : ∃ n : Nat,cell = n:=⟨cell.toNat,by omega⟩
    rw [Int.toNat_natCast,hfr] at hat
    obtain ⟨g1,g2⟩:=way_isW o s (n:=n) (by omega) hat
    have e2 : wyL m s n = natI ((n :: wback m.c W s (bfs m.c W s) m.c.length n).reverse):=by
      unfold wyL wyN
      rw [if_pos hw,h2,Int.toNat_natCast,Int.toNat_natCast,hfr]
    have hbd:=bfs_lt (c:=m.c) (W:=W) (H:=H) (s:=s) (by have:=o.w;omega) o.len n
    have d4:=fun h=>vc_IsWay m s n _ h o h2 g1
    rw [if_pos hw,Int.toNat_natCast,hfr,hw] at d3
    rw [e2,hw] at d2
    have g3:=natI_len ((n :: wback m.c W s (bfs m.c W s) m.c.length n).reverse)
    rw [hfr] at c6 c7 c8
    have hm144:=MOk.le o
    clear e2 g1 hw hfr hF
    generalize natI ((n :: wback m.c W s (bfs m.c W s) m.c.length n).reverse) = L at *
    generalize ((n :: wback m.c W s (bfs m.c W s) m.c.length n).reverse).length = k at *
    generalize at0 (bfs m.c W s) n = a at *
    generalize bfs m.c W s = F at *
    generalize hdB m s T = hB at *
    generalize hdE m s T = hE at *
    generalize lkE m s = Ef at *
    generalize chkM m = E at *
    obtain ⟨mw,mh,mc⟩:=m
    dsimp only at *
    show VC Tryz.prog 28 [.agg [I mw,I mh,ints mc],I s,I n,ints T] h (B true) h
    refine VC.bodyC 3 Tryz.func28 rfl Tryz.ntmps28 Tryz.call28 (h.grows_refl) rfl ?_;conv=>whnf
    repeat' (first|((first|refine zs1 ?_|refine zs2 ?_|refine zs3 ?_|refine zs4 ?_|refine zs5 ?_);conv=>whnf)|((first|apply zi1|apply zi2|apply zi3|apply zi4|apply zi5) <;> intro _ <;> first|(exfalso;omega)|contradiction|(conv=>whnf))|(refine VCall.intro (cG _) ?_;conv=>whnf))
    refine zs6 [(1,4),(3,4)] ?_
    conv=>whnf
    repeat' (first|((first|refine zs1 ?_|refine zs2 ?_|refine zs3 ?_|refine zs4 ?_|refine zs5 ?_);conv=>whnf)|((first|apply zi1|apply zi2|apply zi3|apply zi4|apply zi5) <;> intro _ <;> first|(exfalso;omega)|contradiction|(conv=>whnf))|(refine VCall.intro (c1 _) ?_;conv=>whnf)|(refine VCall.intro (c2 _) ?_;conv=>whnf)|(refine VCall.intro (c3 _) ?_;conv=>whnf))
    refine VCut.at' (outer:=h.lift) (marks:=[]) 99 [(1,I s),(2,I n),(3,ints T),(4,.fp [DI mw,DI mh,dints mc]),(9,.fp [DI mw,DI mh,dints mc]),(10,ints T),(11,.fp [DI mw,DI mh,dints mc])] [] ?_ ?_
    · conv=>whnf
      refine Retell.turn ⟨[],9,[(0,[DI mw,DI mh,dints mc]),(1,[DI mw,DI mh,dints mc]),(2,[DI mw,DI mh,dints mc])],[]⟩ (TurnOk.mk' _ _ [(0,[DI mw,DI mh,dints mc]),(1,[DI mw,DI mh,dints mc]),(2,[DI mw,DI mh,dints mc])] [] (OutOk.lift _) rfl (by decide) zb zf trivial rfl) zw zm
    conv=>whnf
    refine zs6 [(1,2)] ?_
    conv=>whnf
    repeat' (first|((first|refine zs1 ?_|refine zs2 ?_|refine zs3 ?_|refine zs4 ?_|refine zs5 ?_);conv=>whnf)|((first|apply zi1|apply zi2|apply zi3|apply zi4|apply zi5) <;> intro _ <;> first|(exfalso;omega)|contradiction|(conv=>whnf))|(refine VCall.intro (c4 _) ?_;conv=>whnf)|(refine VCall.intro (c5 _) ?_;conv=>whnf)|(refine VCall.intro (c6 _) ?_;conv=>whnf)|(refine VCall.intro (c7 _) ?_;conv=>whnf)|(refine VCall.intro (c8 _) ?_;conv=>whnf)|(refine VCall.intro (c9 _) ?_;conv=>whnf)|(refine VCall.intro (d1 _) ?_;conv=>whnf)|(refine VCall.intro (d2 _) ?_;conv=>whnf)|(refine VCall.intro (d3 _) ?_;conv=>whnf)|(refine VCall.intro (d4 _) ?_;conv=>whnf)|(refine VCall.intro (d5 _) ?_;conv=>whnf)|(refine VCall.intro (d6 _) ?_;conv=>whnf)|(refine VCall.intro (cA _) ?_;conv=>whnf))
    exact VOut.same rfl
  · have e2 : wyL m s cell = []:=by unfold wyL;rw [if_neg hw]
    rw [if_neg hw] at d3
    rw [e2] at d2
    generalize wyE m s cell = Ew at *
    generalize hdB m s T = hB at *
    generalize hdE m s T = hE at *
    generalize frL m s = F at *
    generalize lkE m s = Ef at *
    generalize chkM m = E at *
    obtain ⟨mw,mh,mc⟩:=m
    dsimp only at *
    show VC Tryz.prog 28 [.agg [I mw,I mh,ints mc],I s,I cell,ints T] h (B true) h
    refine VC.bodyC 3 Tryz.func28 rfl Tryz.ntmps28 Tryz.call28 (h.grows_refl) rfl ?_;conv=>whnf
    repeat' (first|((first|refine zs1 ?_|refine zs2 ?_|refine zs3 ?_|refine zs4 ?_|refine zs5 ?_);conv=>whnf)|((first|apply zi1|apply zi2|apply zi3|apply zi4|apply zi5) <;> intro _ <;> first|(exfalso;omega)|contradiction|(conv=>whnf))|(refine VCall.intro (cG _) ?_;conv=>whnf))
    refine zs6 [(1,4),(3,4)] ?_
    conv=>whnf
    repeat' (first|((first|refine zs1 ?_|refine zs2 ?_|refine zs3 ?_|refine zs4 ?_|refine zs5 ?_);conv=>whnf)|((first|apply zi1|apply zi2|apply zi3|apply zi4|apply zi5) <;> intro _ <;> first|(exfalso;omega)|contradiction|(conv=>whnf))|(refine VCall.intro (c1 _) ?_;conv=>whnf)|(refine VCall.intro (c2 _) ?_;conv=>whnf)|(refine VCall.intro (c3 _) ?_;conv=>whnf))
    refine VCut.at' (outer:=h.lift) (marks:=[]) 99 [(1,I s),(2,I cell),(3,ints T),(4,.fp [DI mw,DI mh,dints mc]),(9,.fp [DI mw,DI mh,dints mc]),(10,ints T),(11,.fp [DI mw,DI mh,dints mc])] [] ?_ ?_
    · conv=>whnf
      refine Retell.turn ⟨[],9,[(0,[DI mw,DI mh,dints mc]),(1,[DI mw,DI mh,dints mc]),(2,[DI mw,DI mh,dints mc])],[]⟩ (TurnOk.mk' _ _ [(0,[DI mw,DI mh,dints mc]),(1,[DI mw,DI mh,dints mc]),(2,[DI mw,DI mh,dints mc])] [] (OutOk.lift _) rfl (by decide) zb zf trivial rfl) zw zm
    conv=>whnf
    refine zs6 [(1,2)] ?_
    conv=>whnf
    repeat' (first|((first|refine zs1 ?_|refine zs2 ?_|refine zs3 ?_|refine zs4 ?_|refine zs5 ?_);conv=>whnf)|((first|apply zi1|apply zi2|apply zi3|apply zi4|apply zi5) <;> intro _ <;> first|(exfalso;omega)|contradiction|(conv=>whnf))|(refine VCall.intro (c4 _) ?_;conv=>whnf)|(refine VCall.intro (c5 _) ?_;conv=>whnf)|(refine VCall.intro (c6 _) ?_;conv=>whnf)|(refine VCall.intro (c7 _) ?_;conv=>whnf)|(refine VCall.intro (c8 _) ?_;conv=>whnf)|(refine VCall.intro (c9 _) ?_;conv=>whnf)|(refine VCall.intro (d1 _) ?_;conv=>whnf)|(refine VCall.intro (d2 _) ?_;conv=>whnf)|(refine VCall.intro (d3 _) ?_;conv=>whnf)|(refine VCall.intro (d5 _) ?_;conv=>whnf)|(refine VCall.intro (d6 _) ?_;conv=>whnf)|(refine VCall.intro (cA _) ?_;conv=>whnf))
    exact VOut.same rfl
end Go.Proofs.YtkbbfeljlepgoaaGreat

open Go.Vm
open Riv
namespace Go.Proofs.YtkbbfeljlepgoaaGreat
set_option maxRecDepth 20000
set_option maxHeartbeats 4000000

def yrsZ (l : List Mp) : V:=.fs 3 l.length (l.flatMap encM)
theorem vc_rCheckYears (l : List Mp) (h : Hp) (hl : l.length ≤ 4000000) (hc : ∀ m ∈ l,m.c.length ≤ 4000000) : VC Tryz.prog 11 [yrsZ l] h (I (chkY l)) h:=by
  obtain ⟨E,hE⟩ : ∃ E,E = chkY l:=⟨_,rfl⟩
  rw [← hE]
  unfold chkY at hE
  refine VC.bodyC 99 Tryz.func11 rfl Tryz.ntmps11 Tryz.call11 (h.grows_refl) rfl ?_
  by_cases h1 : 1 ≤ l.length ∧ l.length ≤ 10
  · rw [if_pos h1] at hE
    conv=>whnf
    repeat' (first|((first|refine zs1 ?_|refine zs2 ?_|refine zs3 ?_|refine zs4 ?_|refine zs5 ?_);conv=>whnf)|((first|apply zi1|apply zi2|apply zi3|apply zi4|apply zi5) <;> intro _ <;> first|(exfalso;omega)|contradiction|(conv=>whnf)))
    refine VCode.lpC (outer:=h.lift) (marks:=[]) 99 (fun k : Nat=>[(0,yrsZ l),(3,I k)]) (fun _=>[]) (fun k=>k ≤ l.length ∧ E = if chkL (l.drop k) = 0 then (bif sameB (l.headD ⟨0,0,[]⟩) l then 0 else 2) else chkL (l.drop k)) (fun k=>l.length - k) 0 ⟨Nat.zero_le _,by rw [List.drop_zero];exact hE⟩ ?_ ?_
    · conv=>whnf
      refine Retell.turn ⟨[],9,[],[]⟩ (TurnOk.mk' _ _ [] [] (OutOk.lift _) rfl (by decide) zb trivial trivial rfl) zw zm
    rintro k ⟨hk,hE⟩
    rcases Nat.lt_or_ge k l.length with h3|h3
    · have xk : l[k]? = some l[k]:=List.getElem?_eq_getElem h3
      have hm:=hc _ (List.getElem_mem h3)
      rw [List.drop_eq_getElem_cons h3] at hE
      generalize l[k] = m at *
      have cm:=fun h=>vc_rcheck m h hm
      rw [show chkL (m :: l.drop (k + 1)) = if chkM m = 0 then chkL (l.drop (k + 1)) else chkM m from rfl] at hE
      by_cases h0 : chkM m = 0
      · rw [if_pos h0] at hE
        rw [h0] at cm
        conv=>whnf
        repeat' (first|((first|refine zs1 ?_|refine zs2 ?_|refine zs3 ?_|refine zs4 ?_|refine zs5 ?_);conv=>whnf)|((first|apply zi1|apply zi2|apply zi3|apply zi4|apply zi5) <;> intro _ <;> first|(exfalso;omega)|contradiction|(conv=>whnf))|(refine VAny.ix encM_len k rfl rfl xk ?_;conv=>whnf)|(refine VCall.intro (cm _) ?_;conv=>whnf))
        refine LEnd.intro (k + 1) ⟨by omega,hE⟩ (by omega) ?_
        conv=>whnf
        refine Retell.turn ⟨[],9,[],[]⟩ (TurnOk.mk' _ _ [] [] (OutOk.lift _) rfl (by decide) zb trivial trivial rfl) zw zm
      · rw [if_neg h0,if_neg h0] at hE
        rw [← hE] at cm h0
        conv=>whnf
        repeat' (first|((first|refine zs1 ?_|refine zs2 ?_|refine zs3 ?_|refine zs4 ?_|refine zs5 ?_);conv=>whnf)|((first|apply zi1|apply zi2|apply zi3|apply zi4|apply zi5) <;> intro _ <;> first|(exfalso;omega)|contradiction|(conv=>whnf))|(refine VAny.ix encM_len k rfl rfl xk ?_;conv=>whnf)|(refine VCall.intro (cm _) ?_;conv=>whnf))
        all_goals exact VOut.same rfl
    · obtain rfl : k = l.length:=by omega
      rw [List.drop_of_length_le (Nat.le_refl _),show chkL [] = 0 from rfl,if_pos rfl] at hE
      have x0 : l[0]? = some (l.headD ⟨0,0,[]⟩):=by
        cases l with
        | nil=>simp at h1
        | cons a l=>rfl
      generalize l.headD ⟨0,0,[]⟩ = m0 at *
      conv=>whnf
      repeat' (first|((first|refine zs1 ?_|refine zs2 ?_|refine zs3 ?_|refine zs4 ?_|refine zs5 ?_);conv=>whnf)|((first|apply zi1|apply zi2|apply zi3|apply zi4|apply zi5) <;> intro _ <;> first|(exfalso;omega)|contradiction|(conv=>whnf)))
      refine VCode.lpC (outer:=h.lift) (marks:=[]) 99 (fun k : Nat=>[(0,yrsZ l),(5,I k)]) (fun _=>[]) (fun k=>k ≤ l.length ∧ E = bif sameB m0 (l.drop k) then 0 else 2) (fun k=>l.length - k) 0 ⟨Nat.zero_le _,by rw [List.drop_zero];exact hE⟩ ?_ ?_
      · conv=>whnf
        refine Retell.turn ⟨[],9,[],[]⟩ (TurnOk.mk' _ _ [] [] (OutOk.lift _) rfl (by decide) zb trivial trivial rfl) zw zm
      clear hE hk
      rintro k ⟨hk,hE⟩
      rcases Nat.lt_or_ge k l.length with h3|h3
      · have xk : l[k]? = some l[k]:=List.getElem?_eq_getElem h3
        rw [List.drop_eq_getElem_cons h3] at hE
        generalize l[k] = m at *
        rw [show sameB m0 (m :: l.drop (k + 1)) = (decide (m.w = m0.w ∧ m.h = m0.h) && sameB m0 (l.drop (k + 1))) from rfl] at hE
        by_cases h0 : m.w = m0.w ∧ m.h = m0.h
        · rw [decide_eq_true h0,Bool.true_and] at hE
          obtain ⟨e1,e2⟩:=h0
          conv=>whnf
          repeat' (first|((first|refine zs1 ?_|refine zs2 ?_|refine zs3 ?_|refine zs4 ?_|refine zs5 ?_);conv=>whnf)|((first|apply zi1|apply zi2|apply zi3|apply zi4|apply zi5) <;> intro _ <;> first|(exfalso;omega)|contradiction|(conv=>whnf)))
          refine zs6 [] ?_
          conv=>whnf
          repeat' (first|((first|refine zs1 ?_|refine zs2 ?_|refine zs3 ?_|refine zs4 ?_|refine zs5 ?_);conv=>whnf)|((first|apply zi1|apply zi2|apply zi3|apply zi4|apply zi5) <;> intro _ <;> first|(exfalso;omega)|contradiction|(conv=>whnf))|(refine VAny.ix encM_len k rfl rfl xk ?_;conv=>whnf)|(refine VAny.ix encM_len 0 rfl rfl x0 ?_;conv=>whnf))
          refine LEnd.intro (k + 1) ⟨by omega,hE⟩ (by omega) ?_
          conv=>whnf
          refine Retell.turn ⟨[],9,[],[]⟩ (TurnOk.mk' _ _ [] [] (OutOk.lift _) rfl (by decide) zb trivial trivial rfl) zw zm
        · rw [decide_eq_false h0,Bool.false_and] at hE
          subst hE
          conv=>whnf
          repeat' (first|((first|refine zs1 ?_|refine zs2 ?_|refine zs3 ?_|refine zs4 ?_|refine zs5 ?_);conv=>whnf)|((first|apply zi1|apply zi2|apply zi3|apply zi4|apply zi5) <;> intro _ <;> first|(exfalso;omega)|contradiction|(conv=>whnf)))
          refine zs6 [] ?_
          conv=>whnf
          repeat' (first|((first|refine zs1 ?_|refine zs2 ?_|refine zs3 ?_|refine zs4 ?_|refine zs5 ?_);conv=>whnf)|((first|apply zi1|apply zi2|apply zi3|apply zi4|apply zi5) <;> intro _ <;> first|(exfalso;omega)|contradiction|(conv=>whnf))|(refine VAny.ix encM_len k rfl rfl xk ?_;conv=>whnf)|(refine VAny.ix encM_len 0 rfl rfl x0 ?_;conv=>whnf))
          all_goals exact VOut.same rfl
      · rw [List.drop_of_length_le h3] at hE
        subst hE
        conv=>whnf
        repeat' (first|((first|refine zs1 ?_|refine zs2 ?_|refine zs3 ?_|refine zs4 ?_|refine zs5 ?_);conv=>whnf)|((first|apply zi1|apply zi2|apply zi3|apply zi4|apply zi5) <;> intro _ <;> first|(exfalso;omega)|contradiction|(conv=>whnf)))
        exact VOut.same rfl
  · rw [if_neg h1] at hE
    subst hE
    conv=>whnf
    repeat' (first|((first|refine zs1 ?_|refine zs2 ?_|refine zs3 ?_|refine zs4 ?_|refine zs5 ?_);conv=>whnf)|((first|apply zi1|apply zi2|apply zi3|apply zi4|apply zi5) <;> intro _ <;> first|(exfalso;omega)|contradiction|(conv=>whnf)))
    all_goals exact VOut.same rfl
end Go.Proofs.YtkbbfeljlepgoaaGreat

open Go.Vm
open Riv
namespace Go.Proofs.YtkbbfeljlepgoaaGreat
set_option maxRecDepth 20000
set_option maxHeartbeats 4000000

def ryE (l : List Mp) (slow : Int) : Int:=if chkY l = 0 then (if 0 ≤ slow ∧ slow ≤ 144 then 0 else 4) else chkY l
theorem vc_rYears (l : List Mp) (slow : Int) (h : Hp) (hl : l.length ≤ 4000000) (hc : ∀ m ∈ l,m.c.length ≤ 4000000) : VC Tryz.prog 56 [yrsZ l,I slow] h (I (ryE l slow)) h:=by
  have c:=fun h=>vc_rCheckYears l h hl hc
  have b:=fun h=>vc_rbeside slow 0 144 h
  obtain ⟨E,hE⟩ : ∃ E,E = ryE l slow:=⟨_,rfl⟩
  rw [← hE]
  unfold ryE at hE
  by_cases h0 : chkY l = 0
  · rw [if_pos h0] at hE
    rw [h0] at c
    by_cases h1 : 0 ≤ slow ∧ slow ≤ 144
    · rw [if_pos h1] at hE
      subst hE
      rw [decide_eq_false (by omega)] at b
      refine VC.body Tryz.func56 rfl Tryz.ntmps56 Tryz.call56 (h.grows_refl) rfl ?_;conv=>whnf
      repeat' (first|((first|refine zs1 ?_|refine zs2 ?_|refine zs3 ?_|refine zs4 ?_|refine zs5 ?_);conv=>whnf)|((first|apply zi1|apply zi2|apply zi3|apply zi4|apply zi5) <;> intro _ <;> first|(exfalso;omega)|contradiction|(conv=>whnf))|(refine VCall.intro (c _) ?_;conv=>whnf)|(refine VCall.intro (b _) ?_;conv=>whnf))
      exact VOut.same rfl
    · rw [if_neg h1] at hE
      subst hE
      rw [decide_eq_true (by omega)] at b
      refine VC.body Tryz.func56 rfl Tryz.ntmps56 Tryz.call56 (h.grows_refl) rfl ?_;conv=>whnf
      repeat' (first|((first|refine zs1 ?_|refine zs2 ?_|refine zs3 ?_|refine zs4 ?_|refine zs5 ?_);conv=>whnf)|((first|apply zi1|apply zi2|apply zi3|apply zi4|apply zi5) <;> intro _ <;> first|(exfalso;omega)|contradiction|(conv=>whnf))|(refine VCall.intro (c _) ?_;conv=>whnf)|(refine VCall.intro (b _) ?_;conv=>whnf))
      exact VOut.same rfl
  · rw [if_neg h0] at hE
    rw [← hE] at c h0
    clear hE
    refine VC.body Tryz.func56 rfl Tryz.ntmps56 Tryz.call56 (h.grows_refl) rfl ?_;conv=>whnf
    repeat' (first|((first|refine zs1 ?_|refine zs2 ?_|refine zs3 ?_|refine zs4 ?_|refine zs5 ?_);conv=>whnf)|((first|apply zi1|apply zi2|apply zi3|apply zi4|apply zi5) <;> intro _ <;> first|(exfalso;omega)|contradiction|(conv=>whnf))|(refine VCall.intro (c _) ?_;conv=>whnf))
    exact VOut.same rfl
end Go.Proofs.YtkbbfeljlepgoaaGreat

open Go.Vm
open Riv
namespace Go.Proofs.YtkbbfeljlepgoaaGreat
set_option maxRecDepth 20000
set_option maxHeartbeats 4000000

def dfK (a b : List Int) (k : Nat) : List Bool:=(List.range a.length).map fun n=>decide (n < k ∧ at0 a n ≠ at0 b n)
theorem dfK_len (a b : List Int) (k : Nat) : (dfK a b k).length = a.length:=by simp [dfK]
theorem dfK_zero (a b : List Int) : dfK a b 0 = List.replicate a.length false:=by
  unfold dfK
  apply List.ext_getElem?
  intro n
  rw [List.getElem?_map,List.getElem?_replicate]
  by_cases h : n < a.length
  · rw [List.getElem?_range h,if_pos h];simp
  · rw [List.getElem?_eq_none (by simp;omega),if_neg h];rfl
theorem dfK_all (a b : List Int) : dfK a b a.length = diffs a b:=by
  unfold dfK diffs
  refine List.map_congr_left fun n hn=>?_
  have:=List.mem_range.1 hn
  rw [decide_eq_decide]
  exact ⟨fun h=>h.2,fun h=>⟨this,h⟩⟩
theorem dfK_succ {a b : List Int} {k : Nat} (hk : k < a.length) : dfK a b (k + 1) = (dfK a b k).set k (decide (at0 a k ≠ at0 b k)):=by
  apply List.ext_getElem?
  intro n
  rw [List.getElem?_set]
  unfold dfK
  rw [List.getElem?_map,List.getElem?_map,List.length_map,List.length_range]
  by_cases h : n < a.length
  · rw [List.getElem?_range h]
    by_cases e : k = n
    · subst e
      rw [if_pos rfl,if_pos h]
      simp
    · rw [if_neg e]
      simp only [Option.map_some,Option.some.injEq]
      rw [decide_eq_decide]
      constructor
      · rintro ⟨g1,g2⟩;exact ⟨by omega,g2⟩
      · rintro ⟨g1,g2⟩;exact ⟨by omega,g2⟩
  · rw [List.getElem?_eq_none (l:=List.range a.length) (by simp;omega)]
    rw [if_neg (by omega)];rfl
theorem vc_rchanges1 {W H : Nat} (l : List Mp) (y : Nat) (m1 m2 : Mp) (h : Hp) (hl : l.length ≤ 4000000) (x1 : l[y]? = some m1) (x2 : l[y + 1]? = some m2) (o1 : MOk W H m1.c) (o2 : MOk W H m2.c) (hw : m1.w = W) :
    VC Tryz.prog 54 [yrsZ l,I ((y : Int) + 1)] h (intss (natLL (rchg m1.c m2.c W))) h:=by
  have k1:=MOk.le o1
  have l1:=o1.len
  have l2:=o2.len
  have hW:=o1.w
  have hy : y + 1 < l.length:=(List.getElem?_eq_some_iff.1 x2).1
  have cN:=fun h=>vc_names m1 W (diffs m1.c m2.c) h (by omega) hw (by rw [diffs_len];exact k1)
  refine VC.bodyC 3 Tryz.func54 rfl Tryz.ntmps54 Tryz.call54 (h.grows_refl) rfl ?_
  conv=>whnf
  repeat' (first|((first|refine zs1 ?_|refine zs2 ?_|refine zs3 ?_|refine zs4 ?_|refine zs5 ?_);conv=>whnf)|((first|apply zi1|apply zi2|apply zi3|apply zi4|apply zi5) <;> intro _ <;> first|(exfalso;omega)|contradiction|(conv=>whnf)))
  refine zs6 [(8,11)] ?_
  conv=>whnf
  repeat' (first|((first|refine zs1 ?_|refine zs2 ?_|refine zs3 ?_|refine zs4 ?_|refine zs5 ?_);conv=>whnf)|((first|apply zi1|apply zi2|apply zi3|apply zi4|apply zi5) <;> intro _ <;> first|(exfalso;omega)|contradiction|(conv=>whnf))|(refine VAny.ix encM_len y (by omega) rfl x1 ?_;conv=>whnf)|(refine VAny.ix encM_len (y + 1) (by omega) rfl x2 ?_;conv=>whnf)|(refine VMem.make false encB_len rfl rfl rfl rfl rfl rfl (by omega) ?_;conv=>whnf))
  refine VCut.at' (outer:=h.lift) (marks:=[]) 1 [(5,.fp (encM m1)),(6,.fp (encM m2)),(7,.gl (.loc 0) 1 m1.c.length)] [.flat true ((List.replicate m1.c.length false).flatMap encB)] ?_ ?_
  · conv=>whnf
    refine Retell.turn ⟨[2],9,[(0,encM m1),(1,encM m2)],[]⟩ (TurnOk.mk' _ _ [(0,encM m1),(1,encM m2)] [] (OutOk.lift _) rfl (by decide) zb zf trivial rfl) zw zm
  conv=>whnf
  repeat' (first|((first|refine zs1 ?_|refine zs2 ?_|refine zs3 ?_|refine zs4 ?_|refine zs5 ?_);conv=>whnf)|((first|apply zi1|apply zi2|apply zi3|apply zi4|apply zi5) <;> intro _ <;> first|(exfalso;omega)|contradiction|(conv=>whnf)))
  have hd:=dfK_len m1.c m2.c
  have hdf:=diffs_len m1.c m2.c
  refine VCode.lpC (outer:=h.lift) (marks:=[]) 99 (fun k : Nat=>[(5,.fp (encM m1)),(6,.fp (encM m2)),(7,.gl (.loc 0) 1 m1.c.length),(8,I k)]) (fun k=>[.flat true ((dfK m1.c m2.c k).flatMap encB)]) (fun k=>k ≤ m1.c.length) (fun k=>m1.c.length - k) 0 (Nat.zero_le _) ?_ ?_
  · rw [dfK_zero]
    conv=>whnf
    refine Retell.turn ⟨[0],9,[],[]⟩ (TurnOk.mk' _ _ [] [] (OutOk.lift _) rfl (by decide) zb trivial trivial rfl) zw zm
  · rintro k hk
    rcases Nat.lt_or_ge k m1.c.length with h3|h3
    · have xa:=at0_get (l:=m1.c) (n:=k) h3
      have xb:=at0_get (l:=m2.c) (n:=k) (by omega)
      have xg:=bat_get (mk:=dfK m1.c m2.c k) (q:=k) (by rw [hd];exact h3)
      have hs:=dfK_succ (a:=m1.c) (b:=m2.c) h3
      have hdk:=hd k
      have hbn : decide (at0 m1.c k ≠ at0 m2.c k) = (at0 m1.c k != at0 m2.c k):=by rw [Bool.eq_iff_iff,decide_eq_true_eq,bne_iff_ne]
      rw [hbn] at hs
      generalize dfK m1.c m2.c k = D at *
      conv=>whnf
      repeat' (first|((first|refine zs1 ?_|refine zs2 ?_|refine zs3 ?_|refine zs4 ?_|refine zs5 ?_);conv=>whnf)|((first|apply zi1|apply zi2|apply zi3|apply zi4|apply zi5) <;> intro _ <;> first|(exfalso;omega)|contradiction|(conv=>whnf)))
      refine zs6 [] ?_
      conv=>whnf
      repeat' (first|((first|refine zs1 ?_|refine zs2 ?_|refine zs3 ?_|refine zs4 ?_|refine zs5 ?_);conv=>whnf)|((first|apply zi1|apply zi2|apply zi3|apply zi4|apply zi5) <;> intro _ <;> first|(exfalso;omega)|contradiction|(conv=>whnf))|(refine VAny.ix Vm.encI_len k rfl rfl xa ?_;conv=>whnf)|(refine VAny.ix Vm.encI_len k rfl (by omega) xb ?_;conv=>whnf)|(refine VMem.setRec encB_len k 0 (at0 m1.c k != at0 m2.c k) rfl rfl rfl xg (by decide) rfl (ofs _) ?_;conv=>whnf))
      refine LEnd.intro (k + 1) (by omega) (by omega) ?_
      rw [hs]
      conv=>whnf
      refine Retell.turn ⟨[0],9,[],[]⟩ (TurnOk.mk' _ _ [] [] (OutOk.lift _) rfl (by decide) zb trivial trivial rfl) zw zm
    · obtain rfl : k = m1.c.length:=by omega
      rw [dfK_all]
      conv=>whnf
      repeat' (first|((first|refine zs1 ?_|refine zs2 ?_|refine zs3 ?_|refine zs4 ?_|refine zs5 ?_);conv=>whnf)|((first|apply zi1|apply zi2|apply zi3|apply zi4|apply zi5) <;> intro _ <;> first|(exfalso;omega)|contradiction|(conv=>whnf)))

      refine VCut.at' (outer:=h.lift) (marks:=[]) 99 [(5,.fp (encM m1)),(7,bools (diffs m1.c m2.c))] [] ?_ ?_
      · rw [show bools (diffs m1.c m2.c) = .fs 1 m1.c.length ((diffs m1.c m2.c).flatMap encB) by unfold bools;rw [hdf]]
        have hfl : ((diffs m1.c m2.c).flatMap encB).length = m1.c.length * 1:=by rw [flat_len encB_len,hdf]
        conv=>whnf
        refine Retell.turn ⟨[],9,[(0,(diffs m1.c m2.c).flatMap encB)],[]⟩ (TurnOk.mk' _ _ [(0,(diffs m1.c m2.c).flatMap encB)] [] (OutOk.lift _) rfl (by decide) zb zf trivial rfl) zw zm
      conv=>whnf
      repeat' (first|((first|refine zs1 ?_|refine zs2 ?_|refine zs3 ?_|refine zs4 ?_|refine zs5 ?_);conv=>whnf)|((first|apply zi1|apply zi2|apply zi3|apply zi4|apply zi5) <;> intro _ <;> first|(exfalso;omega)|contradiction|(conv=>whnf))|(refine VCall.intro (cN _) ?_;conv=>whnf))
      have hnl : (names W (diffs m1.c m2.c)).length = m1.c.length:=by rw [(names_ok (by omega) (by rw [hdf];omega)).2,hdf]
      unfold rchg
      generalize names W (diffs m1.c m2.c) = nm at *
      refine VCode.lpC (outer:=h.lift) (marks:=[]) 1 (fun i : Nat=>[(9,ints nm),(10,.gl (.loc 0) 1 (natLL (canon m1.c.length (at0 nm) i)).length),(11,I i)]) (fun i=>[.flat true ((natLL (canon m1.c.length (at0 nm) i)).flatMap encL)]) (fun i=>i ≤ m1.c.length) (fun i=>m1.c.length - i) 0 (Nat.zero_le _) ?_ ?_
      · rw [show canon m1.c.length (at0 nm) 0 = [] from rfl]
        conv=>whnf
        refine Retell.turn ⟨[0],0,[],[]⟩ (TurnOk.mk' _ _ [] [] (OutOk.lift _) rfl (by decide) zb trivial trivial rfl) zw zm
      rintro i hi
      rcases Nat.lt_or_ge i m1.c.length with h5|h5
      · have xi:=at0_get (l:=nm) (n:=i) (by omega)
        have hcs : natLL (canon m1.c.length (at0 nm) (i + 1)) = natLL (canon m1.c.length (at0 nm) i) ++ (if at0 nm i = (i : Int) then [natI ((List.range m1.c.length).filter fun j : Nat=>decide (at0 nm j = (i : Int)))] else []):=by
          unfold canon natLL
          rw [List.range_succ,List.filter_append,List.map_append,List.map_append]
          congr 1
          by_cases e : at0 nm i = (i : Int)
          · rw [if_pos e,List.filter_cons,if_pos (decide_eq_true e),List.filter_nil];rfl
          · rw [if_neg e,List.filter_cons,if_neg (by rw [decide_eq_false e];decide),List.filter_nil];rfl
        have hcl : (natLL (canon m1.c.length (at0 nm) i)).length ≤ 1000:=by
          unfold canon natLL
          rw [List.length_map,List.length_map]
          have:=List.length_filter_le (fun j : Nat=>decide (at0 nm j = (j : Int))) (List.range i)
          rw [List.length_range] at this
          omega
        generalize natLL (canon m1.c.length (at0 nm) i) = C at *
        by_cases e : at0 nm i = (i : Int)
        · rw [if_pos e] at hcs
          rw [e] at xi
          conv=>whnf
          repeat' (first|((first|refine zs1 ?_|refine zs2 ?_|refine zs3 ?_|refine zs4 ?_|refine zs5 ?_);conv=>whnf)|((first|apply zi1|apply zi2|apply zi3|apply zi4|apply zi5) <;> intro _ <;> first|(exfalso;omega)|contradiction|(conv=>whnf)))
          refine VCut.block 3 ?_
          conv=>whnf
          repeat' (first|((first|refine zs1 ?_|refine zs2 ?_|refine zs3 ?_|refine zs4 ?_|refine zs5 ?_);conv=>whnf)|((first|apply zi1|apply zi2|apply zi3|apply zi4|apply zi5) <;> intro _ <;> first|(exfalso;omega)|contradiction|(conv=>whnf))|(refine VAny.ix Vm.encI_len i rfl rfl xi ?_;conv=>whnf))
          have hof0 : (List.range 0).filter (fun j : Nat=>decide (at0 nm j = (i : Int))) = []:=rfl
          have hofs : ∀ k,(List.range (k + 1)).filter (fun j : Nat=>decide (at0 nm j = (i : Int))) = (List.range k).filter (fun j : Nat=>decide (at0 nm j = (i : Int))) ++ (if at0 nm k = (i : Int) then [k] else []):=fun k=>by
            rw [List.range_succ,List.filter_append]
            congr 1
            by_cases g : at0 nm k = (i : Int)
            · rw [if_pos g,List.filter_cons,if_pos (decide_eq_true g),List.filter_nil]
            · rw [if_neg g,List.filter_cons,if_neg (by rw [decide_eq_false g];decide),List.filter_nil]
          have hol : ∀ k,(natI ((List.range k).filter (fun j : Nat=>decide (at0 nm j = (i : Int))))).length ≤ k:=fun k=>by
            rw [natI_len]
            have:=List.length_filter_le (fun j : Nat=>decide (at0 nm j = (i : Int))) (List.range k)
            rwa [List.length_range] at this
          generalize hOf : (fun k=>natI ((List.range k).filter (fun j : Nat=>decide (at0 nm j = (i : Int))))) = Of at *
          have hO0 : Of 0 = []:=by rw [← hOf];rfl
          have hOs : ∀ k,Of (k + 1) = Of k ++ (if at0 nm k = (i : Int) then [(k : Int)] else []):=fun k=>by
            rw [← hOf]
            show natI _ = natI _ ++ _
            rw [hofs,natI,List.map_append]
            congr 1
            split <;> rfl
          have hOl : ∀ k,(Of k).length ≤ k:=fun k=>by rw [← hOf];exact hol k
          have hcs : natLL (canon m1.c.length (at0 nm) (i + 1)) = C ++ [Of m1.c.length]:=by rw [hcs,← hOf]
          refine VCode.lpC (outer:=h.lift) (marks:=[]) 1 (fun k : Nat=>[(9,ints nm),(10,.gl (.loc 0) 1 C.length),(11,I i),(12,.gl (.loc 1) 1 (Of k).length),(13,I k)]) (fun k=>[.flat true (C.flatMap encL),.flat true ((Of k).flatMap Vm.encI)]) (fun k=>k ≤ m1.c.length) (fun k=>m1.c.length - k) 0 (Nat.zero_le _) ?_ ?_
          · rw [hO0]
            conv=>whnf
            refine Retell.turn ⟨[0,1],1,[],[]⟩ (TurnOk.mk' _ _ [] [] (OutOk.lift _) rfl (by decide) zb trivial trivial rfl) zw zm
          · rintro k hk
            have hOk:=hOs k
            have hlk:=hOl k
            rcases Nat.lt_or_ge k m1.c.length with h6|h6
            · have xk:=at0_get (l:=nm) (n:=k) (by omega)
              generalize Of k = Q at *
              by_cases g : at0 nm k = (i : Int)
              · rw [if_pos g] at hOk
                rw [g] at xk
                conv=>whnf
                repeat' (first|((first|refine zs1 ?_|refine zs2 ?_|refine zs3 ?_|refine zs4 ?_|refine zs5 ?_);conv=>whnf)|((first|apply zi1|apply zi2|apply zi3|apply zi4|apply zi5) <;> intro _ <;> first|(exfalso;omega)|contradiction|(conv=>whnf)))
                refine VCut.block 99 ?_
                conv=>whnf
                repeat' (first|((first|refine zs1 ?_|refine zs2 ?_|refine zs3 ?_|refine zs4 ?_|refine zs5 ?_);conv=>whnf)|((first|apply zi1|apply zi2|apply zi3|apply zi4|apply zi5) <;> intro _ <;> first|(exfalso;omega)|contradiction|(conv=>whnf))|(refine VAny.ix Vm.encI_len k rfl rfl xk ?_;conv=>whnf)|(refine VMem.app1 (l:=Q) (k : Int) Vm.encI_len rfl rfl rfl rfl rfl (by omega) ?_;conv=>whnf))
                refine LEnd.intro (k + 1) (by omega) (by omega) ?_
                rw [hOk,List.length_append,List.length_singleton]
                conv=>whnf
                refine Retell.turn ⟨[0,3],9,[],[]⟩ (TurnOk.mk' _ _ [] [] (OutOk.lift _) rfl (by decide) zb trivial trivial rfl) zw zm
              · rw [if_neg g,List.append_nil] at hOk
                conv=>whnf
                repeat' (first|((first|refine zs1 ?_|refine zs2 ?_|refine zs3 ?_|refine zs4 ?_|refine zs5 ?_);conv=>whnf)|((first|apply zi1|apply zi2|apply zi3|apply zi4|apply zi5) <;> intro _ <;> first|(exfalso;omega)|contradiction|(conv=>whnf)))
                refine VCut.block 99 ?_
                conv=>whnf
                repeat' (first|((first|refine zs1 ?_|refine zs2 ?_|refine zs3 ?_|refine zs4 ?_|refine zs5 ?_);conv=>whnf)|((first|apply zi1|apply zi2|apply zi3|apply zi4|apply zi5) <;> intro _ <;> first|(exfalso;omega)|contradiction|(conv=>whnf))|(refine VAny.ix Vm.encI_len k rfl rfl xk ?_;conv=>whnf))
                refine LEnd.intro (k + 1) (by omega) (by omega) ?_
                rw [hOk]
                conv=>whnf
                refine Retell.turn ⟨[0,1],9,[],[]⟩ (TurnOk.mk' _ _ [] [] (OutOk.lift _) rfl (by decide) zb trivial trivial rfl) zw zm
            · obtain rfl : k = m1.c.length:=by omega
              generalize Of m1.c.length = Q at *
              have hfl : (Q.flatMap Vm.encI).length = Q.length * 1:=flat_len Vm.encI_len _
              conv=>whnf
              repeat' (first|((first|refine zs1 ?_|refine zs2 ?_|refine zs3 ?_|refine zs4 ?_|refine zs5 ?_);conv=>whnf)|((first|apply zi1|apply zi2|apply zi3|apply zi4|apply zi5) <;> intro _ <;> first|(exfalso;omega)|contradiction|(conv=>whnf)))
              refine VCut.at' (outer:=h.lift) (marks:=[]) 99 [(9,ints nm),(10,.gl (.loc 0) 1 C.length),(11,I i),(12,ints Q)] [.flat true (C.flatMap encL)] ?_ ?_
              · conv=>whnf
                refine Retell.turn ⟨[0],9,[(1,Q.flatMap Vm.encI)],[]⟩ (TurnOk.mk' _ _ [(1,Q.flatMap Vm.encI)] [] (OutOk.lift _) rfl (by decide) zb zf trivial rfl) zw zm
              conv=>whnf
              repeat' (first|((first|refine zs1 ?_|refine zs2 ?_|refine zs3 ?_|refine zs4 ?_|refine zs5 ?_);conv=>whnf)|((first|apply zi1|apply zi2|apply zi3|apply zi4|apply zi5) <;> intro _ <;> first|(exfalso;omega)|contradiction|(conv=>whnf))|(refine VMem.app1 (l:=C) Q encL_len rfl rfl rfl rfl rfl (by omega) ?_;conv=>whnf))
              refine LEnd.intro (i + 1) (by omega) (by omega) ?_
              rw [hcs,List.length_append,List.length_singleton]
              conv=>whnf
              refine Retell.turn ⟨[2],9,[],[]⟩ (TurnOk.mk' _ _ [] [] (OutOk.lift _) rfl (by decide) zb trivial trivial rfl) zw zm
        · rw [if_neg e,List.append_nil] at hcs
          conv=>whnf
          repeat' (first|((first|refine zs1 ?_|refine zs2 ?_|refine zs3 ?_|refine zs4 ?_|refine zs5 ?_);conv=>whnf)|((first|apply zi1|apply zi2|apply zi3|apply zi4|apply zi5) <;> intro _ <;> first|(exfalso;omega)|contradiction|(conv=>whnf)))
          refine VCut.block 99 ?_
          conv=>whnf
          repeat' (first|((first|refine zs1 ?_|refine zs2 ?_|refine zs3 ?_|refine zs4 ?_|refine zs5 ?_);conv=>whnf)|((first|apply zi1|apply zi2|apply zi3|apply zi4|apply zi5) <;> intro _ <;> first|(exfalso;omega)|contradiction|(conv=>whnf))|(refine VAny.ix Vm.encI_len i rfl rfl xi ?_;conv=>whnf))
          refine LEnd.intro (i + 1) (by omega) (by omega) ?_
          rw [hcs]
          conv=>whnf
          refine Retell.turn ⟨[0],9,[],[]⟩ (TurnOk.mk' _ _ [] [] (OutOk.lift _) rfl (by decide) zb trivial trivial rfl) zw zm
      · obtain rfl : i = m1.c.length:=by omega
        generalize natLL (canon m1.c.length (at0 nm) m1.c.length) = R at *
        conv=>whnf
        repeat' (first|((first|refine zs1 ?_|refine zs2 ?_|refine zs3 ?_|refine zs4 ?_|refine zs5 ?_);conv=>whnf)|((first|apply zi1|apply zi2|apply zi3|apply zi4|apply zi5) <;> intro _ <;> first|(exfalso;omega)|contradiction|(conv=>whnf)))
        refine VOut.data 1 [(0,R.flatMap encL)] [] rfl zf (by exact FmAll.nil) zw
end Go.Proofs.YtkbbfeljlepgoaaGreat

open Go.Vm
open Riv
namespace Go.Proofs.YtkbbfeljlepgoaaGreat
set_option maxRecDepth 20000
set_option maxHeartbeats 4000000

theorem vc_rChanges (l : List Mp) (year : Int) (h : Hp) (hl : l.length ≤ 4000000) (hc : ∀ m ∈ l,m.c.length ≤ 4000000) : VC Tryz.prog 13 [yrs l,I year] h (.tuple [intss (natLL (cgL l year)),I (cgE l year)]) h:=by
  have c : ∀ h,VC Tryz.prog 11 [yrs l] h (I (chkY l)) h:=fun h=>vc_rCheckYears l h hl hc
  have b:=fun h=>vc_rbeside year 0 ((l.length : Int) - 1) h
  obtain ⟨E,hE⟩ : ∃ E,E = cgE l year:=⟨_,rfl⟩
  obtain ⟨R,hR⟩ : ∃ R,R = cgL l year:=⟨_,rfl⟩
  rw [← hE,← hR]
  unfold cgL at hR
  rw [← hE] at hR
  unfold cgE at hE
  by_cases h0 : chkY l = 0
  · rw [if_pos h0] at hE
    rw [h0] at c
    obtain ⟨W,H,o⟩:=chkY_YOk h0
    have hn:=o.n
    by_cases h1 : 0 ≤ year ∧ year ≤ (l.length : Int) - 1
    · rw [if_pos h1] at hE
      subst hE
      rw [decide_eq_false (by omega)] at b
      by_cases h2 : year = 0
      · rw [if_neg (fun hh=>hh.2 h2)] at hR
        subst hR h2
        refine VC.body Tryz.func13 rfl Tryz.ntmps13 Tryz.call13 (h.grows_refl) rfl ?_;conv=>whnf
        repeat' (first|((first|refine zs1 ?_|refine zs2 ?_|refine zs3 ?_|refine zs4 ?_|refine zs5 ?_);conv=>whnf)|((first|apply zi1|apply zi2|apply zi3|apply zi4|apply zi5) <;> intro _ <;> first|(exfalso;omega)|contradiction|(conv=>whnf))|(refine VCall.intro (c _) ?_;conv=>whnf)|(refine VCall.intro (b _) ?_;conv=>whnf))
        refine VOut.data 0 [] [] rfl zf (by exact FmAll.nil) zw
      · obtain ⟨Y,rfl⟩ : ∃ Y : Nat,year = (Y + 1 : Nat):=⟨year.toNat - 1,by omega⟩
        rw [if_pos ⟨rfl,h2⟩,Int.toNat_natCast,Nat.add_sub_cancel,wOf_ok o] at hR
        obtain ⟨ha,haw,hah,hao⟩:=o.get (y:=Y) (by omega)
        obtain ⟨hm,hmw,hmh,hmo⟩:=o.get (y:=Y + 1) (by omega)
        have hao1:=hao.w
        have hao2:=MOk.le hao
        have cC : ∀ h,VC Tryz.prog 54 [yrs l,I ((Y + 1 : Nat) : Int)] h (intss (natLL (rchg (l.getD Y mp0).c (l.getD (Y + 1) mp0).c W))) h:=fun h=>vc_rchanges1 l Y (l.getD Y mp0) (l.getD (Y + 1) mp0) h hl ha hm hao hmo haw
        rw [← chg_eq (H:=H) (by omega) hao.len (by omega),← hR] at cC
        clear hR
        refine VC.body Tryz.func13 rfl Tryz.ntmps13 Tryz.call13 (h.grows_refl) rfl ?_;conv=>whnf
        repeat' (first|((first|refine zs1 ?_|refine zs2 ?_|refine zs3 ?_|refine zs4 ?_|refine zs5 ?_);conv=>whnf)|((first|apply zi1|apply zi2|apply zi3|apply zi4|apply zi5) <;> intro _ <;> first|(exfalso;omega)|contradiction|(conv=>whnf))|(refine VCall.intro (c _) ?_;conv=>whnf)|(refine VCall.intro (b _) ?_;conv=>whnf)|(refine VCall.intro (cC _) ?_;conv=>whnf))
        exact VOut.same rfl
    · rw [if_neg h1] at hE
      subst hE
      rw [decide_eq_true (by omega)] at b
      rw [if_neg (fun hh=>by simp at hh)] at hR
      subst hR
      refine VC.body Tryz.func13 rfl Tryz.ntmps13 Tryz.call13 (h.grows_refl) rfl ?_;conv=>whnf
      repeat' (first|((first|refine zs1 ?_|refine zs2 ?_|refine zs3 ?_|refine zs4 ?_|refine zs5 ?_);conv=>whnf)|((first|apply zi1|apply zi2|apply zi3|apply zi4|apply zi5) <;> intro _ <;> first|(exfalso;omega)|contradiction|(conv=>whnf))|(refine VCall.intro (c _) ?_;conv=>whnf)|(refine VCall.intro (b _) ?_;conv=>whnf))
      refine VOut.data 0 [] [] rfl zf (by exact FmAll.nil) zw
  · rw [if_neg h0] at hE
    rw [← hE] at c h0
    rw [if_neg (fun hh=>h0 hh.1)] at hR
    subst hR
    clear hE
    refine VC.body Tryz.func13 rfl Tryz.ntmps13 Tryz.call13 (h.grows_refl) rfl ?_;conv=>whnf
    repeat' (first|((first|refine zs1 ?_|refine zs2 ?_|refine zs3 ?_|refine zs4 ?_|refine zs5 ?_);conv=>whnf)|((first|apply zi1|apply zi2|apply zi3|apply zi4|apply zi5) <;> intro _ <;> first|(exfalso;omega)|contradiction|(conv=>whnf))|(refine VCall.intro (c _) ?_;conv=>whnf))
    refine VOut.data 0 [] [] rfl zf (by exact FmAll.nil) zw
theorem vc_kequalA (a b : List (List Int)) (h : Hp) (ha : a.length ≤ 4000000) (hb : b.length ≤ 4000000) (ha2 : ∀ x ∈ a,x.length ≤ 4000000) (hb2 : ∀ x ∈ b,x.length ≤ 4000000) : VC Tryz.prog 14 [intss a,intss b] h (B (decide (a = b))) h:=by
  obtain ⟨E,hE⟩ : ∃ E,E = decide (a = b):=⟨_,rfl⟩
  rw [← hE]
  refine VC.body Tryz.func14 rfl Tryz.ntmps14 Tryz.call14 (h.grows_refl) rfl ?_;conv=>whnf
  refine VCode.lp (fun k : Nat=>[(0,intss a),(1,intss b),(4,B false),(7,I a.length),(8,I k)]) (fun _=>[]) (fun k=>k ≤ a.length ∧ k ≤ b.length ∧ E = decide (a.drop k = b.drop k)) (fun k=>a.length - k) 0 ⟨Nat.zero_le _,Nat.zero_le _,hE⟩ ?_ ?_
  · conv=>whnf
    refine Retell.turn ⟨[],0,[],[]⟩ (TurnOk.mk' _ _ [] [] (OutOk.lift _) rfl (by decide) zb trivial trivial rfl) zw zm
  · rintro k ⟨h1,h2,h3⟩
    conv=>whnf
    refine VIte.dec (fun h4=>?_) (fun h4=>?_)
    · have hx : a[k]? = some a[k]:=List.getElem?_eq_getElem (by omega)
      rcases Nat.eq_or_lt_of_le h2 with h5|h5
      · have hF : E = false:=by
          rw [h3,decide_eq_false_iff_not]
          intro hh
          have:=congrArg List.length hh
          simp at this;omega
        rw [hF]
        conv=>whnf
        repeat' (first|((first|refine zs1 ?_|refine zs2 ?_|refine zs3 ?_|refine zs4 ?_|refine zs5 ?_|refine zs6 [] ?_);conv=>whnf)|((first|apply zi1|apply zi2|apply zi3|apply zi4|apply zi5) <;> intro _ <;> conv=>whnf))
        · exact VOut.same rfl
        all_goals omega
      · have hy : b[k]? = some b[k]:=List.getElem?_eq_getElem h5
        rw [drop_eq_dec hx hy] at h3
        have hxl:=ha2 _ (List.mem_of_getElem? hx)
        have hyl:=hb2 _ (List.mem_of_getElem? hy)
        generalize a[k] = x at hx h3 hxl
        generalize b[k] = y at hy h3 hyl
        have cE:=fun h=>vc_kequalI x y h hxl hyl
        by_cases hxy : x = y
        · rw [decide_eq_true hxy] at cE h3
          rw [Bool.true_and] at h3
          conv=>whnf
          repeat' (first|((first|refine zs1 ?_|refine zs2 ?_|refine zs3 ?_|refine zs4 ?_|refine zs5 ?_|refine zs6 [] ?_);conv=>whnf)|((first|apply zi1|apply zi2|apply zi3|apply zi4|apply zi5) <;> intro _ <;> conv=>whnf)|(refine VAny.ix encL_len k rfl rfl hx ?_;conv=>whnf)|(refine VAny.ix encL_len k rfl rfl hy ?_;conv=>whnf)|(refine VCall.intro (cE _) ?_;conv=>whnf))
          all_goals try (exfalso;omega)
          refine LEnd.intro (k + 1) ⟨by omega,by omega,h3⟩ (by omega) ?_
          conv=>whnf
          refine Retell.turn ⟨[],0,[],[]⟩ (TurnOk.mk' _ _ [] [] (OutOk.lift _) rfl (by decide) zb trivial trivial rfl) zw zm
        · rw [decide_eq_false hxy] at cE h3
          rw [Bool.false_and] at h3
          rw [h3]
          conv=>whnf
          repeat' (first|((first|refine zs1 ?_|refine zs2 ?_|refine zs3 ?_|refine zs4 ?_|refine zs5 ?_|refine zs6 [] ?_);conv=>whnf)|((first|apply zi1|apply zi2|apply zi3|apply zi4|apply zi5) <;> intro _ <;> conv=>whnf)|(refine VAny.ix encL_len k rfl rfl hx ?_;conv=>whnf)|(refine VAny.ix encL_len k rfl rfl hy ?_;conv=>whnf)|(refine VCall.intro (cE _) ?_;conv=>whnf))
          all_goals try (exfalso;omega)
          exact VOut.same rfl
    · have hk : k = a.length:=by omega
      rw [h3,hk,List.drop_length]
      conv=>whnf
      repeat' (first|((first|refine zs1 ?_|refine zs2 ?_|refine zs3 ?_|refine zs4 ?_|refine zs5 ?_|refine zs6 [] ?_);conv=>whnf)|((first|apply zi1|apply zi2|apply zi3|apply zi4|apply zi5) <;> intro _ <;> conv=>whnf))
      refine VOut.same ?_
      have : ((a.length : Int) == b.length) = decide ([] = b.drop a.length):=by
        rw [Bool.eq_iff_iff,decide_eq_true_eq,beq_iff_eq]
        constructor
        · intro hh;rw [List.drop_of_length_le (by omega)]
        · intro hh
          have:=congrArg List.length hh
          simp at this;omega
      simp only [V.ren,this]
theorem vc_Years (l : List Mp) (h : Hp) (hl : l.length ≤ 1000) (hc : ∀ m ∈ l,m.c.length ≤ 4000000) : VC Tryz.prog 9 [yrs l] h (yrs l) h:=by
  have cm:=fun m (hm : m ∈ l) h=>vc_Map m h (hc m hm)
  refine VC.body Tryz.func9 rfl Tryz.ntmps9 Tryz.call9 (h.grows_refl) rfl ?_;conv=>whnf
  repeat' (first|((first|refine zs1 ?_|refine zs2 ?_|refine zs3 ?_|refine zs4 ?_|refine zs5 ?_);conv=>whnf)|((first|apply zi1|apply zi2|apply zi3|apply zi4|apply zi5) <;> intro _ <;> conv=>whnf))
  refine VCode.lp (outer:=h.lift) (marks:=[]) (fun k : Nat=>[(3,.gl (.loc 0) 3 (l.take k).length),(6,yrs l),(7,I l.length),(8,I k)]) (fun k=>[.flat true ((l.take k).flatMap encM)]) (fun k=>k ≤ l.length) (fun k=>l.length - k) 0 (Nat.zero_le _) ?_ ?_
  · conv=>whnf
    refine Retell.turn ⟨[0],0,[],[]⟩ (TurnOk.mk' _ _ [] [] (OutOk.lift _) rfl (by decide) zb trivial trivial rfl) zw zm
  · intro k hk
    rcases Nat.lt_or_ge k l.length with h3|h3
    · have hw : l[k]? = some l[k]:=List.getElem?_eq_getElem h3
      have ht : l.take (k + 1) = l.take k ++ [l[k]]:=by rw [List.take_add_one,hw];rfl
      have hl2 : (l.take k).length ≤ 1000:=by rw [List.length_take];omega
      have c:=cm l[k] (List.getElem_mem h3)
      generalize l[k] = w at hw ht c
      generalize l.take k = W at ht hl2 ⊢
      conv=>whnf
      repeat' (first|((first|refine zs1 ?_|refine zs2 ?_|refine zs3 ?_|refine zs4 ?_|refine zs5 ?_);conv=>whnf)|((first|apply zi1|apply zi2|apply zi3|apply zi4|apply zi5) <;> intro _ <;> conv=>whnf)|(refine VAny.ix encM_len k rfl rfl hw ?_;conv=>whnf)|(refine VCall.intro (c _) ?_;conv=>whnf)|(refine VMem.app1 (l:=W) w encM_len rfl rfl rfl rfl rfl (by omega) ?_;conv=>whnf))
      all_goals try (exfalso;omega)
      refine LEnd.intro (k + 1) (by omega) (by omega) ?_
      rw [ht,List.length_append]
      conv=>whnf
      refine Retell.turn ⟨[3],9,[],[]⟩ (TurnOk.mk' _ _ [] [] (OutOk.lift _) rfl (by decide) zb trivial trivial rfl) zw zm
    · rw [List.take_of_length_le h3]
      have hRf : (l.flatMap encM).length = l.length * 3:=flat_len encM_len _
      conv=>whnf
      repeat' (first|((first|refine zs1 ?_|refine zs2 ?_|refine zs3 ?_|refine zs4 ?_|refine zs5 ?_);conv=>whnf)|((first|apply zi1|apply zi2|apply zi3|apply zi4|apply zi5) <;> intro _ <;> conv=>whnf))
      all_goals try (exfalso;omega)
      refine VOut.data 9 [(0,l.flatMap encM)] [] rfl zf (by exact FmAll.nil) zw
theorem vc_CloneYears (l : List Mp) (h : Hp) (hl : l.length ≤ 1000) (hc : ∀ m ∈ l,m.c.length ≤ 4000000) : VC Tryz.prog 8 [yrs l] h (yrs l) h:=by
  have cm:=fun m (hm : m ∈ l) h=>vc_CloneMap m h (hc m hm)
  refine VC.body Tryz.func8 rfl Tryz.ntmps8 Tryz.call8 (h.grows_refl) rfl ?_;conv=>whnf
  repeat' (first|((first|refine zs1 ?_|refine zs2 ?_|refine zs3 ?_|refine zs4 ?_|refine zs5 ?_);conv=>whnf)|((first|apply zi1|apply zi2|apply zi3|apply zi4|apply zi5) <;> intro _ <;> conv=>whnf))
  refine VCode.lp (outer:=h.lift) (marks:=[]) (fun k : Nat=>[(3,.gl (.loc 0) 3 (l.take k).length),(6,yrs l),(7,I l.length),(8,I k)]) (fun k=>[.flat true ((l.take k).flatMap encM)]) (fun k=>k ≤ l.length) (fun k=>l.length - k) 0 (Nat.zero_le _) ?_ ?_
  · conv=>whnf
    refine Retell.turn ⟨[0],0,[],[]⟩ (TurnOk.mk' _ _ [] [] (OutOk.lift _) rfl (by decide) zb trivial trivial rfl) zw zm
  · intro k hk
    rcases Nat.lt_or_ge k l.length with h3|h3
    · have hw : l[k]? = some l[k]:=List.getElem?_eq_getElem h3
      have ht : l.take (k + 1) = l.take k ++ [l[k]]:=by rw [List.take_add_one,hw];rfl
      have hl2 : (l.take k).length ≤ 1000:=by rw [List.length_take];omega
      have c:=cm l[k] (List.getElem_mem h3)
      generalize l[k] = w at hw ht c
      generalize l.take k = W at ht hl2 ⊢
      conv=>whnf
      repeat' (first|((first|refine zs1 ?_|refine zs2 ?_|refine zs3 ?_|refine zs4 ?_|refine zs5 ?_);conv=>whnf)|((first|apply zi1|apply zi2|apply zi3|apply zi4|apply zi5) <;> intro _ <;> conv=>whnf)|(refine VAny.ix encM_len k rfl rfl hw ?_;conv=>whnf)|(refine VCall.intro (c _) ?_;conv=>whnf)|(refine VMem.app1 (l:=W) w encM_len rfl rfl rfl rfl rfl (by omega) ?_;conv=>whnf))
      all_goals try (exfalso;omega)
      refine LEnd.intro (k + 1) (by omega) (by omega) ?_
      rw [ht,List.length_append]
      conv=>whnf
      refine Retell.turn ⟨[3],9,[],[]⟩ (TurnOk.mk' _ _ [] [] (OutOk.lift _) rfl (by decide) zb trivial trivial rfl) zw zm
    · rw [List.take_of_length_le h3]
      have hRf : (l.flatMap encM).length = l.length * 3:=flat_len encM_len _
      conv=>whnf
      repeat' (first|((first|refine zs1 ?_|refine zs2 ?_|refine zs3 ?_|refine zs4 ?_|refine zs5 ?_);conv=>whnf)|((first|apply zi1|apply zi2|apply zi3|apply zi4|apply zi5) <;> intro _ <;> conv=>whnf))
      all_goals try (exfalso;omega)
      refine VOut.data 9 [(0,l.flatMap encM)] [] rfl zf (by exact FmAll.nil) zw
end Go.Proofs.YtkbbfeljlepgoaaGreat

open Go.Vm
open Riv
namespace Go.Proofs.YtkbbfeljlepgoaaGreat
set_option maxRecDepth 20000
set_option maxHeartbeats 4000000

theorem VOut.ownM {h : Hp} {loc : List Blk} {p q : Int} {esz n : Nat} {ds : List Vm.D} (j L : Nat) (hL : Nat.ble loc.length L = true) (hj : loc[j]? = some (.flat true ds)) : VOut h ⟨h.lift,loc⟩ (.agg [I p,I q,.gl (.loc j) esz n]) (.agg [I p,I q,.gl h.fresh esz n]) (h.push (.flat true ds)):=by
  refine VOut.upd [] [.flat true ds] [j] L hL (by intro p hp;cases hp) (by simp) rfl ?_ ?_ rfl
  · intro k b hk
    cases k with
    | zero=>rw [List.getElem?_cons_zero,Option.some.injEq] at hk;subst hk;exact ⟨j,rfl,hj⟩
    | succ k=>simp at hk
  · intro σ x hx
    have : (V.agg [I p,I q,.gl h.fresh esz n]).ren (backR h.loc.length [j] L) = .agg [I p,I q,.gl (.loc j) esz n]:=by simp [V.ren,V.rens,backR,Hp.fresh]
    rw [this];exact hx
theorem vc_rlaw0 {W H : Nat} (l : List Mp) (slow : Int) (h : Hp) (o : YOk W H l) (r : V) (h' : Hp) (hg : h.grows h')
    (hend : ∀ n,n = W * H → VOut h ⟨h.lift,[.cells true [I W,I H,.gl (.loc 2) 1 n],.dead,.flat true ((lawAt W (cellsY l) slow 0).flatMap Vm.encI)]⟩ (.agg [I W,I H,.gl (.loc 2) 1 n]) r h') :
    VC Tryz.prog 57 [yrs l,I slow,I 0] h r h':=by
  have hn:=o.n
  obtain ⟨hm,hw,hh,hmo⟩:=o.get (y:=0) (by omega)
  have hzero : lawAt W (cellsY l) slow 0 = (l.getD 0 mp0).c:=by rw [lawAt,cellsY_at (by omega)]
  have hL:=hmo.len
  have h144:=MOk.le hmo
  rw [hzero] at hend
  generalize l.getD 0 mp0 = m at *
  obtain ⟨mw,mh,mc⟩:=m
  dsimp only at *
  subst hw hh
  refine VC.bodyC 99 Tryz.func57 rfl Tryz.ntmps57 Tryz.call57 hg rfl ?_
  conv=>whnf
  repeat' (first|((first|refine zs1 ?_|refine zs2 ?_|refine zs3 ?_|refine zs4 ?_|refine zs5 ?_);conv=>whnf)|((first|apply zi1|apply zi2|apply zi3|apply zi4|apply zi5) <;> intro _ <;> first|(exfalso;omega)|contradiction|(conv=>whnf)))
  refine zs6 [(3,13),(7,13)] ?_
  conv=>whnf
  repeat' (first|((first|refine zs1 ?_|refine zs2 ?_|refine zs3 ?_|refine zs4 ?_|refine zs5 ?_);conv=>whnf)|((first|apply zi1|apply zi2|apply zi3|apply zi4|apply zi5) <;> intro _ <;> first|(exfalso;omega)|contradiction|(conv=>whnf))|(refine VAny.ix encM_len 0 rfl rfl hm ?_;conv=>whnf))
  refine VMem.appN (l:=([] : List Int)) (l2:=mc) Vm.encI_len rfl rfl rfl rfl rfl (by simp;omega) ?_
  conv=>whnf
  repeat' (first|((first|refine zs1 ?_|refine zs2 ?_|refine zs3 ?_|refine zs4 ?_|refine zs5 ?_);conv=>whnf)|((first|apply zi1|apply zi2|apply zi3|apply zi4|apply zi5) <;> intro _ <;> first|(exfalso;omega)|contradiction|(conv=>whnf)))
  exact hend _ ((Nat.zero_add _).trans hL)
theorem lawAt_succ {l : List Mp} {W : Nat} {slow : Int} {Y : Nat} (hY : Y + 1 < l.length) : lawAt W (cellsY l) slow (Y + 1) = lyear W slow (l.getD Y mp0).c (l.getD (Y + 1) mp0).c (lawAt W (cellsY l) slow Y):=by
  rw [lawAt,cellsY_at (by omega),cellsY_at hY]
theorem vc_rlawS {W H : Nat} (l : List Mp) (slow : Int) (h : Hp) (o : YOk W H l) (hl : l.length ≤ 4000000) (Y : Nat) (h3 : Y + 1 < l.length) (r : V) (h' : Hp) (hg : h.grows h')
    (c : ∀ h,VC Tryz.prog 57 [yrs l,I slow,I Y] h (.agg [I W,I H,.gl h.fresh 1 (W * H)]) (h.push (.flat true ((lawAt W (cellsY l) slow Y).flatMap Vm.encI))))
    (hend : VOut h ⟨h.lift,[.cells true [I W,I H,.gl (.loc 2) 1 (W * H)],.cells true [I W,I H,.gl (.loc 2) 1 (W * H)],.flat true ((lawAt W (cellsY l) slow (Y + 1)).flatMap Vm.encI)]⟩ (.agg [I W,I H,.gl (.loc 2) 1 (W * H)]) r h') :
    VC Tryz.prog 57 [yrs l,I slow,I (Y + 1 : Nat)] h r h':=by
  have c' : ∀ h z,z = (Y : Int) → VC Tryz.prog 57 [yrs l,I slow,I z] h (.agg [I W,I H,.gl h.fresh 1 (W * H)]) (h.push (.flat true ((lawAt W (cellsY l) slow Y).flatMap Vm.encI))):=fun h z e=>by rw [e];exact c h
  clear c
  have hn:=o.n
  obtain ⟨ha,haw,hah,hao⟩:=o.get (y:=Y) (by omega)
  obtain ⟨hm,hmw,hmh,hmo⟩:=o.get (y:=Y + 1) h3
  have hqp:=lawAt_len o.yrs slow Y (by rw [cellsY_len];omega)
  have hst2:=lawAt_succ (W:=W) (slow:=slow) h3
  have haL:=hao.len
  have hmL:=hmo.len
  have hWb:=hao.w
  have h144:=MOk.le hao
  have cC : ∀ h z,z = ((Y : Int) + 1) → VC Tryz.prog 54 [yrs l,I z] h (intss (natLL (rchg (l.getD Y mp0).c (l.getD (Y + 1) mp0).c W))) h:=fun h z e=>by
    rw [e];exact vc_rchanges1 l Y (l.getD Y mp0) (l.getD (Y + 1) mp0) h hl ha hm hao hmo haw
  rw [← chg_eq (H:=H) (by omega) hao.len (by omega)] at cC
  have hly : lyear W slow (l.getD Y mp0).c (l.getD (Y + 1) mp0).c (lawAt W (cellsY l) slow Y) = lyK W slow (l.getD Y mp0).c (l.getD (Y + 1) mp0).c (lawAt W (cellsY l) slow Y) (chg (l.getD Y mp0).c (l.getD (Y + 1) mp0).c W).length:=by
    unfold lyear lyK;rw [List.take_of_length_le (Nat.le_refl _)]
  rw [hst2,hly] at hend
  clear hst2 hly
  have hks:=fun i cs hcs=>lyK_step (W:=W) (slow:=slow) (a:=(l.getD Y mp0).c) (b:=(l.getD (Y + 1) mp0).c) (now:=lawAt W (cellsY l) slow Y) (i:=i) (cs:=cs) hcs
  have hkl:=fun i=>lyK_len W slow (l.getD Y mp0).c (l.getD (Y + 1) mp0).c (lawAt W (cellsY l) slow Y) i
  have hk0 : lyK W slow (l.getD Y mp0).c (l.getD (Y + 1) mp0).c (lawAt W (cellsY l) slow Y) 0 = lawAt W (cellsY l) slow Y:=rfl
  have hcm:=fun cs hcs=>chg_mem (a:=(l.getD Y mp0).c) (b:=(l.getD (Y + 1) mp0).c) (W:=W) (H:=H) (cs:=cs) (by omega) haL (by have:=MOk.le hao;omega) hcs
  have hcl:=chg_cnt (a:=(l.getD Y mp0).c) (b:=(l.getD (Y + 1) mp0).c) (W:=W) (H:=H) (by omega) haL
  generalize lyK W slow (l.getD Y mp0).c (l.getD (Y + 1) mp0).c (lawAt W (cellsY l) slow Y) = uk at *
  generalize chg (l.getD Y mp0).c (l.getD (Y + 1) mp0).c W = R at *
  have hRl : (natLL R).length = R.length:=by unfold natLL;rw [List.length_map]
  generalize l.getD Y mp0 = am at *
  generalize l.getD (Y + 1) mp0 = m at *
  generalize lawAt W (cellsY l) slow Y = qp at *
  obtain ⟨aw,ah,ac⟩:=am
  obtain ⟨mw,mh,mc⟩:=m
  dsimp only at *
  clear hao hmo
  generalize W * H = N at *
  refine VC.bodyC 99 Tryz.func57 rfl Tryz.ntmps57 Tryz.call57 hg rfl ?_
  conv=>whnf
  repeat' (first|((first|refine zs1 ?_|refine zs2 ?_|refine zs3 ?_|refine zs4 ?_|refine zs5 ?_);conv=>whnf)|((first|apply zi1|apply zi2|apply zi3|apply zi4|apply zi5) <;> intro _ <;> first|(exfalso;omega)|contradiction|(conv=>whnf))|(refine VCall.intro (c' _ _ (by omega)) ?_;conv=>whnf)|(refine VCall.intro (cC _ _ (by omega)) ?_;conv=>whnf))
  refine VCode.lpC (outer:=h.lift) (marks:=[]) 99 (fun i : Nat=>[(0,yrs l),(1,I slow),(2,I (Y + 1 : Nat)),(6,.ptr (.loc 0) 0),(7,.ptr (.loc 1) 0),(8,intss (natLL R)),(9,I i)]) (fun i=>[.flat true [DI 0,DI 0,.nilslice],.cells true [I W,I H,.gl (.loc 2) 1 N],.flat true ((uk i).flatMap Vm.encI)]) (fun i=>i ≤ R.length) (fun i=>R.length - i) 0 (Nat.zero_le _) ?_ ?_
  · rw [hk0]
    conv=>whnf
    refine Retell.turn ⟨[0,2,1],9,[],[]⟩ (TurnOk.mk' _ _ [] [] (OutOk.lift _) rfl (by decide) zb trivial trivial rfl) zw zm
  rintro i hi
  rcases Nat.lt_or_ge i R.length with h4|h4
  · obtain ⟨cs,hlk⟩ : ∃ cs,R[i]? = some cs:=⟨_,List.getElem?_eq_getElem h4⟩
    have hcm:=hcm cs (List.mem_of_getElem? hlk)
    have hks:=hks i cs hlk
    have hnk : (natLL R)[i]? = some (natI cs):=by unfold natLL;rw [List.getElem?_map,hlk];rfl
    have hnat:=fun j hj=>natI_at (ks:=cs) (i:=j) hj
    have hnl:=natI_len cs
    have hkl:=hkl i
    clear hlk
    generalize natI cs = nl at *
    generalize uk i = U at *
    unfold lstep at hks
    obtain ⟨hc1,hc2,hc3,hc4⟩:=hcm
    conv=>whnf
    repeat' (first|((first|refine zs1 ?_|refine zs2 ?_|refine zs3 ?_|refine zs4 ?_|refine zs5 ?_);conv=>whnf)|((first|apply zi1|apply zi2|apply zi3|apply zi4|apply zi5) <;> intro _ <;> first|(exfalso;omega)|contradiction|(conv=>whnf)))
    by_cases hsl : (cs.length : Int) ≤ slow
    · rw [if_pos hsl] at hks
      refine VCode.lpC (outer:=h.lift) (marks:=[]) 99 (fun j : Nat=>[(0,yrs l),(1,I slow),(2,I (Y + 1 : Nat)),(6,.ptr (.loc 0) 0),(7,.ptr (.loc 1) 0),(8,intss (natLL R)),(9,I i),(10,I j)]) (fun j=>[.flat true [DI 0,DI 0,.nilslice],.cells true [I W,I H,.gl (.loc 2) 1 N],.flat true ((lset mc U (cs.take j)).flatMap Vm.encI)]) (fun j=>j ≤ cs.length) (fun j=>cs.length - j) 0 (Nat.zero_le _) ?_ ?_
      · rw [show lset mc U (cs.take 0) = U from rfl]
        conv=>whnf
        refine Retell.turn ⟨[0,1,2],9,[],[]⟩ (TurnOk.mk' _ _ [] [] (OutOk.lift _) rfl (by decide) zb trivial trivial rfl) zw zm
      rintro j hj
      rcases Nat.lt_or_ge j cs.length with h5|h5
      · have hn:=hnat j h5
        have hnc : cs.getD j 0 < ac.length:=by
          refine (hc4 _ ?_).1
          rw [List.getD_eq_getElem?_getD,List.getElem?_eq_getElem h5]
          exact List.getElem_mem h5
        have htk : cs.take (j + 1) = cs.take j ++ [cs.getD j 0]:=by
          rw [List.take_add_one,List.getD_eq_getElem?_getD,List.getElem?_eq_getElem h5];rfl
        have hst3:=lset_step mc U (cs.take j) (cs.getD j 0)
        rw [← htk] at hst3
        have hul:=lset_len mc U (cs.take j)
        generalize lset mc U (cs.take j) = V1 at *
        generalize cs.getD j 0 = n at *
        have hu:=at0_get (l:=V1) (n:=n) (by omega)
        have hy:=at0_get (l:=mc) (n:=n) (by omega)
        generalize at0 mc n = v at *
        conv=>whnf
        repeat' (first|((first|refine zs1 ?_|refine zs2 ?_|refine zs3 ?_|refine zs4 ?_|refine zs5 ?_);conv=>whnf)|((first|apply zi1|apply zi2|apply zi3|apply zi4|apply zi5) <;> intro _ <;> first|(exfalso;omega)|contradiction|(conv=>whnf))|(refine VAny.ix encL_len i (by omega) (by omega) hnk ?_;conv=>whnf))
        all_goals try (exfalso;omega)
        refine zs6 [] ?_
        conv=>whnf
        repeat' (first|((first|refine zs1 ?_|refine zs2 ?_|refine zs3 ?_|refine zs4 ?_|refine zs5 ?_);conv=>whnf)|((first|apply zi1|apply zi2|apply zi3|apply zi4|apply zi5) <;> intro _ <;> first|(exfalso;omega)|contradiction|(conv=>whnf))|(refine VAny.ix encL_len i (by omega) (by omega) hnk ?_;conv=>whnf)|(refine VAny.ix encI_len j rfl (by omega) hn ?_;conv=>whnf)|(refine VAny.ix encM_len (Y + 1) rfl rfl hm ?_;conv=>whnf)|(refine VAny.ix encI_len n rfl rfl hy ?_;conv=>whnf)|(refine VMem.setRec encI_len n 0 v rfl rfl rfl hu (by decide) rfl (ofs _) ?_;conv=>whnf))
        refine LEnd.intro (j + 1) (by omega) (by omega) ?_
        rw [hst3]
        conv=>whnf
        refine Retell.turn ⟨[0,1,2],9,[],[]⟩ (TurnOk.mk' _ _ [] [] (OutOk.lift _) rfl (by decide) zb trivial trivial rfl) zw zm
      · obtain rfl : j = cs.length:=by omega
        rw [List.take_of_length_le (Nat.le_refl _),← hks]
        conv=>whnf
        repeat' (first|((first|refine zs1 ?_|refine zs2 ?_|refine zs3 ?_|refine zs4 ?_|refine zs5 ?_);conv=>whnf)|((first|apply zi1|apply zi2|apply zi3|apply zi4|apply zi5) <;> intro _ <;> first|(exfalso;omega)|contradiction|(conv=>whnf))|(refine VAny.ix encL_len i (by omega) (by omega) hnk ?_;conv=>whnf))
        refine LEnd.intro (i + 1) (by omega) (by omega) ?_
        generalize uk (i + 1) = V1
        conv=>whnf
        refine Retell.turn ⟨[0,1,2],9,[],[]⟩ (TurnOk.mk' _ _ [] [] (OutOk.lift _) rfl (by decide) zb trivial trivial rfl) zw zm
    · rw [if_neg hsl] at hks
      refine VCode.lpC (outer:=h.lift) (marks:=[]) 99 (fun j : Nat=>[(0,yrs l),(1,I slow),(2,I (Y + 1 : Nat)),(6,.ptr (.loc 0) 0),(7,.ptr (.loc 1) 0),(8,intss (natLL R)),(9,I i),(10,I j)]) (fun j=>[.flat true [DI 0,DI 0,.nilslice],.cells true [I W,I H,.gl (.loc 2) 1 N],.flat true (U.flatMap Vm.encI)]) (fun j=>j ≤ cs.length) (fun j=>cs.length - j) 0 (Nat.zero_le _) ?_ ?_
      · conv=>whnf
        refine Retell.turn ⟨[0,1,2],9,[],[]⟩ (TurnOk.mk' _ _ [] [] (OutOk.lift _) rfl (by decide) zb trivial trivial rfl) zw zm
      rintro j hj
      conv=>whnf
      repeat' (first|((first|refine zs1 ?_|refine zs2 ?_|refine zs3 ?_|refine zs4 ?_|refine zs5 ?_);conv=>whnf)|((first|apply zi1|apply zi2|apply zi3|apply zi4|apply zi5) <;> intro _ <;> first|(exfalso;omega)|contradiction|(conv=>whnf))|(refine VAny.ix encL_len i (by omega) (by omega) hnk ?_;conv=>whnf))
      all_goals (refine LEnd.intro (i + 1) (by omega) (by omega) ?_;rw [hks];conv=>whnf)
      all_goals refine Retell.turn ⟨[0,1,2],9,[],[]⟩ (TurnOk.mk' _ _ [] [] (OutOk.lift _) rfl (by decide) zb trivial trivial rfl) zw zm
  · obtain rfl : i = R.length:=by omega
    generalize uk R.length = V1 at *
    conv=>whnf
    repeat' (first|((first|refine zs1 ?_|refine zs2 ?_|refine zs3 ?_|refine zs4 ?_|refine zs5 ?_);conv=>whnf)|((first|apply zi1|apply zi2|apply zi3|apply zi4|apply zi5) <;> intro _ <;> first|(exfalso;omega)|contradiction|(conv=>whnf)))
    exact hend
theorem vc_rlawO {W H : Nat} (l : List Mp) (slow : Int) (o : YOk W H l) (hl : l.length ≤ 4000000) : ∀ (y : Nat) (h : Hp),y < l.length → VC Tryz.prog 57 [yrs l,I slow,I y] h (.agg [I W,I H,.gl h.fresh 1 (W * H)]) (h.push (.flat true ((lawAt W (cellsY l) slow y).flatMap Vm.encI)))
  | 0,h,_=>vc_rlaw0 l slow h o _ _ (h.grows_push _) (fun n e=>by rw [e];exact VOut.ownM (h:=h) 2 3 rfl rfl)
  | y + 1,h,hy=>vc_rlawS l slow h o hl y hy _ _ (h.grows_push _) (fun h=>vc_rlawO l slow o hl y h (by omega)) (VOut.ownM (h:=h) 2 3 rfl rfl)
theorem vc_rlaw {W H : Nat} (l : List Mp) (slow : Int) (o : YOk W H l) (hl : l.length ≤ 4000000) (y : Nat) (h : Hp) (hy : y < l.length) : VC Tryz.prog 57 [yrs l,I slow,I y] h (vM ⟨W,H,lawAt W (cellsY l) slow y⟩) h:=by
  have hq:=lawAt_len o.yrs slow y (by rw [cellsY_len];exact hy)
  cases y with
  | zero =>
    refine vc_rlaw0 l slow h o _ _ h.grows_refl (fun n e=>?_)
    rw [← hq] at e
    subst e
    generalize lawAt W (cellsY l) slow 0 = q
    have hRf : (q.flatMap Vm.encI).length = q.length * 1:=flat_len Vm.encI_len _
    refine VOut.data 9 [(2,q.flatMap Vm.encI)] [] rfl zf (by exact FmAll.nil) zw
  | succ y =>
    refine vc_rlawS l slow h o hl y hy _ _ h.grows_refl (fun h=>vc_rlawO l slow o hl y h (by omega)) ?_
    rw [← hq]
    generalize lawAt W (cellsY l) slow (y + 1) = q
    have hRf : (q.flatMap Vm.encI).length = q.length * 1:=flat_len Vm.encI_len _
    refine VOut.data 9 [(2,q.flatMap Vm.encI)] [] rfl zf (by exact FmAll.nil) zw
end Go.Proofs.YtkbbfeljlepgoaaGreat

open Go.Vm
open Riv
namespace Go.Proofs.YtkbbfeljlepgoaaGreat
set_option maxRecDepth 20000
set_option maxHeartbeats 4000000

theorem chk_of_rl {l : List Mp} {slow : Int} (h0 : rlE l slow = 0) : chkY l = 0:=by
  unfold rlE at h0
  refine Decidable.byContradiction fun e=>?_
  rw [if_neg e] at h0;exact e h0
theorem vc_rLaw (l : List Mp) (slow : Int) (h : Hp) (hl : l.length ≤ 4000000) (hc : ∀ m ∈ l,m.c.length ≤ 4000000) : VC Tryz.prog 16 [yrs l,I slow] h (.tuple [yrs (lwA l slow),I (rlE l slow)]) h:=by
  have c : ∀ h,VC Tryz.prog 56 [yrs l,I slow] h (I (rlE l slow)) h:=fun h=>vc_rYears l slow h hl hc
  obtain ⟨E,hE⟩ : ∃ E,E = rlE l slow:=⟨_,rfl⟩
  obtain ⟨R,hR⟩ : ∃ R,R = lwA l slow:=⟨_,rfl⟩
  rw [← hE,← hR]
  unfold lwA at hR
  rw [← hE] at hR c
  by_cases h0 : E = 0
  · rw [if_pos h0] at hR
    subst h0
    obtain ⟨W,H,o⟩:=chkY_YOk (chk_of_rl hE.symm)
    rw [wOf_ok o] at hR
    have hRl:=lawY_len W l slow
    have hst : ∀ k,k < l.length → R.take (k + 1) = R.take k ++ [⟨W,H,lawAt W (cellsY l) slow k⟩]:=fun k hk=>by
      obtain ⟨_,g2,g3,_⟩:=o.get hk
      rw [List.take_add_one,hR,lawY_at hk,g2,g3];rfl
    rw [← hR] at hRl
    have cL:=fun k hk h=>vc_rlaw l slow o hl k h hk
    have hn:=o.n
    generalize lawAt W (cellsY l) slow = q at *
    clear hR hE
    refine VC.bodyC 99 Tryz.func16 rfl Tryz.ntmps16 Tryz.call16 (h.grows_refl) rfl ?_
    conv=>whnf
    repeat' (first|((first|refine zs1 ?_|refine zs2 ?_|refine zs3 ?_|refine zs4 ?_|refine zs5 ?_);conv=>whnf)|((first|apply zi1|apply zi2|apply zi3|apply zi4|apply zi5) <;> intro _ <;> first|(exfalso;omega)|contradiction|(conv=>whnf))|(refine VCall.intro (c _) ?_;conv=>whnf))
    refine VCode.lpC (outer:=h.lift) (marks:=[]) 99 (fun k : Nat=>[(0,yrs l),(1,I slow),(7,.gl (.loc 0) 3 (R.take k).length),(8,I k)]) (fun k=>[.flat true ((R.take k).flatMap encM)]) (fun k=>k ≤ l.length) (fun k=>l.length - k) 0 (Nat.zero_le _) ?_ ?_
    · conv=>whnf
      refine Retell.turn ⟨[0],0,[],[]⟩ (TurnOk.mk' _ _ [] [] (OutOk.lift _) rfl (by decide) zb trivial trivial rfl) zw zm
    rintro k hk
    rcases Nat.lt_or_ge k l.length with h3|h3
    · have ht:=hst k h3
      have cL:=cL k h3
      have hl2 : (R.take k).length ≤ 1000:=by rw [List.length_take];omega
      generalize q k = Q at *
      generalize R.take k = T at *
      conv=>whnf
      repeat' (first|((first|refine zs1 ?_|refine zs2 ?_|refine zs3 ?_|refine zs4 ?_|refine zs5 ?_);conv=>whnf)|((first|apply zi1|apply zi2|apply zi3|apply zi4|apply zi5) <;> intro _ <;> first|(exfalso;omega)|contradiction|(conv=>whnf))|(refine VCall.intro (cL _) ?_;conv=>whnf)|(refine VMem.app1 (l:=T) (⟨W,H,Q⟩ : Mp) encM_len rfl rfl rfl rfl rfl (by omega) ?_;conv=>whnf))
      refine LEnd.intro (k + 1) (by omega) (by omega) ?_
      rw [ht,List.length_append]
      conv=>whnf
      refine Retell.turn ⟨[2],9,[],[]⟩ (TurnOk.mk' _ _ [] [] (OutOk.lift _) rfl (by decide) zb trivial trivial rfl) zw zm
    · rw [List.take_of_length_le (by omega)]
      have hRf : (R.flatMap encM).length = R.length * 3:=flat_len encM_len _
      conv=>whnf
      repeat' (first|((first|refine zs1 ?_|refine zs2 ?_|refine zs3 ?_|refine zs4 ?_|refine zs5 ?_);conv=>whnf)|((first|apply zi1|apply zi2|apply zi3|apply zi4|apply zi5) <;> intro _ <;> first|(exfalso;omega)|contradiction|(conv=>whnf)))
      refine VOut.data 9 [(0,R.flatMap encM)] [] rfl zf (by exact FmAll.nil) zw
  · rw [if_neg h0] at hR
    subst hR
    clear hE
    refine VC.body Tryz.func16 rfl Tryz.ntmps16 Tryz.call16 (h.grows_refl) rfl ?_;conv=>whnf
    repeat' (first|((first|refine zs1 ?_|refine zs2 ?_|refine zs3 ?_|refine zs4 ?_|refine zs5 ?_);conv=>whnf)|((first|apply zi1|apply zi2|apply zi3|apply zi4|apply zi5) <;> intro _ <;> first|(exfalso;omega)|contradiction|(conv=>whnf))|(refine VCall.intro (c _) ?_;conv=>whnf))
    refine VOut.data 0 [] [] rfl zf (by exact FmAll.nil) zw
theorem vc_rGains (l : List Mp) (slow : Int) (h : Hp) (hl : l.length ≤ 4000000) (hc : ∀ m ∈ l,m.c.length ≤ 4000000) : VC Tryz.prog 19 [yrs l,I slow] h (.tuple [vGn (gnA l slow),I (rlE l slow)]) h:=by
  have cR : ∀ h,VC Tryz.prog 56 [yrs l,I slow] h (I (rlE l slow)) h:=fun h=>vc_rYears l slow h hl hc
  by_cases h0 : rlE l slow = 0
  · obtain ⟨W,H,o⟩:=chkY_YOk (chk_of_rl h0)
    have hn:=o.n
    have hlw : lwA l slow = lawY W l slow:=by unfold lwA;rw [if_pos h0,wOf_ok o]
    unfold gnA
    rw [if_pos h0,wOf_ok o,hlw]
    rw [h0] at cR ⊢
    obtain ⟨_,_,_,_,e0⟩:=o.law slow (y:=0) (by omega)
    obtain ⟨_,_,_,hbo,e1⟩:=o.law slow (y:=l.length - 1) (by omega)
    rw [e0,e1]
    rw [e1] at hbo
    have hz : lawAt W (cellsY l) slow 0 = (l.getD 0 mp0).c:=by rw [lawAt,cellsY_at (by omega)]
    rw [hz]
    obtain ⟨ha,haw,hah,hao⟩:=o.get (y:=0) (by omega)
    have cL : ∀ h z,z = ((l.length - 1 : Nat) : Int) → VC Tryz.prog 57 [yrs l,I slow,I z] h (vM ⟨W,H,lawAt W (cellsY l) slow (l.length - 1)⟩) h:=fun h z e=>by rw [e];exact vc_rlaw l slow o hl (l.length - 1) h (by omega)
    generalize l.getD 0 mp0 = a at *
    generalize lawAt W (cellsY l) slow (l.length - 1) = b at *
    have c1:=fun h=>vc_rowners a h hao haw
    have c2:=fun h=>vc_rowners ⟨W,H,b⟩ h hbo rfl
    have l1 : (owns a.c W).length = a.c.length:=owns_len _ _
    have l2 : (owns b W).length = b.length:=owns_len _ _
    have b1:=fun k hk=>ownB hao (k:=k) hk
    have b2:=fun k hk=>ownB hbo (k:=k) hk
    have e1:=hao.len
    have e2:=hbo.len
    have hm144:=MOk.le hao
    generalize owns a.c W = A at *
    generalize owns b W = B at *
    obtain ⟨aw,ah,ac⟩:=a
    dsimp only at *
    have hgl:=gnK_len A B
    have hgs:=gnK_step A B
    have hgb:=gnK_bd A B
    refine VC.bodyC 99 Tryz.func19 rfl Tryz.ntmps19 Tryz.call19 (h.grows_refl) rfl ?_
    conv=>whnf
    repeat' (first|((first|refine zs1 ?_|refine zs2 ?_|refine zs3 ?_|refine zs4 ?_|refine zs5 ?_);conv=>whnf)|((first|apply zi1|apply zi2|apply zi3|apply zi4|apply zi5) <;> intro _ <;> first|(exfalso;omega)|contradiction|(conv=>whnf))|(refine VCall.intro (cR _) ?_;conv=>whnf)|(refine VAny.ix encM_len 0 rfl rfl ha ?_;conv=>whnf)|(refine VCall.intro (c1 _) ?_;conv=>whnf)|(refine VCall.intro (cL _ _ (by omega)) ?_;conv=>whnf)|(refine VCall.intro (c2 _) ?_;conv=>whnf))
    refine VCode.lpC (outer:=h.lift) (marks:=[]) 99 (fun k : Nat=>[(4,.ptr (.loc 0) 0),(6,.ptr (.loc 1) 0),(8,ints A),(9,ints B),(10,I k)]) (fun k=>[.flat true ((List.replicate 16 (0 : Int)).flatMap Vm.encI),.flat true ((gnK A B k).flatMap Vm.encI)]) (fun k=>k ≤ A.length) (fun k=>A.length - k) 0 (Nat.zero_le _) ?_ ?_
    · conv=>whnf
      refine Retell.turn ⟨[0,1],9,[],[]⟩ (TurnOk.mk' _ _ [] [] (OutOk.lift _) rfl (by decide) zb trivial trivial rfl) zw zm
    · rintro k hk
      rcases Nat.lt_or_ge k A.length with h3|h3
      · have hx:=at0_get (l:=A) (n:=k) (by omega)
        have hy:=at0_get (l:=B) (n:=k) (by omega)
        have hgs:=hgs k
        have hgl:=hgl k
        have hgb:=hgb k
        have b1:=b1 k (by omega)
        have b2:=b2 k (by omega)
        generalize at0 A k = x at *
        generalize at0 B k = y at *
        generalize gnK A B k = G at *
        generalize List.replicate 16 (0 : Int) = Z at *
        unfold gnS at hgs
        have hg16 : gix x y < 16:=by unfold gix;omega
        have hgv:=at0_get (l:=G) (n:=gix x y) (by omega)
        have hgb:=hgb (gix x y) hg16
        by_cases hxy : x = y
        · rw [if_neg (fun e=>e hxy)] at hgs
          conv=>whnf
          repeat' (first|((first|refine zs1 ?_|refine zs2 ?_|refine zs3 ?_|refine zs4 ?_|refine zs5 ?_);conv=>whnf)|((first|apply zi1|apply zi2|apply zi3|apply zi4|apply zi5) <;> intro _ <;> conv=>whnf))
          all_goals try (exfalso;omega)
          refine zs6 [] ?_
          conv=>whnf
          repeat' (first|((first|refine zs1 ?_|refine zs2 ?_|refine zs3 ?_|refine zs4 ?_|refine zs5 ?_);conv=>whnf)|((first|apply zi1|apply zi2|apply zi3|apply zi4|apply zi5) <;> intro _ <;> first|(exfalso;omega)|contradiction|(conv=>whnf))|(refine VAny.ix encI_len k rfl rfl hx ?_;conv=>whnf)|(refine VAny.ix encI_len k rfl (by omega) hy ?_;conv=>whnf))
          refine LEnd.intro (k + 1) (by omega) (by omega) ?_
          rw [hgs]
          conv=>whnf
          refine Retell.turn ⟨[0,1],9,[],[]⟩ (TurnOk.mk' _ _ [] [] (OutOk.lift _) rfl (by decide) zb trivial trivial rfl) zw zm
        · rw [if_pos hxy] at hgs
          conv=>whnf
          repeat' (first|((first|refine zs1 ?_|refine zs2 ?_|refine zs3 ?_|refine zs4 ?_|refine zs5 ?_);conv=>whnf)|((first|apply zi1|apply zi2|apply zi3|apply zi4|apply zi5) <;> intro _ <;> conv=>whnf))
          all_goals try (exfalso;omega)
          refine zs6 [] ?_
          conv=>whnf
          repeat' (first|((first|refine zs1 ?_|refine zs2 ?_|refine zs3 ?_|refine zs4 ?_|refine zs5 ?_);conv=>whnf)|((first|apply zi1|apply zi2|apply zi3|apply zi4|apply zi5) <;> intro _ <;> first|(exfalso;omega)|contradiction|(conv=>whnf))|(refine VAny.ix encI_len k rfl rfl hx ?_;conv=>whnf)|(refine VAny.ix encI_len k rfl (by omega) hy ?_;conv=>whnf))
          refine zs6 [] ?_
          conv=>whnf
          repeat' (first|((first|refine zs1 ?_|refine zs2 ?_|refine zs3 ?_|refine zs4 ?_|refine zs5 ?_);conv=>whnf)|((first|apply zi1|apply zi2|apply zi3|apply zi4|apply zi5) <;> intro _ <;> first|(exfalso;omega)|contradiction|(conv=>whnf))|(refine VAny.ix encI_len k rfl rfl hx ?_;conv=>whnf)|(refine VAny.ix encI_len k rfl (by omega) hy ?_;conv=>whnf))
          have hofs : 0 + x.toNat * 4 + y.toNat * 1 = gix x y * 1 + 0:=by unfold gix;omega
          repeat' (first|((first|refine zs1 ?_|refine zs2 ?_|refine zs3 ?_|refine zs4 ?_|refine zs5 ?_);conv=>whnf)|((first|apply zi1|apply zi2|apply zi3|apply zi4|apply zi5) <;> intro _ <;> conv=>whnf)|(refine VLd.recc encI_len (gix x y) 0 rfl rfl rfl hgv (by decide) rfl (by exact hofs) ?_;conv=>whnf)|(refine VMem.setRec encI_len (gix x y) 0 (at0 G (gix x y) + 1) rfl rfl rfl hgv (by decide) rfl (by exact hofs) ?_;conv=>whnf))
          refine LEnd.intro (k + 1) (by omega) (by omega) ?_
          rw [hgs]
          conv=>whnf
          refine Retell.turn ⟨[0,1],9,[],[]⟩ (TurnOk.mk' _ _ [] [] (OutOk.lift _) rfl (by decide) zb trivial trivial rfl) zw zm
      · obtain rfl : k = A.length:=by omega
        have hgl:=hgl A.length
        generalize gnK A B A.length = G at *
        unfold vGn
        have hZl : (List.replicate 16 (0 : Int)).length = G.length:=by rw [hgl];rfl
        generalize List.replicate 16 (0 : Int) = Z at *
        conv=>whnf
        repeat' (first|((first|refine zs1 ?_|refine zs2 ?_|refine zs3 ?_|refine zs4 ?_|refine zs5 ?_);conv=>whnf)|((first|apply zi1|apply zi2|apply zi3|apply zi4|apply zi5) <;> intro _ <;> first|(exfalso;omega)|contradiction|(conv=>whnf))|(refine VLd.wholeI (G:=G) rfl rfl hgl.symm rfl ?_;conv=>whnf))
        rw [forceVs_eq]
        conv=>whnf
        refine VMem.wholeI (G:=G) (Z:=Z) rfl hgl.symm rfl hZl ?_
        conv=>whnf
        refine VLd.wholeI (G:=G) rfl rfl hgl.symm rfl ?_
        conv=>whnf
        rw [forceVs_eq]
        conv=>whnf
        refine VOut.same ?_
        show _ = V.tuple [(vGn G).ren .out,I 0]
        rw [ren_vGn];rfl
  · have e : gnA l slow = List.replicate 16 0:=if_neg h0
    rw [e]
    generalize rlE l slow = E at *
    refine VC.body Tryz.func19 rfl Tryz.ntmps19 Tryz.call19 (h.grows_refl) rfl ?_;conv=>whnf
    repeat' (first|((first|refine zs1 ?_|refine zs2 ?_|refine zs3 ?_|refine zs4 ?_|refine zs5 ?_);conv=>whnf)|((first|apply zi1|apply zi2|apply zi3|apply zi4|apply zi5) <;> intro _ <;> first|(exfalso;omega)|contradiction|(conv=>whnf))|(refine VCall.intro (cR _) ?_;conv=>whnf))
    exact VOut.same rfl
end Go.Proofs.YtkbbfeljlepgoaaGreat

open Go.Vm
open Riv
namespace Go.Proofs.YtkbbfeljlepgoaaGreat
set_option maxRecDepth 20000
set_option maxHeartbeats 4000000

theorem vc_rLast (l : List Mp) (slow cell : Int) (h : Hp) (hl : l.length ≤ 4000000) (hc : ∀ m ∈ l,m.c.length ≤ 4000000) : VC Tryz.prog 21 [yrs l,I slow,I cell] h (.tuple [I (dnL l slow cell),I (dnE l slow cell)]) h:=by
  have cR : ∀ h,VC Tryz.prog 56 [yrs l,I slow] h (I (rlE l slow)) h:=fun h=>vc_rYears l slow h hl hc
  obtain ⟨E,hE⟩ : ∃ E,E = dnE l slow cell:=⟨_,rfl⟩
  obtain ⟨R,hR⟩ : ∃ R,R = dnL l slow cell:=⟨_,rfl⟩
  rw [← hE,← hR]
  unfold dnL at hR
  rw [← hE] at hR
  unfold dnE at hE
  by_cases h0 : rlE l slow = 0
  · obtain ⟨W,H,o⟩:=chkY_YOk (chk_of_rl h0)
    have hn:=o.n
    have hlw : lwA l slow = lawY W l slow:=by unfold lwA;rw [if_pos h0,wOf_ok o]
    obtain ⟨ha,haw,hah,hao⟩:=o.get (y:=0) (by omega)
    have hal:=MOk.le hao
    have hcl:=hao.len
    have b:=fun h=>vc_rbeside cell 0 (((l.getD 0 mp0).c.length : Int) - 1) h
    rw [if_pos h0] at hE
    rw [h0] at cR
    generalize l.getD 0 mp0 = am at *
    by_cases h1 : 0 ≤ cell ∧ cell ≤ (am.c.length : Int) - 1
    · rw [if_pos h1] at hE
      subst hE
      rw [decide_eq_false (by omega)] at b
      rw [if_pos rfl,hlw,wOf_ok o] at hR
      have hY:=fun y (hy : y < l.length)=>o.law slow hy
      have hR2 : ∀ y,y < l.length → ((lawY W l slow).getD y mp0).c = lawAt W (cellsY l) slow y:=fun y hy=>(hY y hy).2.2.2.2
      have hq:=fun y (hy : y < l.length)=>(hR2 y hy) ▸ (hY y hy).2.2.2.1
      have cL : ∀ y,y < l.length → ∀ h z,z = (y : Int) → VC Tryz.prog 57 [yrs l,I slow,I z] h (vM ⟨W,H,lawAt W (cellsY l) slow y⟩) h:=fun y hy h z e=>by rw [e];exact vc_rlaw l slow o hl y h hy
      obtain ⟨cn,rfl⟩ : ∃ n : Nat,cell = n:=⟨cell.toNat,by omega⟩
      rw [Int.toNat_natCast] at hR
      have hRq : R = lsK (fun y=>at0 (owns (lawAt W (cellsY l) slow y) W) cn) (l.length - 1):=by
        rw [hR]
        have e : ∀ n,n < l.length → lsK (fun y=>at0 (owns ((lawY W l slow).getD y mp0).c W) cn) n = lsK (fun y=>at0 (owns (lawAt W (cellsY l) slow y) W) cn) n:=by
          intro n
          induction n with
          | zero=>intro _;rfl
          | succ n ih =>
            intro hn
            unfold lsK
            rw [ih (by omega),hR2 (n + 1) hn,hR2 n (by omega)]
        exact e _ (by omega)
      clear hR hY hR2
      generalize lawAt W (cellsY l) slow = q at *
      have c1:=fun y (hy : y < l.length) h=>vc_rowners ⟨W,H,q y⟩ h (hq y hy) rfl
      have l1:=fun y (hy : y < l.length)=>(owns_len (q y) W).trans (hq y hy).len
      obtain ⟨aw,ah,ac⟩:=am
      dsimp only at *
      obtain ⟨f,hf⟩ : ∃ f,f = fun y=>at0 (owns (q y) W) cn:=⟨_,rfl⟩
      rw [← hf] at hRq
      have hfy : ∀ y,at0 (owns (q y) W) cn = f y:=fun y=>by rw [hf]
      refine VC.bodyC 99 Tryz.func21 rfl Tryz.ntmps21 Tryz.call21 (h.grows_refl) rfl ?_
      conv=>whnf
      repeat' (first|((first|refine zs1 ?_|refine zs2 ?_|refine zs3 ?_|refine zs4 ?_|refine zs5 ?_);conv=>whnf)|((first|apply zi1|apply zi2|apply zi3|apply zi4|apply zi5) <;> intro _ <;> first|(exfalso;omega)|contradiction|(conv=>whnf))|(refine VCall.intro (cR _) ?_;conv=>whnf)|(refine VAny.ix encM_len 0 rfl rfl ha ?_;conv=>whnf)|(refine VCall.intro (b _) ?_;conv=>whnf))
      refine VCode.lpC (outer:=h.lift) (marks:=[]) 99 (fun k : Nat=>[(0,yrs l),(1,I slow),(2,I cn),(9,I (lsK f k)),(10,I (k + 1 : Nat))]) (fun k=>[]) (fun k=>k + 1 ≤ l.length) (fun k=>l.length - k) 0 (by omega) ?_ ?_
      · rw [show lsK f 0 = -1 from rfl]
        conv=>whnf
        refine Retell.turn ⟨[],9,[],[]⟩ (TurnOk.mk' _ _ [] [] (OutOk.lift _) rfl (by decide) zb trivial trivial rfl) zw zm
      · rintro k hk
        rcases Nat.lt_or_ge (k + 1) l.length with h3|h3
        · have c1a:=c1 (k + 1) (by omega)
          have c1b:=c1 k (by omega)
          have cLa:=cL (k + 1) (by omega)
          have cLb:=cL k (by omega)
          have xa:=at0_get (l:=owns (q (k + 1)) W) (n:=cn) (by rw [l1 (k + 1) (by omega)];omega)
          have xb:=at0_get (l:=owns (q k) W) (n:=cn) (by rw [l1 k (by omega)];omega)
          have hs : lsK f (k + 1) = if f (k + 1) ≠ f k then ((k + 1 : Nat) : Int) else lsK f k:=rfl
          rw [hfy] at xa xb
          generalize owns (q (k + 1)) W = A at *
          generalize owns (q k) W = B at *
          generalize f (k + 1) = x at *
          generalize f k = z at *
          generalize lsK f k = L0 at *
          generalize q (k + 1) = Q1 at *
          generalize q k = Q0 at *
          conv=>whnf
          repeat' (first|((first|refine zs1 ?_|refine zs2 ?_|refine zs3 ?_|refine zs4 ?_|refine zs5 ?_);conv=>whnf)|((first|apply zi1|apply zi2|apply zi3|apply zi4|apply zi5) <;> intro _ <;> conv=>whnf))
          all_goals try (exfalso;omega)
          refine zs6 [(7,12),(7,13)] ?_
          conv=>whnf
          by_cases hab : x = z
          · rw [if_neg (by simp [hab])] at hs
            repeat' (first|((first|refine zs1 ?_|refine zs2 ?_|refine zs3 ?_|refine zs4 ?_|refine zs5 ?_);conv=>whnf)|((first|apply zi1|apply zi2|apply zi3|apply zi4|apply zi5) <;> intro _ <;> first|(exfalso;omega)|contradiction|(conv=>whnf))|(refine VCall.intro (cLa _ _ (by omega)) ?_;conv=>whnf)|(refine VCall.intro (cLb _ _ (by omega)) ?_;conv=>whnf)|(refine VCall.intro (c1a _) ?_;conv=>whnf)|(refine VCall.intro (c1b _) ?_;conv=>whnf)|(refine VAny.ix encI_len cn rfl rfl xa ?_;conv=>whnf)|(refine VAny.ix encI_len cn rfl rfl xb ?_;conv=>whnf))
            refine LEnd.intro (k + 1) (by omega) (by omega) ?_
            rw [hs]
            conv=>whnf
            refine Retell.turn ⟨[],9,[],[]⟩ (TurnOk.mk' _ _ [] [] (OutOk.lift _) rfl (by decide) zb trivial trivial rfl) zw zm
          · rw [if_pos hab] at hs
            repeat' (first|((first|refine zs1 ?_|refine zs2 ?_|refine zs3 ?_|refine zs4 ?_|refine zs5 ?_);conv=>whnf)|((first|apply zi1|apply zi2|apply zi3|apply zi4|apply zi5) <;> intro _ <;> first|(exfalso;omega)|contradiction|(conv=>whnf))|(refine VCall.intro (cLa _ _ (by omega)) ?_;conv=>whnf)|(refine VCall.intro (cLb _ _ (by omega)) ?_;conv=>whnf)|(refine VCall.intro (c1a _) ?_;conv=>whnf)|(refine VCall.intro (c1b _) ?_;conv=>whnf)|(refine VAny.ix encI_len cn rfl rfl xa ?_;conv=>whnf)|(refine VAny.ix encI_len cn rfl rfl xb ?_;conv=>whnf))
            refine LEnd.intro (k + 1) (by omega) (by omega) ?_
            rw [hs]
            conv=>whnf
            refine Retell.turn ⟨[],9,[],[]⟩ (TurnOk.mk' _ _ [] [] (OutOk.lift _) rfl (by decide) zb trivial trivial rfl) zw zm
        · have hk1 : k = l.length - 1:=by omega
          rw [hRq,← hk1]
          generalize lsK f k = L0
          conv=>whnf
          repeat' (first|((first|refine zs1 ?_|refine zs2 ?_|refine zs3 ?_|refine zs4 ?_|refine zs5 ?_);conv=>whnf)|((first|apply zi1|apply zi2|apply zi3|apply zi4|apply zi5) <;> intro _ <;> first|(exfalso;omega)|contradiction|(conv=>whnf)))
          exact VOut.same rfl
    · rw [if_neg h1] at hE
      subst hE
      rw [decide_eq_true (by omega)] at b
      rw [if_neg (by simp)] at hR
      subst hR
      obtain ⟨aw,ah,ac⟩:=am
      dsimp only at *
      refine VC.body Tryz.func21 rfl Tryz.ntmps21 Tryz.call21 (h.grows_refl) rfl ?_;conv=>whnf
      repeat' (first|((first|refine zs1 ?_|refine zs2 ?_|refine zs3 ?_|refine zs4 ?_|refine zs5 ?_);conv=>whnf)|((first|apply zi1|apply zi2|apply zi3|apply zi4|apply zi5) <;> intro _ <;> first|(exfalso;omega)|contradiction|(conv=>whnf))|(refine VCall.intro (cR _) ?_;conv=>whnf)|(refine VAny.ix encM_len 0 rfl rfl ha ?_;conv=>whnf)|(refine VCall.intro (b _) ?_;conv=>whnf))
      exact VOut.same rfl
  · rw [if_neg h0] at hE
    rw [← hE] at cR h0
    rw [if_neg (fun hh=>h0 hh)] at hR
    subst hR
    clear hE
    refine VC.body Tryz.func21 rfl Tryz.ntmps21 Tryz.call21 (h.grows_refl) rfl ?_;conv=>whnf
    repeat' (first|((first|refine zs1 ?_|refine zs2 ?_|refine zs3 ?_|refine zs4 ?_|refine zs5 ?_);conv=>whnf)|((first|apply zi1|apply zi2|apply zi3|apply zi4|apply zi5) <;> intro _ <;> first|(exfalso;omega)|contradiction|(conv=>whnf))|(refine VCall.intro (cR _) ?_;conv=>whnf))
    exact VOut.same rfl
end Go.Proofs.YtkbbfeljlepgoaaGreat

open Go.Vm
open Riv
namespace Go.Proofs.YtkbbfeljlepgoaaGreat
set_option maxRecDepth 20000
set_option maxHeartbeats 4000000

def rsK (p : Int → Bool) (n : Nat) : List Spn × Bool:=rseg p 0 n ([],false)
theorem rsK_step (p : Int → Bool) (n : Nat) : rsK p (n + 1) = r1 p (rsK p n) (n : Int):=by
  unfold rsK rseg
  rw [List.range_succ,List.foldl_append,List.foldl_cons,List.foldl_nil,Int.zero_add]
theorem setHi_len (out : List Spn) (x : Int) : (setHi out x).length = out.length:=by
  unfold setHi
  cases h : out.getLast? with
  | none=>rfl
  | some y =>
    have : out ≠ []:=by rintro rfl;cases h
    have h2:=List.length_pos_iff.2 this
    simp;omega
theorem rsK_len (p : Int → Bool) : ∀ n,(rsK p n).1.length ≤ n ∧ ((rsK p n).2 = true → 0 < (rsK p n).1.length)
  | 0=>⟨Nat.le_refl _,fun h=>by cases h⟩
  | n + 1=>by
    obtain ⟨h1,h2⟩:=rsK_len p n
    rw [rsK_step]
    generalize rsK p n = x at *
    obtain ⟨o,w⟩:=x
    unfold r1
    dsimp only at *
    cases p (n : Int) with
    | false=>exact ⟨by simp only [cond_false];omega,fun h=>by cases h⟩
    | true =>
      cases w with
      | true=>simp only [cond_true,setHi_len];exact ⟨by omega,fun _=>h2 rfl⟩
      | false=>simp only [cond_true,cond_false,List.length_append,List.length_singleton];exact ⟨by omega,fun _=>by omega⟩
theorem setHi_set {out : List Spn} {n : Nat} {z : Spn} (h6 : out.length = n + 1) (hz : out[n]? = some z) (x : Int) : setHi out x = out.set n ⟨z.lo,x⟩:=by
  have h8 : out.getLast? = some z:=by rw [List.getLast?_eq_getElem?,h6];exact hz
  obtain ⟨q,hq⟩:=List.getLast?_eq_some_iff.1 h8
  have hql : q.length = n:=by rw [hq,List.length_append] at h6;simpa using h6
  rw [hq,setHi_app,List.set_append_right _ _ (by omega),hql,Nat.sub_self];rfl
theorem slL_rs {W H : Nat} {l : List Mp} (o : YOk W H l) (cn : Nat) (owner : Int) : pgo (slP W (cellsY l) cn owner) (cmpI (stI W l)) [] = (rsK (fun s=>slP W (cellsY l) cn owner (min s ((W * H : Nat) : Int))) 145).1:=by
  have h0:=o.n
  have hr : (stI W l).Pairwise (· ≤ ·):=by
    unfold stI
    have:=List.pairwise_mergeSort (le:=fun x y : Int=>decide (x ≤ y)) (fun a b c h1 h2=>by simp at *;omega) (fun a b=>by simp;omega) (0 :: 145 :: sizes W (cellsY l))
    exact this.imp (fun h=>by simpa using h)
  obtain ⟨_,_,_,g4⟩:=o.get (y:=0) (by omega)
  have g5:=g4.len
  have g6:=MOk.le g4
  exact (slows_eq o.yrs (by rw [cellsY_len];omega) (N:=145) (by omega) (List.mergeSort_perm _ _) hr cn owner).symm
theorem vc_rSlows (l : List Mp) (cell owner : Int) (h : Hp) (hl : l.length ≤ 4000000) (hc : ∀ m ∈ l,m.c.length ≤ 4000000) : VC Tryz.prog 23 [yrs l,I cell,I owner] h (.tuple [spans (slL l cell owner),I (slE l cell owner)]) h:=by
  have c : ∀ h,VC Tryz.prog 11 [yrs l] h (I (chkY l)) h:=fun h=>vc_rCheckYears l h hl hc
  obtain ⟨E,hE⟩ : ∃ E,E = slE l cell owner:=⟨_,rfl⟩
  obtain ⟨R,hR⟩ : ∃ R,R = slL l cell owner:=⟨_,rfl⟩
  rw [← hE,← hR]
  unfold slL at hR
  rw [← hE] at hR
  unfold slE at hE
  by_cases h0 : chkY l = 0
  · obtain ⟨W,H,o⟩:=chkY_YOk h0
    have hn:=o.n
    rw [if_pos h0] at hE
    rw [h0] at c
    obtain ⟨ha,haw,hah,hao⟩:=o.get (y:=0) (by omega)
    have hal:=MOk.le hao
    have hcl:=hao.len
    have b:=fun h=>vc_rbeside cell 0 (((l.getD 0 mp0).c.length : Int) - 1) h
    have b2:=fun h=>vc_rbeside owner 0 3 h
    by_cases h1 : 0 ≤ cell ∧ cell ≤ ((l.getD 0 mp0).c.length : Int) - 1
    · rw [if_pos h1] at hE
      rw [decide_eq_false (by omega)] at b
      by_cases h2 : 0 ≤ owner ∧ owner ≤ 3
      · rw [if_pos h2] at hE
        subst hE
        rw [decide_eq_false (by omega)] at b2
        rw [if_pos rfl,wOf_ok o] at hR
        obtain ⟨cn,rfl⟩ : ∃ n : Nat,cell = n:=⟨cell.toNat,by omega⟩
        rw [Int.toNat_natCast,slL_rs o] at hR
        have hq : ∀ s,MOk W H (lawAt W (cellsY l) s (l.length - 1)):=fun s=>lawAt_mok (cellsY_ok o.all) s (by rw [cellsY_len];omega)
        have cL : ∀ s h z y,z = s → y = ((l.length - 1 : Nat) : Int) → VC Tryz.prog 57 [yrs l,I z,I y] h (vM ⟨W,H,lawAt W (cellsY l) s (l.length - 1)⟩) h:=fun s h z y e e2=>by rw [e,e2];exact vc_rlaw l s o hl (l.length - 1) h (by omega)
        have hp : ∀ s,slP W (cellsY l) cn owner s = decide (at0 (owns (lawAt W (cellsY l) s (l.length - 1)) W) cn = owner):=fun s=>by unfold slP;rw [cellsY_len]
        have c1:=fun s h=>vc_rowners ⟨W,H,lawAt W (cellsY l) s (l.length - 1)⟩ h (hq s) rfl
        have l1:=fun s=>(owns_len (lawAt W (cellsY l) s (l.length - 1)) W).trans (hq s).len
        generalize hp0 : slP W (cellsY l) cn owner = p0 at *
        generalize lawAt W (cellsY l) = q at *
        generalize l.getD 0 mp0 = am at *
        obtain ⟨aw,ah,ac⟩:=am
        dsimp only at *
        clear hp0 hao
        obtain ⟨p,hpe⟩ : ∃ p,p = fun s=>p0 (min s ((W * H : Nat) : Int)):=⟨_,rfl⟩
        have hpp : ∀ s,p s = decide (at0 (owns (q (min s ((W * H : Nat) : Int)) (l.length - 1)) W) cn = owner):=fun s=>by rw [hpe];exact hp _
        rw [← hpe] at hR
        clear hpe hp
        generalize W * H = N at *
        have hlen:=rsK_len p
        refine VC.bodyC 99 Tryz.func23 rfl Tryz.ntmps23 Tryz.call23 (h.grows_refl) rfl ?_
        conv=>whnf
        repeat' (first|((first|refine zs1 ?_|refine zs2 ?_|refine zs3 ?_|refine zs4 ?_|refine zs5 ?_);conv=>whnf)|((first|apply zi1|apply zi2|apply zi3|apply zi4|apply zi5) <;> intro _ <;> first|(exfalso;omega)|contradiction|(conv=>whnf))|(refine VCall.intro (c _) ?_;conv=>whnf)|(refine VAny.ix encM_len 0 rfl rfl ha ?_;conv=>whnf)|(refine VCall.intro (b _) ?_;conv=>whnf)|(refine VCall.intro (b2 _) ?_;conv=>whnf))
        refine VCode.lpC (outer:=h.lift) (marks:=[]) 99 (fun n : Nat=>[(0,yrs l),(1,I cn),(2,I owner),(9,.gl (.loc 0) 2 (rsK p n).1.length),(10,B (rsK p n).2),(11,I n)]) (fun n=>[.flat true ((rsK p n).1.flatMap encS)]) (fun n=>n ≤ 145) (fun n=>145 - n) 0 (by omega) ?_ ?_
        · rw [show rsK p 0 = ([],false) from rfl]
          conv=>whnf
          refine Retell.turn ⟨[0],0,[],[]⟩ (TurnOk.mk' _ _ [] [] (OutOk.lift _) rfl (by decide) zb trivial trivial rfl) zw zm
        rintro n hn9
        rcases Nat.lt_or_ge n 145 with h3|h3
        · have hst:=rsK_step p n
          unfold r1 at hst
          rw [hpp] at hst
          have cL:=cL (min (n : Int) (N : Int))
          have c1:=c1 (min (n : Int) (N : Int))
          have hx:=at0_get (l:=owns (q (min (n : Int) (N : Int)) (l.length - 1)) W) (n:=cn) (by rw [l1];omega)
          have hlen:=hlen n
          generalize q (min (n : Int) (N : Int)) (l.length - 1) = Q at *
          generalize owns Q W = O at *
          generalize at0 O cn = x at *
          generalize rsK p n = X at *
          obtain ⟨out,w⟩:=X
          dsimp only at *
          obtain ⟨hl1,hl2⟩:=hlen
          by_cases hxo : x = owner
          · rw [decide_eq_true hxo] at hst
            cases w with
            | false =>
              simp only [cond_true,cond_false] at hst
              conv=>whnf
              repeat' (first|((first|refine zs1 ?_|refine zs2 ?_|refine zs3 ?_|refine zs4 ?_|refine zs5 ?_);conv=>whnf)|((first|apply zi1|apply zi2|apply zi3|apply zi4|apply zi5) <;> intro _ <;> first|(exfalso;omega)|contradiction|(conv=>whnf))|(refine VAny.ix encM_len 0 rfl rfl ha ?_;conv=>whnf)|(refine VCall.intro (cL _ _ _ (congrArg (fun k : Nat=>min (n : Int) (k : Int)) hcl) (by omega)) ?_;conv=>whnf)|(refine VCall.intro (c1 _) ?_;conv=>whnf)|(refine VAny.ix encI_len cn rfl rfl hx ?_;conv=>whnf)|(refine VMem.app1 (l:=out) (⟨n,n⟩ : Spn) encS_len rfl rfl rfl rfl rfl (by omega) ?_;conv=>whnf))
              refine LEnd.intro (n + 1) (by omega) (by omega) ?_
              rw [hst]
              dsimp only
              rw [List.length_append]
              conv=>whnf
              refine Retell.turn ⟨[2],9,[],[]⟩ (TurnOk.mk' _ _ [] [] (OutOk.lift _) rfl (by decide) zb trivial trivial rfl) zw zm
            | true =>
              simp only [cond_true] at hst
              obtain ⟨m,h6⟩ : ∃ m,out.length = m + 1:=⟨out.length - 1,by have:=hl2 rfl;omega⟩
              obtain ⟨z,hz⟩ : ∃ z,out[m]? = some z:=⟨_,List.getElem?_eq_getElem (by omega)⟩
              rw [setHi_set h6 hz] at hst
              rw [h6]
              conv=>whnf
              repeat' (first|((first|refine zs1 ?_|refine zs2 ?_|refine zs3 ?_|refine zs4 ?_|refine zs5 ?_);conv=>whnf)|((first|apply zi1|apply zi2|apply zi3|apply zi4|apply zi5) <;> intro _ <;> first|(exfalso;omega)|contradiction|(conv=>whnf))|(refine VAny.ix encM_len 0 rfl rfl ha ?_;conv=>whnf)|(refine VCall.intro (cL _ _ _ (congrArg (fun k : Nat=>min (n : Int) (k : Int)) hcl) (by omega)) ?_;conv=>whnf)|(refine VCall.intro (c1 _) ?_;conv=>whnf)|(refine VAny.ix encI_len cn rfl rfl hx ?_;conv=>whnf)|(refine VMem.setRec encS_len m 1 ⟨z.lo,n⟩ rfl rfl rfl hz (by decide) rfl (ofz _) ?_;conv=>whnf))
              refine LEnd.intro (n + 1) (by omega) (by omega) ?_
              rw [hst]
              dsimp only
              rw [List.length_set,h6]
              conv=>whnf
              refine Retell.turn ⟨[0],9,[],[]⟩ (TurnOk.mk' _ _ [] [] (OutOk.lift _) rfl (by decide) zb trivial trivial rfl) zw zm
          · rw [decide_eq_false hxo] at hst
            simp only [cond_false] at hst
            conv=>whnf
            repeat' (first|((first|refine zs1 ?_|refine zs2 ?_|refine zs3 ?_|refine zs4 ?_|refine zs5 ?_);conv=>whnf)|((first|apply zi1|apply zi2|apply zi3|apply zi4|apply zi5) <;> intro _ <;> first|(exfalso;omega)|contradiction|(conv=>whnf))|(refine VAny.ix encM_len 0 rfl rfl ha ?_;conv=>whnf)|(refine VCall.intro (cL _ _ _ (congrArg (fun k : Nat=>min (n : Int) (k : Int)) hcl) (by omega)) ?_;conv=>whnf)|(refine VCall.intro (c1 _) ?_;conv=>whnf)|(refine VAny.ix encI_len cn rfl rfl hx ?_;conv=>whnf))
            all_goals (refine LEnd.intro (n + 1) (by omega) (by omega) ?_;rw [hst];conv=>whnf)
            all_goals refine Retell.turn ⟨[0],9,[],[]⟩ (TurnOk.mk' _ _ [] [] (OutOk.lift _) rfl (by decide) zb trivial trivial rfl) zw zm
        · obtain rfl : n = 145:=by omega
          rw [hR]
          generalize (rsK p 145).1 = out
          have hRf : (out.flatMap encS).length = out.length * 2:=flat_len encS_len _
          conv=>whnf
          repeat' (first|((first|refine zs1 ?_|refine zs2 ?_|refine zs3 ?_|refine zs4 ?_|refine zs5 ?_);conv=>whnf)|((first|apply zi1|apply zi2|apply zi3|apply zi4|apply zi5) <;> intro _ <;> first|(exfalso;omega)|contradiction|(conv=>whnf)))
          refine VOut.data 9 [(0,out.flatMap encS)] [] rfl zf (by exact FmAll.nil) zw
      · rw [if_neg h2] at hE
        subst hE
        rw [decide_eq_true (by omega)] at b2
        rw [if_neg (by simp)] at hR
        subst hR
        generalize l.getD 0 mp0 = am at *
        obtain ⟨aw,ah,ac⟩:=am
        dsimp only at *
        refine VC.body Tryz.func23 rfl Tryz.ntmps23 Tryz.call23 (h.grows_refl) rfl ?_;conv=>whnf
        repeat' (first|((first|refine zs1 ?_|refine zs2 ?_|refine zs3 ?_|refine zs4 ?_|refine zs5 ?_);conv=>whnf)|((first|apply zi1|apply zi2|apply zi3|apply zi4|apply zi5) <;> intro _ <;> first|(exfalso;omega)|contradiction|(conv=>whnf))|(refine VCall.intro (c _) ?_;conv=>whnf)|(refine VAny.ix encM_len 0 rfl rfl ha ?_;conv=>whnf)|(refine VCall.intro (b _) ?_;conv=>whnf)|(refine VCall.intro (b2 _) ?_;conv=>whnf))
        refine VOut.data 0 [] [] rfl zf (by exact FmAll.nil) zw
    · rw [if_neg h1] at hE
      subst hE
      rw [decide_eq_true (by omega)] at b
      rw [if_neg (by simp)] at hR
      subst hR
      generalize l.getD 0 mp0 = am at *
      obtain ⟨aw,ah,ac⟩:=am
      dsimp only at *
      refine VC.body Tryz.func23 rfl Tryz.ntmps23 Tryz.call23 (h.grows_refl) rfl ?_;conv=>whnf
      repeat' (first|((first|refine zs1 ?_|refine zs2 ?_|refine zs3 ?_|refine zs4 ?_|refine zs5 ?_);conv=>whnf)|((first|apply zi1|apply zi2|apply zi3|apply zi4|apply zi5) <;> intro _ <;> first|(exfalso;omega)|contradiction|(conv=>whnf))|(refine VCall.intro (c _) ?_;conv=>whnf)|(refine VAny.ix encM_len 0 rfl rfl ha ?_;conv=>whnf)|(refine VCall.intro (b _) ?_;conv=>whnf)|(refine VCall.intro (b2 _) ?_;conv=>whnf))
      refine VOut.data 0 [] [] rfl zf (by exact FmAll.nil) zw
  · rw [if_neg h0] at hE
    rw [← hE] at c h0
    rw [if_neg (fun hh=>h0 hh)] at hR
    subst hR
    clear hE
    refine VC.body Tryz.func23 rfl Tryz.ntmps23 Tryz.call23 (h.grows_refl) rfl ?_;conv=>whnf
    repeat' (first|((first|refine zs1 ?_|refine zs2 ?_|refine zs3 ?_|refine zs4 ?_|refine zs5 ?_);conv=>whnf)|((first|apply zi1|apply zi2|apply zi3|apply zi4|apply zi5) <;> intro _ <;> first|(exfalso;omega)|contradiction|(conv=>whnf))|(refine VCall.intro (c _) ?_;conv=>whnf))
    refine VOut.data 0 [] [] rfl zf (by exact FmAll.nil) zw
end Go.Proofs.YtkbbfeljlepgoaaGreat

open Go.Vm
open Riv
namespace Go.Proofs.YtkbbfeljlepgoaaGreat
set_option maxRecDepth 20000
set_option maxHeartbeats 4000000

theorem top46 : eqTop Tryz.prog 46 = none:=by kernel_rfl
theorem topA46 : eqTopA Tryz.prog 46 = some (shA 4 true (shA 1 false Sh.int 4 0) 4 0):=by kernel_rfl
theorem list16 {G : List Int} (h : G.length = 16) : ∃ a0 a1 a2 a3 a4 a5 a6 a7 a8 a9 b0 b1 b2 b3 b4 b5,G = [a0,a1,a2,a3,a4,a5,a6,a7,a8,a9,b0,b1,b2,b3,b4,b5]:=by
  match G,h with
  | [a0,a1,a2,a3,a4,a5,a6,a7,a8,a9,b0,b1,b2,b3,b4,b5],_=>exact ⟨a0,a1,a2,a3,a4,a5,a6,a7,a8,a9,b0,b1,b2,b3,b4,b5,rfl⟩
theorem gnA_len (l : List Mp) (slow : Int) : (gnA l slow).length = 16:=by
  unfold gnA
  split
  · exact gnK_len _ _ _
  · rfl
structure HoldL (R : Prop) : Prop where
  out : R
theorem sufficesL {R G : Prop} (main : HoldL R → G) (rest : R) : G:=main ⟨rest⟩
theorem vneqG {G : List Int} (h : G.length = 16) : vaggeq Tryz.prog .neq 46 (vGn G) (vGn G) = some (B false):=by
  obtain ⟨a0,a1,a2,a3,a4,a5,a6,a7,a8,a9,b0,b1,b2,b3,b4,b5,rfl⟩:=list16 h
  unfold vaggeq
  simp only [top46,topA46]
  simp [shA,veqSh,vGn,vpart,kindEq,I,B]
theorem cgL_bd {l : List Mp} {year : Int} : (natLL (cgL l year)).length ≤ 4000000 ∧ ∀ x ∈ natLL (cgL l year),x.length ≤ 4000000:=by
  unfold cgL
  split
  · rename_i hh
    obtain ⟨h0,hy⟩:=hh
    have hchk : chkY l = 0:=by
      unfold cgE at h0
      refine Decidable.byContradiction fun e=>?_
      rw [if_neg e] at h0;exact e h0
    have hyr : 0 ≤ year ∧ year ≤ (l.length : Int) - 1:=by
      unfold cgE at h0
      rw [if_pos hchk] at h0
      refine Decidable.byContradiction fun e=>?_
      rw [if_neg e] at h0;cases h0
    obtain ⟨W,H,o⟩:=chkY_YOk hchk
    obtain ⟨_,_,_,hao⟩:=o.get (y:=year.toNat - 1) (by omega)
    have h1:=hao.w
    have h2:=MOk.le hao
    rw [wOf_ok o]
    have h3:=chg_cnt (a:=(l.getD (year.toNat - 1) mp0).c) (b:=(l.getD year.toNat mp0).c) (W:=W) (H:=H) (by omega) hao.len
    refine ⟨by unfold natLL;rw [List.length_map];omega,fun x hx=>?_⟩
    unfold natLL at hx
    obtain ⟨cs,hcs,rfl⟩:=List.mem_map.1 hx
    have:=(chg_mem (by omega) hao.len (by omega) hcs).2.2.1
    rw [natI_len];omega
  · exact ⟨by simp [natLL],fun x hx=>by simp [natLL] at hx⟩
theorem lwA_bd {l : List Mp} {slow : Int} : (lwA l slow).length ≤ 4000000 ∧ ∀ (k : Nat) (m : Mp),(lwA l slow)[k]? = some m → m.c.length ≤ 4000000:=by
  unfold lwA
  split
  · rename_i h0
    obtain ⟨W,H,o⟩:=chkY_YOk (chk_of_rl h0)
    have hn:=o.n
    rw [wOf_ok o,lawY_len]
    refine ⟨by omega,fun k m hk=>?_⟩
    have hlt:=(List.getElem?_eq_some_iff.1 hk).1
    rw [lawY_len] at hlt
    obtain ⟨e1,_,_,e4,_⟩:=o.law slow hlt
    rw [e1] at hk
    obtain rfl:=Option.some.inj hk
    have:=MOk.le e4
    omega
  · exact ⟨by simp,fun k m hk=>by simp at hk⟩
theorem slL_bd {l : List Mp} {cell owner : Int} : (slL l cell owner).length ≤ 4000000:=by
  unfold slL
  split
  · rename_i h0
    have hchk : chkY l = 0:=by
      unfold slE at h0
      refine Decidable.byContradiction fun e=>?_
      rw [if_neg e] at h0;exact e h0
    obtain ⟨W,H,o⟩:=chkY_YOk hchk
    rw [wOf_ok o,slL_rs o]
    have:=(rsK_len (fun s=>slP W (cellsY l) cell.toNat owner (min s ((W * H : Nat) : Int))) 145).1
    omega
  · simp
theorem vc_RiverYears (l : List Mp) (year slow cell owner : Int) (h : Hp) : VC Tryz.prog 3 [yrs l,I year,I slow,I cell,I owner] h (B true) h:=by
  have cA:=vc_awake
  by_cases hg : (4 < l.length ∧ l.length < 11) ∨ 12 < l.length
  · refine VC.body Tryz.func3 rfl Tryz.ntmps3 Tryz.call3 (h.grows_refl) rfl ?_;conv=>whnf
    repeat' (first|((first|refine zs1 ?_|refine zs2 ?_|refine zs3 ?_|refine zs4 ?_|refine zs5 ?_);conv=>whnf)|((first|apply zi1|apply zi2|apply zi3|apply zi4|apply zi5) <;> intro _ <;> first|(exfalso;omega)|contradiction|(conv=>whnf))|(refine VCall.intro (cA _) ?_;conv=>whnf))
    all_goals exact VOut.same rfl
  · have hl : l.length ≤ 12:=by omega
    refine VC.bodyC 2 Tryz.func3 rfl Tryz.ntmps3 Tryz.call3 (h.grows_refl) rfl ?_
    conv=>whnf
    apply sufficesL
    · intro hrest
      repeat' (first|((first|refine zs1 ?_|refine zs2 ?_|refine zs3 ?_|refine zs4 ?_|refine zs5 ?_);conv=>whnf)|((first|apply zi1|apply zi2|apply zi3|apply zi4|apply zi5) <;> intro _ <;> first|(exfalso;omega)|contradiction|(conv=>whnf)))
      all_goals (refine VCut.at' (outer:=h.lift) (marks:=[]) 1 [(0,yrs l),(1,I year),(2,I slow),(3,I cell),(4,I owner)] [] ?_ hrest.out;conv=>whnf)
      all_goals refine Retell.turn ⟨[],9,[],[]⟩ (TurnOk.mk' _ _ [] [] (OutOk.lift _) rfl (by decide) zb trivial trivial rfl) zw zm
    conv=>whnf
    repeat' (first|((first|refine zs1 ?_|refine zs2 ?_|refine zs3 ?_|refine zs4 ?_|refine zs5 ?_);conv=>whnf)|((first|apply zi1|apply zi2|apply zi3|apply zi4|apply zi5) <;> intro _ <;> first|(exfalso;omega)|contradiction|(conv=>whnf)))
    refine VCode.lpC (outer:=h.lift) (marks:=[]) 99 (fun k : Nat=>[(0,yrs l),(1,I year),(2,I slow),(3,I cell),(4,I owner),(42,yrs l),(43,I l.length),(44,I k)]) (fun k=>[]) (fun k=>k ≤ l.length ∧ ∀ m ∈ l.take k,m.c.length ≤ 160) (fun k=>l.length - k) 0 ⟨Nat.zero_le _,by simp⟩ ?_ ?_
    · conv=>whnf
      refine Retell.turn ⟨[],9,[],[]⟩ (TurnOk.mk' _ _ [] [] (OutOk.lift _) rfl (by decide) zb trivial trivial rfl) zw zm
    rintro k ⟨hk,hm⟩
    rcases Nat.lt_or_ge k l.length with h3|h3
    · have hx : l[k]? = some l[k]:=List.getElem?_eq_getElem h3
      have ht : l.take (k + 1) = l.take k ++ [l[k]]:=by rw [List.take_add_one,hx];rfl
      generalize l[k] = x at *
      have cG:=fun h=>vc_great x 30 h
      by_cases hgr : grt x 30 = true
      · rw [hgr] at cG
        obtain ⟨xw,xh,xc⟩:=x
        conv=>whnf
        repeat' (first|((first|refine zs1 ?_|refine zs2 ?_|refine zs3 ?_|refine zs4 ?_|refine zs5 ?_);conv=>whnf)|((first|apply zi1|apply zi2|apply zi3|apply zi4|apply zi5) <;> intro _ <;> first|(exfalso;omega)|contradiction|(conv=>whnf))|(refine VAny.ix encM_len k rfl rfl hx ?_;conv=>whnf)|(refine VCall.intro (cG _) ?_;conv=>whnf)|(refine VCall.intro (cA _) ?_;conv=>whnf))
        all_goals exact VOut.same rfl
      · have hgf : grt x 30 = false:=by simpa using hgr
        rw [hgf] at cG
        have hxl : x.c.length ≤ 160:=by
          unfold grt at hgf
          have:=of_decide_eq_false hgf
          omega
        have hm2 : ∀ m ∈ l.take (k + 1),m.c.length ≤ 160:=fun m hmm=>by
          rw [ht,List.mem_append] at hmm
          rcases hmm with h|h
          · exact hm m h
          · rw [List.mem_singleton] at h;rw [h];exact hxl
        clear hm ht
        obtain ⟨xw,xh,xc⟩:=x
        conv=>whnf
        repeat' (first|((first|refine zs1 ?_|refine zs2 ?_|refine zs3 ?_|refine zs4 ?_|refine zs5 ?_);conv=>whnf)|((first|apply zi1|apply zi2|apply zi3|apply zi4|apply zi5) <;> intro _ <;> first|(exfalso;omega)|contradiction|(conv=>whnf))|(refine VAny.ix encM_len k rfl rfl hx ?_;conv=>whnf)|(refine VCall.intro (cG _) ?_;conv=>whnf))
        refine LEnd.intro (k + 1) ⟨by omega,hm2⟩ (by omega) ?_
        conv=>whnf
        refine Retell.turn ⟨[],9,[],[]⟩ (TurnOk.mk' _ _ [] [] (OutOk.lift _) rfl (by decide) zb trivial trivial rfl) zw zm
    · rw [List.take_of_length_le h3] at hm
      clear hg
      have hc : ∀ m ∈ l,m.c.length ≤ 4000000:=fun m h=>by have:=hm m h;omega
      have c1:=fun h=>vc_CloneYears l h (by omega) hc
      have c2:=fun h=>vc_Years l h (by omega) hc
      have c3:=fun h=>vc_CheckYears l h (by omega) hc
      have c4 : ∀ h,VC Tryz.prog 11 [yrs l] h (I (chkY l)) h:=fun h=>vc_rCheckYears l h (by omega) hc
      have c5:=fun h=>vc_Changes l year h (by omega) hc
      have c6:=fun h=>vc_rChanges l year h (by omega) hc
      have c7:=fun h=>vc_kequalA (natLL (cgL l year)) (natLL (cgL l year)) h cgL_bd.1 cgL_bd.1 cgL_bd.2 cgL_bd.2
      rw [decide_eq_true rfl] at c7
      have c8:=fun h=>vc_Law l slow h (by omega) hc
      have c9:=fun h=>vc_rLaw l slow h (by omega) hc
      have hLw:=(lwA_bd (l:=l) (slow:=slow)).2
      have hLw1:=(lwA_bd (l:=l) (slow:=slow)).1
      have d1:=fun h=>vc_Gains l slow h (by omega) hc
      have d2:=fun h=>vc_rGains l slow h (by omega) hc
      have hG:=gnA_len l slow
      have d3:=fun h=>vc_Last l slow cell h (by omega) hc
      have d4:=fun h=>vc_rLast l slow cell h (by omega) hc
      have d5:=fun h=>vc_Slows l cell owner h (by omega) hc
      have d6:=fun h=>vc_rSlows l cell owner h (by omega) hc
      have d7:=fun h=>vc_kequalS (slL l cell owner) (slL l cell owner) h slL_bd slL_bd
      rw [decide_eq_true rfl] at d7
      have d8:=fun h=>vc_equals l l h (by omega) (by omega) hc hc
      rw [decide_eq_true rfl] at d8
      clear hm hc
      generalize chkY l = e0 at *
      generalize natLL (cgL l year) = X1 at *
      generalize cgE l year = e1 at *
      generalize lwA l slow = X2 at *
      generalize rlE l slow = e2 at *
      generalize gnA l slow = G at *
      generalize dnL l slow cell = X3 at *
      generalize dnE l slow cell = e3 at *
      generalize slL l cell owner = X4 at *
      generalize slE l cell owner = e4 at *
      conv=>whnf
      repeat' (first|((first|refine zs1 ?_|refine zs2 ?_|refine zs3 ?_|refine zs4 ?_|refine zs5 ?_);conv=>whnf)|((first|apply zi1|apply zi2|apply zi3|apply zi4|apply zi5) <;> intro _ <;> first|(exfalso;omega)|contradiction|(conv=>whnf)))
      refine VCut.at' (outer:=h.lift) (marks:=[]) 1 [(0,yrs l),(1,I year),(2,I slow),(3,I cell),(4,I owner)] [] ?_ ?_
      · conv=>whnf
        refine Retell.turn ⟨[],9,[],[]⟩ (TurnOk.mk' _ _ [] [] (OutOk.lift _) rfl (by decide) zb trivial trivial rfl) zw zm
      conv=>whnf
      repeat' (first|((first|refine zs1 ?_|refine zs2 ?_|refine zs3 ?_|refine zs4 ?_|refine zs5 ?_);conv=>whnf)|((first|apply zi1|apply zi2|apply zi3|apply zi4|apply zi5) <;> intro _ <;> first|(exfalso;omega)|contradiction|(conv=>whnf))|(refine VCall.intro (c1 _) ?_;conv=>whnf)|(refine VCall.intro (c2 _) ?_;conv=>whnf))
      refine VCut.at' (outer:=h.lift) (marks:=[]) 99 [(0,yrs l),(1,I year),(2,I slow),(3,I cell),(4,I owner),(13,yrs l),(14,yrs l)] [] ?_ ?_
      · conv=>whnf
        refine Retell.turn ⟨[],9,[],[]⟩ (TurnOk.mk' _ _ [] [] (OutOk.lift _) rfl (by decide) zb trivial trivial rfl) zw zm
      conv=>whnf
      repeat' (first|((first|refine zs1 ?_|refine zs2 ?_|refine zs3 ?_|refine zs4 ?_|refine zs5 ?_);conv=>whnf)|((first|apply zi1|apply zi2|apply zi3|apply zi4|apply zi5) <;> intro _ <;> first|(exfalso;omega)|contradiction|(conv=>whnf))|(refine VCall.intro (c3 _) ?_;conv=>whnf)|(refine VCall.intro (c4 _) ?_;conv=>whnf)|(refine VCall.intro (c5 _) ?_;conv=>whnf)|(refine VCall.intro (c6 _) ?_;conv=>whnf)|(refine VCall.intro (c7 _) ?_;conv=>whnf)|(refine VCall.intro (c8 _) ?_;conv=>whnf)|(refine VCall.intro (c9 _) ?_;conv=>whnf))
      refine VCode.lpC (outer:=h.lift) (marks:=[]) 99 (fun k : Nat=>[(0,yrs l),(1,I year),(2,I slow),(3,I cell),(4,I owner),(13,yrs l),(14,yrs l),(19,yrs X2),(20,yrs X2),(104,yrs X2),(105,I X2.length),(106,I k)]) (fun k=>[]) (fun k=>k ≤ X2.length) (fun k=>X2.length - k) 0 (Nat.zero_le _) ?_ ?_
      · conv=>whnf
        refine Retell.turn ⟨[],9,[],[]⟩ (TurnOk.mk' _ _ [] [] (OutOk.lift _) rfl (by decide) zb trivial trivial rfl) zw zm
      clear c1 c2 c3 c4 c5 c6 c7 c8 c9 hk h3
      rintro k hk
      rcases Nat.lt_or_ge k X2.length with h3|h3
      · have hx : X2[k]? = some X2[k]:=List.getElem?_eq_getElem h3
        have hxl:=hLw k _ hx
        generalize X2[k] = x at *
        have cE:=fun h=>vc_kequalI x.c x.c h hxl hxl
        rw [decide_eq_true rfl] at cE
        clear d1 d2 d3 d4 d5 d6 d7 d8
        obtain ⟨xw,xh,xc⟩:=x
        dsimp only at *
        conv=>whnf
        repeat' (first|((first|refine zs1 ?_|refine zs2 ?_|refine zs3 ?_|refine zs4 ?_|refine zs5 ?_);conv=>whnf)|((first|apply zi1|apply zi2|apply zi3|apply zi4|apply zi5) <;> intro _ <;> first|(exfalso;omega)|contradiction|(conv=>whnf)))
        refine zs6 [] ?_
        conv=>whnf
        repeat' (first|((first|refine zs1 ?_|refine zs2 ?_|refine zs3 ?_|refine zs4 ?_|refine zs5 ?_);conv=>whnf)|((first|apply zi1|apply zi2|apply zi3|apply zi4|apply zi5) <;> intro _ <;> first|(exfalso;omega)|contradiction|(conv=>whnf))|(refine VAny.ix encM_len k rfl rfl hx ?_;conv=>whnf)|(refine VCall.intro (cE _) ?_;conv=>whnf))
        refine LEnd.intro (k + 1) (by omega) (by omega) ?_
        conv=>whnf
        refine Retell.turn ⟨[],9,[],[]⟩ (TurnOk.mk' _ _ [] [] (OutOk.lift _) rfl (by decide) zb trivial trivial rfl) zw zm
      · clear hLw
        have hv:=vneqG hG
        have hZl : (List.replicate 16 (0 : Int)).length = G.length:=by rw [hG];rfl
        conv=>whnf
        repeat' (first|((first|refine zs1 ?_|refine zs2 ?_|refine zs3 ?_|refine zs4 ?_|refine zs5 ?_);conv=>whnf)|((first|apply zi1|apply zi2|apply zi3|apply zi4|apply zi5) <;> intro _ <;> first|(exfalso;omega)|contradiction|(conv=>whnf))|(refine VCall.intro (d1 _) ?_;conv=>whnf))
        rw [forceVs_eq]
        conv=>whnf
        repeat' (first|((first|refine zs1 ?_|refine zs2 ?_|refine zs3 ?_|refine zs4 ?_|refine zs5 ?_);conv=>whnf)|((first|apply zi1|apply zi2|apply zi3|apply zi4|apply zi5) <;> intro _ <;> first|(exfalso;omega)|contradiction|(conv=>whnf)))
        refine VMem.wholeI (G:=G) (Z:=List.replicate 16 0) rfl hG.symm rfl hZl ?_
        conv=>whnf
        repeat' (first|((first|refine zs1 ?_|refine zs2 ?_|refine zs3 ?_|refine zs4 ?_|refine zs5 ?_);conv=>whnf)|((first|apply zi1|apply zi2|apply zi3|apply zi4|apply zi5) <;> intro _ <;> first|(exfalso;omega)|contradiction|(conv=>whnf))|(refine VCall.intro (d2 _) ?_;conv=>whnf))
        rw [forceVs_eq]
        conv=>whnf
        repeat' (first|((first|refine zs1 ?_|refine zs2 ?_|refine zs3 ?_|refine zs4 ?_|refine zs5 ?_);conv=>whnf)|((first|apply zi1|apply zi2|apply zi3|apply zi4|apply zi5) <;> intro _ <;> first|(exfalso;omega)|contradiction|(conv=>whnf)))
        refine VMem.wholeI (G:=G) (Z:=List.replicate 16 0) rfl hG.symm rfl hZl ?_
        conv=>whnf
        repeat' (first|((first|refine zs1 ?_|refine zs2 ?_|refine zs3 ?_|refine zs4 ?_|refine zs5 ?_);conv=>whnf)|((first|apply zi1|apply zi2|apply zi3|apply zi4|apply zi5) <;> intro _ <;> first|(exfalso;omega)|contradiction|(conv=>whnf))|(refine VLd.wholeI (G:=G) rfl rfl hG.symm rfl ?_;conv=>whnf)|(rw [forceVs_eq];conv=>whnf)|(refine VAgg.intro hv ?_;conv=>whnf)|(refine VCall.intro (d3 _) ?_;conv=>whnf)|(refine VCall.intro (d4 _) ?_;conv=>whnf)|(refine VCall.intro (d5 _) ?_;conv=>whnf)|(refine VCall.intro (d6 _) ?_;conv=>whnf)|(refine VCall.intro (d7 _) ?_;conv=>whnf)|(refine VCall.intro (d8 _) ?_;conv=>whnf)|(refine VCall.intro (cA _) ?_;conv=>whnf))
        all_goals exact VOut.same rfl
end Go.Proofs.YtkbbfeljlepgoaaGreat

open Go.Vm
open Riv
namespace Go.Proofs.YtkbbfeljlepgoaaGreat
set_option maxRecDepth 20000
set_option maxHeartbeats 4000000

theorem vc_DrawnO (l : List ByteArray) (h : Hp) (hn : l.length ≤ 1000) (hb : ∀ s ∈ l,s.size ≤ 1000) : VC Tryz.prog 30 [strs l] h (.agg [I (dwM l).w,I (dwM l).h,.gl h.fresh 1 (dwM l).c.length]) (h.push (.flat true ((dwM l).c.flatMap Vm.encI))):=by
  have hal:=fun i hi=>dwA_len hb i hi
  have h00 : dwA (l.take 0) = []:=rfl
  have h01 : dwW (l.take 0) = 0:=rfl
  have hst:=fun i s (hs : l[i]? = some s)=>dwA_step hs
  have hsw:=fun i s (hs : l[i]? = some s)=>dwW_step hs
  have hfin : dwM l = ⟨dwW (l.take l.length),l.length,dwA (l.take l.length)⟩:=by rw [List.take_length];rfl
  rw [hfin]
  dsimp only
  refine VC.body Tryz.func30 rfl Tryz.ntmps30 Tryz.call30 (h.grows_push _) rfl ?_
  conv=>whnf
  repeat' (first|((first|refine zs1 ?_|refine zs2 ?_|refine zs3 ?_|refine zs4 ?_|refine zs5 ?_);conv=>whnf)|((first|apply zi1|apply zi2|apply zi3|apply zi4|apply zi5) <;> intro _ <;> conv=>whnf))
  refine VCode.lpC (outer:=h.lift) (marks:=[]) 99 (fun i : Nat=>[(2,.ptr (.loc 0) 0),(3,.ptr (.loc 1) 0),(10,strs l),(11,I l.length),(12,I i)]) (fun i=>[.cells true [I 0,I 0,.nilslice],.cells true [I (dwW (l.take i)),I l.length,.gl (.loc 2) 1 (dwA (l.take i)).length],.flat true ((dwA (l.take i)).flatMap Vm.encI)]) (fun i=>i ≤ l.length) (fun i=>l.length - i) 0 (Nat.zero_le _) ?_ ?_
  · rw [h00,h01]
    conv=>whnf
    refine Retell.turn ⟨[0,1,2],2,[],[]⟩ (TurnOk.mk' _ _ [] [] (OutOk.lift _) rfl (by decide) zb trivial trivial rfl) zw zm
  rintro i hi
  rcases Nat.lt_or_ge i l.length with h4|h4
  · obtain ⟨s,hs⟩ : ∃ s,l[i]? = some s:=⟨_,List.getElem?_eq_getElem h4⟩
    have hsb:=hb s (List.mem_of_getElem? hs)
    have hst:=hst i s hs
    have hsw:=hsw i s hs
    have hal:=hal i hi
    have hC0 : dwC s 0 = []:=rfl
    have hCs:=dwC_step s
    have hCl:=dwC_len s
    generalize dwA (l.take i) = A at *
    generalize dwW (l.take i) = w0 at *
    conv=>whnf
    repeat' (first|((first|refine zs1 ?_|refine zs2 ?_|refine zs3 ?_|refine zs4 ?_|refine zs5 ?_);conv=>whnf)|((first|apply zi1|apply zi2|apply zi3|apply zi4|apply zi5) <;> intro _ <;> first|(exfalso;omega)|contradiction|(conv=>whnf))|(refine VAny.ix encStr_len i rfl rfl hs ?_;conv=>whnf))
    refine VCode.lpC (outer:=h.lift) (marks:=[]) 99 (fun k : Nat=>[(2,.ptr (.loc 0) 0),(3,.ptr (.loc 1) 0),(10,strs l),(11,I l.length),(12,I i),(5,.lit (.string s)),(20,I s.size),(21,I k)]) (fun k=>[.cells true [I 0,I 0,.nilslice],.cells true [I s.size,I l.length,.gl (.loc 2) 1 (A ++ dwC s k).length],.flat true ((A ++ dwC s k).flatMap Vm.encI)]) (fun k=>k ≤ s.size) (fun k=>s.size - k) 0 (Nat.zero_le _) ?_ ?_
    · rw [hC0,List.append_nil]
      conv=>whnf
      refine Retell.turn ⟨[0,1,2],9,[],[]⟩ (TurnOk.mk' _ _ [] [] (OutOk.lift _) rfl (by decide) zb trivial trivial rfl) zvS zm
    rintro k hk
    rcases Nat.lt_or_ge k s.size with h5|h5
    · have hCs:=hCs k
      have hCl:=hCl k
      have cI:=fun h=>vc_IndexByte (strAt s k) h
      have hTl : (A ++ dwC s k).length = A.length + k:=by rw [List.length_append,hCl]
      have hTn : A ++ dwC s (k + 1) = (A ++ dwC s k) ++ [knd (strAt s k)]:=by rw [hCs,List.append_assoc]
      generalize A ++ dwC s k = T at *
      have hk2 : ((k : Int)).toNat = k:=Int.toNat_natCast k
      conv=>whnf
      repeat' (first|((first|refine zs1 ?_|refine zs2 ?_|refine zs3 ?_|refine zs4 ?_|refine zs5 ?_);conv=>whnf)|((first|apply zi1|apply zi2|apply zi3|apply zi4|apply zi5) <;> intro _ <;> conv=>whnf))
      all_goals try (exfalso;omega)
      refine zs6 [(1,5)] ?_
      conv=>whnf
      repeat' (first|((first|refine zs1 ?_|refine zs2 ?_|refine zs3 ?_|refine zs4 ?_|refine zs5 ?_);conv=>whnf)|((first|apply zi1|apply zi2|apply zi3|apply zi4|apply zi5) <;> intro _ <;> first|(exfalso;omega)|contradiction|(conv=>whnf))|(refine VCall.intro (cI _) ?_;conv=>whnf))
      refine VMem.app1 (l:=T) (knd (strAt s k)) Vm.encI_len rfl rfl rfl rfl rfl (by omega) ?_
      conv=>whnf
      repeat' (first|((first|refine zs1 ?_|refine zs2 ?_|refine zs3 ?_|refine zs4 ?_|refine zs5 ?_);conv=>whnf)|((first|apply zi1|apply zi2|apply zi3|apply zi4|apply zi5) <;> intro _ <;> first|(exfalso;omega)|contradiction|(conv=>whnf)))
      refine LEnd.intro (k + 1) (by omega) (by omega) ?_
      have hTe : T.length + 1 = (T ++ [knd (strAt s k)]).length:=by rw [List.length_append];rfl
      rw [hTn,hTe]
      generalize knd (strAt s k) = z
      conv=>whnf
      refine Retell.turn ⟨[0,1,4],9,[],[]⟩ (TurnOk.mk' _ _ [] [] (OutOk.lift _) rfl (by decide) zb trivial trivial rfl) zvS zm
    · obtain rfl : k = s.size:=by omega
      rw [← hst]
      conv=>whnf
      repeat' (first|((first|refine zs1 ?_|refine zs2 ?_|refine zs3 ?_|refine zs4 ?_|refine zs5 ?_);conv=>whnf)|((first|apply zi1|apply zi2|apply zi3|apply zi4|apply zi5) <;> intro _ <;> first|(exfalso;omega)|contradiction|(conv=>whnf)))
      refine LEnd.intro (i + 1) (by omega) (by omega) ?_
      rw [hsw]
      conv=>whnf
      refine Retell.turn ⟨[0,1,2],9,[],[]⟩ (TurnOk.mk' _ _ [] [] (OutOk.lift _) rfl (by decide) zb trivial trivial rfl) zw zm
  · obtain rfl : i = l.length:=by omega
    generalize dwA (l.take l.length) = A at *
    generalize dwW (l.take l.length) = w0 at *
    conv=>whnf
    repeat' (first|((first|refine zs1 ?_|refine zs2 ?_|refine zs3 ?_|refine zs4 ?_|refine zs5 ?_);conv=>whnf)|((first|apply zi1|apply zi2|apply zi3|apply zi4|apply zi5) <;> intro _ <;> first|(exfalso;omega)|contradiction|(conv=>whnf)))
    exact VOut.ownM (h:=h) 2 3 rfl rfl
theorem vc_IslesO (h : Hp) : VC Tryz.prog 26 [] h (.agg [I 7,I 3,.gl h.fresh 1 21]) (h.push (.flat true (cC.flatMap Vm.encI))):=by
  have q : ∀ h,VC Tryz.prog 30 [strs [rowA,rowC,rowA]] h (.agg [I 7,I 3,.gl h.fresh 1 21]) (h.push (.flat true (cC.flatMap Vm.encI))):=fun h=>by
    have c:=vc_DrawnO [rowA,rowC,rowA] h (by decide) (by decide);rw [dwC_] at c;exact c
  generalize cC = z at *
  refine VC.body Tryz.func26 rfl Tryz.ntmps26 Tryz.call26 (h.grows_push _) rfl ?_;conv=>whnf
  repeat' (first|((first|refine zs1 ?_|refine zs2 ?_|refine zs3 ?_|refine zs4 ?_|refine zs5 ?_);conv=>whnf)|((first|apply zi1|apply zi2|apply zi3|apply zi4|apply zi5) <;> intro _ <;> first|(exfalso;omega)|contradiction|(conv=>whnf)))
  refine VCall.intro (VC.give (args':=[strs [rowA,rowC,rowA]]) (loc':=[.flat true [DI 0,DI 0,.nilslice],.dead]) [(1,[.lit (.string rowA),.lit (.string rowC),.lit (.string rowA)])] [] (OutOk.lift _) zb zf (by exact FmAll.nil) rfl zv (q _)) ?_
  conv=>whnf
  repeat' (first|((first|refine zs1 ?_|refine zs2 ?_|refine zs3 ?_|refine zs4 ?_|refine zs5 ?_);conv=>whnf)|((first|apply zi1|apply zi2|apply zi3|apply zi4|apply zi5) <;> intro _ <;> first|(exfalso;omega)|contradiction|(conv=>whnf)))
  exact VOut.ownM (h:=h) 2 3 rfl rfl
theorem vc_ThreeO (h : Hp) : VC Tryz.prog 27 [] h (.gl h.fresh 3 3) (h.pushes [.cells true [I 7,I 1,ints cA,I 7,I 1,.gl (.loc (h.loc.length + 1)) 1 7,I 7,I 1,ints cE],.flat true (cD.flatMap Vm.encI)]):=by
  have q1:=q1
  have q5:=q5
  have q4 : ∀ h,VC Tryz.prog 30 [strs [rowD]] h (.agg [I 7,I 1,.gl h.fresh 1 7]) (h.push (.flat true (cD.flatMap Vm.encI))):=fun h=>by
    have c:=vc_DrawnO [rowD] h (by decide) (by decide);rw [dwD_] at c;exact c
  generalize cD = d at *
  have hg : h.grows (h.pushes [.cells true [I 7,I 1,ints cA,I 7,I 1,.gl (.loc (h.loc.length + 1)) 1 7,I 7,I 1,ints cE],.flat true (d.flatMap Vm.encI)]):=by
    intro i hi
    cases i with
    | out i=>exact hi
    | loc k =>
      have h1 : h.loc[k]? ≠ none:=hi
      show (h.loc ++ _)[k]? ≠ none
      rw [List.getElem?_append_left (by rcases Nat.lt_or_ge k h.loc.length with g|g;exact g;exact absurd (List.getElem?_eq_none g) h1)]
      exact h1
  refine VC.body Tryz.func27 rfl Tryz.ntmps27 Tryz.call27 hg rfl ?_;conv=>whnf
  repeat' (first|((first|refine zs1 ?_|refine zs2 ?_|refine zs3 ?_|refine zs4 ?_|refine zs5 ?_);conv=>whnf)|((first|apply zi1|apply zi2|apply zi3|apply zi4|apply zi5) <;> intro _ <;> first|(exfalso;omega)|contradiction|(conv=>whnf)))
  refine VCall.intro (VC.give (args':=[strs [rowA]]) (loc':=[.dead]) [(0,[.lit (.string rowA)])] [] (OutOk.lift _) zb zf (by exact FmAll.nil) rfl zv (q1 _)) ?_
  conv=>whnf
  repeat' (first|((first|refine zs1 ?_|refine zs2 ?_|refine zs3 ?_|refine zs4 ?_|refine zs5 ?_);conv=>whnf)|((first|apply zi1|apply zi2|apply zi3|apply zi4|apply zi5) <;> intro _ <;> first|(exfalso;omega)|contradiction|(conv=>whnf)))
  refine VCall.intro (VC.give (args':=[strs [rowD]]) (loc':=[.dead,.dead]) [(1,[.lit (.string rowD)])] [] (OutOk.lift _) zb zf (by exact FmAll.nil) rfl zv (q4 _)) ?_
  conv=>whnf
  repeat' (first|((first|refine zs1 ?_|refine zs2 ?_|refine zs3 ?_|refine zs4 ?_|refine zs5 ?_);conv=>whnf)|((first|apply zi1|apply zi2|apply zi3|apply zi4|apply zi5) <;> intro _ <;> first|(exfalso;omega)|contradiction|(conv=>whnf)))
  refine VCall.intro (VC.give (args':=[strs [rowE]]) (loc':=[.dead,.dead,.flat true (d.flatMap Vm.encI),.dead]) [(3,[.lit (.string rowE)])] [] (OutOk.lift _) zb zf (by exact FmAll.nil) rfl zv (q5 _)) ?_
  conv=>whnf
  repeat' (first|((first|refine zs1 ?_|refine zs2 ?_|refine zs3 ?_|refine zs4 ?_|refine zs5 ?_);conv=>whnf)|((first|apply zi1|apply zi2|apply zi3|apply zi4|apply zi5) <;> intro _ <;> first|(exfalso;omega)|contradiction|(conv=>whnf)))
  refine VOut.upd [] [.cells true [I 7,I 1,ints cA,I 7,I 1,.gl (.loc (h.loc.length + 1)) 1 7,I 7,I 1,ints cE],.flat true (d.flatMap Vm.encI)] [4,2] 5 rfl (by intro p hp;cases hp) (by simp) rfl ?_ ?_ rfl
  · intro k b hk
    match k with
    | 0 =>
      rw [List.getElem?_cons_zero,Option.some.injEq] at hk
      subst hk
      refine ⟨4,rfl,?_⟩
      have e1 : backR h.loc.length [4,2] 5 (.loc (h.loc.length + 1)) = .loc 2:=by simp [backR]
      simp only [Blk.ren,List.map,V.ren,e1,ints]
      rfl
    | 1 =>
      rw [List.getElem?_cons_succ,List.getElem?_cons_zero,Option.some.injEq] at hk
      subst hk
      exact ⟨2,rfl,rfl⟩
    | k + 2=>simp at hk
  · intro σ x hx
    have e1 : (V.gl h.fresh 3 3).ren (backR h.loc.length [4,2] 5) = .gl (.loc 4) 3 3:=by simp [V.ren,backR,Hp.fresh]
    rw [e1];exact hx
end Go.Proofs.YtkbbfeljlepgoaaGreat

open Go.Vm
open Riv
namespace Go.Proofs.YtkbbfeljlepgoaaGreat
set_option maxRecDepth 100000
set_option maxHeartbeats 16000000

def smV : List Int:=[-2,-1,0,1,2,3,4,5,6,7,11,12,13,20,21,143,144,145,9223372036854775807,-9223372036854775808]
def smT : List Int:=[0,1,2,3,4,5,-1,0,1,2,4,6,6,-1,0,1,2,3,4,5,-1]
theorem tmod_b {a k : Int} (ha : 0 ≤ a) (hk : 0 < k) : 0 ≤ a.tmod k ∧ a.tmod k < k:=by
  rw [Int.tmod_eq_emod_of_nonneg ha]
  exact ⟨Int.emod_nonneg _ (by omega),Int.emod_lt_of_pos _ hk⟩
theorem tdiv_b {a k : Int} (ha : 0 ≤ a) (hk : 0 < k) : 0 ≤ a.tdiv k ∧ a.tdiv k ≤ a:=by
  rw [Int.tdiv_eq_ediv_of_nonneg ha]
  exact ⟨Int.ediv_nonneg ha (by omega),Int.ediv_le_self _ ha⟩
theorem wtd {a k : Int} {A : Int} (ha : 0 ≤ a) (hA : a ≤ A) (h : A ≤ 1000000) (hk : 0 < k) : ∃ K,IntKind.i64.wrap (a.tdiv k) = K ∧ 0 ≤ K ∧ K ≤ A:=by
  have:=tdiv_b ha hk
  exact ⟨_,rfl,by rw [wrap_i64 (by omega)];omega,by rw [wrap_i64 (by omega)];omega⟩
theorem wtm {a k : Int} (ha : 0 ≤ a) (hk : 0 < k) : ∃ K,a.tmod k = K ∧ 0 ≤ K ∧ K < k:=⟨_,rfl,tmod_b ha hk⟩
theorem VCut.atL {P : Program} {ro : Option Nat} {id : Nat} {ops : Array Oper} {rest : Code} {n : Nat} {fr : Fr} {outer : Vm.Id → Option Blk} {loc0 : List Blk} {marks : List Vm.Id} {Q : X → St → Prop} (slots : List (Nat × V)) (loc : List Blk)
    (hst : frSK slots .leaf fun fr'=>Retell isOut ⟨n,fr,⟨outer,loc0⟩,marks⟩ ⟨n,fr',⟨outer,loc⟩,marks⟩)
    (hb : frSK slots .leaf fun fr'=>Later (vops P (tiOf P) n ops.toList ops.toList fr' ⟨outer,loc⟩ fun fr h=>VCut P ro isOut rest ⟨n,fr,h,marks⟩ Q)) : VCut P ro isOut ((Code.region id ops false).seq rest) ⟨n,fr,⟨outer,loc0⟩,marks⟩ Q:=by
  refine VCut.at' 1 slots loc hst ?_
  rw [frSK_eq] at hb ⊢
  exact hb.out
theorem Later.lit {P : Program} {T : TT} {n : Nat} {all rest : List Oper} {o : Oper} {fr : Fr} {h : Hp} {K : Fr → Hp → Prop} (k : AK) (cs : List V) (hg : o.guard = none) (hp : vpure T o (ev fr) = .no) (ha : valloc T o (ev fr) = some (k,cs))
    (hk : (h.push (mkBlk cs)).forceK fun h'=>vput n fr o.dst (k.mk h.fresh) fun fr'=>vops P T n all rest fr' h' K) : Later (vops P T n all (o :: rest) fr h K):=by
  refine ⟨?_⟩
  show vops1 P T n all o (fun fr h K=>vops P T n all rest fr h K) fr h K
  unfold vops1
  simp only [hg,vopK,hp,ha]
  exact hk
theorem VMem.setStr {P : Program} {t : TypeId} {i : Vm.Id} {off : Nat} {ti : TI} {h : Hp} {l : List ByteArray} {K : V → Hp → Prop} (j : Nat) (s s' : ByteArray) (hTt : tiOf P t = some ti) (hl : ti.size = 1) (hb : h.get i = some (.flat true (l.flatMap encStr)))
    (hj : l[j]? = some s) (ho : off = j * 1 + 0) (hK : K .undef (h.set i (.flat true ((l.set j s').flatMap encStr)))) : VMem P (opStore t) [.ptr i off,.lit (.string s')] h K:=by
  refine VMem.st1 hTt rfl hl hb ?_ hK
  have hlt : off < (l.flatMap encStr).length:=by
    obtain ⟨hlt,_⟩:=List.getElem?_eq_some_iff.1 hj
    rw [flat_len encStr_len,ho];omega
  have hf:=flat_set (enc:=encStr) (m:=1) encStr_len (a':=s') (c:=0) (d:=.lit (.string s')) hj (by decide) rfl
  rw [← ho] at hf
  rw [← hf]
  show (if off < (l.flatMap encStr).length then _ else _) = _
  rw [if_pos hlt];rfl
def wdC (i : Nat) : List Int:=List.replicate i 0
def hgC : Nat → List Int
  | 0=>[]
  | i + 1=>hgC i ++ [1,0,2]
def wdF (n : Nat) : List Int:=if 1 < n then ((wdC n).set 0 1).set (n - 1) 2 else wdC n
theorem wdC_len (i : Nat) : (wdC i).length = i:=by simp [wdC]
theorem wdC_succ (i : Nat) : wdC (i + 1) = wdC i ++ [0]:=List.replicate_succ'
theorem hgC_len : ∀ i,(hgC i).length = 3 * i
  | 0=>rfl
  | i + 1=>by rw [hgC,List.length_append,hgC_len i];rfl
theorem wdF_len (n : Nat) : (wdF n).length = n:=by
  unfold wdF
  split
  · rw [List.length_set,List.length_set,wdC_len]
  · exact wdC_len n
def rowW : ByteArray:=⟨#[87,46,46,69]⟩
abbrev mW : Mp:=⟨4,1,[1,0,0,2]⟩
theorem dwW_ : dwM [rowW] = mW:=by kernel_rfl
def rowF : ByteArray:=⟨#[87,46,46,46,46,46,46,46,46,46,46,69]⟩
def rowG : ByteArray:=⟨#[87,87,87,87,87,87,87,87,87,87,46,69]⟩
def rowH : ByteArray:=⟨#[87,87,46,69,69,69,69,69,69,69,69,69]⟩
def rowI : ByteArray:=⟨#[87,69,69,69,69,69,69,69,69,69,46,69]⟩
def rw4 : List ByteArray:=[rowF,rowG,rowF,rowH]
def rwL (n : Nat) : List ByteArray:=(List.range n).map fun k=>rw4.getD (k % 4) rowF
theorem rwL_len (n : Nat) : (rwL n).length = n:=by simp [rwL]
theorem rwL_succ (n : Nat) : rwL (n + 1) = rwL n ++ [rw4.getD (n % 4) rowF]:=by simp [rwL,List.range_succ]
theorem rw4_at (n : Nat) : rw4[n % 4]? = some (rw4.getD (n % 4) rowF):=by
  have h : n % 4 < rw4.length:=Nat.mod_lt _ (by decide)
  rw [List.getD_eq_getElem?_getD,List.getElem?_eq_getElem h];rfl
def rwG : List ByteArray:=(rwL 12).set 0 rowI
def gM : Mp:=dwM rwG
theorem gM_ok : lkE gM 2 = 0:=by kernel_rfl
theorem gM_len : gM.c.length ≤ 4000000:=by
  have : gM.c.length = 144:=by kernel_rfl
  omega
theorem gM_far : (frL gM 2).length = gM.c.length:=by
  obtain ⟨W,H,e1,_,o,_⟩:=lkE_ok gM_ok
  rw [frL_ok gM_ok e1]
  have:=o.w
  exact (bfs_hld (s:=2) (by omega) o.len).len
theorem gM_hdE : hdE gM 2 (frL gM 2) = 0:=by unfold hdE;rw [if_pos gM_ok,if_pos gM_far]
theorem gM_hdB : hdB gM 2 (frL gM 2) = true:=by unfold hdB;rw [gM_hdE];simp
theorem chkW : ∀ n : Nat,n < 16 → (chkM ⟨(n : Int),1,wdF n⟩ = 0 ↔ 2 < n ∧ n < 13):=by decide +kernel
theorem chkH : ∀ n : Nat,n < 16 → (chkM ⟨3,(n : Int),hgC n⟩ = 0 ↔ 0 < n ∧ n < 13):=by decide +kernel
theorem chkN : ∀ n : Nat,n < 16 → (chkY (List.replicate (min n 12) mW) = 0 ↔ 0 < n ∧ n < 11):=by decide +kernel
def tlC (c : Code) : Code:=match c with
  | .seq _ b=>b
  | c=>c
theorem sm5 (h : Hp) : VCut Tryz.prog none isOut (tlC (tlC (tlC (tlC (tlC (Tryz.f4.body.getD .skip)))))) ⟨351, .leaf, ⟨h.lift, []⟩, []⟩ (vfin (tiOf Tryz.prog) Tryz.f4.results.toList h (B true) h) := by
            have fF:=vc_RiverFars
            have fO:=vc_RiverOwners
            have fY:=vc_RiverYears
            refine VCut.at' (outer:=h.lift) (marks:=[]) 1 [] [] ?_ ?_
            · conv=>whnf
              refine Retell.turn ⟨[],9,[],[]⟩ (TurnOk.mk' _ _ [] [] (OutOk.lift _) rfl (by decide) zb trivial trivial rfl) zw zm
            conv=>whnf
            repeat' (first|((first|refine zs1 ?_|refine zs2 ?_|refine zs3 ?_|refine zs4 ?_|refine zs5 ?_);conv=>whnf)|((first|apply zi1|apply zi2|apply zi3|apply zi4|apply zi5) <;> intro _ <;> first|(exfalso;omega)|contradiction|(conv=>whnf)))
            refine VCut.at' (outer:=h.lift) (marks:=[]) 1 [(24,.nilslice)] [] ?_ ?_
            · conv=>whnf
              refine Retell.turn ⟨[],9,[],[]⟩ (TurnOk.mk' _ _ [] [] (OutOk.lift _) rfl (by decide) zb trivial trivial rfl) zw zm
            conv=>whnf
            repeat' (first|((first|refine zs1 ?_|refine zs2 ?_|refine zs3 ?_|refine zs4 ?_|refine zs5 ?_);conv=>whnf)|((first|apply zi1|apply zi2|apply zi3|apply zi4|apply zi5) <;> intro _ <;> first|(exfalso;omega)|contradiction|(conv=>whnf)))
            refine VCode.lpC (outer:=h.lift) (marks:=[]) 99 (fun y : Nat=>[(24,.gl (.loc 0) 1 y),(296,I y)]) (fun y=>[.flat true ((rwL y).flatMap encStr)]) (fun y=>y ≤ 12) (fun y=>12 - y) 0 (Nat.zero_le _) ?_ ?_
            · conv=>whnf
              refine Retell.turn ⟨[0],0,[],[]⟩ (TurnOk.mk' _ _ [] [] (OutOk.lift _) rfl (by decide) zb trivial trivial rfl) zw zm
            rintro y hy
            rcases Nat.lt_or_ge y 12 with h3|h3
            · have hr : (y : Int).tmod 4 = ((y % 4 : Nat) : Int):=by rw [Int.tmod_eq_emod_of_nonneg (by omega)];omega
              have hs:=rw4_at y
              have hrs:=rwL_succ y
              have hrl:=rwL_len y
              have hlt : y % 4 < 4:=Nat.mod_lt _ (by decide)
              generalize y % 4 = r at *
              generalize rw4.getD r rowF = s at *
              generalize rwL y = L at *
              conv=>whnf
              repeat' (first|((first|refine zs1 ?_|refine zs2 ?_|refine zs3 ?_|refine zs4 ?_|refine zs5 ?_);conv=>whnf)|((first|apply zi1|apply zi2|apply zi3|apply zi4|apply zi5) <;> intro _ <;> first|(exfalso;omega)|contradiction|(conv=>whnf))|(simp only [hr];conv=>whnf)|(refine VLd.recc encStr_len r 0 rfl rfl rfl hs (by decide) rfl (ofs _) ?_;conv=>whnf)|(refine VMem.app1 (l:=L) s encStr_len rfl rfl rfl hrl.symm rfl (by omega) ?_;conv=>whnf))
              refine LEnd.intro (y + 1) (by omega) (by omega) ?_
              rw [hrs]
              conv=>whnf
              refine Retell.turn ⟨[3],9,[],[]⟩ (TurnOk.mk' _ _ [] [] (OutOk.lift _) rfl (by decide) zb trivial trivial rfl) zw zm
            · obtain rfl : y = 12:=by omega
              have hG : rwG = (rwL 12).set 0 rowI:=rfl
              have hb1 : rwG.length ≤ 1000:=by rw [hG,List.length_set,rwL_len];omega
              have hb2 : ∀ s ∈ rwG,s.size ≤ 1000:=by decide +kernel
              have hGl : rwG.length = 12:=by rw [hG,List.length_set,rwL_len]
              have cG : ∀ h,VC Tryz.prog 30 [.fs 1 12 (rwG.flatMap encStr)] h (vM gM) h:=fun h=>by
                have c:=vc_Drawn rwG h hb1 hb2
                unfold strs at c;rw [hGl] at c;exact c
              have cF : ∀ h,VC Tryz.prog 32 [vM gM,I 2] h (.tuple [ints (frL gM 2),I 0]) h:=fun h=>by
                have c:=vc_Far gM 2 h gM_len;rw [gM_ok] at c;exact c
              have cH : ∀ h,VC Tryz.prog 33 [vM gM,I 2,ints (frL gM 2)] h (.tuple [B true,I 0]) h:=fun h=>by
                have c:=vc_Holds gM 2 (frL gM 2) h gM_len (by rw [gM_far];exact gM_len);rw [gM_hdE,gM_hdB] at c;exact c
              have cA:=vc_awake
              have h0 : (rwL 12)[0]? = some rowF:=rfl
              clear hb1 hb2 hGl hy h3
              have hLl:=rwL_len 12
              generalize frL gM 2 = T at *
              generalize gM = g at *
              obtain ⟨gw,gh,gc⟩:=g
              generalize hRG : rwG = G at *
              generalize rwL 12 = L at *
              conv=>whnf
              repeat' (first|((first|refine zs1 ?_|refine zs2 ?_|refine zs3 ?_|refine zs4 ?_|refine zs5 ?_);conv=>whnf)|((first|apply zi1|apply zi2|apply zi3|apply zi4|apply zi5) <;> intro _ <;> first|(exfalso;omega)|contradiction|(conv=>whnf)))
              refine VCut.at' (outer:=h.lift) (marks:=[]) 1 [(24,.gl (.loc 0) 1 12)] [.flat true (L.flatMap encStr)] ?_ ?_
              · conv=>whnf
                refine Retell.turn ⟨[0],9,[],[]⟩ (TurnOk.mk' _ _ [] [] (OutOk.lift _) rfl (by decide) zb trivial trivial rfl) zw zm
              conv=>whnf
              repeat' (first|((first|refine zs1 ?_|refine zs2 ?_|refine zs3 ?_|refine zs4 ?_|refine zs5 ?_);conv=>whnf)|((first|apply zi1|apply zi2|apply zi3|apply zi4|apply zi5) <;> intro _ <;> first|(exfalso;omega)|contradiction|(conv=>whnf))|(refine VMem.setStr (l:=L) 0 rowF rowI rfl rfl rfl h0 rfl ?_;conv=>whnf))
              refine VCut.at' (outer:=h.lift) (marks:=[]) 3 [(24,.fs 1 12 (G.flatMap encStr))] [] ?_ ?_
              · rw [hG]
                have hRf : ((L.set 0 rowI).flatMap encStr).length = 12 * 1:=by rw [flat_len encStr_len,List.length_set,hLl]
                conv=>whnf
                refine Retell.turn ⟨[],9,[(0,(L.set 0 rowI).flatMap encStr)],[]⟩ (TurnOk.mk' _ _ [(0,(L.set 0 rowI).flatMap encStr)] [] (OutOk.lift _) rfl (by decide) zb zf trivial rfl) zw zm
              have c1:=fun h=>fF ⟨0,0,[]⟩ 1 0 [] h
              have c2:=fun h=>fO ⟨0,0,[]⟩ h
              have c3:=fun h=>fY [] 0 0 0 0 h
              have c4:=fun h=>fY [⟨0,0,[]⟩] 0 0 0 0 h
              conv=>whnf
              repeat' (first|((first|refine zs1 ?_|refine zs2 ?_|refine zs3 ?_|refine zs4 ?_|refine zs5 ?_);conv=>whnf)|((first|apply zi1|apply zi2|apply zi3|apply zi4|apply zi5) <;> intro _ <;> first|(exfalso;omega)|contradiction|(conv=>whnf))|(refine VCall.intro (cG _) ?_;conv=>whnf)|(refine VCall.intro (cF _) ?_;conv=>whnf)|(refine VCall.intro (cH _) ?_;conv=>whnf))
              refine VCut.at' (outer:=h.lift) (marks:=[]) 99 [(28,I 0),(29,B true),(30,I 0)] [] ?_ ?_
              · conv=>whnf
                refine Retell.turn ⟨[],9,[],[]⟩ (TurnOk.mk' _ _ [] [] (OutOk.lift _) rfl (by decide) zb trivial trivial rfl) zw zm
              conv=>whnf
              repeat' (first|((first|refine zs1 ?_|refine zs2 ?_|refine zs3 ?_|refine zs4 ?_|refine zs5 ?_);conv=>whnf)|((first|apply zi1|apply zi2|apply zi3|apply zi4|apply zi5) <;> intro _ <;> first|(exfalso;omega)|contradiction|(conv=>whnf)))
              refine VCall.intro (VC.give (args':=[.agg [I 0,I 0,.fs 1 0 []],I 1,I 0,.fs 1 0 []]) (loc':=[]) [] [] (OutOk.lift _) zb zf (by exact FmAll.nil) rfl zw (c1 _)) ?_
              conv=>whnf
              repeat' (first|((first|refine zs1 ?_|refine zs2 ?_|refine zs3 ?_|refine zs4 ?_|refine zs5 ?_);conv=>whnf)|((first|apply zi1|apply zi2|apply zi3|apply zi4|apply zi5) <;> intro _ <;> first|(exfalso;omega)|contradiction|(conv=>whnf)))
              refine VCall.intro (VC.give (args':=[.agg [I 0,I 0,.fs 1 0 []]]) (loc':=[]) [] [] (OutOk.lift _) zb zf (by exact FmAll.nil) rfl zw (c2 _)) ?_
              conv=>whnf
              repeat' (first|((first|refine zs1 ?_|refine zs2 ?_|refine zs3 ?_|refine zs4 ?_|refine zs5 ?_);conv=>whnf)|((first|apply zi1|apply zi2|apply zi3|apply zi4|apply zi5) <;> intro _ <;> first|(exfalso;omega)|contradiction|(conv=>whnf)))
              refine VCall.intro (VC.give (args':=[.fs 3 0 [],I 0,I 0,I 0,I 0]) (loc':=[]) [] [] (OutOk.lift _) zb zf (by exact FmAll.nil) rfl zw (c3 _)) ?_
              conv=>whnf
              repeat' (first|((first|refine zs1 ?_|refine zs2 ?_|refine zs3 ?_|refine zs4 ?_|refine zs5 ?_);conv=>whnf)|((first|apply zi1|apply zi2|apply zi3|apply zi4|apply zi5) <;> intro _ <;> first|(exfalso;omega)|contradiction|(conv=>whnf)))
              refine VCall.intro (VC.give (args':=[.fs 3 1 [DI 0,DI 0,.sl 1 0 []],I 0,I 0,I 0,I 0]) (loc':=[.dead]) [(0,[DI 0,DI 0,.sl 1 0 []])] [] (OutOk.lift _) zb zr (by exact FmAll.nil) rfl zv (c4 _)) ?_
              conv=>whnf
              repeat' (first|((first|refine zs1 ?_|refine zs2 ?_|refine zs3 ?_|refine zs4 ?_|refine zs5 ?_);conv=>whnf)|((first|apply zi1|apply zi2|apply zi3|apply zi4|apply zi5) <;> intro _ <;> first|(exfalso;omega)|contradiction|(conv=>whnf))|(refine VCall.intro (cA _) ?_;conv=>whnf))
              exact VOut.same rfl
theorem sm4 (h : Hp) : VCut Tryz.prog none isOut (tlC (tlC (tlC (tlC (Tryz.f4.body.getD .skip))))) ⟨351, .leaf, ⟨h.lift, []⟩, []⟩ (vfin (tiOf Tryz.prog) Tryz.f4.results.toList h (B true) h) := by
          have fF:=vc_RiverFars
          have fO:=vc_RiverOwners
          have fY:=vc_RiverYears
          refine VCut.at' (outer:=h.lift) (marks:=[]) 1 [] [] ?_ ?_
          · conv=>whnf
            refine Retell.turn ⟨[],9,[],[]⟩ (TurnOk.mk' _ _ [] [] (OutOk.lift _) rfl (by decide) zb trivial trivial rfl) zw zm
          conv=>whnf
          repeat' (first|((first|refine zs1 ?_|refine zs2 ?_|refine zs3 ?_|refine zs4 ?_|refine zs5 ?_);conv=>whnf)|((first|apply zi1|apply zi2|apply zi3|apply zi4|apply zi5) <;> intro _ <;> first|(exfalso;omega)|contradiction|(conv=>whnf)))
          refine VCode.lpC (outer:=h.lift) (marks:=[]) 2 (fun n : Nat=>[(193,I n)]) (fun _=>[]) (fun n=>n ≤ 16) (fun n=>16 - n) 0 (Nat.zero_le _) ?_ ?_
          · conv=>whnf
            refine Retell.turn ⟨[],9,[],[]⟩ (TurnOk.mk' _ _ [] [] (OutOk.lift _) rfl (by decide) zb trivial trivial rfl) zw zm
          rintro n hn
          rcases Nat.lt_or_ge n 16 with h3|h3
          · conv=>whnf
            repeat' (first|((first|refine zs1 ?_|refine zs2 ?_|refine zs3 ?_|refine zs4 ?_|refine zs5 ?_);conv=>whnf)|((first|apply zi1|apply zi2|apply zi3|apply zi4|apply zi5) <;> intro _ <;> first|(exfalso;omega)|contradiction|(conv=>whnf)))
            refine VCut.block 2 ?_
            conv=>whnf
            repeat' (first|((first|refine zs1 ?_|refine zs2 ?_|refine zs3 ?_|refine zs4 ?_|refine zs5 ?_);conv=>whnf)|((first|apply zi1|apply zi2|apply zi3|apply zi4|apply zi5) <;> intro _ <;> first|(exfalso;omega)|contradiction|(conv=>whnf)))
            refine VCut.at' (outer:=h.lift) (marks:=[]) 1 [(193,I n),(20,I n),(21,.ptr (.loc 0) 0),(22,.ptr (.loc 1) 0)] [.flat true [DI n,DI 1,.nilslice],.flat true [DI 3,DI n,.nilslice]] ?_ ?_
            · conv=>whnf
              refine Retell.turn ⟨[0,1],9,[],[]⟩ (TurnOk.mk' _ _ [] [] (OutOk.lift _) rfl (by decide) zb trivial trivial rfl) zw zm
            conv=>whnf
            repeat' (first|((first|refine zs1 ?_|refine zs2 ?_|refine zs3 ?_|refine zs4 ?_|refine zs5 ?_);conv=>whnf)|((first|apply zi1|apply zi2|apply zi3|apply zi4|apply zi5) <;> intro _ <;> first|(exfalso;omega)|contradiction|(conv=>whnf)))
            refine VCode.lpC (outer:=h.lift) (marks:=[]) 99 (fun i : Nat=>[(193,I n),(20,I n),(21,.ptr (.loc 0) 0),(22,.ptr (.loc 1) 0),(200,I n),(201,I i)]) (fun i=>[.cells true [I n,I 1,.gl (.loc 2) 1 i],.cells true [I 3,I n,.gl (.loc 3) 1 (3 * i)],.flat true ((wdC i).flatMap Vm.encI),.flat true ((hgC i).flatMap Vm.encI)]) (fun i=>i ≤ n) (fun i=>n - i) 0 (Nat.zero_le _) ?_ ?_
            · conv=>whnf
              refine Retell.turn ⟨[0,1,2,3],2,[],[]⟩ (TurnOk.mk' _ _ [] [] (OutOk.lift _) rfl (by decide) zb trivial trivial rfl) zw zm
            rintro i hi
            rcases Nat.lt_or_ge i n with h4|h4
            · conv=>whnf
              repeat' (first|((first|refine zs1 ?_|refine zs2 ?_|refine zs3 ?_|refine zs4 ?_|refine zs5 ?_);conv=>whnf)|((first|apply zi1|apply zi2|apply zi3|apply zi4|apply zi5) <;> intro _ <;> first|(exfalso;omega)|contradiction|(conv=>whnf))|(refine VMem.app1 (l:=wdC i) (0 : Int) Vm.encI_len rfl rfl rfl (wdC_len i).symm rfl (by rw [wdC_len];omega) ?_;conv=>whnf)|(refine VMem.appG (l:=hgC i) ([1,0,2] : List Int) Vm.encI_len rfl rfl rfl (hgC_len i).symm rfl rfl (by rw [hgC_len];simp;omega) ?_;conv=>whnf))
              refine LEnd.intro (i + 1) (by omega) (by omega) ?_
              rw [wdC_succ]
              conv=>whnf
              refine Retell.turn ⟨[0,1,5,7],9,[],[]⟩ (TurnOk.mk' _ _ [] [] (OutOk.lift _) rfl (by decide) zb trivial trivial rfl) zw zm
            · obtain rfl : i = n:=by omega
              conv=>whnf
              repeat' (first|((first|refine zs1 ?_|refine zs2 ?_|refine zs3 ?_|refine zs4 ?_|refine zs5 ?_);conv=>whnf)|((first|apply zi1|apply zi2|apply zi3|apply zi4|apply zi5) <;> intro _ <;> first|(exfalso;omega)|contradiction|(conv=>whnf)))
              apply sufficesL
              · intro hrest
                have hlh:=hgC_len i
                have hlw:=wdC_len i
                have fh : ((hgC i).flatMap Vm.encI).length = 3 * i * 1:=by rw [flat_len Vm.encI_len,hlh]
                by_cases h1 : 1 < i
                · have hF : wdF i = ((wdC i).set 0 1).set (i - 1) 2:=if_pos h1
                  have hg0:=at0_get (l:=wdC i) (n:=0) (by omega)
                  have hg1:=at0_get (l:=(wdC i).set 0 1) (n:=i - 1) (by rw [List.length_set];omega)
                  have fw : ((((wdC i).set 0 1).set (i - 1) 2).flatMap Vm.encI).length = i * 1:=by rw [flat_len Vm.encI_len,List.length_set,List.length_set,hlw]
                  refine VCut.at' (outer:=h.lift) (marks:=[]) 1 [(193,I i),(20,I i),(21,.ptr (.loc 0) 0),(22,.ptr (.loc 1) 0)] [.cells true [I i,I 1,.gl (.loc 2) 1 i],.cells true [I 3,I i,.gl (.loc 3) 1 (3 * i)],.flat true ((wdC i).flatMap Vm.encI),.flat true ((hgC i).flatMap Vm.encI)] ?_ ?_
                  · conv=>whnf
                    refine Retell.turn ⟨[0,1,2,3],9,[],[]⟩ (TurnOk.mk' _ _ [] [] (OutOk.lift _) rfl (by decide) zb trivial trivial rfl) zw zm
                  conv=>whnf
                  repeat' (first|((first|refine zs1 ?_|refine zs2 ?_|refine zs3 ?_|refine zs4 ?_|refine zs5 ?_);conv=>whnf)|((first|apply zi1|apply zi2|apply zi3|apply zi4|apply zi5) <;> intro _ <;> first|(exfalso;omega)|contradiction|(conv=>whnf)))
                  refine zs6 [(3,7)] ?_
                  conv=>whnf
                  repeat' (first|((first|refine zs1 ?_|refine zs2 ?_|refine zs3 ?_|refine zs4 ?_|refine zs5 ?_);conv=>whnf)|((first|apply zi1|apply zi2|apply zi3|apply zi4|apply zi5) <;> intro _ <;> first|(exfalso;omega)|contradiction|(conv=>whnf))|(refine VMem.setRec (l:=wdC i) Vm.encI_len 0 0 1 rfl rfl rfl hg0 (by decide) rfl rfl ?_;conv=>whnf)|(refine VMem.setRec (l:=(wdC i).set 0 1) Vm.encI_len (i - 1) 0 2 rfl rfl rfl hg1 (by decide) rfl ((congrArg (fun k=>k * (0 + 1)) (show ((i : Int) - 1).toNat = i - 1 by omega)).trans rfl) ?_;conv=>whnf))
                  refine VCut.at' (outer:=h.lift) (marks:=[]) 1 [(193,I i),(20,I i),(21,.fp [DI i,DI 1,.sl 1 i ((wdF i).flatMap Vm.encI)]),(22,.fp [DI 3,DI i,.sl 1 (3 * i) ((hgC i).flatMap Vm.encI)])] [] ?_ hrest.out
                  rw [hF]
                  conv=>whnf
                  refine Retell.turn ⟨[],9,[(2,(((wdC i).set 0 1).set (i - 1) 2).flatMap Vm.encI),(3,(hgC i).flatMap Vm.encI),(0,[DI i,DI 1,.sl 1 i ((((wdC i).set 0 1).set (i - 1) 2).flatMap Vm.encI)]),(1,[DI 3,DI i,.sl 1 (3 * i) ((hgC i).flatMap Vm.encI)])],[]⟩ (TurnOk.mk' _ _ [(2,(((wdC i).set 0 1).set (i - 1) 2).flatMap Vm.encI),(3,(hgC i).flatMap Vm.encI),(0,[DI i,DI 1,.sl 1 i ((((wdC i).set 0 1).set (i - 1) 2).flatMap Vm.encI)]),(1,[DI 3,DI i,.sl 1 (3 * i) ((hgC i).flatMap Vm.encI)])] [] (OutOk.lift _) rfl (by decide) zb zr trivial rfl) zw zm
                · have hF : wdF i = wdC i:=if_neg h1
                  have fw : ((wdC i).flatMap Vm.encI).length = i * 1:=by rw [flat_len Vm.encI_len,hlw]
                  refine VCut.at' (outer:=h.lift) (marks:=[]) 1 [(193,I i),(20,I i),(21,.ptr (.loc 0) 0),(22,.ptr (.loc 1) 0)] [.cells true [I i,I 1,.gl (.loc 2) 1 i],.cells true [I 3,I i,.gl (.loc 3) 1 (3 * i)],.flat true ((wdC i).flatMap Vm.encI),.flat true ((hgC i).flatMap Vm.encI)] ?_ ?_
                  · conv=>whnf
                    refine Retell.turn ⟨[0,1,2,3],9,[],[]⟩ (TurnOk.mk' _ _ [] [] (OutOk.lift _) rfl (by decide) zb trivial trivial rfl) zw zm
                  conv=>whnf
                  repeat' (first|((first|refine zs1 ?_|refine zs2 ?_|refine zs3 ?_|refine zs4 ?_|refine zs5 ?_);conv=>whnf)|((first|apply zi1|apply zi2|apply zi3|apply zi4|apply zi5) <;> intro _ <;> first|(exfalso;omega)|contradiction|(conv=>whnf)))
                  refine VCut.at' (outer:=h.lift) (marks:=[]) 1 [(193,I i),(20,I i),(21,.fp [DI i,DI 1,.sl 1 i ((wdF i).flatMap Vm.encI)]),(22,.fp [DI 3,DI i,.sl 1 (3 * i) ((hgC i).flatMap Vm.encI)])] [] ?_ hrest.out
                  rw [hF]
                  conv=>whnf
                  refine Retell.turn ⟨[],9,[(2,(wdC i).flatMap Vm.encI),(3,(hgC i).flatMap Vm.encI),(0,[DI i,DI 1,.sl 1 i ((wdC i).flatMap Vm.encI)]),(1,[DI 3,DI i,.sl 1 (3 * i) ((hgC i).flatMap Vm.encI)])],[]⟩ (TurnOk.mk' _ _ [(2,(wdC i).flatMap Vm.encI),(3,(hgC i).flatMap Vm.encI),(0,[DI i,DI 1,.sl 1 i ((wdC i).flatMap Vm.encI)]),(1,[DI 3,DI i,.sl 1 (3 * i) ((hgC i).flatMap Vm.encI)])] [] (OutOk.lift _) rfl (by decide) zb zr trivial rfl) zw zm
              have g1:=chkW i h3
              have g2:=chkH i h3
              have g3:=chkN i h3
              have hlh:=hgC_len i
              have hlw:=wdF_len i
              generalize wdF i = Wd at *
              generalize hgC i = Hg at *
              obtain ⟨N,hN,hN2⟩ : ∃ N : Nat,N = min i 12 ∧ (N : Int) = min (i : Int) 12:=⟨min i 12,rfl,by omega⟩
              rw [← hN] at g3
              have cD : ∀ h,VC Tryz.prog 30 [strs [rowW]] h (vM mW) h:=fun h=>by
                have c:=vc_Drawn [rowW] h (by decide) (by decide);rw [dwW_] at c;exact c
              conv=>whnf
              repeat' (first|((first|refine zs1 ?_|refine zs2 ?_|refine zs3 ?_|refine zs4 ?_|refine zs5 ?_);conv=>whnf)|((first|apply zi1|apply zi2|apply zi3|apply zi4|apply zi5) <;> intro _ <;> first|(exfalso;omega)|contradiction|(conv=>whnf)))
              refine VCut.at' (outer:=h.lift) (marks:=[]) 1 [(193,I i),(20,I i),(21,.fp [DI i,DI 1,.sl 1 i (Wd.flatMap Vm.encI)]),(22,.fp [DI 3,DI i,.sl 1 (3 * i) (Hg.flatMap Vm.encI)]),(23,.nilslice)] [] ?_ ?_
              · conv=>whnf
                refine Retell.turn ⟨[],9,[],[]⟩ (TurnOk.mk' _ _ [] [] (OutOk.lift _) rfl (by decide) zb trivial trivial rfl) zw zm
              conv=>whnf
              repeat' (first|((first|refine zs1 ?_|refine zs2 ?_|refine zs3 ?_|refine zs4 ?_|refine zs5 ?_);conv=>whnf)|((first|apply zi1|apply zi2|apply zi3|apply zi4|apply zi5) <;> intro _ <;> first|(exfalso;omega)|contradiction|(conv=>whnf))|(simp only [← hN2];conv=>whnf))
              refine VCode.lpC (outer:=h.lift) (marks:=[]) 99 (fun j : Nat=>[(193,I i),(20,I i),(21,.fp [DI i,DI 1,.sl 1 i (Wd.flatMap Vm.encI)]),(22,.fp [DI 3,DI i,.sl 1 (3 * i) (Hg.flatMap Vm.encI)]),(23,.gl (.loc 0) 3 j),(225,I N),(226,I j)]) (fun j=>[.flat true ((List.replicate j mW).flatMap encM)]) (fun j=>j ≤ N) (fun j=>N - j) 0 (Nat.zero_le _) ?_ ?_
              · conv=>whnf
                refine Retell.turn ⟨[0],0,[],[]⟩ (TurnOk.mk' _ _ [] [] (OutOk.lift _) rfl (by decide) zb trivial trivial rfl) zw zm
              rintro j hj
              rcases Nat.lt_or_ge j N with h5|h5
              · have hrl : (List.replicate j mW).length = j:=List.length_replicate
                have hrs : List.replicate (j + 1) mW = List.replicate j mW ++ [mW]:=List.replicate_succ'
                generalize List.replicate j mW = L at *
                conv=>whnf
                repeat' (first|((first|refine zs1 ?_|refine zs2 ?_|refine zs3 ?_|refine zs4 ?_|refine zs5 ?_);conv=>whnf)|((first|apply zi1|apply zi2|apply zi3|apply zi4|apply zi5) <;> intro _ <;> first|(exfalso;omega)|contradiction|(conv=>whnf)))
                refine VCall.intro (VC.give (args':=[strs [rowW]]) (loc':=[.flat true (L.flatMap encM),.dead]) [(1,[.lit (.string rowW)])] [] (OutOk.lift _) zb zf (by exact FmAll.nil) rfl zv (cD _)) ?_
                conv=>whnf
                repeat' (first|((first|refine zs1 ?_|refine zs2 ?_|refine zs3 ?_|refine zs4 ?_|refine zs5 ?_);conv=>whnf)|((first|apply zi1|apply zi2|apply zi3|apply zi4|apply zi5) <;> intro _ <;> first|(exfalso;omega)|contradiction|(conv=>whnf))|(refine VMem.app1 (l:=L) (mW : Mp) encM_len rfl rfl rfl hrl.symm rfl (by omega) ?_;conv=>whnf))
                refine LEnd.intro (j + 1) (by omega) (by omega) ?_
                rw [hrs]
                conv=>whnf
                refine Retell.turn ⟨[3],9,[],[]⟩ (TurnOk.mk' _ _ [] [] (OutOk.lift _) rfl (by decide) zb trivial trivial rfl) zw zm
              · obtain rfl : j = N:=by omega
                conv=>whnf
                repeat' (first|((first|refine zs1 ?_|refine zs2 ?_|refine zs3 ?_|refine zs4 ?_|refine zs5 ?_);conv=>whnf)|((first|apply zi1|apply zi2|apply zi3|apply zi4|apply zi5) <;> intro _ <;> first|(exfalso;omega)|contradiction|(conv=>whnf)))
                have hrl : (List.replicate j mW).length = j:=List.length_replicate
                have hRf : ((List.replicate j mW).flatMap encM).length = j * 3:=by rw [flat_len encM_len,hrl]
                have hrc : ∀ m ∈ List.replicate j mW,m.c.length ≤ 4000000:=fun m hm=>by rw [(List.mem_replicate.1 hm).2];decide
                generalize List.replicate j mW = L at *
                refine VCut.at' (outer:=h.lift) (marks:=[]) 99 [(193,I i),(20,I i),(21,.fp [DI i,DI 1,.sl 1 i (Wd.flatMap Vm.encI)]),(22,.fp [DI 3,DI i,.sl 1 (3 * i) (Hg.flatMap Vm.encI)]),(23,.fs 3 j (L.flatMap encM))] [] ?_ ?_
                · conv=>whnf
                  refine Retell.turn ⟨[],9,[(0,L.flatMap encM)],[]⟩ (TurnOk.mk' _ _ [(0,L.flatMap encM)] [] (OutOk.lift _) rfl (by decide) zb zf trivial rfl) zw zm
                obtain ⟨d2,hd2,_⟩:=wtd (a:=(i : Int)) (k:=2) (A:=16) (by omega) (by omega) (by omega) (by omega)
                have f1 : ∀ h,VC Tryz.prog 28 [.agg [I i,I 1,.fs 1 i (Wd.flatMap Vm.encI)],I 1,I d2,.fs 1 i (Wd.flatMap Vm.encI)] h (B true) h:=fun h=>by
                  have c:=fF ⟨i,1,Wd⟩ 1 d2 Wd h
                  unfold vM ints at c;dsimp only at c;rw [hlw] at c;exact c
                have f2 : ∀ h,VC Tryz.prog 28 [.agg [I 3,I i,.fs 1 (3 * i) (Hg.flatMap Vm.encI)],I 2,I i,.fs 1 (3 * i) (Hg.flatMap Vm.encI)] h (B true) h:=fun h=>by
                  have c:=fF ⟨3,i,Hg⟩ 2 i Hg h
                  unfold vM ints at c;dsimp only at c;rw [hlh] at c;exact c
                have f3 : ∀ h,VC Tryz.prog 29 [.agg [I 3,I i,.fs 1 (3 * i) (Hg.flatMap Vm.encI)]] h (B true) h:=fun h=>by
                  have c:=fO ⟨3,i,Hg⟩ h
                  unfold vM ints at c;dsimp only at c;rw [hlh] at c;exact c
                have f4 : ∀ h,VC Tryz.prog 3 [.fs 3 j (L.flatMap encM),I ((i : Int) - 1),I 2,I 1,I 1] h (B true) h:=fun h=>by
                  have c:=fY L ((i : Int) - 1) 2 1 1 h
                  unfold yrs at c;rw [hrl] at c;exact c
                have f5 : ∀ h,VC Tryz.prog 31 [.agg [I i,I 1,.fs 1 i (Wd.flatMap Vm.encI)]] h (I (chkM ⟨i,1,Wd⟩)) h:=fun h=>by
                  have c:=vc_check ⟨i,1,Wd⟩ h (by dsimp only;omega)
                  unfold vM ints at c;dsimp only at c;rw [hlw] at c;exact c
                have f6 : ∀ h,VC Tryz.prog 31 [.agg [I 3,I i,.fs 1 (3 * i) (Hg.flatMap Vm.encI)]] h (I (chkM ⟨3,i,Hg⟩)) h:=fun h=>by
                  have c:=vc_check ⟨3,i,Hg⟩ h (by dsimp only;omega)
                  unfold vM ints at c;dsimp only at c;rw [hlh] at c;exact c
                have f7 : ∀ h,VC Tryz.prog 10 [.fs 3 j (L.flatMap encM)] h (I (chkY L)) h:=fun h=>by
                  have c:=vc_CheckYears L h (by omega) hrc
                  unfold yrs at c;rw [hrl] at c;exact c
                generalize chkM ⟨(i : Int),1,Wd⟩ = e1 at *
                generalize chkM ⟨3,(i : Int),Hg⟩ = e2 at *
                generalize chkY L = e3 at *
                have q1 : (e1 == 0) = decide (2 < i ∧ i < 13):=by rw [Bool.eq_iff_iff,beq_iff_eq,decide_eq_true_eq];exact g1
                have q2 : (e2 == 0) = decide (0 < i ∧ i < 13):=by rw [Bool.eq_iff_iff,beq_iff_eq,decide_eq_true_eq];exact g2
                have q3 : (e3 == 0) = decide (0 < i ∧ i < 11):=by rw [Bool.eq_iff_iff,beq_iff_eq,decide_eq_true_eq];exact g3
                conv=>whnf
                repeat' (first|((first|refine zs1 ?_|refine zs2 ?_|refine zs3 ?_|refine zs4 ?_|refine zs5 ?_);conv=>whnf)|((first|apply zi1|apply zi2|apply zi3|apply zi4|apply zi5) <;> intro _ <;> first|(exfalso;omega)|contradiction|(conv=>whnf))|(simp only [hd2];conv=>whnf)|(refine VCall.intro (f1 _) ?_;conv=>whnf)|(refine VCall.intro (f2 _) ?_;conv=>whnf)|(refine VCall.intro (f3 _) ?_;conv=>whnf)|(refine VCall.intro (f4 _) ?_;conv=>whnf)|(refine VCall.intro (f5 _) ?_;conv=>whnf)|(refine VCall.intro (f6 _) ?_;conv=>whnf)|(refine VCall.intro (f7 _) ?_;conv=>whnf))
                all_goals try (exfalso;rename_i hz;apply hz;first|(rw [q1,Bool.eq_iff_iff,decide_eq_true_eq,decide_eq_true_eq];omega)|(rw [q1];exact decide_eq_false (by omega))|(rw [q2,Bool.eq_iff_iff,decide_eq_true_eq,decide_eq_true_eq];omega)|(rw [q2];exact decide_eq_false (by omega))|(rw [q3,Bool.eq_iff_iff,decide_eq_true_eq,decide_eq_true_eq];omega)|(rw [q3];exact decide_eq_false (by omega)))
                all_goals (
                  refine LEnd.intro (i + 1) (by omega) (by omega) ?_
                  conv=>whnf
                  refine Retell.turn ⟨[],9,[],[]⟩ (TurnOk.mk' _ _ [] [] (OutOk.lift _) rfl (by decide) zb trivial trivial rfl) zw zm)
          · obtain rfl : n = 16:=by omega
            conv=>whnf
            repeat' (first|((first|refine zs1 ?_|refine zs2 ?_|refine zs3 ?_|refine zs4 ?_|refine zs5 ?_);conv=>whnf)|((first|apply zi1|apply zi2|apply zi3|apply zi4|apply zi5) <;> intro _ <;> first|(exfalso;omega)|contradiction|(conv=>whnf)))
            refine VCut.at' (outer:=h.lift) (marks:=[]) 0 [] [] ?_ (sm5 h)
            conv=>whnf
            refine Retell.turn ⟨[],9,[],[]⟩ (TurnOk.mk' _ _ [] [] (OutOk.lift _) rfl (by decide) zb trivial trivial rfl) zw zm
end Go.Proofs.YtkbbfeljlepgoaaGreat


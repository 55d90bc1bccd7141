/- Part 9 of the proof that answers about rivers are as the given statement says. No condition. -/
import Derived.Test.YtkbbfeljlepgoaaGreatBs8
set_option linter.unusedVariables false
set_option linter.unusedSimpArgs false
open Go.Vm
open Riv
namespace Go.Vm
theorem VMem.appRow {P : Program} {t ty : TypeId} {e esz bytes : Nat} {zero : List V} {s_ : Nat} {a_ : Bool} {z_ : V} {h : Hp} {i j : Id} {n : Nat} {b : Blk} {l news : List V} {rw : Bool} {K : V → Hp → Prop} (hTt : tiOf P t = some ⟨.slice e esz bytes zero,s_,a_,z_⟩)
    (hb : h.get i = some b) (hrow : b.row = some (true,l)) (hj : h.get j = some (.cells rw news)) (hnl : news.length = esz) (hn : l.length = n * esz) (hby : Nat.ble bytes 1048576 = true) (h63 : n ≤ 67108864)
    (hK : K (.gl h.fresh esz (n + 1)) ((h.set i .dead).push (.cells true (l ++ news)))) : VMem P (opAppend #[t,t] ty) [.gl i esz n,.gl j esz 1] h K:=by
  have hbd:=mul_bd (n:=n + 1) hby (by omega)
  refine VMem.intro (does_append_gl (b:=b) (l:=l) (news:=news) (tiOf_ok P) hTt hb hrow ?_ ?_ ?_ hbd (by omega)) hK
  · simp only [SegOf]
    exact ⟨trivial,trivial,_,rw,news,hj,rfl,by omega,by rw [List.take_of_length_le (by omega)]⟩
  · omega
  · have : List.take (n * esz) l = l:=List.take_of_length_le (by omega)
    simp [Blk.row,this]
end Go.Vm
namespace Go.Proofs.YtkbbfeljlepgoaaGreat
set_option maxRecDepth 20000
set_option maxHeartbeats 4000000

def mp0 : Mp:=⟨0,0,[]⟩
def lawY (W : Nat) (l : List Mp) (slow : Int) : List Mp:=(List.range l.length).map fun y=>⟨(l.getD y mp0).w,(l.getD y mp0).h,lawAt W (cellsY l) slow y⟩
theorem lawY_len (W : Nat) (l : List Mp) (slow : Int) : (lawY W l slow).length = l.length:=by simp [lawY]
theorem lawY_at {W : Nat} {l : List Mp} {slow : Int} {y : Nat} (hy : y < l.length) : (lawY W l slow)[y]? = some ⟨(l.getD y mp0).w,(l.getD y mp0).h,lawAt W (cellsY l) slow y⟩:=by
  unfold lawY;rw [List.getElem?_map,List.getElem?_range hy];rfl
structure YOk (W H : Nat) (l : List Mp) : Prop where
  n : 1 ≤ l.length ∧ l.length ≤ 10
  all : ∀ m ∈ l,m.w = W ∧ m.h = H ∧ MOk W H m.c
theorem YOk.get {W H : Nat} {l : List Mp} (o : YOk W H l) {y : Nat} (hy : y < l.length) : l[y]? = some (l.getD y mp0) ∧ (l.getD y mp0).w = W ∧ (l.getD y mp0).h = H ∧ MOk W H (l.getD y mp0).c:=by
  have h1 : l[y]? = some (l.getD y mp0):=by rw [List.getD_eq_getElem?_getD,List.getElem?_eq_getElem hy];rfl
  exact ⟨h1,o.all _ (List.mem_of_getElem? h1)⟩
theorem cellsY_at {l : List Mp} {y : Nat} (hy : y < l.length) : (cellsY l).getD y [] = (l.getD y mp0).c:=by
  unfold cellsY
  rw [List.getD_eq_getElem?_getD,List.getElem?_map,List.getElem?_eq_getElem hy,List.getD_eq_getElem?_getD,List.getElem?_eq_getElem hy];rfl
theorem cellsY_len (l : List Mp) : (cellsY l).length = l.length:=by simp [cellsY]
theorem YOk.yrs {W H : Nat} {l : List Mp} (o : YOk W H l) : Yrs W H (cellsY l):=by
  have h0:=(o.get (y:=0) (by have:=o.n;omega)).2.2.2
  refine ⟨by have:=h0.w;omega,?_,fun y hy=>?_⟩
  · have:=MOk.le h0
    rw [h0.len] at this;omega
  · rw [cellsY_len] at hy
    rw [cellsY_at hy]
    exact (o.get hy).2.2.2.len
theorem chkY_YOk {l : List Mp} (h : chkY l = 0) : ∃ W H : Nat,YOk W H l:=by
  obtain ⟨W,H,h1,h2⟩:=chkY_ok h
  exact ⟨W,H,h1,h2⟩
def lyK (W : Nat) (slow : Int) (a b now : List Int) (i : Nat) : List Int:=((chg a b W).take i).foldl (lstep slow b) now
theorem lyK_step {W : Nat} {slow : Int} {a b now : List Int} {i : Nat} {cs : List Nat} (h : (chg a b W)[i]? = some cs) : lyK W slow a b now (i + 1) = lstep slow b (lyK W slow a b now i) cs:=by
  unfold lyK
  rw [List.take_add_one,h,List.foldl_append];rfl
theorem lyK_len (W : Nat) (slow : Int) (a b now : List Int) (i : Nat) : (lyK W slow a b now i).length = now.length:=lyear_go_len _ _ _ _
theorem lset_step (b out : List Int) (cs : List Nat) (n : Nat) : lset b out (cs ++ [n]) = (lset b out cs).set n (at0 b n):=by unfold lset;rw [List.foldl_append];rfl
theorem chg_cnt {a b : List Int} {W H : Nat} (hW : 2 ≤ W) (hL : a.length = W * H) : (chg a b W).length ≤ a.length:=by
  have:=(pfK_ok (mk:=diffs a b) (W:=W) (H:=H) hW (by rw [diffs_len];exact hL) (diffs a b).length).2.2
  rw [diffs_len] at this
  have e : chg a b W = (pfK (diffs a b) W a.length).2:=by unfold chg parts pfK;rw [diffs_len]
  rw [e];exact this
theorem ofsY (Y : Nat) : (((Y + 1 : Nat) : Int) - 1).toNat * (2 + 1) + 2 = Y * 3 + 2:=by
  have : (((Y + 1 : Nat) : Int) - 1).toNat = Y:=by omega
  rw [this]
theorem vc_law {W H : Nat} (l : List Mp) (slow : Int) (h : Hp) (o : YOk W H l) : VC Tryz.prog 63 [yrs l,I slow] h (yrs (lawY W l slow)) h:=by
  have hn:=o.n
  have hAl:=lawY_len W l slow
  have hAt:=fun y hy=>lawY_at (W:=W) (l:=l) (slow:=slow) (y:=y) hy
  have hget:=fun y hy=>o.get (y:=y) hy
  have hlen:=fun y hy=>lawAt_len o.yrs slow y (by rw [cellsY_len];exact hy)
  have hstep : ∀ y,y + 1 < l.length → lawAt W (cellsY l) slow (y + 1) = lyear W slow (l.getD y mp0).c (l.getD (y + 1) mp0).c (lawAt W (cellsY l) slow y):=fun y hy=>by
    rw [lawAt,cellsY_at (by omega),cellsY_at hy]
  have hzero : lawAt W (cellsY l) slow 0 = (l.getD 0 mp0).c:=by rw [lawAt,cellsY_at (by omega)]
  generalize lawY W l slow = A at *
  generalize lawAt W (cellsY l) slow = q at *
  have hsn : ∀ y,y < l.length → A.take (y + 1) = A.take y ++ [⟨(l.getD y mp0).w,(l.getD y mp0).h,q y⟩]:=fun y hy=>by rw [List.take_add_one,hAt y hy];rfl
  refine VC.bodyC 1 Tryz.func63 rfl Tryz.ntmps63 Tryz.call63 (h.grows_refl) rfl ?_
  conv=>whnf
  repeat' (first|((first|refine zs1 ?_|refine zs2 ?_|refine zs3 ?_|refine zs4 ?_|refine zs5 ?_);conv=>whnf)|((first|apply zi1|apply zi2|apply zi3|apply zi4|apply zi5) <;> intro _ <;> conv=>whnf))
  refine VCut.at' (outer:=h.lift) (marks:=[]) 99 [(0,yrs l),(1,I slow)] [] ?_ ?_
  · conv=>whnf
    refine Retell.turn ⟨[],0,[],[]⟩ (TurnOk.mk' _ _ [] [] (OutOk.lift _) rfl (by decide) zb trivial trivial rfl) zw zm
  conv=>whnf
  repeat' (first|((first|refine zs1 ?_|refine zs2 ?_|refine zs3 ?_|refine zs4 ?_|refine zs5 ?_);conv=>whnf)|((first|apply zi1|apply zi2|apply zi3|apply zi4|apply zi5) <;> intro _ <;> conv=>whnf))
  refine VCode.lpC (outer:=h.lift) (marks:=[]) 99 (fun y : Nat=>[(0,yrs l),(1,I slow),(5,.gl (.loc 0) 3 y),(13,yrs l),(14,I l.length),(15,I y)]) (fun y=>[.flat true ((A.take y).flatMap encM)]) (fun y=>y ≤ l.length) (fun y=>l.length - y) 0 (Nat.zero_le _) ?_ ?_
  · conv=>whnf
    refine Retell.turn ⟨[0],0,[],[]⟩ (TurnOk.mk' _ _ [] [] (OutOk.lift _) rfl (by decide) zb trivial trivial rfl) zw zm
  · rintro y hy
    rcases Nat.lt_or_ge y l.length with h3|h3
    · obtain ⟨hm,hmw,hmh,hmo⟩:=hget y h3
      have hsn:=hsn y h3
      have hqy:=hlen y h3
      have hm144:=MOk.le hmo
      have hmL:=hmo.len
      have hst : (A.take y).length = y:=by rw [List.length_take];omega
      rcases Nat.eq_zero_or_pos y with hy0|hy0
      · subst hy0
        rw [hzero] at hsn
        generalize l.getD 0 mp0 = m at *
        obtain ⟨mw,mh,mc⟩:=m
        dsimp only at *
        conv=>whnf
        repeat' (first|((first|refine zs1 ?_|refine zs2 ?_|refine zs3 ?_|refine zs4 ?_|refine zs5 ?_);conv=>whnf)|((first|apply zi1|apply zi2|apply zi3|apply zi4|apply zi5) <;> intro _ <;> conv=>whnf)|(refine VAny.ix encM_len 0 rfl rfl hm ?_;conv=>whnf))
        all_goals try (exfalso;omega)
        refine zs6 [] ?_
        conv=>whnf
        repeat' (first|((first|refine zs1 ?_|refine zs2 ?_|refine zs3 ?_|refine zs4 ?_|refine zs5 ?_);conv=>whnf)|((first|apply zi1|apply zi2|apply zi3|apply zi4|apply zi5) <;> intro _ <;> conv=>whnf)|(refine VMkD.makeI mc.length rfl rfl rfl rfl rfl (by decide) (by omega) ?_;conv=>whnf))
        refine VMem.copyFs (l:=List.replicate mc.length (0 : Int)) (l2:=mc) encI_len rfl rfl (by simp) rfl rfl ?_
        conv=>whnf
        repeat' (first|((first|refine zs1 ?_|refine zs2 ?_|refine zs3 ?_|refine zs4 ?_|refine zs5 ?_);conv=>whnf)|((first|apply zi1|apply zi2|apply zi3|apply zi4|apply zi5) <;> intro _ <;> conv=>whnf))
        refine VMem.appRow (l:=((A.take 0).flatMap encM).map D.v) (news:=[I mw,I mh,.gl (.loc 2) 1 mc.length]) rfl rfl rfl rfl rfl (by simp) rfl (by omega) ?_
        conv=>whnf
        repeat' (first|((first|refine zs1 ?_|refine zs2 ?_|refine zs3 ?_|refine zs4 ?_|refine zs5 ?_);conv=>whnf)|((first|apply zi1|apply zi2|apply zi3|apply zi4|apply zi5) <;> intro _ <;> conv=>whnf))
        refine LEnd.intro 1 (by omega) (by omega) ?_
        rw [hsn]
        conv=>whnf
        refine Retell.turn ⟨[5],6,[(2,mc.flatMap Vm.encI)],[]⟩ (TurnOk.mk' _ _ [(2,mc.flatMap Vm.encI)] [] (OutOk.lift _) rfl (by decide) (BTos.row rfl rfl rfl (RowTo.snoc (RowTo.vtos zv)) BTos.nil) zf trivial rfl) zw zm
      · obtain ⟨Y,rfl⟩ : ∃ Y,y = Y + 1:=⟨y - 1,by omega⟩
        obtain ⟨ha,haw,hah,hao⟩:=hget Y (by omega)
        have hAp:=hAt Y (by omega)
        have hAp2 : (A.take (Y + 1))[Y]? = some ⟨(l.getD Y mp0).w,(l.getD Y mp0).h,q Y⟩:=by rw [List.getElem?_take,if_pos (by omega)];exact hAp
        have hqp:=hlen Y (by omega)
        have hst2:=hstep Y h3
        have haL:=hao.len
        have hWb:=hao.w
        have cC:=fun h=>vc_changes (l.getD Y mp0) (l.getD (Y + 1) mp0) h hao haw (by omega)
        have hly : lyear W slow (l.getD Y mp0).c (l.getD (Y + 1) mp0).c (q Y) = lyK W slow (l.getD Y mp0).c (l.getD (Y + 1) mp0).c (q Y) (chg (l.getD Y mp0).c (l.getD (Y + 1) mp0).c W).length:=by
          unfold lyear lyK;rw [List.take_of_length_le (Nat.le_refl _)]
        rw [hly] at hst2
        have hks:=fun i cs hcs=>lyK_step (W:=W) (slow:=slow) (a:=(l.getD Y mp0).c) (b:=(l.getD (Y + 1) mp0).c) (now:=q Y) (i:=i) (cs:=cs) hcs
        have hkl:=fun i=>lyK_len W slow (l.getD Y mp0).c (l.getD (Y + 1) mp0).c (q Y) i
        have hk0 : lyK W slow (l.getD Y mp0).c (l.getD (Y + 1) mp0).c (q Y) 0 = q Y:=rfl
        have hcm:=fun cs hcs=>chg_mem (a:=(l.getD Y mp0).c) (b:=(l.getD (Y + 1) mp0).c) (W:=W) (H:=H) (cs:=cs) (by omega) haL (by have:=MOk.le hao;omega) hcs
        have hcl:=chg_cnt (a:=(l.getD Y mp0).c) (b:=(l.getD (Y + 1) mp0).c) (W:=W) (H:=H) (by omega) haL
        generalize lyK W slow (l.getD Y mp0).c (l.getD (Y + 1) mp0).c (q Y) = uk at *
        generalize chg (l.getD Y mp0).c (l.getD (Y + 1) mp0).c W = R at *
        have hRl : (natLL R).length = R.length:=by unfold natLL;rw [List.length_map]
        generalize l.getD Y mp0 = am at *
        generalize l.getD (Y + 1) mp0 = m at *
        generalize q Y = qp at *
        rw [hst2] at hsn
        obtain ⟨aw,ah,ac⟩:=am
        obtain ⟨mw,mh,mc⟩:=m
        dsimp only at *
        have hm2:=MOk.le hao
        conv=>whnf
        repeat' (first|((first|refine zs1 ?_|refine zs2 ?_|refine zs3 ?_|refine zs4 ?_|refine zs5 ?_);conv=>whnf)|((first|apply zi1|apply zi2|apply zi3|apply zi4|apply zi5) <;> intro _ <;> conv=>whnf)|(refine VAny.ix encM_len (Y + 1) rfl rfl hm ?_;conv=>whnf))
        all_goals try (exfalso;omega)
        refine zs6 [] ?_
        conv=>whnf
        repeat' (first|((first|refine zs1 ?_|refine zs2 ?_|refine zs3 ?_|refine zs4 ?_|refine zs5 ?_);conv=>whnf)|((first|apply zi1|apply zi2|apply zi3|apply zi4|apply zi5) <;> intro _ <;> conv=>whnf)|(refine VMkD.makeI mc.length rfl rfl rfl rfl rfl (by decide) (by omega) ?_;conv=>whnf))
        all_goals try (exfalso;omega)
        refine zs6 [] ?_
        conv=>whnf
        repeat' (first|((first|refine zs1 ?_|refine zs2 ?_|refine zs3 ?_|refine zs4 ?_|refine zs5 ?_);conv=>whnf)|((first|apply zi1|apply zi2|apply zi3|apply zi4|apply zi5) <;> intro _ <;> conv=>whnf)|(refine VLd.recc (d:=.sl 1 qp.length (qp.flatMap Vm.encI)) encM_len Y 2 rfl rfl rfl hAp2 (by decide) rfl (ofsY Y) ?_;conv=>whnf))
        refine VMem.copyFs (l:=List.replicate mc.length (0 : Int)) (l2:=qp) encI_len rfl rfl (by simp) rfl (by omega) ?_
        conv=>whnf
        repeat' (first|((first|refine zs1 ?_|refine zs2 ?_|refine zs3 ?_|refine zs4 ?_|refine zs5 ?_);conv=>whnf)|((first|apply zi1|apply zi2|apply zi3|apply zi4|apply zi5) <;> intro _ <;> conv=>whnf))
        refine zs6 [] ?_
        conv=>whnf
        repeat' (first|((first|refine zs1 ?_|refine zs2 ?_|refine zs3 ?_|refine zs4 ?_|refine zs5 ?_);conv=>whnf)|((first|apply zi1|apply zi2|apply zi3|apply zi4|apply zi5) <;> intro _ <;> conv=>whnf)|(refine VAny.ix encM_len Y (by omega) rfl ha ?_;conv=>whnf)|(refine VCall.intro (cC _) ?_;conv=>whnf))
        refine VCode.lpC (outer:=h.lift) (marks:=[]) 99 (fun i : Nat=>[(0,yrs l),(1,I slow),(5,.gl (.loc 0) 3 (Y + 1)),(13,yrs l),(14,I l.length),(15,I (Y + 1 : Nat)),(7,.fp [DI mw,DI mh,dints mc]),(8,.ptr (.loc 1) 0),(51,intss (natLL R)),(52,I R.length),(53,I i)]) (fun i=>[.flat true ((A.take (Y + 1)).flatMap encM),.cells true [I mw,I mh,.gl (.loc 2) 1 mc.length],.flat true ((uk i).flatMap Vm.encI)]) (fun i=>i ≤ R.length) (fun i=>R.length - i) 0 (Nat.zero_le _) ?_ ?_
        · rw [hk0,← hRl]
          conv=>whnf
          refine Retell.turn ⟨[0,3,2],4,[(1,[DI mw,DI mh,dints mc])],[]⟩ (TurnOk.mk' _ _ [(1,[DI mw,DI mh,dints mc])] [] (OutOk.lift _) rfl (by decide) zb zf trivial rfl) zw zm
        · rintro i hi
          rcases Nat.lt_or_ge i R.length with h4|h4
          · obtain ⟨cs,hlk⟩ : ∃ cs,R[i]? = some cs:=⟨_,List.getElem?_eq_getElem h4⟩
            have hcm:=hcm cs (List.mem_of_getElem? hlk)
            have hks:=hks i cs hlk
            have hnk : (natLL R)[i]? = some (natI cs):=by unfold natLL;rw [List.getElem?_map,hlk];rfl
            have hnat:=fun j hj=>natI_at (ks:=cs) (i:=j) hj
            have hnl:=natI_len cs
            have hkl:=hkl i
            clear hlk
            generalize natI cs = nl at *
            generalize uk i = U at *
            unfold lstep at hks
            obtain ⟨hc1,hc2,hc3,hc4⟩:=hcm
            conv=>whnf
            repeat' (first|((first|refine zs1 ?_|refine zs2 ?_|refine zs3 ?_|refine zs4 ?_|refine zs5 ?_);conv=>whnf)|((first|apply zi1|apply zi2|apply zi3|apply zi4|apply zi5) <;> intro _ <;> first|(exfalso;omega)|contradiction|(conv=>whnf))|(refine VAny.ix encL_len i (by omega) (by omega) hnk ?_;conv=>whnf))
            by_cases hsl : (cs.length : Int) ≤ slow
            · rw [if_pos hsl] at hks
              refine VCode.lpC (outer:=h.lift) (marks:=[]) 99 (fun j : Nat=>[(0,yrs l),(1,I slow),(5,.gl (.loc 0) 3 (Y + 1)),(13,yrs l),(14,I l.length),(15,I (Y + 1 : Nat)),(7,.fp [DI mw,DI mh,dints mc]),(8,.ptr (.loc 1) 0),(51,intss (natLL R)),(52,I R.length),(53,I i),(10,ints nl),(57,ints nl),(58,I cs.length),(59,I j)]) (fun j=>[.flat true ((A.take (Y + 1)).flatMap encM),.cells true [I mw,I mh,.gl (.loc 2) 1 mc.length],.flat true ((lset mc U (cs.take j)).flatMap Vm.encI)]) (fun j=>j ≤ cs.length) (fun j=>cs.length - j) 0 (Nat.zero_le _) ?_ ?_
              · rw [← hnl,show lset mc U (cs.take 0) = U from rfl]
                conv=>whnf
                refine Retell.turn ⟨[0,1,2],3,[],[]⟩ (TurnOk.mk' _ _ [] [] (OutOk.lift _) rfl (by decide) zb trivial trivial rfl) zw zm
              · rintro j hj
                rcases Nat.lt_or_ge j cs.length with h5|h5
                · have hn:=hnat j h5
                  have hnc : cs.getD j 0 < ac.length:=by
                    refine (hc4 _ ?_).1
                    rw [List.getD_eq_getElem?_getD,List.getElem?_eq_getElem h5]
                    exact List.getElem_mem h5
                  have htk : cs.take (j + 1) = cs.take j ++ [cs.getD j 0]:=by
                    rw [List.take_add_one,List.getD_eq_getElem?_getD,List.getElem?_eq_getElem h5];rfl
                  have hst3:=lset_step mc U (cs.take j) (cs.getD j 0)
                  rw [← htk] at hst3
                  have hul:=lset_len mc U (cs.take j)
                  generalize lset mc U (cs.take j) = V1 at *
                  generalize cs.getD j 0 = n at *
                  have hu:=at0_get (l:=V1) (n:=n) (by omega)
                  have hy:=at0_get (l:=mc) (n:=n) (by omega)
                  generalize at0 mc n = v at *
                  conv=>whnf
                  repeat' (first|((first|refine zs1 ?_|refine zs2 ?_|refine zs3 ?_|refine zs4 ?_|refine zs5 ?_);conv=>whnf)|((first|apply zi1|apply zi2|apply zi3|apply zi4|apply zi5) <;> intro _ <;> conv=>whnf)|(refine VAny.ix encI_len j rfl (by omega) hn ?_;conv=>whnf))
                  all_goals try (exfalso;omega)
                  refine zs6 [] ?_
                  conv=>whnf
                  repeat' (first|((first|refine zs1 ?_|refine zs2 ?_|refine zs3 ?_|refine zs4 ?_|refine zs5 ?_);conv=>whnf)|((first|apply zi1|apply zi2|apply zi3|apply zi4|apply zi5) <;> intro _ <;> conv=>whnf)|(refine VAny.ix encI_len n rfl rfl hy ?_;conv=>whnf)|(refine VMem.setRec encI_len n 0 v rfl rfl rfl hu (by decide) rfl (ofs _) ?_;conv=>whnf))
                  refine LEnd.intro (j + 1) (by omega) (by omega) ?_
                  rw [hst3]
                  conv=>whnf
                  refine Retell.turn ⟨[0,1,2],3,[],[]⟩ (TurnOk.mk' _ _ [] [] (OutOk.lift _) rfl (by decide) zb trivial trivial rfl) zw zm
                · obtain rfl : j = cs.length:=by omega
                  rw [List.take_of_length_le (Nat.le_refl _),← hks]
                  conv=>whnf
                  repeat' (first|((first|refine zs1 ?_|refine zs2 ?_|refine zs3 ?_|refine zs4 ?_|refine zs5 ?_);conv=>whnf)|((first|apply zi1|apply zi2|apply zi3|apply zi4|apply zi5) <;> intro _ <;> first|(exfalso;omega)|contradiction|(conv=>whnf)))
                  refine LEnd.intro (i + 1) (by omega) (by omega) ?_
                  generalize uk (i + 1) = V1
                  conv=>whnf
                  refine Retell.turn ⟨[0,1,2],3,[],[]⟩ (TurnOk.mk' _ _ [] [] (OutOk.lift _) rfl (by decide) zb trivial trivial rfl) zw zm
            · rw [if_neg hsl] at hks
              refine VCode.lpC (outer:=h.lift) (marks:=[]) 99 (fun j : Nat=>[(0,yrs l),(1,I slow),(5,.gl (.loc 0) 3 (Y + 1)),(13,yrs l),(14,I l.length),(15,I (Y + 1 : Nat)),(7,.fp [DI mw,DI mh,dints mc]),(8,.ptr (.loc 1) 0),(51,intss (natLL R)),(52,I R.length),(53,I i),(10,ints nl),(57,ints nl),(58,I cs.length),(59,I j)]) (fun j=>[.flat true ((A.take (Y + 1)).flatMap encM),.cells true [I mw,I mh,.gl (.loc 2) 1 mc.length],.flat true (U.flatMap Vm.encI)]) (fun j=>j ≤ cs.length) (fun j=>cs.length - j) 0 (Nat.zero_le _) ?_ ?_
              · rw [← hnl]
                conv=>whnf
                refine Retell.turn ⟨[0,1,2],3,[],[]⟩ (TurnOk.mk' _ _ [] [] (OutOk.lift _) rfl (by decide) zb trivial trivial rfl) zw zm
              · rintro j hj
                rcases Nat.lt_or_ge j cs.length with h5|h5
                · have hn:=hnat j h5
                  conv=>whnf
                  repeat' (first|((first|refine zs1 ?_|refine zs2 ?_|refine zs3 ?_|refine zs4 ?_|refine zs5 ?_);conv=>whnf)|((first|apply zi1|apply zi2|apply zi3|apply zi4|apply zi5) <;> intro _ <;> first|(exfalso;omega)|contradiction|(conv=>whnf))|(refine VAny.ix encI_len j rfl (by omega) hn ?_;conv=>whnf))
                  refine LEnd.intro (j + 1) (by omega) (by omega) ?_
                  conv=>whnf
                  refine Retell.turn ⟨[0,1,2],3,[],[]⟩ (TurnOk.mk' _ _ [] [] (OutOk.lift _) rfl (by decide) zb trivial trivial rfl) zw zm
                · obtain rfl : j = cs.length:=by omega
                  conv=>whnf
                  repeat' (first|((first|refine zs1 ?_|refine zs2 ?_|refine zs3 ?_|refine zs4 ?_|refine zs5 ?_);conv=>whnf)|((first|apply zi1|apply zi2|apply zi3|apply zi4|apply zi5) <;> intro _ <;> first|(exfalso;omega)|contradiction|(conv=>whnf)))
                  refine LEnd.intro (i + 1) (by omega) (by omega) ?_
                  rw [hks]
                  conv=>whnf
                  refine Retell.turn ⟨[0,1,2],3,[],[]⟩ (TurnOk.mk' _ _ [] [] (OutOk.lift _) rfl (by decide) zb trivial trivial rfl) zw zm
          · obtain rfl : i = R.length:=by omega
            have hkl:=hkl R.length
            generalize uk R.length = V1 at *
            conv=>whnf
            repeat' (first|((first|refine zs1 ?_|refine zs2 ?_|refine zs3 ?_|refine zs4 ?_|refine zs5 ?_);conv=>whnf)|((first|apply zi1|apply zi2|apply zi3|apply zi4|apply zi5) <;> intro _ <;> first|(exfalso;omega)|contradiction|(conv=>whnf)))
            refine VMem.appRow (l:=((A.take (Y + 1)).flatMap encM).map D.v) (news:=[I mw,I mh,.gl (.loc 2) 1 mc.length]) rfl rfl rfl rfl rfl (by rw [List.length_map,flat_len encM_len,hst]) rfl (by omega) ?_
            conv=>whnf
            repeat' (first|((first|refine zs1 ?_|refine zs2 ?_|refine zs3 ?_|refine zs4 ?_|refine zs5 ?_);conv=>whnf)|((first|apply zi1|apply zi2|apply zi3|apply zi4|apply zi5) <;> intro _ <;> conv=>whnf))
            refine LEnd.intro (Y + 1 + 1) (by omega) (by omega) ?_
            rw [hsn]
            have e : mc.length = V1.length:=by omega
            rw [e]
            conv=>whnf
            refine Retell.turn ⟨[4],5,[(2,V1.flatMap Vm.encI)],[]⟩ (TurnOk.mk' _ _ [(2,V1.flatMap Vm.encI)] [] (OutOk.lift _) rfl (by decide) (BTos.row rfl rfl rfl (RowTo.snoc (RowTo.vtos zv)) BTos.nil) zf trivial rfl) zw zm
    · obtain rfl : y = l.length:=by omega
      rw [List.take_of_length_le (by omega)]
      rw [show yrs A = .fs 3 l.length (A.flatMap encM) by unfold yrs;rw [hAl]]
      have hRf : (A.flatMap encM).length = l.length * 3:=by rw [flat_len encM_len,hAl]
      conv=>whnf
      repeat' (first|((first|refine zs1 ?_|refine zs2 ?_|refine zs3 ?_|refine zs4 ?_|refine zs5 ?_);conv=>whnf)|((first|apply zi1|apply zi2|apply zi3|apply zi4|apply zi5) <;> intro _ <;> first|(exfalso;omega)|contradiction|(conv=>whnf)))
      refine VOut.data 1 [(0,A.flatMap encM)] [] rfl zf (by exact FmAll.nil) zw
end Go.Proofs.YtkbbfeljlepgoaaGreat

open Go.Vm
open Riv
namespace Go.Proofs.YtkbbfeljlepgoaaGreat
set_option maxRecDepth 20000
set_option maxHeartbeats 4000000

def wOf (l : List Mp) : Nat:=(l.headD mp0).w.toNat
theorem wOf_ok {W H : Nat} {l : List Mp} (o : YOk W H l) : wOf l = W:=by
  have h:=o.get (y:=0) (by have:=o.n;omega)
  have e : l.headD mp0 = l.getD 0 mp0:=by cases l <;> rfl
  unfold wOf
  rw [e,h.2.1,Int.toNat_natCast]
def cgE (l : List Mp) (year : Int) : Int:=if chkY l = 0 then (if 0 ≤ year ∧ year ≤ (l.length : Int) - 1 then 0 else 2) else chkY l
def cgL (l : List Mp) (year : Int) : List (List Nat):=if cgE l year = 0 ∧ year ≠ 0 then chg (l.getD (year.toNat - 1) mp0).c (l.getD year.toNat mp0).c (wOf l) else []
theorem vc_Changes (l : List Mp) (year : Int) (h : Hp) (hl : l.length ≤ 4000000) (hc : ∀ m ∈ l,m.c.length ≤ 4000000) : VC Tryz.prog 12 [yrs l,I year] h (.tuple [intss (natLL (cgL l year)),I (cgE l year)]) h:=by
  have c:=fun h=>vc_CheckYears l h hl hc
  obtain ⟨E,hE⟩ : ∃ E,E = cgE l year:=⟨_,rfl⟩
  obtain ⟨R,hR⟩ : ∃ R,R = cgL l year:=⟨_,rfl⟩
  rw [← hE,← hR]
  unfold cgL at hR
  rw [← hE] at hR
  unfold cgE at hE
  by_cases h0 : chkY l = 0
  · rw [if_pos h0] at hE
    rw [h0] at c
    obtain ⟨W,H,o⟩:=chkY_YOk h0
    have hn:=o.n
    by_cases h1 : 0 ≤ year ∧ year ≤ (l.length : Int) - 1
    · rw [if_pos h1] at hE
      subst hE
      by_cases h2 : year = 0
      · rw [if_neg (fun hh=>hh.2 h2)] at hR
        subst hR h2
        refine VC.body Tryz.func12 rfl Tryz.ntmps12 Tryz.call12 (h.grows_refl) rfl ?_;conv=>whnf
        repeat' (first|((first|refine zs1 ?_|refine zs2 ?_|refine zs3 ?_|refine zs4 ?_|refine zs5 ?_);conv=>whnf)|((first|apply zi1|apply zi2|apply zi3|apply zi4|apply zi5) <;> intro _ <;> first|(exfalso;omega)|contradiction|(conv=>whnf))|(refine VCall.intro (c _) ?_;conv=>whnf)|(refine VCall.intro (vc_from _ _ _ _) ?_;conv=>whnf))
        refine VOut.data 0 [] [] rfl zf (by exact FmAll.nil) zw
      · obtain ⟨Y,rfl⟩ : ∃ Y : Nat,year = (Y + 1 : Nat):=⟨year.toNat - 1,by omega⟩
        rw [if_pos ⟨rfl,h2⟩,Int.toNat_natCast,Nat.add_sub_cancel,wOf_ok o] at hR
        obtain ⟨ha,haw,hah,hao⟩:=o.get (y:=Y) (by omega)
        obtain ⟨hm,hmw,hmh,hmo⟩:=o.get (y:=Y + 1) (by omega)
        have cC:=fun h=>vc_changes (l.getD Y mp0) (l.getD (Y + 1) mp0) h hao haw (by rw [hao.len,hmo.len])
        rw [← hR] at cC
        clear hR
        generalize l.getD Y mp0 = am at *
        generalize l.getD (Y + 1) mp0 = m at *
        obtain ⟨aw,ah,ac⟩:=am
        obtain ⟨mw,mh,mc⟩:=m
        refine VC.body Tryz.func12 rfl Tryz.ntmps12 Tryz.call12 (h.grows_refl) rfl ?_;conv=>whnf
        repeat' (first|((first|refine zs1 ?_|refine zs2 ?_|refine zs3 ?_|refine zs4 ?_|refine zs5 ?_);conv=>whnf)|((first|apply zi1|apply zi2|apply zi3|apply zi4|apply zi5) <;> intro _ <;> conv=>whnf)|(refine VCall.intro (c _) ?_;conv=>whnf)|(refine VCall.intro (vc_from _ _ _ _) ?_;conv=>whnf))
        all_goals try (exfalso;omega)
        refine zs6 [] ?_
        conv=>whnf
        repeat' (first|((first|refine zs1 ?_|refine zs2 ?_|refine zs3 ?_|refine zs4 ?_|refine zs5 ?_);conv=>whnf)|((first|apply zi1|apply zi2|apply zi3|apply zi4|apply zi5) <;> intro _ <;> conv=>whnf)|(refine VAny.ix encM_len Y (by omega) rfl ha ?_;conv=>whnf)|(refine VAny.ix encM_len (Y + 1) (by omega) rfl hm ?_;conv=>whnf)|(refine VCall.intro (cC _) ?_;conv=>whnf))
        exact VOut.same rfl
    · rw [if_neg h1] at hE
      subst hE
      rw [if_neg (fun hh=>by simp at hh)] at hR
      subst hR
      refine VC.body Tryz.func12 rfl Tryz.ntmps12 Tryz.call12 (h.grows_refl) rfl ?_;conv=>whnf
      repeat' (first|((first|refine zs1 ?_|refine zs2 ?_|refine zs3 ?_|refine zs4 ?_|refine zs5 ?_);conv=>whnf)|((first|apply zi1|apply zi2|apply zi3|apply zi4|apply zi5) <;> intro _ <;> first|(exfalso;omega)|contradiction|(conv=>whnf))|(refine VCall.intro (c _) ?_;conv=>whnf)|(refine VCall.intro (vc_from _ _ _ _) ?_;conv=>whnf))
      refine VOut.data 0 [] [] rfl zf (by exact FmAll.nil) zw
  · rw [if_neg h0] at hE
    rw [← hE] at c h0
    rw [if_neg (fun hh=>h0 hh.1)] at hR
    subst hR
    clear hE
    refine VC.body Tryz.func12 rfl Tryz.ntmps12 Tryz.call12 (h.grows_refl) rfl ?_;conv=>whnf
    repeat' (first|((first|refine zs1 ?_|refine zs2 ?_|refine zs3 ?_|refine zs4 ?_|refine zs5 ?_);conv=>whnf)|((first|apply zi1|apply zi2|apply zi3|apply zi4|apply zi5) <;> intro _ <;> first|(exfalso;omega)|contradiction|(conv=>whnf))|(refine VCall.intro (c _) ?_;conv=>whnf))
    refine VOut.data 0 [] [] rfl zf (by exact FmAll.nil) zw
def rlE (l : List Mp) (slow : Int) : Int:=if chkY l = 0 then (if 0 ≤ slow ∧ slow ≤ 144 then 0 else 4) else chkY l
def lwA (l : List Mp) (slow : Int) : List Mp:=if rlE l slow = 0 then lawY (wOf l) l slow else []
theorem vc_ruled (l : List Mp) (slow : Int) (h : Hp) (hl : l.length ≤ 4000000) (hc : ∀ m ∈ l,m.c.length ≤ 4000000) : VC Tryz.prog 55 [yrs l,I slow] h (.tuple [yrs (lwA l slow),I (rlE l slow)]) h:=by
  have c:=fun h=>vc_CheckYears l h hl hc
  obtain ⟨E,hE⟩ : ∃ E,E = rlE l slow:=⟨_,rfl⟩
  obtain ⟨R,hR⟩ : ∃ R,R = lwA l slow:=⟨_,rfl⟩
  rw [← hE,← hR]
  unfold lwA at hR
  rw [← hE] at hR
  unfold rlE at hE
  by_cases h0 : chkY l = 0
  · rw [if_pos h0] at hE
    rw [h0] at c
    obtain ⟨W,H,o⟩:=chkY_YOk h0
    by_cases h1 : 0 ≤ slow ∧ slow ≤ 144
    · rw [if_pos h1] at hE
      subst hE
      rw [if_pos rfl,wOf_ok o] at hR
      have cL:=fun h=>vc_law l slow h o
      rw [← hR] at cL
      refine VC.body Tryz.func55 rfl Tryz.ntmps55 Tryz.call55 (h.grows_refl) rfl ?_;conv=>whnf
      repeat' (first|((first|refine zs1 ?_|refine zs2 ?_|refine zs3 ?_|refine zs4 ?_|refine zs5 ?_);conv=>whnf)|((first|apply zi1|apply zi2|apply zi3|apply zi4|apply zi5) <;> intro _ <;> first|(exfalso;omega)|contradiction|(conv=>whnf))|(refine VCall.intro (c _) ?_;conv=>whnf)|(refine VCall.intro (vc_from _ _ _ _) ?_;conv=>whnf)|(refine VCall.intro (cL _) ?_;conv=>whnf))
      exact VOut.same rfl
    · rw [if_neg h1] at hE
      subst hE
      rw [if_neg (by simp)] at hR
      subst hR
      refine VC.body Tryz.func55 rfl Tryz.ntmps55 Tryz.call55 (h.grows_refl) rfl ?_;conv=>whnf
      repeat' (first|((first|refine zs1 ?_|refine zs2 ?_|refine zs3 ?_|refine zs4 ?_|refine zs5 ?_);conv=>whnf)|((first|apply zi1|apply zi2|apply zi3|apply zi4|apply zi5) <;> intro _ <;> first|(exfalso;omega)|contradiction|(conv=>whnf))|(refine VCall.intro (c _) ?_;conv=>whnf)|(refine VCall.intro (vc_from _ _ _ _) ?_;conv=>whnf))
      refine VOut.data 0 [] [] rfl zf (by exact FmAll.nil) zw
  · rw [if_neg h0] at hE
    rw [← hE] at c h0
    rw [if_neg h0] at hR
    subst hR
    clear hE
    refine VC.body Tryz.func55 rfl Tryz.ntmps55 Tryz.call55 (h.grows_refl) rfl ?_;conv=>whnf
    repeat' (first|((first|refine zs1 ?_|refine zs2 ?_|refine zs3 ?_|refine zs4 ?_|refine zs5 ?_);conv=>whnf)|((first|apply zi1|apply zi2|apply zi3|apply zi4|apply zi5) <;> intro _ <;> first|(exfalso;omega)|contradiction|(conv=>whnf))|(refine VCall.intro (c _) ?_;conv=>whnf))
    refine VOut.data 0 [] [] rfl zf (by exact FmAll.nil) zw
theorem vc_Law (l : List Mp) (slow : Int) (h : Hp) (hl : l.length ≤ 4000000) (hc : ∀ m ∈ l,m.c.length ≤ 4000000) : VC Tryz.prog 15 [yrs l,I slow] h (.tuple [yrs (lwA l slow),I (rlE l slow)]) h:=by
  have c:=fun h=>vc_ruled l slow h hl hc
  generalize lwA l slow = R at *
  generalize rlE l slow = E at *
  refine VC.body Tryz.func15 rfl Tryz.ntmps15 Tryz.call15 (h.grows_refl) rfl ?_;conv=>whnf
  repeat' (first|((first|refine zs1 ?_|refine zs2 ?_|refine zs3 ?_|refine zs4 ?_|refine zs5 ?_);conv=>whnf)|((first|apply zi1|apply zi2|apply zi3|apply zi4|apply zi5) <;> intro _ <;> first|(exfalso;omega)|contradiction|(conv=>whnf))|(refine VCall.intro (c _) ?_;conv=>whnf))
  exact VOut.same rfl
end Go.Proofs.YtkbbfeljlepgoaaGreat

open Go.Vm
open Riv
namespace Go.Vm
theorem VLd.wholeI {T : TT} {t : TypeId} {i : Id} {h : Hp} {rw : Bool} {G : List Int} {ti : TI} {K : V → Prop} (hT : T t = some ti) (ha : ti.agg = true) (hs : ti.size = G.length) (hb : h.get i = some (.flat rw (G.flatMap encI))) (hK : K (.agg (G.map I))) : VLd T t (.ptr i 0) h K:=by
  refine VLd.intro (v:=.agg (G.map I)) ?_ hK
  have hl : (G.flatMap encI).length = G.length:=by rw [flat_len encI_len,Nat.mul_one]
  unfold vload
  simp only [hT,ha,rdN_flat hb ti.size 0 (by omega)]
  rw [List.drop_zero,List.take_of_length_le (by omega),D.vs_eq,flatI,List.map_map]
  rfl
theorem wrN_ints {i : Id} : ∀ (G : List Int) (h : Hp) (off : Nat) (l : List D),h.get i ≠ none → off + G.length ≤ l.length → (h.set i (.flat true l)).wrN i off (G.map I) = some (h.set i (.flat true (l.take off ++ G.map DI ++ l.drop (off + G.length))))
  | [],h,off,l,_,hl=>by simp [Hp.wrN,List.take_append_drop]
  | g :: G,h,off,l,hn,hl=>by
    rw [List.length_cons] at hl
    have hlt : off < l.length:=by omega
    have hg : (h.set i (.flat true l)).get i = some (.flat true l):=(Hp.get_set h i _ _ hn).trans (if_pos rfl)
    have h1 : (h.set i (.flat true l)).wr1 i off (I g) = some (h.set i (.flat true (l.set off (DI g)))):=by
      unfold Hp.wr1
      rw [hg]
      simp only [Blk.wr1,hlt,if_true,Hp.set_set]
    rw [List.map_cons,Hp.wrN,h1]
    dsimp only
    rw [wrN_ints G h (off + 1) (l.set off (DI g)) hn (by rw [List.length_set];omega)]
    congr 3
    rw [List.length_cons,List.map_cons,List.set_eq_take_append_cons_drop,if_pos hlt]
    have e1 : (l.take off ++ DI g :: l.drop (off + 1)).take (off + 1) = l.take off ++ [DI g]:=by
      rw [List.take_append,List.take_of_length_le (by rw [List.length_take];omega),List.length_take,Nat.min_eq_left (by omega),show off + 1 - off = 1 by omega];rfl
    have e2 : (l.take off ++ DI g :: l.drop (off + 1)).drop (off + 1 + G.length) = l.drop (off + (G.length + 1)):=by
      rw [List.drop_append,List.drop_of_length_le (by rw [List.length_take];omega),List.nil_append,List.length_take,Nat.min_eq_left (by omega),show off + 1 + G.length - off = G.length + 1 by omega,List.drop_succ_cons,List.drop_drop]
      congr 1;omega
    rw [e1,e2];simp
theorem VMem.wholeI {P : Program} {t : TypeId} {i : Id} {G Z : List Int} {ti : TI} {h : Hp} {K : V → Hp → Prop} (hTt : tiOf P t = some ti) (hs : ti.size = G.length) (hb : h.get i = some (.flat true (Z.flatMap encI))) (hz : Z.length = G.length) (hK : K .undef (h.set i (.flat true (G.flatMap encI)))) : VMem P (opStore t) [.ptr i 0,.agg (G.map I)] h K:=by
  have hn : h.get i ≠ none:=by rw [hb];simp
  have hZ : (Z.flatMap encI).length = G.length:=by rw [flat_len encI_len,Nat.mul_one];exact hz
  have hw:=wrN_ints (i:=i) G h 0 (Z.flatMap encI) hn (by omega)
  have hself : h.set i (.flat true (Z.flatMap encI)) = h:=by
    cases i with
    | out i =>
      obtain ⟨o,l⟩:=h
      simp only [Hp.set,Hp.get] at hb ⊢
      congr 1
      funext j
      split
      · rename_i e;rw [e,hb]
      · rfl
    | loc k =>
      obtain ⟨o,l⟩:=h
      simp only [Hp.set,Hp.get] at hb ⊢
      congr 1
      obtain ⟨hlt,e⟩:=List.getElem?_eq_some_iff.1 hb
      rw [← e];exact List.set_getElem_self hlt
  rw [hself,List.take_zero,List.nil_append,List.drop_of_length_le (by omega),List.append_nil,← flatI] at hw
  exact VMem.intro (does_store (cs:=G.map I) (tiOf_ok P) hTt rfl (by rw [List.length_map];exact hs.symm) hw) hK
end Go.Vm
namespace Go.Proofs.YtkbbfeljlepgoaaGreat
set_option maxRecDepth 20000
set_option maxHeartbeats 4000000

def gix (x y : Int) : Nat:=x.toNat * 4 + y.toNat
def gnS (G : List Int) (x y : Int) : List Int:=if x ≠ y then G.set (gix x y) (at0 G (gix x y) + 1) else G
def gnK (A B : List Int) (k : Nat) : List Int:=(List.range k).foldl (fun G n=>gnS G (at0 A n) (at0 B n)) (List.replicate 16 0)
theorem gnK_step (A B : List Int) (k : Nat) : gnK A B (k + 1) = gnS (gnK A B k) (at0 A k) (at0 B k):=by unfold gnK;rw [List.range_succ,List.foldl_append];rfl
theorem gnK_len (A B : List Int) : ∀ k,(gnK A B k).length = 16
  | 0=>rfl
  | k + 1=>by
    rw [gnK_step]
    have:=gnK_len A B k
    unfold gnS
    split
    · rw [List.length_set];exact this
    · exact this
theorem gnK_bd (A B : List Int) : ∀ k p,p < 16 → 0 ≤ at0 (gnK A B k) p ∧ at0 (gnK A B k) p ≤ k
  | 0,p,hp=>by
    have : at0 (gnK A B 0) p = 0:=by
      unfold at0 gnK
      rw [List.getD_eq_getElem?_getD,List.range_zero,List.foldl_nil,List.getElem?_replicate,if_pos hp];rfl
    omega
  | k + 1,p,hp=>by
    have ih:=gnK_bd A B k p hp
    have hl:=gnK_len A B k
    rw [gnK_step]
    generalize gnK A B k = G at *
    unfold gnS
    split
    · by_cases hg : gix (at0 A k) (at0 B k) < 16
      · rw [at0_set (by omega)]
        split
        · rename_i e;subst e;omega
        · omega
      · rw [List.set_eq_of_length_le (by omega)];omega
    · omega
def vGn (G : List Int) : V:=.agg (G.map I)
def gnA (l : List Mp) (slow : Int) : List Int:=if rlE l slow = 0 then gnK (owns ((lwA l slow).getD 0 mp0).c (wOf l)) (owns ((lwA l slow).getD (l.length - 1) mp0).c (wOf l)) (owns ((lwA l slow).getD 0 mp0).c (wOf l)).length else List.replicate 16 0
theorem YOk.law {W H : Nat} {l : List Mp} (o : YOk W H l) (slow : Int) {y : Nat} (hy : y < l.length) : (lawY W l slow)[y]? = some ((lawY W l slow).getD y mp0) ∧ ((lawY W l slow).getD y mp0).w = W ∧ ((lawY W l slow).getD y mp0).h = H ∧ MOk W H ((lawY W l slow).getD y mp0).c ∧ ((lawY W l slow).getD y mp0).c = lawAt W (cellsY l) slow y:=by
  have h1:=lawY_at (W:=W) (slow:=slow) hy
  have h2 : (lawY W l slow).getD y mp0 = ⟨(l.getD y mp0).w,(l.getD y mp0).h,lawAt W (cellsY l) slow y⟩:=by rw [List.getD_eq_getElem?_getD,h1];rfl
  obtain ⟨_,g2,g3,_⟩:=o.get hy
  refine ⟨by rw [h1,h2],by rw [h2];exact g2,by rw [h2];exact g3,?_,by rw [h2]⟩
  rw [h2]
  exact lawAt_mok (cellsY_ok o.all) slow (by rw [cellsY_len];exact hy)
theorem ren_vGn (ρ : Vm.Id → Vm.Id) (G : List Int) : (vGn G).ren ρ = vGn G:=by
  show V.agg (V.rens ρ (G.map I)) = _
  rw [V.rens_eq,List.map_map];rfl
theorem ownB {c : List Int} {W H : Nat} (o : MOk W H c) {k : Nat} (hk : k < c.length) : 0 ≤ at0 (owns c W) k ∧ at0 (owns c W) k ≤ 3:=by
  have h1:=o.w
  have h2:=MOk.le o
  exact owns_bd o.kind (isl_in (by omega) o.len (by omega)) hk
theorem vc_Gains (l : List Mp) (slow : Int) (h : Hp) (hl : l.length ≤ 4000000) (hc : ∀ m ∈ l,m.c.length ≤ 4000000) : VC Tryz.prog 18 [yrs l,I slow] h (.tuple [vGn (gnA l slow),I (rlE l slow)]) h:=by
  have cR:=fun h=>vc_ruled l slow h hl hc
  by_cases h0 : rlE l slow = 0
  · have hchk : chkY l = 0:=by
      unfold rlE at h0
      refine Decidable.byContradiction fun e=>?_
      rw [if_neg e] at h0;exact e h0
    obtain ⟨W,H,o⟩:=chkY_YOk hchk
    have hn:=o.n
    have hlw : lwA l slow = lawY W l slow:=by unfold lwA;rw [if_pos h0,wOf_ok o]
    unfold gnA
    rw [if_pos h0,wOf_ok o]
    rw [hlw] at cR ⊢
    rw [h0] at cR ⊢
    obtain ⟨ha,haw,hah,hao,_⟩:=o.law slow (y:=0) (by omega)
    obtain ⟨hb,hbw,hbh,hbo,_⟩:=o.law slow (y:=l.length - 1) (by omega)
    have hAl:=lawY_len W l slow
    generalize lawY W l slow = Y at *
    generalize Y.getD 0 mp0 = a at *
    generalize Y.getD (l.length - 1) mp0 = b at *
    have c1:=fun h=>vc_owners a h hao haw
    have c2:=fun h=>vc_owners b h hbo hbw
    have l1 : (owns a.c W).length = a.c.length:=owns_len _ _
    have l2 : (owns b.c W).length = b.c.length:=owns_len _ _
    have b1:=fun k hk=>ownB hao (k:=k) hk
    have b2:=fun k hk=>ownB hbo (k:=k) hk
    have e1:=hao.len
    have e2:=hbo.len
    have hm144:=MOk.le hao
    generalize owns a.c W = A at *
    generalize owns b.c W = B at *
    obtain ⟨aw,ah,ac⟩:=a
    obtain ⟨bw,bh,bc⟩:=b
    dsimp only at *
    have hgl:=gnK_len A B
    have hgs:=gnK_step A B
    have hgb:=gnK_bd A B
    refine VC.bodyC 4 Tryz.func18 rfl Tryz.ntmps18 Tryz.call18 (h.grows_refl) rfl ?_
    conv=>whnf
    repeat' (first|((first|refine zs1 ?_|refine zs2 ?_|refine zs3 ?_|refine zs4 ?_|refine zs5 ?_);conv=>whnf)|((first|apply zi1|apply zi2|apply zi3|apply zi4|apply zi5) <;> intro _ <;> first|(exfalso;omega)|contradiction|(conv=>whnf))|(refine VCall.intro (cR _) ?_;conv=>whnf))
    refine VCut.at' (outer:=h.lift) (marks:=[]) 99 [(4,.ptr (.loc 0) 0),(6,.ptr (.loc 1) 0),(7,yrs Y)] [.flat true ((List.replicate 16 (0 : Int)).flatMap Vm.encI),.flat true ((gnK A B 0).flatMap Vm.encI)] ?_ ?_
    · conv=>whnf
      refine Retell.turn ⟨[0,1],2,[],[]⟩ (TurnOk.mk' _ _ [] [] (OutOk.lift _) rfl (by decide) zb trivial trivial rfl) zw zm
    conv=>whnf
    refine zs6 [(3,9)] ?_
    conv=>whnf
    repeat' (first|((first|refine zs1 ?_|refine zs2 ?_|refine zs3 ?_|refine zs4 ?_|refine zs5 ?_);conv=>whnf)|((first|apply zi1|apply zi2|apply zi3|apply zi4|apply zi5) <;> intro _ <;> conv=>whnf)|(refine VAny.ix encM_len 0 rfl rfl ha ?_;conv=>whnf)|(refine VAny.ix encM_len (l.length - 1) (by omega) rfl hb ?_;conv=>whnf)|(refine VCall.intro (c1 _) ?_;conv=>whnf)|(refine VCall.intro (c2 _) ?_;conv=>whnf))
    refine VCode.lpC (outer:=h.lift) (marks:=[]) 99 (fun k : Nat=>[(4,.ptr (.loc 0) 0),(6,.ptr (.loc 1) 0),(9,ints A),(10,ints B),(34,I A.length),(35,I k)]) (fun k=>[.flat true ((List.replicate 16 (0 : Int)).flatMap Vm.encI),.flat true ((gnK A B k).flatMap Vm.encI)]) (fun k=>k ≤ A.length) (fun k=>A.length - k) 0 (Nat.zero_le _) ?_ ?_
    · generalize gnK A B 0 = G
      generalize List.replicate 16 (0 : Int) = Z
      conv=>whnf
      refine Retell.turn ⟨[0,1],2,[],[]⟩ (TurnOk.mk' _ _ [] [] (OutOk.lift _) rfl (by decide) zb trivial trivial rfl) zw zm
    · rintro k hk
      rcases Nat.lt_or_ge k A.length with h3|h3
      · have hx:=at0_get (l:=A) (n:=k) (by omega)
        have hy:=at0_get (l:=B) (n:=k) (by omega)
        have hgs:=hgs k
        have hgl:=hgl k
        have hgb:=hgb k
        have b1:=b1 k (by omega)
        have b2:=b2 k (by omega)
        generalize at0 A k = x at *
        generalize at0 B k = y at *
        generalize gnK A B k = G at *
        generalize List.replicate 16 (0 : Int) = Z at *
        unfold gnS at hgs
        have hg16 : gix x y < 16:=by unfold gix;omega
        have hgv:=at0_get (l:=G) (n:=gix x y) (by omega)
        have hgb:=hgb (gix x y) hg16
        by_cases hxy : x = y
        · rw [if_neg (fun e=>e hxy)] at hgs
          conv=>whnf
          repeat' (first|((first|refine zs1 ?_|refine zs2 ?_|refine zs3 ?_|refine zs4 ?_|refine zs5 ?_);conv=>whnf)|((first|apply zi1|apply zi2|apply zi3|apply zi4|apply zi5) <;> intro _ <;> conv=>whnf))
          all_goals try (exfalso;omega)
          refine zs6 [] ?_
          conv=>whnf
          repeat' (first|((first|refine zs1 ?_|refine zs2 ?_|refine zs3 ?_|refine zs4 ?_|refine zs5 ?_);conv=>whnf)|((first|apply zi1|apply zi2|apply zi3|apply zi4|apply zi5) <;> intro _ <;> first|(exfalso;omega)|contradiction|(conv=>whnf))|(refine VAny.ix encI_len k rfl rfl hx ?_;conv=>whnf)|(refine VAny.ix encI_len k rfl (by omega) hy ?_;conv=>whnf))
          refine LEnd.intro (k + 1) (by omega) (by omega) ?_
          rw [hgs]
          conv=>whnf
          refine Retell.turn ⟨[0,1],2,[],[]⟩ (TurnOk.mk' _ _ [] [] (OutOk.lift _) rfl (by decide) zb trivial trivial rfl) zw zm
        · rw [if_pos hxy] at hgs
          conv=>whnf
          repeat' (first|((first|refine zs1 ?_|refine zs2 ?_|refine zs3 ?_|refine zs4 ?_|refine zs5 ?_);conv=>whnf)|((first|apply zi1|apply zi2|apply zi3|apply zi4|apply zi5) <;> intro _ <;> conv=>whnf))
          all_goals try (exfalso;omega)
          refine zs6 [] ?_
          conv=>whnf
          repeat' (first|((first|refine zs1 ?_|refine zs2 ?_|refine zs3 ?_|refine zs4 ?_|refine zs5 ?_);conv=>whnf)|((first|apply zi1|apply zi2|apply zi3|apply zi4|apply zi5) <;> intro _ <;> first|(exfalso;omega)|contradiction|(conv=>whnf))|(refine VAny.ix encI_len k rfl rfl hx ?_;conv=>whnf)|(refine VAny.ix encI_len k rfl (by omega) hy ?_;conv=>whnf))
          refine zs6 [] ?_
          conv=>whnf
          repeat' (first|((first|refine zs1 ?_|refine zs2 ?_|refine zs3 ?_|refine zs4 ?_|refine zs5 ?_);conv=>whnf)|((first|apply zi1|apply zi2|apply zi3|apply zi4|apply zi5) <;> intro _ <;> first|(exfalso;omega)|contradiction|(conv=>whnf))|(refine VAny.ix encI_len k rfl rfl hx ?_;conv=>whnf)|(refine VAny.ix encI_len k rfl (by omega) hy ?_;conv=>whnf))
          have hofs : 0 + x.toNat * 4 + y.toNat * 1 = gix x y * 1 + 0:=by unfold gix;omega
          repeat' (first|((first|refine zs1 ?_|refine zs2 ?_|refine zs3 ?_|refine zs4 ?_|refine zs5 ?_);conv=>whnf)|((first|apply zi1|apply zi2|apply zi3|apply zi4|apply zi5) <;> intro _ <;> conv=>whnf)|(refine VLd.recc encI_len (gix x y) 0 rfl rfl rfl hgv (by decide) rfl (by exact hofs) ?_;conv=>whnf)|(refine VMem.setRec encI_len (gix x y) 0 (at0 G (gix x y) + 1) rfl rfl rfl hgv (by decide) rfl (by exact hofs) ?_;conv=>whnf))
          refine LEnd.intro (k + 1) (by omega) (by omega) ?_
          rw [hgs]
          conv=>whnf
          refine Retell.turn ⟨[0,1],2,[],[]⟩ (TurnOk.mk' _ _ [] [] (OutOk.lift _) rfl (by decide) zb trivial trivial rfl) zw zm
      · obtain rfl : k = A.length:=by omega
        have hgl:=hgl A.length
        generalize gnK A B A.length = G at *
        unfold vGn
        have hZl : (List.replicate 16 (0 : Int)).length = G.length:=by rw [hgl];rfl
        generalize List.replicate 16 (0 : Int) = Z at *
        conv=>whnf
        repeat' (first|((first|refine zs1 ?_|refine zs2 ?_|refine zs3 ?_|refine zs4 ?_|refine zs5 ?_);conv=>whnf)|((first|apply zi1|apply zi2|apply zi3|apply zi4|apply zi5) <;> intro _ <;> first|(exfalso;omega)|contradiction|(conv=>whnf))|(refine VLd.wholeI (G:=G) rfl rfl hgl.symm rfl ?_;conv=>whnf))
        rw [forceVs_eq]
        conv=>whnf
        refine VMem.wholeI (G:=G) (Z:=Z) rfl hgl.symm rfl hZl ?_
        conv=>whnf
        refine VLd.wholeI (G:=G) rfl rfl hgl.symm rfl ?_
        conv=>whnf
        rw [forceVs_eq]
        conv=>whnf
        refine VOut.same ?_
        show _ = V.tuple [(vGn G).ren .out,I 0]
        rw [ren_vGn];rfl
  · have e : gnA l slow = List.replicate 16 0:=if_neg h0
    rw [e]
    generalize lwA l slow = R at *
    generalize rlE l slow = E at *
    refine VC.body Tryz.func18 rfl Tryz.ntmps18 Tryz.call18 (h.grows_refl) rfl ?_;conv=>whnf
    repeat' (first|((first|refine zs1 ?_|refine zs2 ?_|refine zs3 ?_|refine zs4 ?_|refine zs5 ?_);conv=>whnf)|((first|apply zi1|apply zi2|apply zi3|apply zi4|apply zi5) <;> intro _ <;> first|(exfalso;omega)|contradiction|(conv=>whnf))|(refine VCall.intro (cR _) ?_;conv=>whnf))
    exact VOut.same rfl
end Go.Proofs.YtkbbfeljlepgoaaGreat

open Go.Vm
open Riv
namespace Go.Proofs.YtkbbfeljlepgoaaGreat
set_option maxRecDepth 20000
set_option maxHeartbeats 4000000

def lsK (f : Nat → Int) : Nat → Int
  | 0=>-1
  | y + 1=>if f (y + 1) ≠ f y then (y + 1 : Nat) else lsK f y
def dnE (l : List Mp) (slow cell : Int) : Int:=if rlE l slow = 0 then (if 0 ≤ cell ∧ cell ≤ (((l.getD 0 mp0).c.length : Nat) : Int) - 1 then 0 else 2) else rlE l slow
def dnL (l : List Mp) (slow cell : Int) : Int:=if dnE l slow cell = 0 then lsK (fun y=>at0 (owns ((lwA l slow).getD y mp0).c (wOf l)) cell.toNat) (l.length - 1) else 0
theorem vc_Last (l : List Mp) (slow cell : Int) (h : Hp) (hl : l.length ≤ 4000000) (hc : ∀ m ∈ l,m.c.length ≤ 4000000) : VC Tryz.prog 20 [yrs l,I slow,I cell] h (.tuple [I (dnL l slow cell),I (dnE l slow cell)]) h:=by
  have cR:=fun h=>vc_ruled l slow h hl hc
  obtain ⟨E,hE⟩ : ∃ E,E = dnE l slow cell:=⟨_,rfl⟩
  obtain ⟨R,hR⟩ : ∃ R,R = dnL l slow cell:=⟨_,rfl⟩
  rw [← hE,← hR]
  unfold dnL at hR
  rw [← hE] at hR
  unfold dnE at hE
  by_cases h0 : rlE l slow = 0
  · have hchk : chkY l = 0:=by
      unfold rlE at h0
      refine Decidable.byContradiction fun e=>?_
      rw [if_neg e] at h0;exact e h0
    obtain ⟨W,H,o⟩:=chkY_YOk hchk
    have hn:=o.n
    have hlw : lwA l slow = lawY W l slow:=by unfold lwA;rw [if_pos h0,wOf_ok o]
    obtain ⟨ha,haw,hah,hao⟩:=o.get (y:=0) (by omega)
    have hal:=MOk.le hao
    have hcl:=hao.len
    have cC:=fun h=>vc_cell (l.getD 0 mp0) cell h (by omega)
    rw [if_pos h0] at hE
    rw [h0] at cR
    generalize l.getD 0 mp0 = am at *
    by_cases h1 : 0 ≤ cell ∧ cell ≤ (am.c.length : Int) - 1
    · rw [if_pos h1] at hE
      subst hE
      rw [if_pos rfl,hlw,wOf_ok o] at hR
      rw [hlw] at cR
      have hY:=fun y (hy : y < l.length)=>o.law slow hy
      have hAl:=lawY_len W l slow
      generalize lawY W l slow = Y at *
      have c1:=fun y (hy : y < l.length) h=>vc_owners (Y.getD y mp0) h (hY y hy).2.2.2.1 (hY y hy).2.1
      have l1:=fun y (hy : y < l.length)=>(owns_len (Y.getD y mp0).c W).trans (hY y hy).2.2.2.1.len
      have hg:=fun y (hy : y < l.length)=>(hY y hy).1
      clear hY
      obtain ⟨cn,rfl⟩ : ∃ n : Nat,cell = n:=⟨cell.toNat,by omega⟩
      rw [Int.toNat_natCast] at hR
      obtain ⟨aw,ah,ac⟩:=am
      dsimp only at *
      refine VC.body Tryz.func20 rfl Tryz.ntmps20 Tryz.call20 (h.grows_refl) rfl ?_;conv=>whnf
      repeat' (first|((first|refine zs1 ?_|refine zs2 ?_|refine zs3 ?_|refine zs4 ?_|refine zs5 ?_);conv=>whnf)|((first|apply zi1|apply zi2|apply zi3|apply zi4|apply zi5) <;> intro _ <;> conv=>whnf)|(refine VCall.intro (cR _) ?_;conv=>whnf)|(refine VAny.ix encM_len 0 rfl rfl ha ?_;conv=>whnf)|(refine VCall.intro (cC _) ?_;conv=>whnf))
      all_goals try (exfalso;omega)
      refine VCode.lpC (outer:=h.lift) (marks:=[]) 99 (fun k : Nat=>[(2,I cn),(8,yrs Y),(10,I k)]) (fun k=>[]) (fun k=>k ≤ l.length - 1 ∧ R = lsK (fun y=>at0 (owns (Y.getD y mp0).c W) cn) k) (fun k=>k) (l.length - 1) ⟨by omega,hR⟩ ?_ ?_
      · conv=>whnf
        refine Retell.turn ⟨[],9,[],[]⟩ (TurnOk.mk' _ _ [] [] (OutOk.lift _) rfl (by decide) zb trivial trivial rfl) zw zm
      · rintro k ⟨hk,hR⟩
        rcases Nat.eq_zero_or_pos k with h3|h3
        · subst h3
          have hR : R = -1:=hR
          subst hR
          conv=>whnf
          repeat' (first|((first|refine zs1 ?_|refine zs2 ?_|refine zs3 ?_|refine zs4 ?_|refine zs5 ?_);conv=>whnf)|((first|apply zi1|apply zi2|apply zi3|apply zi4|apply zi5) <;> intro _ <;> first|(exfalso;omega)|contradiction|(conv=>whnf)))
          exact VOut.same rfl
        · obtain ⟨y,rfl⟩ : ∃ y,k = y + 1:=⟨k - 1,by omega⟩
          unfold lsK at hR
          have c1a:=c1 (y + 1) (by omega)
          have c1b:=c1 y (by omega)
          have xa:=at0_get (l:=owns (Y.getD (y + 1) mp0).c W) (n:=cn) (by rw [l1 (y + 1) (by omega)];omega)
          have xb:=at0_get (l:=owns (Y.getD y mp0).c W) (n:=cn) (by rw [l1 y (by omega)];omega)
          have la:=l1 (y + 1) (by omega)
          have lb:=l1 y (by omega)
          have ga:=hg (y + 1) (by omega)
          have gb:=hg y (by omega)
          generalize owns (Y.getD (y + 1) mp0).c W = A at *
          generalize owns (Y.getD y mp0).c W = B at *
          generalize at0 A cn = a at *
          generalize at0 B cn = b at *
          generalize Y.getD (y + 1) mp0 = ma at *
          generalize Y.getD y mp0 = mb at *
          obtain ⟨aw',ah',ac'⟩:=ma
          obtain ⟨bw',bh',bc'⟩:=mb
          conv=>whnf
          repeat' (first|((first|refine zs1 ?_|refine zs2 ?_|refine zs3 ?_|refine zs4 ?_|refine zs5 ?_);conv=>whnf)|((first|apply zi1|apply zi2|apply zi3|apply zi4|apply zi5) <;> intro _ <;> conv=>whnf))
          all_goals try (exfalso;omega)
          refine zs6 [(4,12),(7,13)] ?_
          conv=>whnf
          by_cases hab : a = b
          · rw [if_neg (by simp [hab])] at hR
            repeat' (first|((first|refine zs1 ?_|refine zs2 ?_|refine zs3 ?_|refine zs4 ?_|refine zs5 ?_);conv=>whnf)|((first|apply zi1|apply zi2|apply zi3|apply zi4|apply zi5) <;> intro _ <;> first|(exfalso;omega)|contradiction|(conv=>whnf))|(refine VAny.ix encM_len (y + 1) rfl rfl ga ?_;conv=>whnf)|(refine VAny.ix encM_len y (by omega) rfl gb ?_;conv=>whnf)|(refine VCall.intro (c1a _) ?_;conv=>whnf)|(refine VCall.intro (c1b _) ?_;conv=>whnf)|(refine VAny.ix encI_len cn rfl rfl xa ?_;conv=>whnf)|(refine VAny.ix encI_len cn rfl rfl xb ?_;conv=>whnf))
            refine LEnd.intro y ⟨by omega,hR⟩ (by omega) ?_
            conv=>whnf
            refine Retell.turn ⟨[],9,[],[]⟩ (TurnOk.mk' _ _ [] [] (OutOk.lift _) rfl (by decide) zb trivial trivial rfl) zw zm
          · rw [if_pos hab] at hR
            repeat' (first|((first|refine zs1 ?_|refine zs2 ?_|refine zs3 ?_|refine zs4 ?_|refine zs5 ?_);conv=>whnf)|((first|apply zi1|apply zi2|apply zi3|apply zi4|apply zi5) <;> intro _ <;> first|(exfalso;omega)|contradiction|(conv=>whnf))|(refine VAny.ix encM_len (y + 1) rfl rfl ga ?_;conv=>whnf)|(refine VAny.ix encM_len y (by omega) rfl gb ?_;conv=>whnf)|(refine VCall.intro (c1a _) ?_;conv=>whnf)|(refine VCall.intro (c1b _) ?_;conv=>whnf)|(refine VAny.ix encI_len cn rfl rfl xa ?_;conv=>whnf)|(refine VAny.ix encI_len cn rfl rfl xb ?_;conv=>whnf))
            subst hR
            exact VOut.same rfl
    · rw [if_neg h1] at hE
      subst hE
      rw [if_neg (by simp)] at hR
      subst hR
      obtain ⟨aw,ah,ac⟩:=am
      dsimp only at *
      generalize lwA l slow = Y at *
      refine VC.body Tryz.func20 rfl Tryz.ntmps20 Tryz.call20 (h.grows_refl) rfl ?_;conv=>whnf
      repeat' (first|((first|refine zs1 ?_|refine zs2 ?_|refine zs3 ?_|refine zs4 ?_|refine zs5 ?_);conv=>whnf)|((first|apply zi1|apply zi2|apply zi3|apply zi4|apply zi5) <;> intro _ <;> first|(exfalso;omega)|contradiction|(conv=>whnf))|(refine VCall.intro (cR _) ?_;conv=>whnf)|(refine VAny.ix encM_len 0 rfl rfl ha ?_;conv=>whnf)|(refine VCall.intro (cC _) ?_;conv=>whnf))
      exact VOut.same rfl
  · rw [if_neg h0] at hE
    rw [← hE] at cR h0
    rw [if_neg (fun hh=>h0 hh)] at hR
    subst hR
    generalize lwA l slow = Y at *
    clear hE
    refine VC.body Tryz.func20 rfl Tryz.ntmps20 Tryz.call20 (h.grows_refl) rfl ?_;conv=>whnf
    repeat' (first|((first|refine zs1 ?_|refine zs2 ?_|refine zs3 ?_|refine zs4 ?_|refine zs5 ?_);conv=>whnf)|((first|apply zi1|apply zi2|apply zi3|apply zi4|apply zi5) <;> intro _ <;> first|(exfalso;omega)|contradiction|(conv=>whnf))|(refine VCall.intro (cR _) ?_;conv=>whnf))
    exact VOut.same rfl
end Go.Proofs.YtkbbfeljlepgoaaGreat

open Go.Vm
open Riv
namespace Go.Vm
theorem Hp.set_self {h : Hp} {i : Id} {b : Blk} (hb : h.get i = some b) : h.set i b = h:=by
  cases i with
  | out i =>
    obtain ⟨o,l⟩:=h
    simp only [Hp.set,Hp.get] at hb ⊢
    congr 1
    funext j
    split
    · rename_i e;rw [e,hb]
    · rfl
  | loc k =>
    obtain ⟨o,l⟩:=h
    simp only [Hp.set,Hp.get] at hb ⊢
    congr 1
    obtain ⟨hlt,e⟩:=List.getElem?_eq_some_iff.1 hb
    rw [← e];exact List.set_getElem_self hlt
theorem VTo.sl {c : TCtx} {i i' : Id} {o o' e e' n n' m m' : Nat} (hi : i' = c.ρ i) (ho : o' = o) (he : e' = e) (hn : n' = n) (hm : m' = m) : VTo c (.slice i' o' e' n' (some m')) (.slice i o e n (some m)):=by
  subst hi ho he hn hm;simp only [VTo]
theorem zvL {p : Prop} (h : p:=by repeat' (first|refine FrTo.node ?_ ?_ ?_|refine FrTo.none ?_ ?_|exact FrTo.leaf|exact VTo.undef|refine VTo.sl rfl ?_ ?_ ?_ ?_|rfl|omega|(simp only [Nat.zero_add,Nat.mul_one];omega)|exact VTo.sc (by first|rfl|(congr 1;omega)))) : p:=h
end Go.Vm
namespace Go.Proofs.YtkbbfeljlepgoaaGreat
set_option maxRecDepth 20000
set_option maxHeartbeats 4000000

def cpS (acc : List Int) (x : Int) : List Int:=if acc.getLast? = some x then acc else acc ++ [x]
def cpI (l : List Int) : List Int:=l.foldl cpS []
theorem cpS_last (acc : List Int) (x : Int) : (cpS acc x).getLast? = some x:=by
  unfold cpS
  split
  · assumption
  · rw [List.getLast?_append];rfl
theorem cpI_snoc (l : List Int) (x : Int) : cpI (l ++ [x]) = cpS (cpI l) x:=by unfold cpI;rw [List.foldl_append];rfl
theorem take_snoc {l : List Int} {k : Nat} {a : Int} (h : l[k]? = some a) : l.take (k + 1) = l.take k ++ [a]:=by
  rw [List.take_add_one,h];rfl
theorem cpI_last {l : List Int} {k : Nat} {a : Int} (h : l[k]? = some a) : (cpI (l.take (k + 1))).getLast? = some a:=by
  rw [take_snoc h,cpI_snoc];exact cpS_last _ _
theorem cpI_one {l : List Int} {a : Int} (h : l[0]? = some a) : cpI (l.take 1) = [a]:=by
  rw [take_snoc h,List.take_zero];rfl
theorem cpI_next {l : List Int} {k : Nat} {a b : Int} (ha : l[k]? = some a) (hb : l[k + 1]? = some b) : cpI (l.take (k + 2)) = if a = b then cpI (l.take (k + 1)) else cpI (l.take (k + 1)) ++ [b]:=by
  rw [take_snoc hb,cpI_snoc]
  unfold cpS
  rw [cpI_last ha]
  by_cases h : a = b
  · rw [if_pos h,if_pos (by rw [h])]
  · rw [if_neg h,if_neg (fun e=>h (by cases e;rfl))]
theorem cpI_len : ∀ l : List Int,(cpI l).length ≤ l.length:=by
  intro l
  have : ∀ (l acc : List Int),(l.foldl cpS acc).length ≤ acc.length + l.length:=by
    intro l
    induction l with
    | nil=>intro acc;simp
    | cons x l ih =>
      intro acc
      rw [List.foldl_cons]
      have h1:=ih (cpS acc x)
      have h2 : (cpS acc x).length ≤ acc.length + 1:=by unfold cpS;split <;> simp
      rw [List.length_cons];omega
  have:=this l []
  rw [List.length_nil,Nat.zero_add] at this
  exact this
structure CpJ (l : List Int) (j m : Nat) (l' : List Int) : Prop where
  len : l'.length = l.length
  m1 : 1 ≤ m
  mj : m + 1 ≤ j
  jl : j ≤ l.length
  hd : l'.take m = cpI (l.take j)
  tl : ∀ k,j ≤ k + 1 → l'[k]? = l[k]?
theorem CpJ.same {l : List Int} {j m : Nat} {l' : List Int} (h : CpJ l j m l') {a : Int} (hj : 1 ≤ j) (ha : l[j - 1]? = some a) (hb : l[j]? = some a) : CpJ l (j + 1) m l':=by
  obtain ⟨i,rfl⟩ : ∃ i,j = i + 1:=⟨j - 1,by omega⟩
  have:=(List.getElem?_eq_some_iff.1 hb).1
  refine ⟨h.len,h.m1,by have:=h.mj;omega,this,?_,fun k hk=>h.tl k (by omega)⟩
  rw [h.hd,show i + 1 + 1 = i + 2 from rfl,cpI_next (k:=i) ha hb,if_pos rfl]
theorem CpJ.write {l : List Int} {j m : Nat} {l' : List Int} (h : CpJ l j m l') {a b : Int} (ha : l[j - 1]? = some a) (hb : l[j]? = some b) (hab : a ≠ b) : CpJ l (j + 1) (m + 1) (l'.set m b):=by
  have hj:=h.mj
  obtain ⟨i,rfl⟩ : ∃ i,j = i + 1:=⟨j - 1,by omega⟩
  have hjl:=(List.getElem?_eq_some_iff.1 hb).1
  refine ⟨by rw [List.length_set];exact h.len,by omega,by omega,hjl,?_,fun k hk=>?_⟩
  · rw [show i + 1 + 1 = i + 2 from rfl,cpI_next (k:=i) ha hb,if_neg hab,← h.hd]
    have hm : (l'.set m b)[m]? = some b:=by rw [List.getElem?_set,if_pos rfl,if_pos (by rw [h.len];omega)]
    rw [take_snoc hm,List.take_set_of_le (Nat.le_refl m)]
  · rw [List.getElem?_set,if_neg (by omega)]
    exact h.tl k (by omega)
theorem VOut.setSl {h : Hp} {loc : List Blk} {i : Vm.Id} {b0 : Blk} {l : List D} {rw : Bool} {o e n : Nat} {m : Option Nat} {L : Nat} (hL : Nat.ble loc.length L = true) (hb : h.get i = some b0) : VOut h ⟨outW h.lift i (.flat rw l),loc⟩ (.slice (.out i) o e n m) (.slice i o e n m) (h.set i (.flat rw l)):=by
  have hd : ∀ p ∈ [(i,Blk.flat rw l)],h.get p.1 ≠ none:=by
    intro p hp
    simp only [List.mem_cons,List.not_mem_nil,or_false] at hp
    subst hp;simp only;rw [hb];simp
  have:=VOut.upd (loc:=loc) (r1:=.slice (.out i) o e n m) (r:=.slice i o e n m) [(i,.flat rw l)] [] [] L hL hd (by simp) rfl (by intro k b hk;simp at hk) (fun σ x hx=>by
    have hρ : backR h.loc.length [] L i = .out i:=by
      cases i with
      | out i=>rfl
      | loc k =>
        have hk : k < h.loc.length:=(List.getElem?_eq_some_iff.1 (show h.loc[k]? = some b0 from hb)).1
        simp [backR,hk]
    simp only [V.ren,hρ];exact hx) (outer:=outW h.lift i (.flat rw l)) rfl
  have he : (h.sets [(i,Blk.flat rw l)]).pushes [] = h.set i (.flat rw l):=by simp [Hp.sets,Hp.pushes]
  rw [he] at this
  exact this
theorem vc_CompactS (l : List Int) (c : Nat) (i : Vm.Id) (h : Hp) (hb : h.get i = some (.flat true (l.flatMap Vm.encI))) (h0 : 0 < l.length) (hc : l.length ≤ c) (hl : l.length ≤ 4000000) :
    VC Tryz.prog 62 [.slice i 0 1 l.length (some c)] h (.slice i 0 1 (cpI l).length (some c)) (h.set i (.flat true ((cpI l).flatMap Vm.encI))):=by
  refine VC.body Tryz.func62 rfl Tryz.ntmps62 Tryz.call62 (h.grows_set _ _) rfl ?_
  have hlift : h.lift i = some (.flat true (l.flatMap Vm.encI)):=get_out hb []
  have hn : h.get i ≠ none:=by rw [hb];simp
  have hself : h.set i (.flat true (l.flatMap Vm.encI)) = h:=Hp.set_self hb
  conv=>whnf
  repeat' (first|((first|refine zs1 ?_|refine zs2 ?_|refine zs3 ?_|refine zs4 ?_|refine zs5 ?_);conv=>whnf)|((first|apply zi1|apply zi2|apply zi3|apply zi4|apply zi5) <;> intro _ <;> conv=>whnf))
  · have h1 : l.length = 1:=by omega
    have e : cpI l = l:=by
      match l,h1 with
      | [a],_=>rfl
    rw [e,hself]
    exact VOut.same rfl
  refine VCode.lpC (outer:=h.lift) (marks:=[]) 99 (fun k : Nat=>[(0,.slice (.out i) 0 1 l.length (some c)),(3,I k)]) (fun k=>[]) (fun k=>1 ≤ k ∧ k ≤ l.length ∧ cpI (l.take k) = l.take k) (fun k=>l.length - k) 1 ⟨by omega,by omega,?_⟩ ?_ ?_
  · have:=cpI_one (List.getElem?_eq_getElem (show 0 < l.length by omega))
    rw [this,take_snoc (List.getElem?_eq_getElem (show 0 < l.length by omega)),List.take_zero];rfl
  · conv=>whnf
    refine Retell.turn ⟨[],9,[],[]⟩ (TurnOk.mk' _ _ [] [] (OutOk.lift _) rfl (by decide) zb trivial trivial rfl) zvL zm
  rintro k ⟨k1,k2,k3⟩
  rcases Nat.lt_or_ge k l.length with k4|k4
  · obtain ⟨p,rfl⟩ : ∃ p,k = p + 1:=⟨k - 1,by omega⟩
    have ha : l[p]? = some l[p]:=List.getElem?_eq_getElem (by omega)
    have hc2 : l[p + 1]? = some l[p + 1]:=List.getElem?_eq_getElem (by omega)
    generalize l[p] = a at ha
    generalize l[p + 1] = b at hc2
    by_cases hab : b = a
    · subst hab
      conv=>whnf
      repeat' (first|((first|refine zs1 ?_|refine zs2 ?_|refine zs3 ?_|refine zs4 ?_|refine zs5 ?_);conv=>whnf)|((first|apply zi1|apply zi2|apply zi3|apply zi4|apply zi5) <;> intro _ <;> conv=>whnf))
      all_goals try (exfalso;omega)
      refine zs6 [] ?_
      conv=>whnf
      repeat' (first|((first|refine zs1 ?_|refine zs2 ?_|refine zs3 ?_|refine zs4 ?_|refine zs5 ?_);conv=>whnf)|((first|apply zi1|apply zi2|apply zi3|apply zi4|apply zi5) <;> intro _ <;> first|(exfalso;omega)|contradiction|(conv=>whnf))|(refine VLd.recc encI_len (p + 1) 0 rfl rfl (get_out hb _) hc2 (by decide) rfl (by simp only [Nat.zero_add,Nat.mul_one];omega) ?_;conv=>whnf)|(refine VLd.recc encI_len p 0 rfl rfl (get_out hb _) ha (by decide) rfl (by simp only [Nat.zero_add,Nat.mul_one];omega) ?_;conv=>whnf))
      refine VCode.lpo (fun x : Nat × Nat × List Int=>[(0,.slice (.out i) 0 1 l.length (some c)),(3,I x.2.1),(4,.slice (.out i) (p + 1) 1 (l.length - (p + 1)) (some (c - (p + 1)))),(5,I x.1)]) (fun x=>outW h.lift i (.flat true (x.2.2.flatMap Vm.encI))) (fun _=>[]) (fun x=>1 ≤ x.1 ∧ CpJ l (p + 1 + x.1) x.2.1 x.2.2) (fun x=>l.length - x.1) (1,p + 1,l) ⟨Nat.le_refl 1,⟨rfl,Nat.le_add_left 1 p,Nat.le_refl _,by show p + 1 + 1 ≤ l.length;omega,?_,fun _ _=>rfl⟩⟩ (outW_id hlift) ?_ ?_
      · show l.take (p + 1) = cpI (l.take (p + 1 + 1))
        rw [show p + 1 + 1 = p + 2 from rfl,cpI_next ha hc2,if_pos rfl,k3]
      · conv=>whnf
        refine Retell.turn ⟨[],9,[],[]⟩ (TurnOk.mk' _ _ [] [] (OutOk.outW (OutOk.lift _) rfl) rfl (by decide) zb trivial trivial rfl) zvL zm
      · rintro ⟨d,m,l'⟩ ⟨d1,hj⟩
        dsimp only at d1 hj ⊢
        have j1:=hj.m1
        have j2:=hj.mj
        have j3:=hj.jl
        have j4:=hj.len
        rcases Nat.lt_or_ge (p + 1 + d) l.length with h3|h3
        · have hx : l[p + 1 + d]? = some l[p + 1 + d]:=List.getElem?_eq_getElem h3
          have hy : l[p + 1 + d - 1]? = some l[p + 1 + d - 1]:=List.getElem?_eq_getElem (by omega)
          generalize l[p + 1 + d] = x at hx
          generalize l[p + 1 + d - 1] = y at hy
          have hx' : l'[p + 1 + d]? = some x:=(hj.tl _ (by omega)).trans hx
          have hy' : l'[p + 1 + d - 1]? = some y:=(hj.tl _ (by omega)).trans hy
          have hm' : l'[m]? = some l'[m]:=List.getElem?_eq_getElem (by omega)
          generalize l'[m] = z at hm'
          by_cases hxy : x = y
          · subst hxy
            conv=>whnf
            repeat' (first|((first|refine zs1 ?_|refine zs2 ?_|refine zs3 ?_|refine zs4 ?_|refine zs5 ?_);conv=>whnf)|((first|apply zi1|apply zi2|apply zi3|apply zi4|apply zi5) <;> intro _ <;> conv=>whnf))
            all_goals try (exfalso;omega)
            refine zs6 [] ?_
            conv=>whnf
            repeat' (first|((first|refine zs1 ?_|refine zs2 ?_|refine zs3 ?_|refine zs4 ?_|refine zs5 ?_);conv=>whnf)|((first|apply zi1|apply zi2|apply zi3|apply zi4|apply zi5) <;> intro _ <;> first|(exfalso;omega)|contradiction|(conv=>whnf))|(refine VLd.recc encI_len (p + 1 + d) 0 rfl rfl (outW_get _ _ _ _) hx' (by decide) rfl (by simp only [Nat.zero_add,Nat.mul_one];omega) ?_;conv=>whnf)|(refine VLd.recc encI_len (p + 1 + d - 1) 0 rfl rfl (outW_get _ _ _ _) hy' (by decide) rfl (by simp only [Nat.zero_add,Nat.mul_one];omega) ?_;conv=>whnf))
            refine LEndO.intro (d + 1,m,l') ⟨by simp only;omega,hj.same (by omega) hy hx⟩ (by simp only;omega) rfl ?_
            conv=>whnf
            refine Retell.turn ⟨[],9,[],[]⟩ (TurnOk.mk' _ _ [] [] (OutOk.outW (OutOk.lift _) rfl) rfl (by decide) zb trivial trivial rfl) zvL zm
          · conv=>whnf
            repeat' (first|((first|refine zs1 ?_|refine zs2 ?_|refine zs3 ?_|refine zs4 ?_|refine zs5 ?_);conv=>whnf)|((first|apply zi1|apply zi2|apply zi3|apply zi4|apply zi5) <;> intro _ <;> conv=>whnf))
            all_goals try (exfalso;omega)
            refine zs6 [] ?_
            conv=>whnf
            repeat' (first|((first|refine zs1 ?_|refine zs2 ?_|refine zs3 ?_|refine zs4 ?_|refine zs5 ?_);conv=>whnf)|((first|apply zi1|apply zi2|apply zi3|apply zi4|apply zi5) <;> intro _ <;> first|(exfalso;omega)|contradiction|(conv=>whnf))|(refine VLd.recc encI_len (p + 1 + d) 0 rfl rfl (outW_get _ _ _ _) hx' (by decide) rfl (by simp only [Nat.zero_add,Nat.mul_one];omega) ?_;conv=>whnf)|(refine VLd.recc encI_len (p + 1 + d - 1) 0 rfl rfl (outW_get _ _ _ _) hy' (by decide) rfl (by simp only [Nat.zero_add,Nat.mul_one];omega) ?_;conv=>whnf)|(refine VMem.setRec encI_len m 0 x rfl rfl (outW_get _ _ _ _) hm' (by decide) rfl (by simp only [Nat.zero_add,Nat.mul_one];omega) ?_;conv=>whnf))
            refine LEndO.intro (d + 1,m + 1,l'.set m x) ⟨by simp only;omega,hj.write hy hx (fun e=>hxy e.symm)⟩ (by simp only;omega) (outW_same _ _ _ _) ?_
            conv=>whnf
            refine Retell.turn ⟨[],9,[],[]⟩ (TurnOk.mk' _ _ [] [] (OutOk.outW (OutOk.lift _) rfl) rfl (by decide) zb trivial trivial rfl) zvL zm
        · have hlen : p + 1 + d = l.length:=by omega
          have hd:=hj.hd
          rw [hlen,List.take_of_length_le (Nat.le_refl _)] at hd
          have hcl : (cpI l).length = m:=by rw [← hd,List.length_take];omega
          have hf : (l'.flatMap Vm.encI).length = l'.length:=by rw [flat_len encI_len,Nat.mul_one]
          have hcut : (l'.flatMap Vm.encI).take (0 + (m : Int).toNat * (0 + 1)) = (cpI l).flatMap Vm.encI:=by
            have e8 : 0 + (m : Int).toNat * (0 + 1) = m * 1:=by omega
            rw [e8,flat_takeD encI_len,hd]
          rw [hcl]
          conv=>whnf
          repeat' (first|((first|refine zs1 ?_|refine zs2 ?_|refine zs3 ?_|refine zs4 ?_|refine zs5 ?_);conv=>whnf)|((first|apply zi1|apply zi2|apply zi3|apply zi4|apply zi5) <;> intro _ <;> conv=>whnf))
          all_goals try (exfalso;omega)
          refine VMem.clearTail (esz:=1) rfl (outW_get _ _ _ _) ?_ ?_
          · rw [hf];simp only [Nat.zero_add,Nat.mul_one];omega
          rw [hcut]
          generalize cpI l = C at *
          conv=>whnf
          repeat' (first|((first|refine zs1 ?_|refine zs2 ?_|refine zs3 ?_|refine zs4 ?_|refine zs5 ?_);conv=>whnf)|((first|apply zi1|apply zi2|apply zi3|apply zi4|apply zi5) <;> intro _ <;> first|(exfalso;omega)|contradiction|(conv=>whnf)))
          have e7 : (0 : Nat) + (0 : Int).toNat * (0 + 1) = 0:=rfl
          have e6 : ((m : Int) - 0).toNat = m:=by omega
          refine (show VOut h ⟨outW (outW h.lift i (.flat true (l'.flatMap Vm.encI))) i (.flat true (C.flatMap Vm.encI)),[]⟩ _ _ _ from ?_)
          rw [outW_same]
          rw [e6]
          exact VOut.setSl (L:=0) rfl hb
    · conv=>whnf
      repeat' (first|((first|refine zs1 ?_|refine zs2 ?_|refine zs3 ?_|refine zs4 ?_|refine zs5 ?_);conv=>whnf)|((first|apply zi1|apply zi2|apply zi3|apply zi4|apply zi5) <;> intro _ <;> conv=>whnf))
      all_goals try (exfalso;omega)
      refine zs6 [] ?_
      conv=>whnf
      repeat' (first|((first|refine zs1 ?_|refine zs2 ?_|refine zs3 ?_|refine zs4 ?_|refine zs5 ?_);conv=>whnf)|((first|apply zi1|apply zi2|apply zi3|apply zi4|apply zi5) <;> intro _ <;> first|(exfalso;omega)|contradiction|(conv=>whnf))|(refine VLd.recc encI_len (p + 1) 0 rfl rfl (get_out hb _) hc2 (by decide) rfl (by simp only [Nat.zero_add,Nat.mul_one];omega) ?_;conv=>whnf)|(refine VLd.recc encI_len p 0 rfl rfl (get_out hb _) ha (by decide) rfl (by simp only [Nat.zero_add,Nat.mul_one];omega) ?_;conv=>whnf))
      refine LEnd.intro (p + 1 + 1) ⟨by omega,by omega,?_⟩ (by omega) ?_
      · rw [show p + 1 + 1 = p + 2 from rfl,cpI_next ha hc2,if_neg (fun e=>hab e.symm),k3,← take_snoc hc2]
      · conv=>whnf
        refine Retell.turn ⟨[],9,[],[]⟩ (TurnOk.mk' _ _ [] [] (OutOk.lift _) rfl (by decide) zb trivial trivial rfl) zvL zm
  · obtain rfl : k = l.length:=by omega
    rw [List.take_of_length_le (Nat.le_refl _)] at k3
    rw [k3,hself]
    conv=>whnf
    repeat' (first|((first|refine zs1 ?_|refine zs2 ?_|refine zs3 ?_|refine zs4 ?_|refine zs5 ?_);conv=>whnf)|((first|apply zi1|apply zi2|apply zi3|apply zi4|apply zi5) <;> intro _ <;> first|(exfalso;omega)|contradiction|(conv=>whnf)))
    exact VOut.same rfl
end Go.Proofs.YtkbbfeljlepgoaaGreat

open Go.Vm
open Riv
namespace Go.Proofs.YtkbbfeljlepgoaaGreat
set_option maxRecDepth 20000
set_option maxHeartbeats 4000000

theorem vc_Compact (l : List Int) (i : Vm.Id) (h : Hp) (hb : h.get i = some (.flat true (l.flatMap Vm.encI))) (h0 : 0 < l.length) (hl : l.length ≤ 4000000) :
    VC Tryz.prog 62 [.gl i 1 l.length] h (.gl i 1 (cpI l).length) (h.set i (.flat true ((cpI l).flatMap Vm.encI))) :=
  VC.glSl h0 (by rw [hb];simp) fun c hc=>vc_CompactS l c i h hb h0 hc hl
theorem cpS_eq (acc : List Int) (a b : Int) : cpS (acc ++ [a]) b = if a = b then acc ++ [a] else acc ++ [a] ++ [b]:=by
  unfold cpS
  rw [List.getLast?_append,show ([a].getLast?.or acc.getLast?) = some a from rfl]
  by_cases h : a = b
  · rw [if_pos h,if_pos (by rw [h])]
  · rw [if_neg h,if_neg (fun e=>h (by cases e;rfl))]
theorem cpI_go : ∀ (l : List Int) (a : Int) (acc : List Int),l.foldl cpS (acc ++ [a]) = acc ++ cmpI (a :: l)
  | [],_,_=>rfl
  | b :: l,a,acc=>by
    rw [List.foldl_cons,cmpI,cpS_eq]
    by_cases h : a = b
    · subst h
      rw [if_pos rfl,if_pos rfl]
      exact cpI_go l a acc
    · rw [if_neg h,if_neg h,cpI_go l b (acc ++ [a]),List.append_assoc];rfl
theorem cpI_eq (l : List Int) : cpI l = cmpI l:=by
  cases l with
  | nil=>rfl
  | cons a l=>exact cpI_go l a []
theorem cmpI_ne {l : List Int} (h : l ≠ []) : cmpI l ≠ []:=by
  obtain ⟨a,m,rfl⟩:=List.exists_cons_of_ne_nil h
  intro e
  have:=(cmpI_mem (a :: m) a).2 List.mem_cons_self
  rw [e] at this;cases this
def sgS (p : Int → Bool) (C : List Int) (out : List Spn) (i : Nat) : List Spn:=bif p (at0 C i) then addB out (at0 C i) (at0 C (i + 1) - 1) else out
def sgK (p : Int → Bool) (C : List Int) (k : Nat) : List Spn:=(List.range k).foldl (sgS p C) []
theorem sgK_step (p : Int → Bool) (C : List Int) (k : Nat) : sgK p C (k + 1) = sgS p C (sgK p C k) k:=by unfold sgK;rw [List.range_succ,List.foldl_append];rfl
theorem pgo_sg (p : Int → Bool) : ∀ (C : List Int) (out : List Spn),pgo p C out = (List.range (C.length - 1)).foldl (sgS p C) out
  | [],_=>rfl
  | [_],_=>rfl
  | a :: b :: l,out=>by
    rw [pgo,pgo_sg p (b :: l),show (a :: b :: l).length - 1 = ((b :: l).length - 1) + 1 from rfl,List.range_succ_eq_map,List.foldl_cons,List.foldl_map]
    rfl
theorem addB_len (out : List Spn) (a b : Int) : (addB out a b).length ≤ out.length + 1:=by
  unfold addB setHi
  split
  · cases h : out.getLast? with
    | none=>simp
    | some x=>simp
  · simp
theorem sgK_len (p : Int → Bool) (C : List Int) : ∀ k,(sgK p C k).length ≤ k
  | 0=>Nat.le_refl _
  | k + 1=>by
    have:=sgK_len p C k
    rw [sgK_step]
    unfold sgS
    cases p (at0 C k) with
    | true=>have:=addB_len (sgK p C k) (at0 C k) (at0 C (k + 1) - 1);simp only [cond_true];omega
    | false=>simp only [cond_false];omega
def szY (W : Nat) (l : List Mp) (y : Nat) : List Int:=(chg (l.getD y mp0).c (l.getD (y + 1) mp0).c W).map fun c=>(c.length : Int)
def szK (W : Nat) (l : List Mp) (k : Nat) : List Int:=0 :: 145 :: (List.range k).flatMap (szY W l)
theorem szK_step (W : Nat) (l : List Mp) (k : Nat) : szK W l (k + 1) = szK W l k ++ szY W l k:=by
  unfold szK;rw [List.range_succ,List.flatMap_append,List.flatMap_singleton];rfl
theorem szK_all {W : Nat} {l : List Mp} : szK W l (l.length - 1) = 0 :: 145 :: sizes W (cellsY l):=by
  unfold szK sizes
  rw [cellsY_len]
  have e : ∀ y ∈ List.range (l.length - 1),szY W l y = (chg ((cellsY l).getD y []) ((cellsY l).getD (y + 1) []) W).map fun c=>(c.length : Int):=fun y hy=>by
    rw [List.mem_range] at hy
    unfold szY
    rw [cellsY_at (by omega),cellsY_at (by omega)]
  congr 2
  rw [List.flatMap_def,List.flatMap_def,List.map_congr_left e]
def stI (W : Nat) (l : List Mp) : List Int:=(0 :: 145 :: sizes W (cellsY l)).mergeSort fun x y=>decide (x ≤ y)
def slE (l : List Mp) (cell owner : Int) : Int:=if chkY l = 0 then (if 0 ≤ cell ∧ cell ≤ (((l.getD 0 mp0).c.length : Nat) : Int) - 1 then (if 0 ≤ owner ∧ owner ≤ 3 then 0 else 4) else 2) else chkY l
def slL (l : List Mp) (cell owner : Int) : List Spn:=if slE l cell owner = 0 then pgo (slP (wOf l) (cellsY l) cell.toNat owner) (cmpI (stI (wOf l) l)) [] else []
theorem stI_bd {W H : Nat} {l : List Mp} (o : YOk W H l) {x : Int} (hx : x ∈ cmpI (stI W l)) : 0 ≤ x ∧ x ≤ 145:=by
  rw [cmpI_mem] at hx
  unfold stI at hx
  rw [(List.mergeSort_perm _ _).mem_iff] at hx
  rcases List.mem_cons.1 hx with rfl|hx
  · omega
  rcases List.mem_cons.1 hx with rfl|hx
  · omega
  have h1:=sizes_bd o.yrs hx
  have h2:=(o.get (y:=0) (by have:=o.n;omega)).2.2.2
  have h3:=MOk.le h2
  rw [h2.len] at h3
  omega
theorem szY_len {W H : Nat} {l : List Mp} (o : YOk W H l) {y : Nat} (hy : y + 1 < l.length) : (szY W l y).length ≤ 144:=by
  obtain ⟨_,_,_,h2⟩:=o.get (y:=y) (by omega)
  have h3:=MOk.le h2
  have:=chg_cnt (a:=(l.getD y mp0).c) (b:=(l.getD (y + 1) mp0).c) (by have:=h2.w;omega) h2.len
  unfold szY
  rw [List.length_map];omega
theorem szK_len {W H : Nat} {l : List Mp} (o : YOk W H l) : ∀ k,k + 1 ≤ l.length → (szK W l k).length ≤ 2 + 144 * k
  | 0,_=>Nat.le_refl _
  | k + 1,h=>by
    have h1:=szK_len o k (by omega)
    have h2:=szY_len o (y:=k) (by omega)
    rw [szK_step,List.length_append];omega
end Go.Proofs.YtkbbfeljlepgoaaGreat

open Go.Vm
open Riv
namespace Go.Proofs.YtkbbfeljlepgoaaGreat
set_option maxRecDepth 20000
set_option maxHeartbeats 4000000

theorem ofs1 (i : Nat) : ((i : Int) + 1).toNat * (0 + 1) = (i + 1) * 1 + 0:=by
  have : ((i : Int) + 1).toNat = i + 1:=by omega
  rw [this];simp
theorem ofz (n : Nat) : (((n + 1 : Nat) : Int) - 1).toNat * (1 + 1) + 1 = n * 2 + 1:=by
  have : (((n + 1 : Nat) : Int) - 1).toNat = n:=by omega
  rw [this]
theorem vc_Slows (l : List Mp) (cell owner : Int) (h : Hp) (hl : l.length ≤ 4000000) (hc : ∀ m ∈ l,m.c.length ≤ 4000000) : VC Tryz.prog 22 [yrs l,I cell,I owner] h (.tuple [spans (slL l cell owner),I (slE l cell owner)]) h:=by
  have c:=fun h=>vc_CheckYears l h hl hc
  obtain ⟨E,hE⟩ : ∃ E,E = slE l cell owner:=⟨_,rfl⟩
  obtain ⟨R,hR⟩ : ∃ R,R = slL l cell owner:=⟨_,rfl⟩
  rw [← hE,← hR]
  unfold slL at hR
  rw [← hE] at hR
  unfold slE at hE
  by_cases h0 : chkY l = 0
  · obtain ⟨W,H,o⟩:=chkY_YOk h0
    have hn:=o.n
    rw [if_pos h0] at hE
    rw [h0] at c
    obtain ⟨ha,haw,hah,hao⟩:=o.get (y:=0) (by omega)
    have hal:=MOk.le hao
    have cC:=fun h=>vc_cell (l.getD 0 mp0) cell h (by omega)
    by_cases h1 : 0 ≤ cell ∧ cell ≤ ((l.getD 0 mp0).c.length : Int) - 1
    · rw [if_pos h1] at hE
      by_cases h2 : 0 ≤ owner ∧ owner ≤ 3
      · rw [if_pos h2] at hE
        subst hE
        rw [if_pos rfl,wOf_ok o] at hR
        obtain ⟨cn,rfl⟩ : ∃ n : Nat,cell = n:=⟨cell.toNat,by omega⟩
        rw [Int.toNat_natCast] at hR
        have hcn : ∀ s y,y < l.length → cn < (owns ((lawY W l s).getD y mp0).c W).length:=fun s y hy=>by
          rw [owns_len,(o.law s hy).2.2.2.1.len]
          have:=hao.len;omega
        have hchg:=fun y (hy : y + 1 < l.length) h=>vc_changes (l.getD y mp0) (l.getD (y + 1) mp0) h (o.get (y:=y) (by omega)).2.2.2 (o.get (y:=y) (by omega)).2.1 (by rw [(o.get (y:=y) (by omega)).2.2.2.len,(o.get (y:=y + 1) (by omega)).2.2.2.len])
        have hget:=fun y (hy : y < l.length)=>(o.get (y:=y) hy).1
        have hszl:=fun k hk=>szK_len o k hk
        have hszs:=szK_step W l
        have hsz0 : szK W l 0 = [0,145]:=rfl
        have hsY : ∀ y,szY W l y = (chg (l.getD y mp0).c (l.getD (y + 1) mp0).c W).map fun c=>(c.length : Int):=fun y=>rfl
        have hsYl:=fun y hy=>szY_len o (y:=y) hy
        have hcsl : ∀ y,y + 1 < l.length → ∀ cs ∈ chg (l.getD y mp0).c (l.getD (y + 1) mp0).c W,cs.length ≤ 144:=fun y hy cs hcs=>by
          obtain ⟨_,_,_,g2⟩:=o.get (y:=y) (by omega)
          have g3:=MOk.le g2
          have:=(chg_mem (by have:=g2.w;omega) g2.len (by omega) hcs).2.2.1
          omega
        have hlast:=szK_all (W:=W) (l:=l)
        have hlaw:=fun s=>vc_law l s (W:=W) (H:=H)
        generalize l.getD 0 mp0 = am at *
        obtain ⟨aw,ah,ac⟩:=am
        dsimp only at *
        refine VC.bodyC 4 Tryz.func22 rfl Tryz.ntmps22 Tryz.call22 (h.grows_refl) rfl ?_
        conv=>whnf
        repeat' (first|((first|refine zs1 ?_|refine zs2 ?_|refine zs3 ?_|refine zs4 ?_|refine zs5 ?_);conv=>whnf)|((first|apply zi1|apply zi2|apply zi3|apply zi4|apply zi5) <;> intro _ <;> conv=>whnf)|(refine VCall.intro (c _) ?_;conv=>whnf)|(refine VAny.ix encM_len 0 rfl rfl ha ?_;conv=>whnf)|(refine VCall.intro (cC _) ?_;conv=>whnf)|(refine VCall.intro (vc_from _ _ _ _) ?_;conv=>whnf))
        all_goals try (exfalso;omega)
        refine VCut.at' (outer:=h.lift) (marks:=[]) 99 [(0,yrs l),(1,I cn),(2,I owner),(9,.gl (.loc 0) 1 2)] [.flat true ((szK W l 0).flatMap Vm.encI)] ?_ ?_
        · conv=>whnf
          refine Retell.turn ⟨[0],9,[],[]⟩ (TurnOk.mk' _ _ [] [] (OutOk.lift _) rfl (by decide) zb trivial trivial rfl) zw zm
        conv=>whnf
        repeat' (first|((first|refine zs1 ?_|refine zs2 ?_|refine zs3 ?_|refine zs4 ?_|refine zs5 ?_);conv=>whnf)|((first|apply zi1|apply zi2|apply zi3|apply zi4|apply zi5) <;> intro _ <;> conv=>whnf))
        refine VCode.lpC (outer:=h.lift) (marks:=[]) 99 (fun y : Nat=>[(0,yrs l),(1,I cn),(2,I owner),(9,.gl (.loc 0) 1 (szK W l y).length),(10,I (y + 1 : Nat))]) (fun y=>[.flat true ((szK W l y).flatMap Vm.encI)]) (fun y=>y + 1 ≤ l.length) (fun y=>l.length - y) 0 (by omega) ?_ ?_
        · rw [hsz0]
          conv=>whnf
          refine Retell.turn ⟨[0],9,[],[]⟩ (TurnOk.mk' _ _ [] [] (OutOk.lift _) rfl (by decide) zb trivial trivial rfl) zw zm
        rintro y hy
        rcases Nat.lt_or_ge (y + 1) l.length with h3|h3
        · have ga:=hget y (by omega)
          have gb:=hget (y + 1) h3
          have cH:=hchg y h3
          have hszl:=hszl y (by omega)
          have hszs:=hszs y
          have hY:=hsY y
          have hcsl:=hcsl y h3
          generalize l.getD y mp0 = am at *
          generalize l.getD (y + 1) mp0 = bm at *
          obtain ⟨aw',ah',ac'⟩:=am
          obtain ⟨bw',bh',bc'⟩:=bm
          dsimp only at *
          generalize chg ac' bc' W = R' at *
          have hYl : (szY W l y).length = R'.length:=by rw [hY,List.length_map]
          have hYle:=hsYl y h3
          have hYa : ∀ i cs,R'[i]? = some cs → (szY W l y).take (i + 1) = (szY W l y).take i ++ [(cs.length : Int)]:=fun i cs hi=>by
            rw [List.take_add_one,hY,List.getElem?_map,hi];rfl
          clear hY
          generalize szY W l y = Y at *
          generalize szK W l y = S at *
          conv=>whnf
          repeat' (first|((first|refine zs1 ?_|refine zs2 ?_|refine zs3 ?_|refine zs4 ?_|refine zs5 ?_);conv=>whnf)|((first|apply zi1|apply zi2|apply zi3|apply zi4|apply zi5) <;> intro _ <;> conv=>whnf))
          all_goals try (exfalso;omega)
          refine zs6 [] ?_
          conv=>whnf
          repeat' (first|((first|refine zs1 ?_|refine zs2 ?_|refine zs3 ?_|refine zs4 ?_|refine zs5 ?_);conv=>whnf)|((first|apply zi1|apply zi2|apply zi3|apply zi4|apply zi5) <;> intro _ <;> conv=>whnf)|(refine VAny.ix encM_len y (by omega) rfl ga ?_;conv=>whnf)|(refine VAny.ix encM_len (y + 1) rfl rfl gb ?_;conv=>whnf)|(refine VCall.intro (cH _) ?_;conv=>whnf))
          refine VCode.lpC (outer:=h.lift) (marks:=[]) 99 (fun i : Nat=>[(0,yrs l),(1,I cn),(2,I owner),(9,.gl (.loc 0) 1 (S ++ Y.take i).length),(10,I (y + 1 : Nat)),(51,intss (natLL R')),(52,I R'.length),(53,I i)]) (fun i=>[.flat true ((S ++ Y.take i).flatMap Vm.encI)]) (fun i=>i ≤ R'.length) (fun i=>R'.length - i) 0 (Nat.zero_le _) ?_ ?_
          · have hl0 : (natLL R').length = R'.length:=by unfold natLL;rw [List.length_map]
            rw [List.take_zero,List.append_nil,← hl0]
            conv=>whnf
            refine Retell.turn ⟨[0],9,[],[]⟩ (TurnOk.mk' _ _ [] [] (OutOk.lift _) rfl (by decide) zb trivial trivial rfl) zw zm
          rintro i hi
          rcases Nat.lt_or_ge i R'.length with h4|h4
          · obtain ⟨cs,hlk⟩ : ∃ cs,R'[i]? = some cs:=⟨_,List.getElem?_eq_getElem h4⟩
            have hnk : (natLL R')[i]? = some (natI cs):=by unfold natLL;rw [List.getElem?_map,hlk];rfl
            have hnl:=natI_len cs
            have hYa:=hYa i cs hlk
            have hti : (Y.take i).length = i:=by rw [List.length_take];omega
            have hcs:=hcsl cs (List.mem_of_getElem? hlk)
            rw [← hnl] at hYa
            generalize natI cs = nl at *
            have hSl : (S ++ Y.take i).length = S.length + i:=by rw [List.length_append,hti]
            have hSn : S ++ Y.take (i + 1) = (S ++ Y.take i) ++ [(nl.length : Int)]:=by rw [hYa,List.append_assoc]
            generalize S ++ Y.take i = T at *
            conv=>whnf
            repeat' (first|((first|refine zs1 ?_|refine zs2 ?_|refine zs3 ?_|refine zs4 ?_|refine zs5 ?_);conv=>whnf)|((first|apply zi1|apply zi2|apply zi3|apply zi4|apply zi5) <;> intro _ <;> first|(exfalso;omega)|contradiction|(conv=>whnf))|(refine VAny.ix encL_len i (by omega) (by omega) hnk ?_;conv=>whnf))
            refine VMem.app1 (l:=T) (nl.length : Int) Vm.encI_len rfl rfl rfl rfl rfl (by omega) ?_
            conv=>whnf
            repeat' (first|((first|refine zs1 ?_|refine zs2 ?_|refine zs3 ?_|refine zs4 ?_|refine zs5 ?_);conv=>whnf)|((first|apply zi1|apply zi2|apply zi3|apply zi4|apply zi5) <;> intro _ <;> first|(exfalso;omega)|contradiction|(conv=>whnf)))
            refine LEnd.intro (i + 1) (by omega) (by omega) ?_
            have hTn : T.length + 1 = (T ++ [(nl.length : Int)]).length:=by rw [List.length_append];rfl
            rw [hSn,hTn]
            conv=>whnf
            refine Retell.turn ⟨[2],9,[],[]⟩ (TurnOk.mk' _ _ [] [] (OutOk.lift _) rfl (by decide) zb trivial trivial rfl) zw zm
          · obtain rfl : i = R'.length:=by omega
            rw [← hYl,List.take_length,← hszs]
            conv=>whnf
            repeat' (first|((first|refine zs1 ?_|refine zs2 ?_|refine zs3 ?_|refine zs4 ?_|refine zs5 ?_);conv=>whnf)|((first|apply zi1|apply zi2|apply zi3|apply zi4|apply zi5) <;> intro _ <;> first|(exfalso;omega)|contradiction|(conv=>whnf)))
            refine LEnd.intro (y + 1) (by omega) (by omega) ?_
            conv=>whnf
            refine Retell.turn ⟨[0],9,[],[]⟩ (TurnOk.mk' _ _ [] [] (OutOk.lift _) rfl (by decide) zb trivial trivial rfl) zw zm
        · have hye : y = l.length - 1:=by omega
          subst hye
          have hTl : (stI W l).length = (szK W l (l.length - 1)).length:=by rw [hlast];unfold stI;rw [List.length_mergeSort]
          have hSle:=hszl (l.length - 1) (by omega)
          have hSpos : 0 < (szK W l (l.length - 1)).length:=by rw [hlast];simp
          have cS:=fun hh hb=>vc_Sort (szK W l (l.length - 1)).length (szK W l (l.length - 1)) (.loc 0) hh hb (Nat.le_refl _) hSpos (by omega) (stI W l) (by unfold Go.Vm.srtI stI;rw [List.take_length,hlast];exact List.prefix_append _ _)
          have hCb:=fun x hx=>stI_bd o (x:=x) hx
          have hCn : cmpI (stI W l) ≠ []:=cmpI_ne (fun e=>by rw [e] at hTl;simp at hTl;omega)
          have hCl:=cpI_len (stI W l)
          have hCe:=cpI_eq (stI W l)
          have cK:=fun hh hb=>vc_Compact (stI W l) (.loc 0) hh hb (by omega) (by omega)
          rw [hTl] at cK
          rw [← hCe] at hCb hCn hR
          rw [pgo_sg] at hR
          clear hlast hCe
          generalize szK W l (l.length - 1) = S at *
          generalize stI W l = T at *
          generalize cpI T = C at *
          obtain ⟨m,hm⟩ : ∃ m,C.length = m + 1:=⟨C.length - 1,by have:=List.length_pos_iff.2 hCn;omega⟩
          rw [hm,Nat.add_sub_cancel] at hR
          rw [hm] at cK
          conv=>whnf
          repeat' (first|((first|refine zs1 ?_|refine zs2 ?_|refine zs3 ?_|refine zs4 ?_|refine zs5 ?_);conv=>whnf)|((first|apply zi1|apply zi2|apply zi3|apply zi4|apply zi5) <;> intro _ <;> first|(exfalso;omega)|contradiction|(conv=>whnf)))
          refine VCall.intro (cS _ rfl) ?_
          conv=>whnf
          repeat' (first|((first|refine zs1 ?_|refine zs2 ?_|refine zs3 ?_|refine zs4 ?_|refine zs5 ?_);conv=>whnf)|((first|apply zi1|apply zi2|apply zi3|apply zi4|apply zi5) <;> intro _ <;> first|(exfalso;omega)|contradiction|(conv=>whnf)))
          refine VCall.intro (cK _ rfl) ?_
          conv=>whnf
          repeat' (first|((first|refine zs1 ?_|refine zs2 ?_|refine zs3 ?_|refine zs4 ?_|refine zs5 ?_);conv=>whnf)|((first|apply zi1|apply zi2|apply zi3|apply zi4|apply zi5) <;> intro _ <;> first|(exfalso;omega)|contradiction|(conv=>whnf)))
          refine VAny.intro (v:=.gl (.loc 0) 1 m) ⟨by omega,m,by omega,.inl ⟨rfl,rfl⟩⟩ ?_
          conv=>whnf
          repeat' (first|((first|refine zs1 ?_|refine zs2 ?_|refine zs3 ?_|refine zs4 ?_|refine zs5 ?_);conv=>whnf)|((first|apply zi1|apply zi2|apply zi3|apply zi4|apply zi5) <;> intro _ <;> first|(exfalso;omega)|contradiction|(conv=>whnf)))
          have hLw:=fun s=>o.law s (y:=l.length - 1) (by omega)
          have hpx : ∀ s,slP W (cellsY l) cn owner s = decide (at0 (owns ((lawY W l s).getD (l.length - 1) mp0).c W) cn = owner):=fun s=>by
            unfold slP
            rw [(hLw s).2.2.2.2,cellsY_len]
          generalize slP W (cellsY l) cn owner = p at *
          have hlY:=lawY_len W l
          have hst:=sgK_step p C
          have hRe : R = sgK p C m:=hR
          have hol:=sgK_len p C
          have hs0 : sgK p C 0 = []:=rfl
          have hmle : m ≤ 4000:=by omega
          clear hR hchg hcsl cS cK c cC hszl hszs hsz0 hsY hsYl hTl hSle hSpos
          refine VCode.lpC (outer:=h.lift) (marks:=[]) 99 (fun i : Nat=>[(0,yrs l),(1,I cn),(2,I owner),(9,.gl (.loc 0) 1 (m + 1)),(13,.gl (.loc 1) 2 (sgK p C i).length),(71,.gl (.loc 0) 1 m),(72,I m),(73,I i)]) (fun i=>[.flat true (C.flatMap Vm.encI),.flat true ((sgK p C i).flatMap encS)]) (fun i=>i ≤ m) (fun i=>m - i) 0 (Nat.zero_le _) ?_ ?_
          · rw [hs0]
            conv=>whnf
            refine Retell.turn ⟨[0,1],1,[],[]⟩ (TurnOk.mk' _ _ [] [] (OutOk.lift _) rfl (by decide) zb trivial trivial rfl) zw zm
          rintro i hi
          rcases Nat.lt_or_ge i m with h4|h4
          · have xa:=at0_get (l:=C) (n:=i) (by omega)
            have xb:=at0_get (l:=C) (n:=i + 1) (by omega)
            have ba:=hCb _ (List.mem_of_getElem? xa)
            have bb:=hCb _ (List.mem_of_getElem? xb)
            have hst:=hst i
            unfold sgS at hst
            generalize at0 C i = a at *
            generalize at0 C (i + 1) = b at *
            have hpx:=hpx a
            rw [hpx] at hst
            have cL:=fun h=>hlaw a h o
            obtain ⟨g1,g2,g3,g4,_⟩:=hLw a
            have hcn:=hcn a (l.length - 1) (by omega)
            have hlY:=hlY a
            generalize lawY W l a = Y at *
            have cO:=fun h=>vc_owners (Y.getD (l.length - 1) mp0) h g4 g2
            have hx:=at0_get hcn
            generalize Y.getD (l.length - 1) mp0 = ym at *
            generalize owns ym.c W = O at *
            generalize at0 O cn = x at *
            obtain ⟨yw,yh,yc⟩:=ym
            have hol:=hol i
            generalize sgK p C i = out at *
            dsimp only at *
            by_cases hxo : x = owner
            · rw [decide_eq_true hxo,cond_true] at hst
              unfold addB at hst
              rcases Nat.eq_zero_or_pos out.length with h5|h5
              · have h6 : out = []:=List.eq_nil_of_length_eq_zero h5
                have h7 : lastHi out = none:=by rw [h6];rfl
                rw [h7,if_neg (by simp)] at hst
                conv=>whnf
                repeat' (first|((first|refine zs1 ?_|refine zs2 ?_|refine zs3 ?_|refine zs4 ?_|refine zs5 ?_);conv=>whnf)|((first|apply zi1|apply zi2|apply zi3|apply zi4|apply zi5) <;> intro _ <;> first|(exfalso;omega)|contradiction|(conv=>whnf))|(refine VLd.recc encI_len i 0 rfl rfl rfl xa (by decide) rfl (ofs _) ?_;conv=>whnf)|(refine VLd.recc encI_len (i + 1) 0 rfl rfl rfl xb (by decide) rfl (ofs1 _) ?_;conv=>whnf)|(refine VCall.intro (cL _) ?_;conv=>whnf)|(refine VAny.ix encM_len (l.length - 1) (by omega) rfl g1 ?_;conv=>whnf)|(refine VCall.intro (cO _) ?_;conv=>whnf)|(refine VAny.ix encI_len cn rfl rfl hx ?_;conv=>whnf))
                refine VMem.app1 (l:=out) (⟨a,b - 1⟩ : Spn) encS_len rfl rfl rfl rfl rfl (by omega) ?_
                conv=>whnf
                repeat' (first|((first|refine zs1 ?_|refine zs2 ?_|refine zs3 ?_|refine zs4 ?_|refine zs5 ?_);conv=>whnf)|((first|apply zi1|apply zi2|apply zi3|apply zi4|apply zi5) <;> intro _ <;> first|(exfalso;omega)|contradiction|(conv=>whnf)))
                refine LEnd.intro (i + 1) (by omega) (by omega) ?_
                have hn : out.length + 1 = (out ++ [(⟨a,b - 1⟩ : Spn)]).length:=by rw [List.length_append];rfl
                rw [hst,hn]
                conv=>whnf
                refine Retell.turn ⟨[0,3],9,[],[]⟩ (TurnOk.mk' _ _ [] [] (OutOk.lift _) rfl (by decide) zb trivial trivial rfl) zw zm
              · obtain ⟨n,h6⟩ : ∃ n,out.length = n + 1:=⟨out.length - 1,by omega⟩
                obtain ⟨z,hz⟩ : ∃ z,out[n]? = some z:=⟨_,List.getElem?_eq_getElem (by omega)⟩
                have h8 : out.getLast? = some z:=by rw [List.getLast?_eq_getElem?,h6];exact hz
                have h7 : lastHi out = some z.hi:=by unfold lastHi;rw [h8];rfl
                have h9 : setHi out (b - 1) = out.set n ⟨z.lo,b - 1⟩:=by
                  obtain ⟨q,hq⟩ : ∃ q,out = q ++ [z]:=by
                    obtain ⟨q,hq⟩:=List.getLast?_eq_some_iff.1 h8
                    exact ⟨q,hq⟩
                  have hql : q.length = n:=by rw [hq,List.length_append] at h6;simpa using h6
                  rw [hq,setHi_app,List.set_append_right _ _ (by omega),hql,Nat.sub_self];rfl
                rw [h7,h9] at hst
                by_cases hza : z.hi = a - 1
                · rw [if_pos (by rw [hza])] at hst
                  rw [h6]
                  conv=>whnf
                  repeat' (first|((first|refine zs1 ?_|refine zs2 ?_|refine zs3 ?_|refine zs4 ?_|refine zs5 ?_);conv=>whnf)|((first|apply zi1|apply zi2|apply zi3|apply zi4|apply zi5) <;> intro _ <;> first|(exfalso;omega)|contradiction|(conv=>whnf))|(refine VLd.recc encI_len i 0 rfl rfl rfl xa (by decide) rfl (ofs _) ?_;conv=>whnf)|(refine VLd.recc encI_len (i + 1) 0 rfl rfl rfl xb (by decide) rfl (ofs1 _) ?_;conv=>whnf)|(refine VCall.intro (cL _) ?_;conv=>whnf)|(refine VAny.ix encM_len (l.length - 1) (by omega) rfl g1 ?_;conv=>whnf)|(refine VCall.intro (cO _) ?_;conv=>whnf)|(refine VAny.ix encI_len cn rfl rfl hx ?_;conv=>whnf)|(refine VLd.recc (d:=DI z.hi) encS_len n 1 rfl rfl rfl hz (by decide) rfl (ofz _) ?_;conv=>whnf)|(refine VMem.setRec encS_len n 1 ⟨z.lo,b - 1⟩ rfl rfl rfl hz (by decide) rfl (ofz _) ?_;conv=>whnf))
                  refine LEnd.intro (i + 1) (by omega) (by omega) ?_
                  have hn : n + 1 = (out.set n (⟨z.lo,b - 1⟩ : Spn)).length:=by rw [List.length_set,h6]
                  rw [hst,hn]
                  conv=>whnf
                  refine Retell.turn ⟨[0,1],9,[],[]⟩ (TurnOk.mk' _ _ [] [] (OutOk.lift _) rfl (by decide) zb trivial trivial rfl) zw zm
                · rw [if_neg (fun e=>hza (by simpa using e))] at hst
                  rw [h6]
                  conv=>whnf
                  repeat' (first|((first|refine zs1 ?_|refine zs2 ?_|refine zs3 ?_|refine zs4 ?_|refine zs5 ?_);conv=>whnf)|((first|apply zi1|apply zi2|apply zi3|apply zi4|apply zi5) <;> intro _ <;> first|(exfalso;omega)|contradiction|(conv=>whnf))|(refine VLd.recc encI_len i 0 rfl rfl rfl xa (by decide) rfl (ofs _) ?_;conv=>whnf)|(refine VLd.recc encI_len (i + 1) 0 rfl rfl rfl xb (by decide) rfl (ofs1 _) ?_;conv=>whnf)|(refine VCall.intro (cL _) ?_;conv=>whnf)|(refine VAny.ix encM_len (l.length - 1) (by omega) rfl g1 ?_;conv=>whnf)|(refine VCall.intro (cO _) ?_;conv=>whnf)|(refine VAny.ix encI_len cn rfl rfl hx ?_;conv=>whnf)|(refine VLd.recc (d:=DI z.hi) encS_len n 1 rfl rfl rfl hz (by decide) rfl (ofz _) ?_;conv=>whnf)|(refine VMem.setRec encS_len n 1 ⟨z.lo,b - 1⟩ rfl rfl rfl hz (by decide) rfl (ofz _) ?_;conv=>whnf))
                  refine VMem.app1 (l:=out) (⟨a,b - 1⟩ : Spn) encS_len rfl rfl rfl h6.symm rfl (by omega) ?_
                  conv=>whnf
                  repeat' (first|((first|refine zs1 ?_|refine zs2 ?_|refine zs3 ?_|refine zs4 ?_|refine zs5 ?_);conv=>whnf)|((first|apply zi1|apply zi2|apply zi3|apply zi4|apply zi5) <;> intro _ <;> first|(exfalso;omega)|contradiction|(conv=>whnf)))
                  refine LEnd.intro (i + 1) (by omega) (by omega) ?_
                  have hn : n + 1 + 1 = (out ++ [(⟨a,b - 1⟩ : Spn)]).length:=by rw [List.length_append,h6];rfl
                  rw [hst,hn]
                  conv=>whnf
                  refine Retell.turn ⟨[0,3],9,[],[]⟩ (TurnOk.mk' _ _ [] [] (OutOk.lift _) rfl (by decide) zb trivial trivial rfl) zw zm
            · rw [decide_eq_false hxo,cond_false] at hst
              conv=>whnf
              repeat' (first|((first|refine zs1 ?_|refine zs2 ?_|refine zs3 ?_|refine zs4 ?_|refine zs5 ?_);conv=>whnf)|((first|apply zi1|apply zi2|apply zi3|apply zi4|apply zi5) <;> intro _ <;> first|(exfalso;omega)|contradiction|(conv=>whnf))|(refine VLd.recc encI_len i 0 rfl rfl rfl xa (by decide) rfl (ofs _) ?_;conv=>whnf)|(refine VLd.recc encI_len (i + 1) 0 rfl rfl rfl xb (by decide) rfl (ofs1 _) ?_;conv=>whnf)|(refine VCall.intro (cL _) ?_;conv=>whnf)|(refine VAny.ix encM_len (l.length - 1) (by omega) rfl g1 ?_;conv=>whnf)|(refine VCall.intro (cO _) ?_;conv=>whnf)|(refine VAny.ix encI_len cn rfl rfl hx ?_;conv=>whnf))
              refine LEnd.intro (i + 1) (by omega) (by omega) ?_
              rw [hst]
              conv=>whnf
              refine Retell.turn ⟨[0,1],9,[],[]⟩ (TurnOk.mk' _ _ [] [] (OutOk.lift _) rfl (by decide) zb trivial trivial rfl) zw zm
          · obtain rfl : i = m:=by omega
            rw [hRe]
            generalize sgK p C i = out at *
            conv=>whnf
            repeat' (first|((first|refine zs1 ?_|refine zs2 ?_|refine zs3 ?_|refine zs4 ?_|refine zs5 ?_);conv=>whnf)|((first|apply zi1|apply zi2|apply zi3|apply zi4|apply zi5) <;> intro _ <;> first|(exfalso;omega)|contradiction|(conv=>whnf)))
            refine VOut.data 9 [(1,out.flatMap encS)] [] rfl zf (by exact FmAll.nil) zw
      · rw [if_neg h2] at hE
        subst hE
        rw [if_neg (by simp)] at hR
        subst hR
        generalize l.getD 0 mp0 = am at *
        obtain ⟨aw,ah,ac⟩:=am
        dsimp only at *
        refine VC.body Tryz.func22 rfl Tryz.ntmps22 Tryz.call22 (h.grows_refl) rfl ?_;conv=>whnf
        repeat' (first|((first|refine zs1 ?_|refine zs2 ?_|refine zs3 ?_|refine zs4 ?_|refine zs5 ?_);conv=>whnf)|((first|apply zi1|apply zi2|apply zi3|apply zi4|apply zi5) <;> intro _ <;> first|(exfalso;omega)|contradiction|(conv=>whnf))|(refine VCall.intro (c _) ?_;conv=>whnf)|(refine VAny.ix encM_len 0 rfl rfl ha ?_;conv=>whnf)|(refine VCall.intro (cC _) ?_;conv=>whnf)|(refine VCall.intro (vc_from _ _ _ _) ?_;conv=>whnf))
        refine VOut.data 0 [] [] rfl zf (by exact FmAll.nil) zw
    · rw [if_neg h1] at hE
      subst hE
      rw [if_neg (by simp)] at hR
      subst hR
      generalize l.getD 0 mp0 = am at *
      obtain ⟨aw,ah,ac⟩:=am
      dsimp only at *
      refine VC.body Tryz.func22 rfl Tryz.ntmps22 Tryz.call22 (h.grows_refl) rfl ?_;conv=>whnf
      repeat' (first|((first|refine zs1 ?_|refine zs2 ?_|refine zs3 ?_|refine zs4 ?_|refine zs5 ?_);conv=>whnf)|((first|apply zi1|apply zi2|apply zi3|apply zi4|apply zi5) <;> intro _ <;> first|(exfalso;omega)|contradiction|(conv=>whnf))|(refine VCall.intro (c _) ?_;conv=>whnf)|(refine VAny.ix encM_len 0 rfl rfl ha ?_;conv=>whnf)|(refine VCall.intro (cC _) ?_;conv=>whnf)|(refine VCall.intro (vc_from _ _ _ _) ?_;conv=>whnf))
      refine VOut.data 0 [] [] rfl zf (by exact FmAll.nil) zw
  · rw [if_neg h0] at hE
    rw [← hE] at c h0
    rw [if_neg (fun hh=>h0 hh)] at hR
    subst hR
    clear hE
    refine VC.body Tryz.func22 rfl Tryz.ntmps22 Tryz.call22 (h.grows_refl) rfl ?_;conv=>whnf
    repeat' (first|((first|refine zs1 ?_|refine zs2 ?_|refine zs3 ?_|refine zs4 ?_|refine zs5 ?_);conv=>whnf)|((first|apply zi1|apply zi2|apply zi3|apply zi4|apply zi5) <;> intro _ <;> first|(exfalso;omega)|contradiction|(conv=>whnf))|(refine VCall.intro (c _) ?_;conv=>whnf))
    refine VOut.data 0 [] [] rfl zf (by exact FmAll.nil) zw
end Go.Proofs.YtkbbfeljlepgoaaGreat

open Go.Vm
open Riv
namespace Go.Proofs.YtkbbfeljlepgoaaGreat
set_option maxRecDepth 20000
set_option maxHeartbeats 4000000

theorem drop_eq_dec {α : Type} [DecidableEq α] {a b : List α} {k : Nat} {x y : α} (hx : a[k]? = some x) (hy : b[k]? = some y) : decide (a.drop k = b.drop k) = (decide (x = y) && decide (a.drop (k + 1) = b.drop (k + 1))):=by
  obtain ⟨h1,rfl⟩:=List.getElem?_eq_some_iff.1 hx
  obtain ⟨h2,rfl⟩:=List.getElem?_eq_some_iff.1 hy
  rw [List.drop_eq_getElem_cons h1,List.drop_eq_getElem_cons h2,Bool.eq_iff_iff,Bool.and_eq_true,decide_eq_true_eq,decide_eq_true_eq,decide_eq_true_eq,List.cons.injEq]
theorem drop_ne {α : Type} [DecidableEq α] {a b : List α} {k : Nat} (h1 : k < a.length) (h2 : b.length ≤ k) : decide (a.drop k = b.drop k) = false:=by
  rw [decide_eq_false_iff_not]
  intro hh
  have:=congrArg List.length hh
  simp at this;omega
theorem len_dec {α : Type} [DecidableEq α] {a b : List α} (h : a.length ≤ b.length) : ((a.length : Int) == b.length) = decide (a.drop a.length = b.drop a.length):=by
  rw [List.drop_length,Bool.eq_iff_iff,decide_eq_true_eq,beq_iff_eq]
  constructor
  · intro hh;rw [List.drop_of_length_le (by omega)]
  · intro hh
    have:=congrArg List.length hh
    simp at this;omega
theorem top64 : eqTop Tryz.prog 59 = some (Sh.cons 0 1 false Sh.int (Sh.cons 1 1 false Sh.int Sh.nil)):=by kernel_rfl
theorem top39 : eqTop Tryz.prog 106 = some (Sh.cons 0 1 false Sh.int (Sh.cons 1 1 false Sh.int (Sh.cons 2 1 false Sh.bool Sh.nil))):=by kernel_rfl
theorem top38 : eqTop Tryz.prog 129 = some (Sh.cons 0 1 false Sh.int (Sh.cons 1 1 false Sh.int (Sh.cons 2 1 false Sh.bool Sh.nil))):=by kernel_rfl
theorem vneqS (x y : Spn) : vaggeq Tryz.prog .neq 59 (.agg [I x.lo,I x.hi]) (.agg [I y.lo,I y.hi]) = some (B (decide (¬ x = y))):=by
  have : (!((x.lo == y.lo) && ((x.hi == y.hi) && true))) = decide (¬ x = y):=by cases x;cases y;rw [Bool.eq_iff_iff,decide_eq_true_eq];simp [-not_and];omega
  rw [← this]
  unfold vaggeq
  rw [top64]
  rfl
theorem vneqH {t : TypeId} (ht : eqTop Tryz.prog t = some (Sh.cons 0 1 false Sh.int (Sh.cons 1 1 false Sh.int (Sh.cons 2 1 false Sh.bool Sh.nil)))) (x y : Riv.Sh) : vaggeq Tryz.prog .neq t (vSh x) (vSh y) = some (B (decide (¬ x = y))):=by
  have : (!((x.f == y.f) && ((x.o == y.o) && ((x.nr == y.nr) && true)))) = decide (¬ x = y):=by
    cases x;cases y;rw [Bool.eq_iff_iff,decide_eq_true_eq];simp [-not_and]
    rw [Decidable.not_and_iff_not_or_not,Decidable.not_and_iff_not_or_not]
  rw [← this]
  unfold vaggeq
  rw [ht]
  rfl
theorem vc_kequalI (a b : List Int) (h : Hp) (ha : a.length ≤ 4000000) (hb : b.length ≤ 4000000) : VC Tryz.prog 17 [ints a,ints b] h (B (decide (a = b))) h:=by
  obtain ⟨E,hE⟩ : ∃ E,E = decide (a = b):=⟨_,rfl⟩
  rw [← hE]
  refine VC.body Tryz.func17 rfl Tryz.ntmps17 Tryz.call17 (h.grows_refl) rfl ?_;conv=>whnf
  refine VCode.lp (fun k : Nat=>[(0,ints a),(1,ints b),(4,B false),(7,I a.length),(8,I k)]) (fun _=>[]) (fun k=>k ≤ a.length ∧ k ≤ b.length ∧ E = decide (a.drop k = b.drop k)) (fun k=>a.length - k) 0 ⟨Nat.zero_le _,Nat.zero_le _,hE⟩ ?_ ?_
  · conv=>whnf
    refine Retell.turn ⟨[],0,[],[]⟩ (TurnOk.mk' _ _ [] [] (OutOk.lift _) rfl (by decide) zb trivial trivial rfl) zw zm
  · rintro k ⟨h1,h2,h3⟩
    rcases Nat.lt_or_ge k a.length with h4|h4
    · have hx : a[k]? = some a[k]:=List.getElem?_eq_getElem h4
      rcases Nat.lt_or_ge k b.length with h5|h5
      · have hy : b[k]? = some b[k]:=List.getElem?_eq_getElem h5
        rw [drop_eq_dec hx hy] at h3
        generalize a[k] = x at hx h3
        generalize b[k] = y at hy h3
        by_cases hxy : x = y
        · rw [decide_eq_true hxy,Bool.true_and] at h3
          conv=>whnf
          repeat' (first|((first|refine zs1 ?_|refine zs2 ?_|refine zs3 ?_|refine zs4 ?_|refine zs5 ?_);conv=>whnf)|((first|apply zi1|apply zi2|apply zi3|apply zi4|apply zi5) <;> intro _ <;> first|(exfalso;omega)|contradiction|(conv=>whnf)))
          refine zs6 [] ?_
          conv=>whnf
          repeat' (first|((first|refine zs1 ?_|refine zs2 ?_|refine zs3 ?_|refine zs4 ?_|refine zs5 ?_);conv=>whnf)|((first|apply zi1|apply zi2|apply zi3|apply zi4|apply zi5) <;> intro _ <;> first|(exfalso;omega)|contradiction|(conv=>whnf))|(refine VAny.ix encI_len k rfl rfl hx ?_;conv=>whnf)|(refine VAny.ix encI_len k rfl rfl hy ?_;conv=>whnf))
          refine LEnd.intro (k + 1) ⟨by omega,by omega,h3⟩ (by omega) ?_
          conv=>whnf
          refine Retell.turn ⟨[],0,[],[]⟩ (TurnOk.mk' _ _ [] [] (OutOk.lift _) rfl (by decide) zb trivial trivial rfl) zw zm
        · rw [decide_eq_false hxy,Bool.false_and] at h3
          subst h3
          conv=>whnf
          repeat' (first|((first|refine zs1 ?_|refine zs2 ?_|refine zs3 ?_|refine zs4 ?_|refine zs5 ?_);conv=>whnf)|((first|apply zi1|apply zi2|apply zi3|apply zi4|apply zi5) <;> intro _ <;> first|(exfalso;omega)|contradiction|(conv=>whnf)))
          refine zs6 [] ?_
          conv=>whnf
          repeat' (first|((first|refine zs1 ?_|refine zs2 ?_|refine zs3 ?_|refine zs4 ?_|refine zs5 ?_);conv=>whnf)|((first|apply zi1|apply zi2|apply zi3|apply zi4|apply zi5) <;> intro _ <;> first|(exfalso;omega)|contradiction|(conv=>whnf))|(refine VAny.ix encI_len k rfl rfl hx ?_;conv=>whnf)|(refine VAny.ix encI_len k rfl rfl hy ?_;conv=>whnf))
          exact VOut.same rfl
      · rw [drop_ne h4 h5] at h3
        subst h3
        conv=>whnf
        repeat' (first|((first|refine zs1 ?_|refine zs2 ?_|refine zs3 ?_|refine zs4 ?_|refine zs5 ?_);conv=>whnf)|((first|apply zi1|apply zi2|apply zi3|apply zi4|apply zi5) <;> intro _ <;> first|(exfalso;omega)|contradiction|(conv=>whnf)))
        refine zs6 [] ?_
        conv=>whnf
        repeat' (first|((first|refine zs1 ?_|refine zs2 ?_|refine zs3 ?_|refine zs4 ?_|refine zs5 ?_);conv=>whnf)|((first|apply zi1|apply zi2|apply zi3|apply zi4|apply zi5) <;> intro _ <;> first|(exfalso;omega)|contradiction|(conv=>whnf)))
        exact VOut.same rfl
    · have hk : k = a.length:=by omega
      rw [hk,← len_dec (by omega)] at h3
      rw [h3,hk]
      conv=>whnf
      repeat' (first|((first|refine zs1 ?_|refine zs2 ?_|refine zs3 ?_|refine zs4 ?_|refine zs5 ?_);conv=>whnf)|((first|apply zi1|apply zi2|apply zi3|apply zi4|apply zi5) <;> intro _ <;> first|(exfalso;omega)|contradiction|(conv=>whnf)))
      exact VOut.same rfl
theorem vc_kequalH (a b : List Riv.Sh) (h : Hp) (ha : a.length ≤ 4000000) (hb : b.length ≤ 4000000) : VC Tryz.prog 46 [shs a,shs b] h (B (decide (a = b))) h:=by
  obtain ⟨E,hE⟩ : ∃ E,E = decide (a = b):=⟨_,rfl⟩
  rw [← hE]
  refine VC.body Tryz.func46 rfl Tryz.ntmps46 Tryz.call46 (h.grows_refl) rfl ?_;conv=>whnf
  refine VCode.lp (fun k : Nat=>[(0,shs a),(1,shs b),(4,B false),(7,I a.length),(8,I k)]) (fun _=>[]) (fun k=>k ≤ a.length ∧ k ≤ b.length ∧ E = decide (a.drop k = b.drop k)) (fun k=>a.length - k) 0 ⟨Nat.zero_le _,Nat.zero_le _,hE⟩ ?_ ?_
  · conv=>whnf
    refine Retell.turn ⟨[],0,[],[]⟩ (TurnOk.mk' _ _ [] [] (OutOk.lift _) rfl (by decide) zb trivial trivial rfl) zw zm
  · rintro k ⟨h1,h2,h3⟩
    rcases Nat.lt_or_ge k a.length with h4|h4
    · have hx : a[k]? = some a[k]:=List.getElem?_eq_getElem h4
      rcases Nat.lt_or_ge k b.length with h5|h5
      · have hy : b[k]? = some b[k]:=List.getElem?_eq_getElem h5
        rw [drop_eq_dec hx hy] at h3
        generalize a[k] = x at hx h3
        generalize b[k] = y at hy h3
        have hv:=vneqH top39 x y
        by_cases hxy : x = y
        · rw [decide_eq_true hxy,Bool.true_and] at h3
          rw [decide_eq_false (fun e=>e hxy)] at hv
          conv=>whnf
          repeat' (first|((first|refine zs1 ?_|refine zs2 ?_|refine zs3 ?_|refine zs4 ?_|refine zs5 ?_);conv=>whnf)|((first|apply zi1|apply zi2|apply zi3|apply zi4|apply zi5) <;> intro _ <;> first|(exfalso;omega)|contradiction|(conv=>whnf)))
          refine zs6 [] ?_
          conv=>whnf
          repeat' (first|((first|refine zs1 ?_|refine zs2 ?_|refine zs3 ?_|refine zs4 ?_|refine zs5 ?_);conv=>whnf)|((first|apply zi1|apply zi2|apply zi3|apply zi4|apply zi5) <;> intro _ <;> first|(exfalso;omega)|contradiction|(conv=>whnf))|(refine VAny.ix encSh_len k rfl rfl hx ?_;conv=>whnf)|(refine VAny.ix encSh_len k rfl rfl hy ?_;conv=>whnf)|(refine VAgg.intro hv ?_;conv=>whnf))
          refine LEnd.intro (k + 1) ⟨by omega,by omega,h3⟩ (by omega) ?_
          conv=>whnf
          refine Retell.turn ⟨[],0,[],[]⟩ (TurnOk.mk' _ _ [] [] (OutOk.lift _) rfl (by decide) zb trivial trivial rfl) zw zm
        · rw [decide_eq_false hxy,Bool.false_and] at h3
          rw [decide_eq_true hxy] at hv
          subst h3
          conv=>whnf
          repeat' (first|((first|refine zs1 ?_|refine zs2 ?_|refine zs3 ?_|refine zs4 ?_|refine zs5 ?_);conv=>whnf)|((first|apply zi1|apply zi2|apply zi3|apply zi4|apply zi5) <;> intro _ <;> first|(exfalso;omega)|contradiction|(conv=>whnf)))
          refine zs6 [] ?_
          conv=>whnf
          repeat' (first|((first|refine zs1 ?_|refine zs2 ?_|refine zs3 ?_|refine zs4 ?_|refine zs5 ?_);conv=>whnf)|((first|apply zi1|apply zi2|apply zi3|apply zi4|apply zi5) <;> intro _ <;> first|(exfalso;omega)|contradiction|(conv=>whnf))|(refine VAny.ix encSh_len k rfl rfl hx ?_;conv=>whnf)|(refine VAny.ix encSh_len k rfl rfl hy ?_;conv=>whnf)|(refine VAgg.intro hv ?_;conv=>whnf))
          exact VOut.same rfl
      · rw [drop_ne h4 h5] at h3
        subst h3
        conv=>whnf
        repeat' (first|((first|refine zs1 ?_|refine zs2 ?_|refine zs3 ?_|refine zs4 ?_|refine zs5 ?_);conv=>whnf)|((first|apply zi1|apply zi2|apply zi3|apply zi4|apply zi5) <;> intro _ <;> first|(exfalso;omega)|contradiction|(conv=>whnf)))
        refine zs6 [] ?_
        conv=>whnf
        repeat' (first|((first|refine zs1 ?_|refine zs2 ?_|refine zs3 ?_|refine zs4 ?_|refine zs5 ?_);conv=>whnf)|((first|apply zi1|apply zi2|apply zi3|apply zi4|apply zi5) <;> intro _ <;> first|(exfalso;omega)|contradiction|(conv=>whnf)))
        exact VOut.same rfl
    · have hk : k = a.length:=by omega
      rw [hk,← len_dec (by omega)] at h3
      rw [h3,hk]
      conv=>whnf
      repeat' (first|((first|refine zs1 ?_|refine zs2 ?_|refine zs3 ?_|refine zs4 ?_|refine zs5 ?_);conv=>whnf)|((first|apply zi1|apply zi2|apply zi3|apply zi4|apply zi5) <;> intro _ <;> first|(exfalso;omega)|contradiction|(conv=>whnf)))
      exact VOut.same rfl
theorem vc_kequalS (a b : List Spn) (h : Hp) (ha : a.length ≤ 4000000) (hb : b.length ≤ 4000000) : VC Tryz.prog 24 [spans a,spans b] h (B (decide (a = b))) h:=by
  obtain ⟨E,hE⟩ : ∃ E,E = decide (a = b):=⟨_,rfl⟩
  rw [← hE]
  refine VC.body Tryz.func24 rfl Tryz.ntmps24 Tryz.call24 (h.grows_refl) rfl ?_;conv=>whnf
  refine VCode.lp (fun k : Nat=>[(0,spans a),(1,spans b),(4,B false),(7,I a.length),(8,I k)]) (fun _=>[]) (fun k=>k ≤ a.length ∧ k ≤ b.length ∧ E = decide (a.drop k = b.drop k)) (fun k=>a.length - k) 0 ⟨Nat.zero_le _,Nat.zero_le _,hE⟩ ?_ ?_
  · conv=>whnf
    refine Retell.turn ⟨[],0,[],[]⟩ (TurnOk.mk' _ _ [] [] (OutOk.lift _) rfl (by decide) zb trivial trivial rfl) zw zm
  · rintro k ⟨h1,h2,h3⟩
    rcases Nat.lt_or_ge k a.length with h4|h4
    · have hx : a[k]? = some a[k]:=List.getElem?_eq_getElem h4
      rcases Nat.lt_or_ge k b.length with h5|h5
      · have hy : b[k]? = some b[k]:=List.getElem?_eq_getElem h5
        rw [drop_eq_dec hx hy] at h3
        generalize a[k] = x at hx h3
        generalize b[k] = y at hy h3
        have hv:=vneqS x y
        by_cases hxy : x = y
        · rw [decide_eq_true hxy,Bool.true_and] at h3
          rw [decide_eq_false (fun e=>e hxy)] at hv
          conv=>whnf
          repeat' (first|((first|refine zs1 ?_|refine zs2 ?_|refine zs3 ?_|refine zs4 ?_|refine zs5 ?_);conv=>whnf)|((first|apply zi1|apply zi2|apply zi3|apply zi4|apply zi5) <;> intro _ <;> first|(exfalso;omega)|contradiction|(conv=>whnf)))
          refine zs6 [] ?_
          conv=>whnf
          repeat' (first|((first|refine zs1 ?_|refine zs2 ?_|refine zs3 ?_|refine zs4 ?_|refine zs5 ?_);conv=>whnf)|((first|apply zi1|apply zi2|apply zi3|apply zi4|apply zi5) <;> intro _ <;> first|(exfalso;omega)|contradiction|(conv=>whnf))|(refine VAny.ix encS_len k rfl rfl hx ?_;conv=>whnf)|(refine VAny.ix encS_len k rfl rfl hy ?_;conv=>whnf)|(refine VAgg.intro hv ?_;conv=>whnf))
          refine LEnd.intro (k + 1) ⟨by omega,by omega,h3⟩ (by omega) ?_
          conv=>whnf
          refine Retell.turn ⟨[],0,[],[]⟩ (TurnOk.mk' _ _ [] [] (OutOk.lift _) rfl (by decide) zb trivial trivial rfl) zw zm
        · rw [decide_eq_false hxy,Bool.false_and] at h3
          rw [decide_eq_true hxy] at hv
          subst h3
          conv=>whnf
          repeat' (first|((first|refine zs1 ?_|refine zs2 ?_|refine zs3 ?_|refine zs4 ?_|refine zs5 ?_);conv=>whnf)|((first|apply zi1|apply zi2|apply zi3|apply zi4|apply zi5) <;> intro _ <;> first|(exfalso;omega)|contradiction|(conv=>whnf)))
          refine zs6 [] ?_
          conv=>whnf
          repeat' (first|((first|refine zs1 ?_|refine zs2 ?_|refine zs3 ?_|refine zs4 ?_|refine zs5 ?_);conv=>whnf)|((first|apply zi1|apply zi2|apply zi3|apply zi4|apply zi5) <;> intro _ <;> first|(exfalso;omega)|contradiction|(conv=>whnf))|(refine VAny.ix encS_len k rfl rfl hx ?_;conv=>whnf)|(refine VAny.ix encS_len k rfl rfl hy ?_;conv=>whnf)|(refine VAgg.intro hv ?_;conv=>whnf))
          exact VOut.same rfl
      · rw [drop_ne h4 h5] at h3
        subst h3
        conv=>whnf
        repeat' (first|((first|refine zs1 ?_|refine zs2 ?_|refine zs3 ?_|refine zs4 ?_|refine zs5 ?_);conv=>whnf)|((first|apply zi1|apply zi2|apply zi3|apply zi4|apply zi5) <;> intro _ <;> first|(exfalso;omega)|contradiction|(conv=>whnf)))
        refine zs6 [] ?_
        conv=>whnf
        repeat' (first|((first|refine zs1 ?_|refine zs2 ?_|refine zs3 ?_|refine zs4 ?_|refine zs5 ?_);conv=>whnf)|((first|apply zi1|apply zi2|apply zi3|apply zi4|apply zi5) <;> intro _ <;> first|(exfalso;omega)|contradiction|(conv=>whnf)))
        exact VOut.same rfl
    · have hk : k = a.length:=by omega
      rw [hk,← len_dec (by omega)] at h3
      rw [h3,hk]
      conv=>whnf
      repeat' (first|((first|refine zs1 ?_|refine zs2 ?_|refine zs3 ?_|refine zs4 ?_|refine zs5 ?_);conv=>whnf)|((first|apply zi1|apply zi2|apply zi3|apply zi4|apply zi5) <;> intro _ <;> first|(exfalso;omega)|contradiction|(conv=>whnf)))
      exact VOut.same rfl
/-! ### Maps -/
theorem mp_eq (a b : Mp) : decide (a = b) = (decide (a.w = b.w) && (decide (a.h = b.h) && decide (a.c = b.c))):=by
  rw [Bool.eq_iff_iff,Bool.and_eq_true,Bool.and_eq_true,decide_eq_true_eq,decide_eq_true_eq,decide_eq_true_eq,decide_eq_true_eq]
  cases a;cases b;simp
theorem vc_equal (a b : Mp) (h : Hp) (h1 : a.c.length ≤ 4000000) (h2 : b.c.length ≤ 4000000) : VC Tryz.prog 47 [vM a,vM b] h (B (decide (a = b))) h:=by
  have c:=fun h=>vc_kequalI a.c b.c h h1 h2
  rw [mp_eq]
  generalize decide (a.c = b.c) = y at *
  obtain ⟨aw,ah,ac⟩:=a
  obtain ⟨bw,bh,bc⟩:=b
  dsimp only at *
  by_cases hw : aw = bw
  · rw [decide_eq_true hw,Bool.true_and]
    by_cases hh : ah = bh
    · rw [decide_eq_true hh,Bool.true_and]
      refine VC.body Tryz.func47 rfl Tryz.ntmps47 Tryz.call47 (h.grows_refl) rfl ?_;conv=>whnf
      repeat' (first|((first|refine zs1 ?_|refine zs2 ?_|refine zs3 ?_|refine zs4 ?_|refine zs5 ?_);conv=>whnf)|((first|apply zi1|apply zi2|apply zi3|apply zi4|apply zi5) <;> intro _ <;> first|(exfalso;omega)|contradiction|(conv=>whnf))|(refine VCall.intro (c _) ?_;conv=>whnf))
      exact VOut.same rfl
    · rw [decide_eq_false hh,Bool.false_and]
      refine VC.body Tryz.func47 rfl Tryz.ntmps47 Tryz.call47 (h.grows_refl) rfl ?_;conv=>whnf
      repeat' (first|((first|refine zs1 ?_|refine zs2 ?_|refine zs3 ?_|refine zs4 ?_|refine zs5 ?_);conv=>whnf)|((first|apply zi1|apply zi2|apply zi3|apply zi4|apply zi5) <;> intro _ <;> first|(exfalso;omega)|contradiction|(conv=>whnf))|(refine VCall.intro (c _) ?_;conv=>whnf))
      exact VOut.same rfl
  · rw [decide_eq_false hw,Bool.false_and]
    refine VC.body Tryz.func47 rfl Tryz.ntmps47 Tryz.call47 (h.grows_refl) rfl ?_;conv=>whnf
    repeat' (first|((first|refine zs1 ?_|refine zs2 ?_|refine zs3 ?_|refine zs4 ?_|refine zs5 ?_);conv=>whnf)|((first|apply zi1|apply zi2|apply zi3|apply zi4|apply zi5) <;> intro _ <;> first|(exfalso;omega)|contradiction|(conv=>whnf))|(refine VCall.intro (c _) ?_;conv=>whnf))
    exact VOut.same rfl
theorem vc_equals (a b : List Mp) (h : Hp) (ha : a.length ≤ 4000000) (hb : b.length ≤ 4000000) (hca : ∀ m ∈ a,m.c.length ≤ 4000000) (hcb : ∀ m ∈ b,m.c.length ≤ 4000000) : VC Tryz.prog 25 [yrs a,yrs b] h (B (decide (a = b))) h:=by
  obtain ⟨E,hE⟩ : ∃ E,E = decide (a = b):=⟨_,rfl⟩
  rw [← hE]
  refine VC.body Tryz.func25 rfl Tryz.ntmps25 Tryz.call25 (h.grows_refl) rfl ?_;conv=>whnf
  refine VCode.lp (fun k : Nat=>[(0,yrs a),(1,yrs b),(4,B false),(7,I a.length),(8,I k)]) (fun _=>[]) (fun k=>k ≤ a.length ∧ k ≤ b.length ∧ E = decide (a.drop k = b.drop k)) (fun k=>a.length - k) 0 ⟨Nat.zero_le _,Nat.zero_le _,hE⟩ ?_ ?_
  · conv=>whnf
    refine Retell.turn ⟨[],0,[],[]⟩ (TurnOk.mk' _ _ [] [] (OutOk.lift _) rfl (by decide) zb trivial trivial rfl) zw zm
  · rintro k ⟨h1,h2,h3⟩
    rcases Nat.lt_or_ge k a.length with h4|h4
    · have hx : a[k]? = some a[k]:=List.getElem?_eq_getElem h4
      rcases Nat.lt_or_ge k b.length with h5|h5
      · have hy : b[k]? = some b[k]:=List.getElem?_eq_getElem h5
        have hxc:=hca _ (List.mem_of_getElem? hx)
        have hyc:=hcb _ (List.mem_of_getElem? hy)
        rw [drop_eq_dec hx hy] at h3
        generalize a[k] = x at *
        generalize b[k] = y at *
        have c:=fun h=>vc_equal x y h hxc hyc
        by_cases hxy : x = y
        · rw [decide_eq_true hxy] at c
          rw [decide_eq_true hxy,Bool.true_and] at h3
          clear hxy
          obtain ⟨xw,xh,xc⟩:=x
          obtain ⟨yw,yh,yc⟩:=y
          conv=>whnf
          repeat' (first|((first|refine zs1 ?_|refine zs2 ?_|refine zs3 ?_|refine zs4 ?_|refine zs5 ?_);conv=>whnf)|((first|apply zi1|apply zi2|apply zi3|apply zi4|apply zi5) <;> intro _ <;> first|(exfalso;omega)|contradiction|(conv=>whnf)))
          refine zs6 [] ?_
          conv=>whnf
          repeat' (first|((first|refine zs1 ?_|refine zs2 ?_|refine zs3 ?_|refine zs4 ?_|refine zs5 ?_);conv=>whnf)|((first|apply zi1|apply zi2|apply zi3|apply zi4|apply zi5) <;> intro _ <;> first|(exfalso;omega)|contradiction|(conv=>whnf))|(refine VAny.ix encM_len k rfl rfl hx ?_;conv=>whnf)|(refine VAny.ix encM_len k rfl rfl hy ?_;conv=>whnf)|(refine VCall.intro (c _) ?_;conv=>whnf))
          refine LEnd.intro (k + 1) ⟨by omega,by omega,h3⟩ (by omega) ?_
          conv=>whnf
          refine Retell.turn ⟨[],0,[],[]⟩ (TurnOk.mk' _ _ [] [] (OutOk.lift _) rfl (by decide) zb trivial trivial rfl) zw zm
        · rw [decide_eq_false hxy] at c
          rw [decide_eq_false hxy,Bool.false_and] at h3
          subst h3
          clear hxy
          obtain ⟨xw,xh,xc⟩:=x
          obtain ⟨yw,yh,yc⟩:=y
          conv=>whnf
          repeat' (first|((first|refine zs1 ?_|refine zs2 ?_|refine zs3 ?_|refine zs4 ?_|refine zs5 ?_);conv=>whnf)|((first|apply zi1|apply zi2|apply zi3|apply zi4|apply zi5) <;> intro _ <;> first|(exfalso;omega)|contradiction|(conv=>whnf)))
          refine zs6 [] ?_
          conv=>whnf
          repeat' (first|((first|refine zs1 ?_|refine zs2 ?_|refine zs3 ?_|refine zs4 ?_|refine zs5 ?_);conv=>whnf)|((first|apply zi1|apply zi2|apply zi3|apply zi4|apply zi5) <;> intro _ <;> first|(exfalso;omega)|contradiction|(conv=>whnf))|(refine VAny.ix encM_len k rfl rfl hx ?_;conv=>whnf)|(refine VAny.ix encM_len k rfl rfl hy ?_;conv=>whnf)|(refine VCall.intro (c _) ?_;conv=>whnf))
          exact VOut.same rfl
      · rw [drop_ne h4 h5] at h3
        subst h3
        conv=>whnf
        repeat' (first|((first|refine zs1 ?_|refine zs2 ?_|refine zs3 ?_|refine zs4 ?_|refine zs5 ?_);conv=>whnf)|((first|apply zi1|apply zi2|apply zi3|apply zi4|apply zi5) <;> intro _ <;> first|(exfalso;omega)|contradiction|(conv=>whnf)))
        refine zs6 [] ?_
        conv=>whnf
        repeat' (first|((first|refine zs1 ?_|refine zs2 ?_|refine zs3 ?_|refine zs4 ?_|refine zs5 ?_);conv=>whnf)|((first|apply zi1|apply zi2|apply zi3|apply zi4|apply zi5) <;> intro _ <;> first|(exfalso;omega)|contradiction|(conv=>whnf)))
        exact VOut.same rfl
    · have hk : k = a.length:=by omega
      rw [hk,← len_dec (by omega)] at h3
      rw [h3,hk]
      conv=>whnf
      repeat' (first|((first|refine zs1 ?_|refine zs2 ?_|refine zs3 ?_|refine zs4 ?_|refine zs5 ?_);conv=>whnf)|((first|apply zi1|apply zi2|apply zi3|apply zi4|apply zi5) <;> intro _ <;> first|(exfalso;omega)|contradiction|(conv=>whnf)))
      exact VOut.same rfl
/-! ### Copies -/
theorem vc_kcloneI (l : List Int) (h : Hp) (hl : l.length ≤ 4000000) : VC Tryz.prog 64 [ints l] h (ints l) h:=by
  refine VC.body Tryz.func64 rfl Tryz.ntmps64 Tryz.call64 (h.grows_refl) rfl ?_;conv=>whnf
  repeat' (first|((first|refine zs1 ?_|refine zs2 ?_|refine zs3 ?_|refine zs4 ?_|refine zs5 ?_);conv=>whnf)|((first|apply zi1|apply zi2|apply zi3|apply zi4|apply zi5) <;> intro _ <;> conv=>whnf))
  refine VMem.appNil Vm.encI_len rfl rfl rfl (by omega) ?_
  conv=>whnf
  repeat' (first|((first|refine zs1 ?_|refine zs2 ?_|refine zs3 ?_|refine zs4 ?_|refine zs5 ?_);conv=>whnf)|((first|apply zi1|apply zi2|apply zi3|apply zi4|apply zi5) <;> intro _ <;> conv=>whnf))
  refine VOut.data 1 [(0,l.flatMap Vm.encI)] [] rfl zf (by exact FmAll.nil) zw
theorem vc_CloneMap (m : Mp) (h : Hp) (hn : m.c.length ≤ 4000000) : VC Tryz.prog 48 [vM m] h (vM m) h:=by
  have c:=fun h=>vc_kcloneI m.c h hn
  obtain ⟨mw,mh,mc⟩:=m
  dsimp only at *
  refine VC.body Tryz.func48 rfl Tryz.ntmps48 Tryz.call48 (h.grows_refl) rfl ?_;conv=>whnf
  repeat' (first|((first|refine zs1 ?_|refine zs2 ?_|refine zs3 ?_|refine zs4 ?_|refine zs5 ?_);conv=>whnf)|((first|apply zi1|apply zi2|apply zi3|apply zi4|apply zi5) <;> intro _ <;> conv=>whnf))
  refine zs6 [(1,6),(3,6)] ?_
  conv=>whnf
  repeat' (first|((first|refine zs1 ?_|refine zs2 ?_|refine zs3 ?_|refine zs4 ?_|refine zs5 ?_);conv=>whnf)|((first|apply zi1|apply zi2|apply zi3|apply zi4|apply zi5) <;> intro _ <;> conv=>whnf)|(refine VCall.intro (c _) ?_;conv=>whnf))
  exact VOut.same rfl
theorem vc_Map (m : Mp) (h : Hp) (hn : m.c.length ≤ 4000000) : VC Tryz.prog 49 [vM m] h (vM m) h:=by
  have c:=fun h=>vc_kcloneI m.c h hn
  obtain ⟨mw,mh,mc⟩:=m
  dsimp only at *
  refine VC.body Tryz.func49 rfl Tryz.ntmps49 Tryz.call49 (h.grows_refl) rfl ?_;conv=>whnf
  repeat' (first|((first|refine zs1 ?_|refine zs2 ?_|refine zs3 ?_|refine zs4 ?_|refine zs5 ?_);conv=>whnf)|((first|apply zi1|apply zi2|apply zi3|apply zi4|apply zi5) <;> intro _ <;> conv=>whnf))
  refine zs6 [(1,6),(3,6)] ?_
  conv=>whnf
  repeat' (first|((first|refine zs1 ?_|refine zs2 ?_|refine zs3 ?_|refine zs4 ?_|refine zs5 ?_);conv=>whnf)|((first|apply zi1|apply zi2|apply zi3|apply zi4|apply zi5) <;> intro _ <;> conv=>whnf)|(refine VCall.intro (c _) ?_;conv=>whnf))
  exact VOut.same rfl
def grt (m : Mp) (n : Int) : Bool:=decide ((n < m.c.length ∧ m.c.length ≤ 144) ∨ 160 < m.c.length)
theorem vc_great (m : Mp) (n : Int) (h : Hp) : VC Tryz.prog 7 [vM m,I n] h (B (grt m n)) h:=by
  unfold grt
  obtain ⟨mw,mh,mc⟩:=m
  show VC Tryz.prog 7 [.agg [I mw,I mh,ints mc],I n] h (B (decide ((n < mc.length ∧ mc.length ≤ 144) ∨ 160 < mc.length))) h
  by_cases h1 : (n < mc.length ∧ mc.length ≤ 144) ∨ 160 < mc.length
  · rw [decide_eq_true h1]
    refine VC.body Tryz.func7 rfl Tryz.ntmps7 Tryz.call7 (h.grows_refl) rfl ?_;conv=>whnf
    repeat' (first|((first|refine zs1 ?_|refine zs2 ?_|refine zs3 ?_|refine zs4 ?_|refine zs5 ?_);conv=>whnf)|((first|apply zi1|apply zi2|apply zi3|apply zi4|apply zi5) <;> intro _ <;> first|(exfalso;omega)|contradiction|(conv=>whnf)))
    all_goals first
      | exact VOut.same rfl
      | (refine VOut.same ?_;show B (decide (160 < (mc.length : Int))) = B true;rw [decide_eq_true (by omega)])
  · rw [decide_eq_false h1]
    refine VC.body Tryz.func7 rfl Tryz.ntmps7 Tryz.call7 (h.grows_refl) rfl ?_;conv=>whnf
    repeat' (first|((first|refine zs1 ?_|refine zs2 ?_|refine zs3 ?_|refine zs4 ?_|refine zs5 ?_);conv=>whnf)|((first|apply zi1|apply zi2|apply zi3|apply zi4|apply zi5) <;> intro _ <;> first|(exfalso;omega)|contradiction|(conv=>whnf)))
    all_goals first
      | exact VOut.same rfl
      | (refine VOut.same ?_;show B (decide (160 < (mc.length : Int))) = B false;rw [decide_eq_false (by omega)])
end Go.Proofs.YtkbbfeljlepgoaaGreat

namespace Go.Proofs.YtkbbfeljlepgoaaGreat
open Go.Shelf
def ibRen : Ren:=⟨fun|137=>71|217=>106|266=>145|n=>n,fun n=>n,fun n=>n⟩
theorem ibLays : Lays.n137 Tryz.prog ibRen:={
  mixed:=by kernel_rfl
  f137:=by kernel_rfl
  f217:=by kernel_rfl
  f266:=by kernel_rfl
  t3:=by kernel_rfl
  a3:=fun _=>by kernel_rfl
  z3:=fun _=>by kernel_rfl
  v3:=fun _=>by kernel_rfl
  t5:=by kernel_rfl
  a5:=fun _=>by kernel_rfl
  z5:=fun _=>by kernel_rfl
  v5:=fun _=>by kernel_rfl
  t9:=by kernel_rfl
  a9:=fun _=>by kernel_rfl
  z9:=fun _=>by kernel_rfl
  v9:=fun _=>by kernel_rfl
}
def wei : ByteArray:=⟨#[46,87,69,73]⟩
def knd (c : Int) : Int:=Lib.indexByte wei.data.toList c.toNat.toUInt8
theorem vc_IndexByte (c : Int) (h : Go.Vm.Hp) : Go.Vm.VC Tryz.prog 71 [.lit (.string wei),.s (.int .u8 c)] h (Go.Vm.I (knd c)) h:=by
  refine ⟨Tryz.call71,h.grows_refl,fun σ w xs hr hxs=>?_⟩
  rw [callsIn_wide]
  obtain ⟨x,y,rfl,hx,hy⟩:=Go.Vm.VRs_two hxs
  simp only [Go.Vm.VR,Go.Vm.S.val] at hx hy
  subst hx hy
  have:=Any.strings_IndexByte ibLays wei c w
  refine this.mono ?_
  rintro e w' ⟨rfl,rfl⟩
  exact ⟨σ,_,rfl,rfl,hr,Go.Vm.ExtK.refl _ _ _ _⟩
end Go.Proofs.YtkbbfeljlepgoaaGreat

open Go.Vm
open Riv
namespace Go.Proofs.YtkbbfeljlepgoaaGreat
set_option maxRecDepth 20000
set_option maxHeartbeats 4000000

def encStr (s : ByteArray) : List D:=[.lit (.string s)]
theorem encStr_len (s : ByteArray) : (encStr s).length = 1:=rfl
def strs (l : List ByteArray) : V:=.fs 1 l.length (l.flatMap encStr)
def dwC (s : ByteArray) (k : Nat) : List Int:=(List.range k).map fun k=>knd (strAt s k)
def dwA (l : List ByteArray) : List Int:=l.flatMap fun s=>dwC s s.size
def dwW (l : List ByteArray) : Nat:=(l.getLast?.map ByteArray.size).getD 0
def dwM (l : List ByteArray) : Mp:=⟨dwW l,l.length,dwA l⟩
theorem dwC_len (s : ByteArray) (k : Nat) : (dwC s k).length = k:=by simp [dwC]
theorem dwC_step (s : ByteArray) (k : Nat) : dwC s (k + 1) = dwC s k ++ [knd (strAt s k)]:=by
  unfold dwC;rw [List.range_succ,List.map_append];rfl
theorem dwA_step {l : List ByteArray} {i : Nat} {s : ByteArray} (h : l[i]? = some s) : dwA (l.take (i + 1)) = dwA (l.take i) ++ dwC s s.size:=by
  unfold dwA;rw [List.take_add_one,h,List.flatMap_append];simp
theorem dwW_step {l : List ByteArray} {i : Nat} {s : ByteArray} (h : l[i]? = some s) : dwW (l.take (i + 1)) = s.size:=by
  unfold dwW;rw [List.take_add_one,h,List.getLast?_append];rfl
theorem dwA_len {l : List ByteArray} (hb : ∀ s ∈ l,s.size ≤ 1000) : ∀ i,i ≤ l.length → (dwA (l.take i)).length ≤ 1000 * i
  | 0,_=>by simp [dwA]
  | i + 1,h=>by
    have hi : l[i]? = some l[i]:=List.getElem?_eq_getElem (by omega)
    have:=hb _ (List.mem_of_getElem? hi)
    have h2:=dwA_len hb i (by omega)
    rw [dwA_step hi,List.length_append,dwC_len];omega
theorem VTo.litS {c : TCtx} {x : Value} : VTo c (.lit x) (.lit x):=by simp only [VTo]
theorem zvS {p : Prop} (h : p:=by repeat' (first|refine FrTo.node ?_ ?_ ?_|refine FrTo.none ?_ ?_|exact FrTo.leaf|exact VTo.undef|exact VTo.litS|exact VTo.sc (by first|rfl|(congr 1;omega))|exact VTo.fs|exact VTo.ptr rfl|exact VTo.gl rfl|exact VTo.nilslice)) : p:=h
theorem vc_Drawn (l : List ByteArray) (h : Hp) (hn : l.length ≤ 1000) (hb : ∀ s ∈ l,s.size ≤ 1000) : VC Tryz.prog 30 [strs l] h (vM (dwM l)) h:=by
  have hal:=fun i hi=>dwA_len hb i hi
  have h00 : dwA (l.take 0) = []:=rfl
  have h01 : dwW (l.take 0) = 0:=rfl
  have hst:=fun i s (hs : l[i]? = some s)=>dwA_step hs
  have hsw:=fun i s (hs : l[i]? = some s)=>dwW_step hs
  have hfin : dwM l = ⟨dwW (l.take l.length),l.length,dwA (l.take l.length)⟩:=by rw [List.take_length];rfl
  rw [hfin]
  refine VC.body Tryz.func30 rfl Tryz.ntmps30 Tryz.call30 (h.grows_refl) rfl ?_
  conv=>whnf
  repeat' (first|((first|refine zs1 ?_|refine zs2 ?_|refine zs3 ?_|refine zs4 ?_|refine zs5 ?_);conv=>whnf)|((first|apply zi1|apply zi2|apply zi3|apply zi4|apply zi5) <;> intro _ <;> conv=>whnf))
  refine VCode.lpC (outer:=h.lift) (marks:=[]) 99 (fun i : Nat=>[(2,.ptr (.loc 0) 0),(3,.ptr (.loc 1) 0),(10,strs l),(11,I l.length),(12,I i)]) (fun i=>[.cells true [I 0,I 0,.nilslice],.cells true [I (dwW (l.take i)),I l.length,.gl (.loc 2) 1 (dwA (l.take i)).length],.flat true ((dwA (l.take i)).flatMap Vm.encI)]) (fun i=>i ≤ l.length) (fun i=>l.length - i) 0 (Nat.zero_le _) ?_ ?_
  · rw [h00,h01]
    conv=>whnf
    refine Retell.turn ⟨[0,1,2],2,[],[]⟩ (TurnOk.mk' _ _ [] [] (OutOk.lift _) rfl (by decide) zb trivial trivial rfl) zw zm
  rintro i hi
  rcases Nat.lt_or_ge i l.length with h4|h4
  · obtain ⟨s,hs⟩ : ∃ s,l[i]? = some s:=⟨_,List.getElem?_eq_getElem h4⟩
    have hsb:=hb s (List.mem_of_getElem? hs)
    have hst:=hst i s hs
    have hsw:=hsw i s hs
    have hal:=hal i hi
    have hC0 : dwC s 0 = []:=rfl
    have hCs:=dwC_step s
    have hCl:=dwC_len s
    generalize dwA (l.take i) = A at *
    generalize dwW (l.take i) = w0 at *
    conv=>whnf
    repeat' (first|((first|refine zs1 ?_|refine zs2 ?_|refine zs3 ?_|refine zs4 ?_|refine zs5 ?_);conv=>whnf)|((first|apply zi1|apply zi2|apply zi3|apply zi4|apply zi5) <;> intro _ <;> first|(exfalso;omega)|contradiction|(conv=>whnf))|(refine VAny.ix encStr_len i rfl rfl hs ?_;conv=>whnf))
    refine VCode.lpC (outer:=h.lift) (marks:=[]) 99 (fun k : Nat=>[(2,.ptr (.loc 0) 0),(3,.ptr (.loc 1) 0),(10,strs l),(11,I l.length),(12,I i),(5,.lit (.string s)),(20,I s.size),(21,I k)]) (fun k=>[.cells true [I 0,I 0,.nilslice],.cells true [I s.size,I l.length,.gl (.loc 2) 1 (A ++ dwC s k).length],.flat true ((A ++ dwC s k).flatMap Vm.encI)]) (fun k=>k ≤ s.size) (fun k=>s.size - k) 0 (Nat.zero_le _) ?_ ?_
    · rw [hC0,List.append_nil]
      conv=>whnf
      refine Retell.turn ⟨[0,1,2],9,[],[]⟩ (TurnOk.mk' _ _ [] [] (OutOk.lift _) rfl (by decide) zb trivial trivial rfl) zvS zm
    rintro k hk
    rcases Nat.lt_or_ge k s.size with h5|h5
    · have hCs:=hCs k
      have hCl:=hCl k
      have cI:=fun h=>vc_IndexByte (strAt s k) h
      have hTl : (A ++ dwC s k).length = A.length + k:=by rw [List.length_append,hCl]
      have hTn : A ++ dwC s (k + 1) = (A ++ dwC s k) ++ [knd (strAt s k)]:=by rw [hCs,List.append_assoc]
      generalize A ++ dwC s k = T at *
      have hk2 : ((k : Int)).toNat = k:=Int.toNat_natCast k
      conv=>whnf
      repeat' (first|((first|refine zs1 ?_|refine zs2 ?_|refine zs3 ?_|refine zs4 ?_|refine zs5 ?_);conv=>whnf)|((first|apply zi1|apply zi2|apply zi3|apply zi4|apply zi5) <;> intro _ <;> conv=>whnf))
      all_goals try (exfalso;omega)
      refine zs6 [(1,5)] ?_
      conv=>whnf
      repeat' (first|((first|refine zs1 ?_|refine zs2 ?_|refine zs3 ?_|refine zs4 ?_|refine zs5 ?_);conv=>whnf)|((first|apply zi1|apply zi2|apply zi3|apply zi4|apply zi5) <;> intro _ <;> first|(exfalso;omega)|contradiction|(conv=>whnf))|(refine VCall.intro (cI _) ?_;conv=>whnf))
      refine VMem.app1 (l:=T) (knd (strAt s k)) Vm.encI_len rfl rfl rfl rfl rfl (by omega) ?_
      conv=>whnf
      repeat' (first|((first|refine zs1 ?_|refine zs2 ?_|refine zs3 ?_|refine zs4 ?_|refine zs5 ?_);conv=>whnf)|((first|apply zi1|apply zi2|apply zi3|apply zi4|apply zi5) <;> intro _ <;> first|(exfalso;omega)|contradiction|(conv=>whnf)))
      refine LEnd.intro (k + 1) (by omega) (by omega) ?_
      have hTe : T.length + 1 = (T ++ [knd (strAt s k)]).length:=by rw [List.length_append];rfl
      rw [hTn,hTe]
      generalize knd (strAt s k) = z
      conv=>whnf
      refine Retell.turn ⟨[0,1,4],9,[],[]⟩ (TurnOk.mk' _ _ [] [] (OutOk.lift _) rfl (by decide) zb trivial trivial rfl) zvS zm
    · obtain rfl : k = s.size:=by omega
      rw [← hst]
      conv=>whnf
      repeat' (first|((first|refine zs1 ?_|refine zs2 ?_|refine zs3 ?_|refine zs4 ?_|refine zs5 ?_);conv=>whnf)|((first|apply zi1|apply zi2|apply zi3|apply zi4|apply zi5) <;> intro _ <;> first|(exfalso;omega)|contradiction|(conv=>whnf)))
      refine LEnd.intro (i + 1) (by omega) (by omega) ?_
      rw [hsw]
      conv=>whnf
      refine Retell.turn ⟨[0,1,2],9,[],[]⟩ (TurnOk.mk' _ _ [] [] (OutOk.lift _) rfl (by decide) zb trivial trivial rfl) zw zm
  · obtain rfl : i = l.length:=by omega
    generalize dwA (l.take l.length) = A at *
    generalize dwW (l.take l.length) = w0 at *
    conv=>whnf
    repeat' (first|((first|refine zs1 ?_|refine zs2 ?_|refine zs3 ?_|refine zs4 ?_|refine zs5 ?_);conv=>whnf)|((first|apply zi1|apply zi2|apply zi3|apply zi4|apply zi5) <;> intro _ <;> first|(exfalso;omega)|contradiction|(conv=>whnf)))
    refine VOut.data 9 [(2,A.flatMap Vm.encI)] [] rfl zf (by exact FmAll.nil) zw
end Go.Proofs.YtkbbfeljlepgoaaGreat

open Go.Vm
open Riv
namespace Go.Proofs.YtkbbfeljlepgoaaGreat
set_option maxRecDepth 20000
set_option maxHeartbeats 4000000

def rowA : ByteArray:=⟨#[87,46,46,46,46,46,69]⟩
def rowB : ByteArray:=⟨#[87,46,46,73,46,46,69]⟩
def rowC : ByteArray:=⟨#[87,46,73,46,73,46,69]⟩
def rowD : ByteArray:=⟨#[87,87,46,46,46,46,69]⟩
def rowE : ByteArray:=⟨#[87,87,87,87,46,46,69]⟩
def cA : List Int:=[1,0,0,0,0,0,2]
def cB : List Int:=[1,0,0,3,0,0,2,1,0,0,3,0,0,2]
def cC : List Int:=[1,0,0,0,0,0,2,1,0,3,0,3,0,2,1,0,0,0,0,0,2]
def cD : List Int:=[1,1,0,0,0,0,2]
def cE : List Int:=[1,1,1,1,0,0,2]
theorem dwA_ : dwM [rowA] = ⟨7,1,cA⟩:=by kernel_rfl
theorem dwB_ : dwM [rowB,rowB] = ⟨7,2,cB⟩:=by kernel_rfl
theorem dwC_ : dwM [rowA,rowC,rowA] = ⟨7,3,cC⟩:=by kernel_rfl
theorem dwD_ : dwM [rowD] = ⟨7,1,cD⟩:=by kernel_rfl
theorem dwE_ : dwM [rowE] = ⟨7,1,cE⟩:=by kernel_rfl
def three : List Mp:=[⟨7,1,cA⟩,⟨7,1,cD⟩,⟨7,1,cE⟩]
theorem e01 : chkM ⟨7,1,cA⟩ = 0:=by kernel_rfl
theorem e02 : chkM ⟨7,2,cB⟩ = 0:=by kernel_rfl
theorem e03 : chkM ⟨7,3,cC⟩ = 0:=by kernel_rfl
theorem e04 : chkY three = 0:=by kernel_rfl
abbrev mA : Mp:=⟨7,1,cA⟩
abbrev mB : Mp:=⟨7,2,cB⟩
abbrev mC : Mp:=⟨7,3,cC⟩
abbrev mD : Mp:=⟨7,1,cD⟩
abbrev mE : Mp:=⟨7,1,cE⟩
theorem e05 : owns cA 7 = [1,1,1,3,2,2,2]:=by
  rw [← owns_eq (c:=cA) (W:=7) (H:=1) (by decide) rfl (by decide)];kernel_rfl
theorem k1 (h : Hp) : VC Tryz.prog 36 [vM mA] h (.tuple [ints [1,1,1,3,2,2,2],I 0]) h:=by
  have c:=vc_Owners mA h (by decide)
  rw [e01,if_pos rfl,show mA.w.toNat = 7 from rfl,show mA.c = cA from rfl,e05] at c
  exact c
theorem i02 : isl cB 7 = [[3,10]]:=by
  rw [isl_eq (c:=cB) (W:=7) (H:=2) (by decide) rfl (by decide)];kernel_rfl
theorem i03 : isl cC 7 = [[9],[11]]:=by
  rw [isl_eq (c:=cC) (W:=7) (H:=3) (by decide) rfl (by decide)];kernel_rfl
theorem s02 : shr cB 7 = [⟨3,1,false⟩]:=by
  rw [shr_shL];unfold ownI own0;rw [i02];kernel_rfl
theorem s03 : shr cC 7 = [⟨9,1,true⟩,⟨11,2,true⟩]:=by
  rw [shr_shL];unfold ownI own0;rw [i03];kernel_rfl
theorem k2 (h : Hp) : VC Tryz.prog 44 [vM mB] h (.tuple [shs [⟨3,1,false⟩],I 0]) h:=by
  have c:=vc_Islands mB h (by decide)
  rw [e02,if_pos rfl,show mB.w.toNat = 7 from rfl,show mB.c = cB from rfl,s02] at c
  exact c
theorem k3 (h : Hp) : VC Tryz.prog 44 [vM mC] h (.tuple [shs [⟨9,1,true⟩,⟨11,2,true⟩],I 0]) h:=by
  have c:=vc_Islands mC h (by decide)
  rw [e03,if_pos rfl,show mC.w.toNat = 7 from rfl,show mC.c = cC from rfl,s03] at c
  exact c
theorem l03 : lkE mC 2 = 0:=by kernel_rfl
def farC : List Int:=bfs cC 7 2
theorem k4 (h : Hp) : VC Tryz.prog 32 [vM mC,I 2] h (.tuple [ints farC,I 0]) h:=by
  have c:=vc_Far mC 2 h (by decide)
  unfold frL at c
  rw [l03,if_pos rfl] at c
  exact c
theorem w01 : wyE mC 1 10 = 0:=by kernel_rfl
def wayC : List Int:=wyL mC 1 10
theorem k5 (h : Hp) : VC Tryz.prog 45 [vM mC,I 1,I 10] h (.tuple [ints wayC,I 0]) h:=by
  have c:=vc_Way mC 1 10 h (by decide)
  rw [w01] at c
  exact c
theorem g01 : chg cA cD 7 = [[1]]:=by
  rw [chg_eq (a:=cA) (W:=7) (H:=1) (by decide) rfl (by decide)];kernel_rfl
theorem g02 : chg cD cE 7 = [[2,3]]:=by
  rw [chg_eq (a:=cD) (W:=7) (H:=1) (by decide) rfl (by decide)];kernel_rfl
theorem y01 : cellsY three = [cA,cD,cE]:=rfl
theorem lwAt1 (s : Int) : lawAt 7 [cA,cD,cE] s 1 = lstep s cD cA [1]:=by
  show lyear 7 s cA cD cA = _
  unfold lyear;rw [g01];rfl
theorem lwAt2 (s : Int) : lawAt 7 [cA,cD,cE] s 2 = lstep s cE (lstep s cD cA [1]) [2,3]:=by
  show lyear 7 s cD cE (lawAt 7 [cA,cD,cE] s 1) = _
  rw [lwAt1];unfold lyear;rw [g02];rfl
theorem r01 : rlE three 1 = 0:=by unfold rlE;rw [e04];rfl
theorem r02 : rlE three 2 = 0:=by unfold rlE;rw [e04];rfl
theorem lwT (s : Int) (h : rlE three s = 0) : lwA three s = [mA,⟨7,1,lstep s cD cA [1]⟩,⟨7,1,lstep s cE (lstep s cD cA [1]) [2,3]⟩]:=by
  unfold lwA
  rw [if_pos h,← lwAt2,← lwAt1]
  rfl
theorem lw1 : lwA three 1 = [mA,mD,mD]:=by rw [lwT 1 r01];kernel_rfl
theorem lw2 : lwA three 2 = [mA,mD,mE]:=by rw [lwT 2 r02];kernel_rfl
theorem k7 (h : Hp) : VC Tryz.prog 15 [yrs three,I 1] h (.tuple [yrs [mA,mD,mD],I 0]) h:=by
  have c:=vc_Law three 1 h (by decide) (by decide)
  rw [lw1,r01] at c
  exact c
theorem e06 : owns cE 7 = [1,1,1,1,1,2,2]:=by
  rw [← owns_eq (c:=cE) (W:=7) (H:=1) (by decide) rfl (by decide)];kernel_rfl
theorem e07 : owns cD 7 = [1,1,1,1,2,2,2]:=by
  rw [← owns_eq (c:=cD) (W:=7) (H:=1) (by decide) rfl (by decide)];kernel_rfl
def gainT : List Int:=[0,0,0,0,0,0,0,0,0,1,0,0,0,1,0,0]
theorem ga2 : gnA three 2 = gainT:=by
  unfold gnA
  rw [if_pos r02,lw2]
  show gnK (owns cA 7) (owns cE 7) (owns cA 7).length = gainT
  rw [e05,e06];kernel_rfl
theorem k8 (h : Hp) : VC Tryz.prog 18 [yrs three,I 2] h (.tuple [vGn gainT,I 0]) h:=by
  have c:=vc_Gains three 2 h (by decide) (by decide)
  rw [ga2,r02] at c
  exact c
theorem d01 : dnE three 1 3 = 0:=by unfold dnE;rw [r01];kernel_rfl
theorem d02 : dnL three 1 3 = 1:=by
  unfold dnL
  rw [if_pos d01,lw1]
  show lsK (fun y=>at0 (owns (([mA,mD,mD] : List Mp).getD y mp0).c 7) 3) 2 = 1
  have h0 : at0 (owns (([mA,mD,mD] : List Mp).getD 0 mp0).c 7) 3 = 3:=by show at0 (owns cA 7) 3 = 3;rw [e05];rfl
  have h1 : at0 (owns (([mA,mD,mD] : List Mp).getD 1 mp0).c 7) 3 = 1:=by show at0 (owns cD 7) 3 = 1;rw [e07];rfl
  have h2 : at0 (owns (([mA,mD,mD] : List Mp).getD 2 mp0).c 7) 3 = 1:=by show at0 (owns cD 7) 3 = 1;rw [e07];rfl
  unfold lsK
  rw [if_neg (by rw [h1,h2];decide)]
  unfold lsK
  rw [if_pos (by rw [h1,h0];decide)];rfl
theorem k9 (h : Hp) : VC Tryz.prog 20 [yrs three,I 1,I 3] h (.tuple [I 1,I 0]) h:=by
  have c:=vc_Last three 1 3 h (by decide) (by decide)
  rw [d02,d01] at c
  exact c
theorem z01 : slE three 3 1 = 0:=by unfold slE;rw [e04];kernel_rfl
theorem z02 : sizes 7 [cA,cD,cE] = [1,2]:=by
  show (chg cA cD 7).map (fun c=>(c.length : Int)) ++ ((chg cD cE 7).map (fun c=>(c.length : Int)) ++ []) = [1,2]
  rw [g01,g02];rfl
theorem z03 : ([0,145,1,2] : List Int).mergeSort (fun x y=>decide (x ≤ y)) = [0,1,2,145]:=by
  simp [List.mergeSort,List.MergeSort.Internal.splitInTwo,List.merge]
theorem z04 : stI 7 three = [0,1,2,145]:=by
  unfold stI
  rw [y01,z02,z03]
theorem z05 : slP 7 (cellsY three) 3 1 0 = false:=by
  unfold slP
  show decide (at0 (owns (lawAt 7 [cA,cD,cE] 0 2) 7) 3 = 1) = false
  rw [lwAt2,show lstep 0 cE (lstep 0 cD cA [1]) [2,3] = cA by kernel_rfl,e05];rfl
theorem z06 : slP 7 (cellsY three) 3 1 1 = true:=by
  unfold slP
  show decide (at0 (owns (lawAt 7 [cA,cD,cE] 1 2) 7) 3 = 1) = true
  rw [lwAt2,show lstep 1 cE (lstep 1 cD cA [1]) [2,3] = cD by kernel_rfl,e07];rfl
theorem z07 : slP 7 (cellsY three) 3 1 2 = true:=by
  unfold slP
  show decide (at0 (owns (lawAt 7 [cA,cD,cE] 2 2) 7) 3 = 1) = true
  rw [lwAt2,show lstep 2 cE (lstep 2 cD cA [1]) [2,3] = cE by kernel_rfl,e06];rfl
theorem z08 : slL three 3 1 = [⟨1,144⟩]:=by
  unfold slL
  rw [if_pos z01,show wOf three = 7 from rfl,z04,show (3 : Int).toNat = 3 from rfl,show cmpI [0,1,2,145] = [0,1,2,145] by decide]
  simp only [pgo,z05,z06,z07,cond_true,cond_false]
  decide
theorem k6 (h : Hp) : VC Tryz.prog 22 [yrs three,I 3,I 1] h (.tuple [spans [⟨1,144⟩],I 0]) h:=by
  have c:=vc_Slows three 3 1 h (by decide) (by decide)
  rw [z08,z01] at c
  exact c
end Go.Proofs.YtkbbfeljlepgoaaGreat

open Go.Vm
open Riv
namespace Go.Proofs.YtkbbfeljlepgoaaGreat
set_option maxRecDepth 20000
set_option maxHeartbeats 4000000

theorem q1 (h : Hp) : VC Tryz.prog 30 [strs [rowA]] h (vM mA) h:=by
  have c:=vc_Drawn [rowA] h (by decide) (by decide);rw [dwA_] at c;exact c
theorem q2 (h : Hp) : VC Tryz.prog 30 [strs [rowB,rowB]] h (vM mB) h:=by
  have c:=vc_Drawn [rowB,rowB] h (by decide) (by decide);rw [dwB_] at c;exact c
theorem q3 (h : Hp) : VC Tryz.prog 30 [strs [rowA,rowC,rowA]] h (vM mC) h:=by
  have c:=vc_Drawn [rowA,rowC,rowA] h (by decide) (by decide);rw [dwC_] at c;exact c
theorem q4 (h : Hp) : VC Tryz.prog 30 [strs [rowD]] h (vM mD) h:=by
  have c:=vc_Drawn [rowD] h (by decide) (by decide);rw [dwD_] at c;exact c
theorem q5 (h : Hp) : VC Tryz.prog 30 [strs [rowE]] h (vM mE) h:=by
  have c:=vc_Drawn [rowE] h (by decide) (by decide);rw [dwE_] at c;exact c
theorem vc_Isles (h : Hp) : VC Tryz.prog 26 [] h (vM mC) h:=by
  have q3:=q3
  generalize cC = z at *
  refine VC.body Tryz.func26 rfl Tryz.ntmps26 Tryz.call26 (h.grows_refl) rfl ?_;conv=>whnf
  repeat' (first|((first|refine zs1 ?_|refine zs2 ?_|refine zs3 ?_|refine zs4 ?_|refine zs5 ?_);conv=>whnf)|((first|apply zi1|apply zi2|apply zi3|apply zi4|apply zi5) <;> intro _ <;> first|(exfalso;omega)|contradiction|(conv=>whnf)))
  refine VCall.intro (VC.give (args':=[strs [rowA,rowC,rowA]]) (loc':=[.flat true [DI 0,DI 0,.nilslice],.dead]) [(1,[.lit (.string rowA),.lit (.string rowC),.lit (.string rowA)])] [] (OutOk.lift _) zb zf (by exact FmAll.nil) rfl zv (q3 _)) ?_
  conv=>whnf
  repeat' (first|((first|refine zs1 ?_|refine zs2 ?_|refine zs3 ?_|refine zs4 ?_|refine zs5 ?_);conv=>whnf)|((first|apply zi1|apply zi2|apply zi3|apply zi4|apply zi5) <;> intro _ <;> first|(exfalso;omega)|contradiction|(conv=>whnf)))
  exact VOut.same rfl
theorem vc_Three (h : Hp) : VC Tryz.prog 27 [] h (yrs three) h:=by
  have q1:=q1
  have q4:=q4
  have q5:=q5
  have e : three = [mA,mD,mE]:=rfl
  rw [e]
  generalize cA = a at *
  generalize cD = d at *
  generalize cE = e at *
  refine VC.body Tryz.func27 rfl Tryz.ntmps27 Tryz.call27 (h.grows_refl) rfl ?_;conv=>whnf
  repeat' (first|((first|refine zs1 ?_|refine zs2 ?_|refine zs3 ?_|refine zs4 ?_|refine zs5 ?_);conv=>whnf)|((first|apply zi1|apply zi2|apply zi3|apply zi4|apply zi5) <;> intro _ <;> first|(exfalso;omega)|contradiction|(conv=>whnf)))
  refine VCall.intro (VC.give (args':=[strs [rowA]]) (loc':=[.dead]) [(0,[.lit (.string rowA)])] [] (OutOk.lift _) zb zf (by exact FmAll.nil) rfl zv (q1 _)) ?_
  conv=>whnf
  repeat' (first|((first|refine zs1 ?_|refine zs2 ?_|refine zs3 ?_|refine zs4 ?_|refine zs5 ?_);conv=>whnf)|((first|apply zi1|apply zi2|apply zi3|apply zi4|apply zi5) <;> intro _ <;> first|(exfalso;omega)|contradiction|(conv=>whnf)))
  refine VCall.intro (VC.give (args':=[strs [rowD]]) (loc':=[.dead,.dead]) [(1,[.lit (.string rowD)])] [] (OutOk.lift _) zb zf (by exact FmAll.nil) rfl zv (q4 _)) ?_
  conv=>whnf
  repeat' (first|((first|refine zs1 ?_|refine zs2 ?_|refine zs3 ?_|refine zs4 ?_|refine zs5 ?_);conv=>whnf)|((first|apply zi1|apply zi2|apply zi3|apply zi4|apply zi5) <;> intro _ <;> first|(exfalso;omega)|contradiction|(conv=>whnf)))
  refine VCall.intro (VC.give (args':=[strs [rowE]]) (loc':=[.dead,.dead,.dead]) [(2,[.lit (.string rowE)])] [] (OutOk.lift _) zb zf (by exact FmAll.nil) rfl zv (q5 _)) ?_
  conv=>whnf
  repeat' (first|((first|refine zs1 ?_|refine zs2 ?_|refine zs3 ?_|refine zs4 ?_|refine zs5 ?_);conv=>whnf)|((first|apply zi1|apply zi2|apply zi3|apply zi4|apply zi5) <;> intro _ <;> first|(exfalso;omega)|contradiction|(conv=>whnf)))
  refine VOut.data 9 [(3,([mA,mD,mE] : List Mp).flatMap encM)] [] rfl zf (by exact FmAll.nil) zw
theorem top54 : vaggeq Tryz.prog .eql 46 (vGn gainT) (vGn gainT) = some (B true):=by kernel_rfl
theorem farC_ : farC = [-1,5,4,3,2,1,0,-1,6,5,4,2,1,0,-1,5,4,3,2,1,0]:=by kernel_rfl
theorem wayC_ : wayC = [14,15,16,17,10]:=by kernel_rfl
theorem vc_awake (h : Hp) : VC Tryz.prog 6 [] h (B true) h:=by
  have q1:=q1
  have q2:=q2
  have q4:=q4
  have k1:=k1
  have k2:=k2
  have k3:=k3
  have k4:=k4
  have k5:=k5
  have k6:=k6
  have k7:=k7
  have k8:=k8
  have k9:=k9
  have v1:=vc_Isles
  have v2:=vc_Three
  rw [farC_] at k4
  rw [wayC_] at k5
  have j1:=fun h=>vc_kequalI [1,1,1,3,2,2,2] [1,1,1,3,2,2,2] h (by decide) (by decide)
  have j2:=fun h=>vc_kequalH [⟨3,1,false⟩] [⟨3,1,false⟩] h (by decide) (by decide)
  have j3:=fun h=>vc_kequalH [⟨9,1,true⟩,⟨11,2,true⟩] [⟨9,1,true⟩,⟨11,2,true⟩] h (by decide) (by decide)
  have j4:=fun h=>vc_kequalS [⟨1,144⟩] [⟨1,144⟩] h (by decide) (by decide)
  have j5:=fun h=>vc_equal mD mD h (by decide) (by decide)
  rw [decide_eq_true rfl] at j1 j2 j3 j4 j5
  generalize three = T3 at *
  generalize cA = zA at *
  generalize cB = zB at *
  generalize cC = zC at *
  generalize cD = zD at *
  refine VC.bodyC 2 Tryz.func6 rfl Tryz.ntmps6 Tryz.call6 (h.grows_refl) rfl ?_;conv=>whnf
  repeat' (first|((first|refine zs1 ?_|refine zs2 ?_|refine zs3 ?_|refine zs4 ?_|refine zs5 ?_);conv=>whnf)|((first|apply zi1|apply zi2|apply zi3|apply zi4|apply zi5) <;> intro _ <;> first|(exfalso;omega)|contradiction|(conv=>whnf)))
  refine VCall.intro (VC.give (args':=[strs [rowA]]) (loc':=[.dead]) [(0,[.lit (.string rowA)])] [] (OutOk.lift _) zb zf (by exact FmAll.nil) rfl zv (q1 _)) ?_
  conv=>whnf
  repeat' (first|((first|refine zs1 ?_|refine zs2 ?_|refine zs3 ?_|refine zs4 ?_|refine zs5 ?_);conv=>whnf)|((first|apply zi1|apply zi2|apply zi3|apply zi4|apply zi5) <;> intro _ <;> first|(exfalso;omega)|contradiction|(conv=>whnf))|(refine VCall.intro (k1 _) ?_;conv=>whnf))
  refine VCut.at' (outer:=h.lift) (marks:=[]) 1 [(1,ints [1,1,1,3,2,2,2]),(2,I 0)] [] ?_ ?_
  · conv=>whnf
    refine Retell.turn ⟨[],9,[],[]⟩ (TurnOk.mk' _ _ [] [] (OutOk.lift _) rfl (by decide) zb trivial trivial rfl) zw zm
  conv=>whnf
  repeat' (first|((first|refine zs1 ?_|refine zs2 ?_|refine zs3 ?_|refine zs4 ?_|refine zs5 ?_);conv=>whnf)|((first|apply zi1|apply zi2|apply zi3|apply zi4|apply zi5) <;> intro _ <;> first|(exfalso;omega)|contradiction|(conv=>whnf)))
  refine VCall.intro (VC.give (args':=[strs [rowB,rowB]]) (loc':=[.dead]) [(0,[.lit (.string rowB),.lit (.string rowB)])] [] (OutOk.lift _) zb zf (by exact FmAll.nil) rfl zv (q2 _)) ?_
  conv=>whnf
  repeat' (first|((first|refine zs1 ?_|refine zs2 ?_|refine zs3 ?_|refine zs4 ?_|refine zs5 ?_);conv=>whnf)|((first|apply zi1|apply zi2|apply zi3|apply zi4|apply zi5) <;> intro _ <;> first|(exfalso;omega)|contradiction|(conv=>whnf))|(refine VCall.intro (k2 _) ?_;conv=>whnf))
  refine VCut.at' (outer:=h.lift) (marks:=[]) 1 [(1,ints [1,1,1,3,2,2,2]),(2,I 0),(3,shs [⟨3,1,false⟩]),(4,I 0)] [] ?_ ?_
  · conv=>whnf
    refine Retell.turn ⟨[],9,[],[]⟩ (TurnOk.mk' _ _ [] [] (OutOk.lift _) rfl (by decide) zb trivial trivial rfl) zw zm
  conv=>whnf
  repeat' (first|((first|refine zs1 ?_|refine zs2 ?_|refine zs3 ?_|refine zs4 ?_|refine zs5 ?_);conv=>whnf)|((first|apply zi1|apply zi2|apply zi3|apply zi4|apply zi5) <;> intro _ <;> first|(exfalso;omega)|contradiction|(conv=>whnf))|(refine VCall.intro (v1 _) ?_;conv=>whnf)|(refine VCall.intro (k3 _) ?_;conv=>whnf))
  refine VCut.at' (outer:=h.lift) (marks:=[]) 1 [(1,ints [1,1,1,3,2,2,2]),(2,I 0),(3,shs [⟨3,1,false⟩]),(4,I 0),(5,shs [⟨9,1,true⟩,⟨11,2,true⟩]),(6,I 0)] [] ?_ ?_
  · conv=>whnf
    refine Retell.turn ⟨[],9,[],[]⟩ (TurnOk.mk' _ _ [] [] (OutOk.lift _) rfl (by decide) zb trivial trivial rfl) zw zm
  conv=>whnf
  repeat' (first|((first|refine zs1 ?_|refine zs2 ?_|refine zs3 ?_|refine zs4 ?_|refine zs5 ?_);conv=>whnf)|((first|apply zi1|apply zi2|apply zi3|apply zi4|apply zi5) <;> intro _ <;> first|(exfalso;omega)|contradiction|(conv=>whnf))|(refine VCall.intro (v1 _) ?_;conv=>whnf)|(refine VCall.intro (k4 _) ?_;conv=>whnf))
  refine VCut.at' (outer:=h.lift) (marks:=[]) 1 [(1,ints [1,1,1,3,2,2,2]),(2,I 0),(3,shs [⟨3,1,false⟩]),(4,I 0),(5,shs [⟨9,1,true⟩,⟨11,2,true⟩]),(6,I 0),(7,ints [-1,5,4,3,2,1,0,-1,6,5,4,2,1,0,-1,5,4,3,2,1,0]),(8,I 0)] [] ?_ ?_
  · conv=>whnf
    refine Retell.turn ⟨[],9,[],[]⟩ (TurnOk.mk' _ _ [] [] (OutOk.lift _) rfl (by decide) zb trivial trivial rfl) zw zm
  conv=>whnf
  repeat' (first|((first|refine zs1 ?_|refine zs2 ?_|refine zs3 ?_|refine zs4 ?_|refine zs5 ?_);conv=>whnf)|((first|apply zi1|apply zi2|apply zi3|apply zi4|apply zi5) <;> intro _ <;> first|(exfalso;omega)|contradiction|(conv=>whnf))|(refine VCall.intro (v1 _) ?_;conv=>whnf)|(refine VCall.intro (k5 _) ?_;conv=>whnf))
  refine VCut.at' (outer:=h.lift) (marks:=[]) 1 [(1,ints [1,1,1,3,2,2,2]),(2,I 0),(3,shs [⟨3,1,false⟩]),(4,I 0),(5,shs [⟨9,1,true⟩,⟨11,2,true⟩]),(6,I 0),(7,ints [-1,5,4,3,2,1,0,-1,6,5,4,2,1,0,-1,5,4,3,2,1,0]),(8,I 0),(9,ints [14,15,16,17,10]),(10,I 0)] [] ?_ ?_
  · conv=>whnf
    refine Retell.turn ⟨[],9,[],[]⟩ (TurnOk.mk' _ _ [] [] (OutOk.lift _) rfl (by decide) zb trivial trivial rfl) zw zm
  conv=>whnf
  repeat' (first|((first|refine zs1 ?_|refine zs2 ?_|refine zs3 ?_|refine zs4 ?_|refine zs5 ?_);conv=>whnf)|((first|apply zi1|apply zi2|apply zi3|apply zi4|apply zi5) <;> intro _ <;> first|(exfalso;omega)|contradiction|(conv=>whnf)))
  refine VCall.intro (VC.give (args':=[ints [1,1,1,3,2,2,2],ints [1,1,1,3,2,2,2]]) (loc':=[.dead]) [(0,[DI 1,DI 1,DI 1,DI 3,DI 2,DI 2,DI 2])] [] (OutOk.lift _) zb zf (by exact FmAll.nil) rfl zv (j1 _)) ?_
  conv=>whnf
  repeat' (first|((first|refine zs1 ?_|refine zs2 ?_|refine zs3 ?_|refine zs4 ?_|refine zs5 ?_);conv=>whnf)|((first|apply zi1|apply zi2|apply zi3|apply zi4|apply zi5) <;> intro _ <;> first|(exfalso;omega)|contradiction|(conv=>whnf)))
  refine VCall.intro (VC.give (args':=[shs [⟨3,1,false⟩],shs [⟨3,1,false⟩]]) (loc':=[.dead,.dead]) [(1,[DI 3,DI 1,DB false])] [] (OutOk.lift _) zb zf (by exact FmAll.nil) rfl zv (j2 _)) ?_
  conv=>whnf
  repeat' (first|((first|refine zs1 ?_|refine zs2 ?_|refine zs3 ?_|refine zs4 ?_|refine zs5 ?_);conv=>whnf)|((first|apply zi1|apply zi2|apply zi3|apply zi4|apply zi5) <;> intro _ <;> first|(exfalso;omega)|contradiction|(conv=>whnf)))
  refine VCall.intro (VC.give (args':=[shs [⟨9,1,true⟩,⟨11,2,true⟩],shs [⟨9,1,true⟩,⟨11,2,true⟩]]) (loc':=[.dead,.dead,.dead]) [(2,[DI 9,DI 1,DB true,DI 11,DI 2,DB true])] [] (OutOk.lift _) zb zf (by exact FmAll.nil) rfl zv (j3 _)) ?_
  conv=>whnf
  repeat' (first|((first|refine zs1 ?_|refine zs2 ?_|refine zs3 ?_|refine zs4 ?_|refine zs5 ?_);conv=>whnf)|((first|apply zi1|apply zi2|apply zi3|apply zi4|apply zi5) <;> intro _ <;> first|(exfalso;omega)|contradiction|(conv=>whnf))|(refine VAny.ix Vm.encI_len 9 rfl rfl (show _ = some 5 from rfl) ?_;conv=>whnf)|(refine VAny.ix Vm.encI_len 10 rfl rfl (show _ = some 4 from rfl) ?_;conv=>whnf))
  refine VCut.at' (outer:=h.lift) (marks:=[]) 1 [] [] ?_ ?_
  · conv=>whnf
    refine Retell.turn ⟨[],9,[],[]⟩ (TurnOk.mk' _ _ [] [] (OutOk.lift _) rfl (by decide) zb trivial trivial rfl) zw zm
  conv=>whnf
  repeat' (first|((first|refine zs1 ?_|refine zs2 ?_|refine zs3 ?_|refine zs4 ?_|refine zs5 ?_);conv=>whnf)|((first|apply zi1|apply zi2|apply zi3|apply zi4|apply zi5) <;> intro _ <;> first|(exfalso;omega)|contradiction|(conv=>whnf))|(refine VCall.intro (v2 _) ?_;conv=>whnf)|(refine VCall.intro (k6 _) ?_;conv=>whnf))
  refine VCut.at' (outer:=h.lift) (marks:=[]) 1 [(2,I 0),(11,spans [⟨1,144⟩])] [] ?_ ?_
  · conv=>whnf
    refine Retell.turn ⟨[],9,[],[]⟩ (TurnOk.mk' _ _ [] [] (OutOk.lift _) rfl (by decide) zb trivial trivial rfl) zw zm
  conv=>whnf
  repeat' (first|((first|refine zs1 ?_|refine zs2 ?_|refine zs3 ?_|refine zs4 ?_|refine zs5 ?_);conv=>whnf)|((first|apply zi1|apply zi2|apply zi3|apply zi4|apply zi5) <;> intro _ <;> first|(exfalso;omega)|contradiction|(conv=>whnf))|(refine VCall.intro (v2 _) ?_;conv=>whnf)|(refine VCall.intro (k7 _) ?_;conv=>whnf))
  refine VCut.at' (outer:=h.lift) (marks:=[]) 1 [(2,I 0),(11,spans [⟨1,144⟩]),(4,I 0),(12,yrs [mA,mD,mD])] [] ?_ ?_
  · conv=>whnf
    refine Retell.turn ⟨[],9,[],[]⟩ (TurnOk.mk' _ _ [] [] (OutOk.lift _) rfl (by decide) zb trivial trivial rfl) zw zm
  conv=>whnf
  repeat' (first|((first|refine zs1 ?_|refine zs2 ?_|refine zs3 ?_|refine zs4 ?_|refine zs5 ?_);conv=>whnf)|((first|apply zi1|apply zi2|apply zi3|apply zi4|apply zi5) <;> intro _ <;> first|(exfalso;omega)|contradiction|(conv=>whnf))|(refine VCall.intro (v2 _) ?_;conv=>whnf)|(refine VCall.intro (k8 _) ?_;conv=>whnf))
  refine VCut.at' (outer:=h.lift) (marks:=[]) 1 [(2,I 0),(11,spans [⟨1,144⟩]),(4,I 0),(12,yrs [mA,mD,mD]),(6,I 0),(13,.fp (gainT.map DI))] [] ?_ ?_
  · conv=>whnf
    refine Retell.turn ⟨[],9,[(0,gainT.map DI)],[]⟩ (TurnOk.mk' _ _ [(0,gainT.map DI)] [] (OutOk.lift _) rfl (by decide) zb zf trivial rfl) zw zm
  conv=>whnf
  repeat' (first|((first|refine zs1 ?_|refine zs2 ?_|refine zs3 ?_|refine zs4 ?_|refine zs5 ?_);conv=>whnf)|((first|apply zi1|apply zi2|apply zi3|apply zi4|apply zi5) <;> intro _ <;> first|(exfalso;omega)|contradiction|(conv=>whnf))|(refine VCall.intro (v2 _) ?_;conv=>whnf)|(refine VCall.intro (k9 _) ?_;conv=>whnf))
  refine VCut.at' (outer:=h.lift) (marks:=[]) 99 [(2,I 0),(11,spans [⟨1,144⟩]),(4,I 0),(12,yrs [mA,mD,mD]),(6,I 0),(13,.fp (gainT.map DI)),(8,I 0),(14,I 1)] [] ?_ ?_
  · conv=>whnf
    refine Retell.turn ⟨[],9,[],[]⟩ (TurnOk.mk' _ _ [] [] (OutOk.lift _) rfl (by decide) zb trivial trivial rfl) zw zm
  conv=>whnf
  refine zs6 [(28,30)] ?_
  conv=>whnf
  repeat' (first|((first|refine zs1 ?_|refine zs2 ?_|refine zs3 ?_|refine zs4 ?_|refine zs5 ?_);conv=>whnf)|((first|apply zi1|apply zi2|apply zi3|apply zi4|apply zi5) <;> intro _ <;> first|(exfalso;omega)|contradiction|(conv=>whnf)))
  refine VCall.intro (VC.give (args':=[spans [⟨1,144⟩],spans [⟨1,144⟩]]) (loc':=[.dead]) [(0,[DI 1,DI 144])] [] (OutOk.lift _) zb zf (by exact FmAll.nil) rfl zv (j4 _)) ?_
  conv=>whnf
  repeat' (first|((first|refine zs1 ?_|refine zs2 ?_|refine zs3 ?_|refine zs4 ?_|refine zs5 ?_);conv=>whnf)|((first|apply zi1|apply zi2|apply zi3|apply zi4|apply zi5) <;> intro _ <;> first|(exfalso;omega)|contradiction|(conv=>whnf))|(refine VAny.ix encM_len 2 rfl rfl (show _ = some mD from rfl) ?_;conv=>whnf))
  refine VCall.intro (VC.give (args':=[strs [rowD]]) (loc':=[.dead,.dead]) [(1,[.lit (.string rowD)])] [] (OutOk.lift _) zb zf (by exact FmAll.nil) rfl zv (q4 _)) ?_
  conv=>whnf
  repeat' (first|((first|refine zs1 ?_|refine zs2 ?_|refine zs3 ?_|refine zs4 ?_|refine zs5 ?_);conv=>whnf)|((first|apply zi1|apply zi2|apply zi3|apply zi4|apply zi5) <;> intro _ <;> first|(exfalso;omega)|contradiction|(conv=>whnf))|(refine VCall.intro (j5 _) ?_;conv=>whnf)|(refine VAgg.intro (show _ = some (B true) from top54) ?_;conv=>whnf))
  exact VOut.same rfl
end Go.Proofs.YtkbbfeljlepgoaaGreat

open Go.Vm
namespace Go.Proofs.YtkbbfeljlepgoaaGreat
set_option maxRecDepth 20000
set_option maxHeartbeats 4000000
def encU (n : Int) : List D:=[.s (.int .u8 n)]
theorem encU_len (n : Int) : (encU n).length = 1:=rfl
end Go.Proofs.YtkbbfeljlepgoaaGreat

open Go.Vm
open Riv
namespace Go.Proofs.YtkbbfeljlepgoaaGreat
open Go.ChangeShapes Go.WideShapes Go.ChangeAt Go.RowKit

theorem open3 : Opens Tryz.prog 3 (fun n : Int=>[DI n]):=Opens.int Tryz.underlying3
theorem open22 : Opens Tryz.prog 24 (fun l : List Int=>[dints l]):=Opens.slice Tryz.underlying24 Vm.encI_len (by kernel_rfl) (by decide) open3
theorem open24 : Opens Tryz.prog 26 encM:=(Opens.struct3 1 1 1 Tryz.underlying26 (by kernel_rfl) rfl rfl rfl (by kernel_rfl) (by kernel_rfl) (by kernel_rfl) open3 open3 open22).as (fun x=>⟨x.1,x.2.1,x.2.2⟩) encM fun _=>rfl
def dM (m : Mp) : D:=.agg (encM m)
def dYs (l : List Mp) : D:=.sl 3 l.length (l.flatMap encM)
theorem openM : OpenV Tryz.prog 26 dM:=OpenV.struct Tryz.underlying26 open24
theorem openI : OpenV Tryz.prog 3 (fun n : Int=>DI n):=OpenV.int Tryz.underlying3
theorem openL : OpenV Tryz.prog 24 dints:=OpenV.slice Tryz.underlying24 (Opens.slice Tryz.underlying24 Vm.encI_len (by kernel_rfl) (by decide) open3)
theorem openYs : OpenV Tryz.prog 22 dYs:=OpenV.slice Tryz.underlying22 (Opens.slice Tryz.underlying22 encM_len (by kernel_rfl) (by decide) open24)
def dU (l : List Int) : D:=.sl 1 l.length (l.flatMap encU)
theorem openU : OpenV Tryz.prog 75 dU:=OpenV.slice Tryz.underlying75 (Opens.slice Tryz.underlying75 encU_len (by kernel_rfl) (by decide) (Opens.int Tryz.underlying5))
def d8b (n : {n : Int // 0 ≤ n ∧ n ≤ 255}) : D:=.s (.int .u8 n.1)
theorem openV_u8 {P : Program} {t : TypeId} (ht : P.underlying t = some (.int .u8)) : OpenV P t d8b:=by
  intro W base H en v dd ps hok ⟨fuel,ht2⟩
  obtain ⟨n,h2,_,hw⟩:=DataW.trod_int ht ht2
  have hb : 0 ≤ n ∧ n ≤ 255:=by
    have hw2 : (decide ((0 : Int) ≤ n) && decide (n ≤ (255 : Int))) = true:=hw
    simpa using hw2
  unfold Value.okWide at hok
  rw [ht] at hok
  simp only [Cell.okWide,ht] at hok
  refine ⟨⟨n,hb⟩,?_⟩
  cases v <;> simp [Cell.ok,ht] at hok
  simp [Value.cells] at h2
  simp only [d8b,DR,S.val]
  rw [h2.1,h2.2]
theorem open8b : OpenV Tryz.prog 5 d8b:=openV_u8 Tryz.underlying5
theorem ownKn : ownKnob Tryz.prog.godebug = none:=by kernel_rfl
theorem laidOut : laidOutB Tryz.prog = true:=by kernel_rfl
end Go.Proofs.YtkbbfeljlepgoaaGreat


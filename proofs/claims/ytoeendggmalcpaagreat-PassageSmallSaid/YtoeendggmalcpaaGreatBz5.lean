/- Part 5 of the proof that small nets are as the given statement says. No condition. -/
import Derived.Test.YtoeendggmalcpaaGreatBz4
set_option linter.unusedVariables false
set_option linter.unusedSimpArgs false
open Go.Vm
open Psg
namespace Go.Proofs.YtoeendggmalcpaaGreat
set_option maxRecDepth 20000
set_option maxHeartbeats 4000000

theorem vc_begun0 {n : Nat} (N : Nt) (x : Hd) (h : Hp) (hN : NOk n N) (hx : HOk n x) : VC Tryz.prog 53 [vN N,vHd x] h (.ptr h.fresh 0) (h.pushes [trB N x (bgn N.ws x).D (.loc (h.loc.length + 1)),.map (cmE (bgn N.ws x).c)]):=by
  refine VC.bodyC 2 Tryz.func53 rfl Tryz.ntmps53 Tryz.call53 (Hp.grows_sets (h:=h) (upd:=[]) (by simp)) rfl ?_
  conv=>whnf
  repeat' (first|((first|refine zs1 ?_|refine zs2 ?_|refine zs3 ?_|refine zs4 ?_|refine zs5 ?_);conv=>whnf)|((first|apply zi1|apply zi2|apply zi3|apply zi4|apply zi5) <;> intro _ <;> conv=>whnf))
  refine VCut.at' (outer:=h.lift) (marks:=[]) 99 [(2,.fp (encN N)),(3,.fp (encHd x)),(4,.nilptr),(5,.ptr (.loc 0) 0)] [.cells true [.ptr (.loc 1) 0],.cells true (preT N x ++ (List.replicate 160 0).map I ++ [.map (.loc 2)]),.map (cmE [])] ?_ ?_
  · conv=>whnf
    refine Retell.turn ⟨[4,3,2],5,[(0,encN N),(1,encHd x)],[]⟩ (TurnOk.mk' _ _ [(0,encN N),(1,encHd x)] [] (OutOk.lift _) rfl (by decide) (BTos.cells rfl rfl rfl zw (BTos.cells rfl rfl rfl zw (BTos.map rfl rfl (RowTo.nil _) (RowTo.nil _) BTos.nil))) zf trivial rfl) zw zm
  · conv=>whnf
    repeat' (first|((first|refine zs1 ?_|refine zs2 ?_|refine zs3 ?_|refine zs4 ?_|refine zs5 ?_);conv=>whnf)|((first|apply zi1|apply zi2|apply zi3|apply zi4|apply zi5) <;> intro _ <;> conv=>whnf))
    refine VCode.lp (fun p : Nat=>[(2,.fp (encN N)),(3,.fp (encHd x)),(4,.nilptr),(5,.ptr (.loc 0) 0),(21,I p)]) (fun p=>[.cells true [.ptr (.loc 1) 0],trB N x (iniD (16 * p)) (.loc 2),.map (cmE [])]) (fun p=>p ≤ 10) (fun p=>10 - p) 0 (Nat.zero_le _) ?_ ?_
    · rw [show iniD (16 * 0) = List.replicate 160 0 from rfl]
      generalize List.replicate 160 (0 : Int) = Z
      conv=>whnf
      refine Retell.turn ⟨[0,1,2],3,[],[]⟩ (TurnOk.mk' _ _ [] [] (OutOk.lift _) rfl (by decide) (turn3 rfl rfl rfl rfl rfl rfl rfl rfl BTos.nil) trivial trivial rfl) zw zm
    · intro p hp
      conv=>whnf
      refine VIte.dec (fun h1=>?_) (fun h1=>?_)
      · conv=>whnf
        repeat' (first|((first|refine zs1 ?_|refine zs2 ?_|refine zs3 ?_|refine zs4 ?_|refine zs5 ?_);conv=>whnf)|((first|apply zi1|apply zi2|apply zi3|apply zi4|apply zi5) <;> intro _ <;> conv=>whnf))
        refine VCode.lp (fun s : Nat=>[(2,.fp (encN N)),(3,.fp (encHd x)),(4,.nilptr),(5,.ptr (.loc 0) 0),(6,I p),(21,I p),(24,I s)]) (fun s=>[.cells true [.ptr (.loc 1) 0],trB N x (iniD (16 * p + s)) (.loc 2),.map (cmE [])]) (fun s=>s ≤ 16) (fun s=>16 - s) 0 (Nat.zero_le _) ?_ ?_
        · rw [show 16 * p + 0 = 16 * p from rfl]
          generalize iniD (16 * p) = D
          conv=>whnf
          refine Retell.turn ⟨[0,1,2],3,[],[]⟩ (TurnOk.mk' _ _ [] [] (OutOk.lift _) rfl (by decide) (turn3 rfl rfl rfl rfl rfl rfl rfl rfl BTos.nil) trivial trivial rfl) zw zm
        · intro s hs
          conv=>whnf
          refine VIte.dec (fun h2=>?_) (fun h2=>?_)
          · have hset:=iniD_set (k:=16 * p + s) (by omega)
            have hlen:=iniD_len (k:=16 * p + s) (by omega)
            generalize iniD (16 * p + s) = D at hset hlen
            conv=>whnf
            repeat' (first|((first|refine zs1 ?_|refine zs2 ?_|refine zs3 ?_|refine zs4 ?_|refine zs5 ?_);conv=>whnf)|((first|apply zi1|apply zi2|apply zi3|apply zi4|apply zi5) <;> intro _ <;> conv=>whnf))
            refine VMem.setMid (pre:=preT N x) (l:=D) (post:=[.map (.loc 2)]) (16 * p + s) rfl rfl rfl (by omega) (by show 0 + 5 + (p : Int).toNat * 16 + (s : Int).toNat * 1 = 5 + (16 * p + s);omega) ?_
            rw [hset,show 16 * p + s + 1 = 16 * p + (s + 1) from rfl]
            conv=>whnf
            repeat' (first|((first|refine zs1 ?_|refine zs2 ?_|refine zs3 ?_|refine zs4 ?_|refine zs5 ?_);conv=>whnf)|((first|apply zi1|apply zi2|apply zi3|apply zi4|apply zi5) <;> intro _ <;> conv=>whnf))
            refine LEnd.intro (s + 1) (by omega) (by omega) ?_
            generalize iniD (16 * p + (s + 1)) = D
            conv=>whnf
            refine Retell.turn ⟨[0,1,2],3,[],[]⟩ (TurnOk.mk' _ _ [] [] (OutOk.lift _) rfl (by decide) (turn3 rfl rfl rfl rfl rfl rfl rfl rfl BTos.nil) trivial trivial rfl) zw zm
          · obtain rfl : s = 16:=by omega
            rw [show 16 * p + 16 = 16 * (p + 1) from rfl]
            conv=>whnf
            repeat' (first|((first|refine zs1 ?_|refine zs2 ?_|refine zs3 ?_|refine zs4 ?_|refine zs5 ?_);conv=>whnf)|((first|apply zi1|apply zi2|apply zi3|apply zi4|apply zi5) <;> intro _ <;> conv=>whnf))
            refine LEnd.intro (p + 1) (by omega) (by omega) ?_
            generalize iniD (16 * (p + 1)) = D
            conv=>whnf
            refine Retell.turn ⟨[0,1,2],3,[],[]⟩ (TurnOk.mk' _ _ [] [] (OutOk.lift _) rfl (by decide) (turn3 rfl rfl rfl rfl rfl rfl rfl rfl BTos.nil) trivial trivial rfl) zw zm
      · obtain rfl : p = 10:=by omega
        rw [show iniD (16 * 10) = List.replicate 160 1001 from rfl]
        conv=>whnf
        repeat' (first|((first|refine zs1 ?_|refine zs2 ?_|refine zs3 ?_|refine zs4 ?_|refine zs5 ?_);conv=>whnf)|((first|apply zi1|apply zi2|apply zi3|apply zi4|apply zi5) <;> intro _ <;> conv=>whnf))
        have hxp:=hx.p
        have hxs:=hx.s
        have hn1:=hN.n1
        unfold Pp at hxs
        refine zs6 [] ?_
        conv=>whnf
        repeat' (first|((first|refine zs1 ?_|refine zs2 ?_|refine zs3 ?_|refine zs4 ?_|refine zs5 ?_);conv=>whnf)|((first|apply zi1|apply zi2|apply zi3|apply zi4|apply zi5) <;> intro _ <;> conv=>whnf))
        refine VMem.setMid (pre:=preT N x) (l:=List.replicate 160 1001) (post:=[.map (.loc 2)]) (ix x.p x.s) rfl rfl rfl (by rw [List.length_replicate];unfold ix;omega) (by show 0 + 5 + x.p.toNat * 16 + x.s.toNat * 1 = 5 + ix x.p x.s;unfold ix;omega) ?_
        rw [show (List.replicate 160 (1001 : Int)).set (ix x.p x.s) x.d = (st0 x).D from rfl]
        generalize hst : st0 x = y0
        have hI0:=ti0 (n:=n) (ws:=N.ws) (by omega) hN.ws hx
        rw [hst] at hI0
        have hph:=phi0 (n:=n) hx
        rw [hst] at hph
        have hq0 : y0.q = [(x.p,x.s)]:=by rw [← hst];rfl
        have hc0 : y0.c = []:=by rw [← hst];rfl
        obtain ⟨E,hE⟩ : ∃ E,E = bgn N.ws x:=⟨_,rfl⟩
        have hE0 : E = bgo N.ws 400000 y0:=by rw [hE,← hst];rfl
        rw [← hE]
        conv=>whnf
        repeat' (first|((first|refine zs1 ?_|refine zs2 ?_|refine zs3 ?_|refine zs4 ?_|refine zs5 ?_);conv=>whnf)|((first|apply zi1|apply zi2|apply zi3|apply zi4|apply zi5) <;> intro _ <;> conv=>whnf))
        refine VCode.lpC (outer:=h.lift) (marks:=[]) 1 (fun y : Psg.St=>[(2,.fp (encN N)),(3,.fp (encHd x)),(4,.nilptr),(5,.ptr (.loc 0) 0),(8,.ptr (.loc 3) 0)]) (fun y=>[.cells true [.ptr (.loc 1) 0],trB N x y.D (.loc 2),.map (cmE y.c),.cells true [.gl (.loc 4) 2 y.q.length],.flat true (y.q.flatMap encKy)]) (fun y=>TI n N.ws x y none [] ∧ phi y < 400000 ∧ ∃ M,phi y < M ∧ E = bgo N.ws M y) (fun y=>phi y) y0 ⟨hI0,hph,400000,hph,hE0⟩ ?_ ?_
        · rw [hq0,hc0]
          generalize y0.D = D
          conv=>whnf
          refine Retell.turn ⟨[0,1,2,4,3],5,[],[]⟩ (TurnOk.mk' _ _ [] [] (OutOk.lift _) rfl (by decide) (turn3 rfl rfl rfl rfl rfl rfl rfl rfl (BTos.cells rfl rfl rfl zw (BTos.flat rfl rfl rfl BTos.nil))) trivial trivial rfl) zw zm
        · rintro ⟨D,c,q⟩ ⟨h2,h3,M,h4,h5⟩
          cases q with
          | nil =>
            conv=>whnf
            repeat' (first|((first|refine zs1 ?_|refine zs2 ?_|refine zs3 ?_|refine zs4 ?_|refine zs5 ?_);conv=>whnf)|((first|apply zi1|apply zi2|apply zi3|apply zi4|apply zi5) <;> intro _ <;> conv=>whnf))
            obtain rfl : E = ⟨D,c,[]⟩:=by
              rw [h5]
              cases M <;> rfl
            have e0 : h.pushes [trB N x D (.loc (h.loc.length + 1)),.map (cmE c)] = (h.sets []).pushes [trB N x D (.loc (h.loc.length + 1)),.map (cmE c)]:=rfl
            rw [e0]
            refine VOut.upd [] [trB N x D (.loc (h.loc.length + 1)),.map (cmE c)] [1,2] 6 rfl (by simp) (by decide) rfl ?_ ?_ rfl
            · intro i b hi
              rcases i with _|_|i
              · simp only [List.getElem?_cons_zero,Option.some.injEq] at hi
                subst hi
                refine ⟨1,rfl,?_⟩
                rw [trB_ren]
                have : backR h.loc.length [1,2] 6 (.loc (h.loc.length + 1)) = .loc 2:=by simp [backR]
                rw [this]
                rfl
              · simp only [List.getElem?_cons_succ,List.getElem?_cons_zero,Option.some.injEq] at hi
                subst hi
                refine ⟨2,rfl,?_⟩
                rw [cmE_ren]
                rfl
              · simp at hi
            · intro σ v hv
              have : (V.ptr h.fresh 0).ren (backR h.loc.length [1,2] 6) = .ptr (.loc 1) 0:=by simp [V.ren,backR,Hp.fresh]
              rw [this]
              exact hv
          | cons k r =>
            have hpop:=ti_pop h2
            have hk:=hpop.1
            have hkx:=hk.1
            have hks:=hk.2
            unfold Pp at hks
            have hqb : (k :: r).length ≤ 400000:=by unfold phi at h3;dsimp only at h3;omega
            rw [List.length_cons] at hqb
            conv=>whnf
            repeat' (first|((first|refine zs1 ?_|refine zs2 ?_|refine zs3 ?_|refine zs4 ?_|refine zs5 ?_);conv=>whnf)|((first|apply zi1|apply zi2|apply zi3|apply zi4|apply zi5) <;> intro _ <;> conv=>whnf))
            · refine VCut.blockE 1 ?_
              conv=>whnf
              repeat' (first|((first|refine zs1 ?_|refine zs2 ?_|refine zs3 ?_|refine zs4 ?_|refine zs5 ?_);conv=>whnf)|((first|apply zi1|apply zi2|apply zi3|apply zi4|apply zi5) <;> intro _ <;> conv=>whnf))
              refine VCut.region 2 ?_
              conv=>whnf
              repeat' (first|((first|refine zs1 ?_|refine zs2 ?_|refine zs3 ?_|refine zs4 ?_|refine zs5 ?_);conv=>whnf)|((first|apply zi1|apply zi2|apply zi3|apply zi4|apply zi5) <;> intro _ <;> conv=>whnf))
              refine VAny.intro (v:=.slice (.loc 4) 2 2 r.length none) ⟨by simp;omega,r.length,by simp,.inr ⟨by simp,rfl⟩⟩ ?_
              conv=>whnf
              refine RCut.at [(2,.fp (encN N)),(3,.fp (encHd x)),(4,.nilptr),(5,.ptr (.loc 0) 0),(8,.ptr (.loc 3) 0),(9,.fp (encKy k)),(60,.gl (.loc 4) 2 r.length)] [.cells true [.ptr (.loc 1) 0],trB N x D (.loc 2),.map (cmE c),.cells true [.undef],.flat true (r.flatMap encKy)] (marks':=[]) ?_ ?_
              · conv=>whnf
                refine Retell.trans (Retell.tail 60 4 2 2 r.length (encKy k) (r.flatMap encKy) rfl rfl rfl) ?_
                conv=>whnf
                refine Retell.turn ⟨[0,1,2,3,6],7,[(5,encKy k)],[]⟩ (TurnOk.mk' _ _ [(5,encKy k)] [] (OutOk.lift _) rfl (by decide) (turn3 rfl rfl rfl rfl rfl rfl rfl rfl (BTos.cells rfl rfl rfl zw (BTos.flat rfl rfl rfl BTos.nil))) zf trivial rfl) zw zm
              · conv=>whnf
                repeat' (first|((first|refine zs1 ?_|refine zs2 ?_|refine zs3 ?_|refine zs4 ?_|refine zs5 ?_);conv=>whnf)|((first|apply zi1|apply zi2|apply zi3|apply zi4|apply zi5) <;> intro _ <;> conv=>whnf))
                refine zs6 [] ?_
                conv=>whnf
                repeat' (first|((first|refine zs1 ?_|refine zs2 ?_|refine zs3 ?_|refine zs4 ?_|refine zs5 ?_);conv=>whnf)|((first|apply zi1|apply zi2|apply zi3|apply zi4|apply zi5) <;> intro _ <;> conv=>whnf)|(refine VCall.intro (vc_leading N k.1 _) ?_;conv=>whnf))
                refine VCode.tell [(2,.fp (encN N)),(3,.fp (encHd x)),(4,.nilptr),(5,.ptr (.loc 0) 0),(8,.ptr (.loc 3) 0),(9,.fp (encKy k)),(67,vLead N k.1)] [.cells true [.ptr (.loc 1) 0],trB N x D (.loc 2),.map (cmE c),.cells true [.gl (.loc 4) 2 r.length],.flat true (r.flatMap encKy)] (marks':=[]) ?_ ?_
                · conv=>whnf
                  refine Retell.turn ⟨[0,1,2,3,4],5,[],[]⟩ (TurnOk.mk' _ _ [] [] (OutOk.lift _) rfl (by decide) (turn3 rfl rfl rfl rfl rfl rfl rfl rfl (BTos.cells rfl rfl rfl zw (BTos.flat rfl rfl rfl BTos.nil))) trivial trivial rfl) zw zm
                · conv=>whnf
                  have hs0 : sJ N k ⟨D,c,r⟩ 0 = ⟨D,c,r⟩:=by unfold sJ rlxs;rw [List.take_zero];rfl
                  refine VCode.iterN N.ws.length (ldY N k.1) (fun j g=>OJ h.lift N x (sJ N k ⟨D,c,r⟩ j) g) (fun _ _=>False) _ (.loc 6) rfl (iter_lead N k.1 (by have:=hN.len;omega)) rfl rfl (by rw [hs0];exact ⟨rfl,rfl,rfl,rfl,⟨4,.inl rfl,rfl,rfl⟩,rfl⟩) ?_ ?_ ?_ ?_
                  · rintro j g hj hy hJ
                    have hw : N.ws[j]? = some N.ws[j]:=List.getElem?_eq_getElem hj
                    rw [ldY_eq hw] at hy
                    rw [sJ_step hw]
                    have hf : ¬ N.ws[j].f = k.1:=fun e=>by rw [decide_eq_true e] at hy;cases hy
                    generalize N.ws[j] = w at hf
                    generalize sJ N k ⟨D,c,r⟩ j = sj at hJ
                    obtain ⟨D1,c1,q1⟩:=sj
                    rw [rlx_if,if_neg]
                    · exact hJ
                    · unfold gnB
                      rw [decide_eq_true_eq]
                      exact fun h=>hf h.1.symm
                  · rintro j g vs hj hy hJ hlp
                    have hw : N.ws[j]? = some N.ws[j]:=List.getElem?_eq_getElem hj
                    have hwo:=hN.ws N.ws[j] (List.getElem_mem hj)
                    rw [ldY_eq hw] at hy
                    rw [sJ_step hw]
                    have hf : N.ws[j].f = k.1:=Decidable.byContradiction fun e=>by rw [decide_eq_false e] at hy;cases hy
                    rw [decide_eq_true hf] at hy
                    generalize N.ws[j] = w at hf hy hwo
                    cases hy
                    obtain ⟨⟨done,hT⟩,hph1⟩:=sJ_ok (s:=⟨D,c,r⟩) hN hx hk hpop.2 j
                    generalize sJ N k ⟨D,c,r⟩ j = sj at hJ hT hph1
                    obtain ⟨D1,c1,q1⟩:=sj
                    have hq1 : q1.length ≤ 800000:=by
                      have : q1.length ≤ phi ⟨D1,c1,q1⟩:=by unfold phi;dsimp only;omega
                      have : phi ⟨D,c,r⟩ ≤ phi ⟨D,c,k :: r⟩:=by unfold phi;simp
                      omega
                    have hl1 : D1.length = 160:=hT.len
                    have hdk:=hT.rng k hk
                    dsimp only at hdk
                    have hxd:=hx.d
                    have hgk:=at_get hl1 hn1.2 hk
                    rw [rlx_if]
                    obtain ⟨jo,j0,j1,j2,⟨m,hm,j3,jm⟩,j5⟩:=hJ
                    dsimp only at j1 j2 j3 jm
                    generalize hdd : atD D1 k.1 k.2 = dk at hdk hgk
                    have cG:=fun h=>vc_gone w ⟨k.1,dk,k.2⟩ h hwo (by dsimp only;omega) hk.2
                    have hyo : gnB w ⟨k.1,dk,k.2⟩ = true → InR n ((gnV w ⟨k.1,dk,k.2⟩).p,(gnV w ⟨k.1,dk,k.2⟩).s):=fun hg=>by
                      have h1 : gone w ⟨k.1,dk,k.2⟩ = some (gnV w ⟨k.1,dk,k.2⟩):=by rw [gone_eq,hg];rfl
                      have h2:=gone_ok hwo hk.2 h1
                      exact ⟨h2.2.2.1,h2.2.2.2.2.2.2⟩
                    generalize gnV w ⟨k.1,dk,k.2⟩ = y at cG hyo
                    have hm1 : Vm.Id.loc m ≠ .loc 1:=by intro h0;injection h0;omega
                    have hm2 : Vm.Id.loc m ≠ .loc 2:=by intro h0;injection h0;omega
                    have hm3 : Vm.Id.loc 3 ≠ .loc m:=by intro h0;injection h0;omega
                    have hm6 : Vm.Id.loc m ≠ .loc 6:=by intro h0;injection h0;omega
                    have hm6' : Vm.Id.loc 6 ≠ .loc m:=fun h0=>hm6 h0.symm
                    have hT1 : ∀ (b : Blk) (loc : List Blk),(⟨outW g.lift (.loc 6) b,loc⟩ : Hp).get (.out (.loc 1)) = some (trB N x D1 (.out (.loc 2))):=fun b loc=>(get_setO (by decide) j1 loc).trans (by rw [trB_ren])
                    have hok : 0 + 5 + k.1.toNat * 16 + k.2.toNat * 1 = (preT N x).length + ix k.1 k.2:=by show _ = 5 + ix k.1 k.2;unfold ix;omega
                    cases hg : gnB w ⟨k.1,dk,k.2⟩
                    · rw [hg] at cG
                      rw [if_neg (by decide)]
                      refine Rnd.go hlp g hlp ?_ ⟨jo,j0,j1,j2,⟨m,hm,j3,jm⟩,j5⟩
                      refine VRound.vy' hlp rfl rfl rfl g.grows_refl fun l0=>?_
                      refine VRound.tell [(5,.ptr (.out (.loc 0)) 0),(8,.ptr (.out (.loc 3)) 0),(9,.fp (encKy k)),(68,I j),(69,vWy w)] ?_ ?_
                      · conv=>whnf
                        refine Retell.turn ⟨[],0,[],[]⟩ (TurnOk.mk' _ _ [] [] (OutOk.lift _) rfl (by decide) zb trivial trivial rfl) zw zm
                      · conv=>whnf
                        repeat (first|((first|refine zs1 ?_|refine zs2 ?_|refine zs3 ?_|refine zs4 ?_|refine zs5 ?_|refine zs6 [] ?_);conv=>whnf))
                        refine VBegin.intro (get_out hlp _) rfl ?_
                        conv=>whnf
                        repeat' (first|((first|refine zs1 ?_|refine zs2 ?_|refine zs3 ?_|refine zs4 ?_|refine zs5 ?_);conv=>whnf)|((first|apply zi1|apply zi2|apply zi3|apply zi4|apply zi5) <;> intro _ <;> conv=>whnf))
                        refine zs6 [] ?_
                        conv=>whnf
                        repeat' (first|((first|refine zs1 ?_|refine zs2 ?_|refine zs3 ?_|refine zs4 ?_|refine zs5 ?_);conv=>whnf)|((first|apply zi1|apply zi2|apply zi3|apply zi4|apply zi5) <;> intro _ <;> conv=>whnf)|(refine VLd.cell rfl rfl (get_setO (by decide) j0 _) rfl ?_;conv=>whnf)|(refine VLd.mid (pre:=preT N x) (l:=D1) (post:=[.map (.out (.loc 2))]) (ix k.1 k.2) rfl rfl (hT1 _ _) hgk hok ?_;conv=>whnf)|(refine VCall.intro (cG _) ?_;conv=>whnf))
                        refine zs6 [] ?_
                        conv=>whnf
                        repeat' (first|((first|refine zs1 ?_|refine zs2 ?_|refine zs3 ?_|refine zs4 ?_|refine zs5 ?_);conv=>whnf)|((first|apply zi1|apply zi2|apply zi3|apply zi4|apply zi5) <;> intro _ <;> conv=>whnf)|(refine VLd.cell rfl rfl (get_setO (by decide) j0 _) rfl ?_;conv=>whnf))
                        exact RFin.on (outW_get _ _ _ _) (VOut.back (get_out hlp []) rfl)
                    · rw [hg] at cG
                      rw [if_pos rfl]
                      have hyR:=hyo hg
                      have hgy:=at_get hl1 hn1.2 hyR
                      dsimp only at hgy
                      have hy1:=hyR.1
                      have hy2:=hyR.2
                      unfold Pp at hy2
                      dsimp only at hy1 hy2
                      have hoy : 0 + 5 + y.p.toNat * 16 + y.s.toNat * 1 = (preT N x).length + ix y.p y.s:=by show _ = 5 + ix y.p y.s;unfold ix;omega
                      generalize hdy : atD D1 y.p y.s = dy at hgy
                      by_cases hlt : y.d < dy
                      · rw [if_pos hlt]
                        obtain ⟨s1,s2,s3⟩:=OJ.step (D':=D1.set (ix y.p y.s) y.d) (c':=put c1 (y.p,y.s) (k.1,k.2,(j : Int))) (e:=(y.p,y.s)) jo j0 j1 j2 j3 jm j5 hm hlp
                        refine Rnd.go hlp _ (s3 _ hlp) ?_ s2
                        refine VRound.vy' hlp rfl rfl rfl s1 fun l0=>?_
                        refine VRound.tell [(5,.ptr (.out (.loc 0)) 0),(8,.ptr (.out (.loc 3)) 0),(9,.fp (encKy k)),(68,I j),(69,vWy w)] ?_ ?_
                        · conv=>whnf
                          refine Retell.turn ⟨[],0,[],[]⟩ (TurnOk.mk' _ _ [] [] (OutOk.lift _) rfl (by decide) zb trivial trivial rfl) zw zm
                        · conv=>whnf
                          repeat (first|((first|refine zs1 ?_|refine zs2 ?_|refine zs3 ?_|refine zs4 ?_|refine zs5 ?_|refine zs6 [] ?_);conv=>whnf))
                          refine VBegin.intro (get_out hlp _) rfl ?_
                          conv=>whnf
                          repeat' (first|((first|refine zs1 ?_|refine zs2 ?_|refine zs3 ?_|refine zs4 ?_|refine zs5 ?_);conv=>whnf)|((first|apply zi1|apply zi2|apply zi3|apply zi4|apply zi5) <;> intro _ <;> conv=>whnf))
                          refine zs6 [] ?_
                          conv=>whnf
                          repeat' (first|((first|refine zs1 ?_|refine zs2 ?_|refine zs3 ?_|refine zs4 ?_|refine zs5 ?_);conv=>whnf)|((first|apply zi1|apply zi2|apply zi3|apply zi4|apply zi5) <;> intro _ <;> conv=>whnf)|(refine VLd.cell rfl rfl (get_setO (by decide) j0 _) rfl ?_;conv=>whnf)|(refine VLd.mid (pre:=preT N x) (l:=D1) (post:=[.map (.out (.loc 2))]) (ix k.1 k.2) rfl rfl (hT1 _ _) hgk hok ?_;conv=>whnf)|(refine VCall.intro (cG _) ?_;conv=>whnf))
                          refine zs6 [] ?_
                          conv=>whnf
                          repeat' (first|((first|refine zs1 ?_|refine zs2 ?_|refine zs3 ?_|refine zs4 ?_|refine zs5 ?_);conv=>whnf)|((first|apply zi1|apply zi2|apply zi3|apply zi4|apply zi5) <;> intro _ <;> conv=>whnf)|(refine VLd.cell rfl rfl (get_setO (by decide) j0 _) rfl ?_;conv=>whnf)|(refine VLd.mid (pre:=preT N x) (l:=D1) (post:=[.map (.out (.loc 2))]) (ix y.p y.s) rfl rfl (hT1 _ _) hgy hoy ?_;conv=>whnf))
                          · refine zs6 [] ?_
                            conv=>whnf
                            repeat' (first|((first|refine zs1 ?_|refine zs2 ?_|refine zs3 ?_|refine zs4 ?_|refine zs5 ?_);conv=>whnf)|((first|apply zi1|apply zi2|apply zi3|apply zi4|apply zi5) <;> intro _ <;> conv=>whnf)|(refine VLd.cell rfl rfl (get_setO (by decide) j0 _) rfl ?_;conv=>whnf))
                            refine VMem.setMid (pre:=preT N x) (l:=D1) (post:=[.map (.out (.loc 2))]) (ix y.p y.s) rfl rfl (hT1 _ _) (by rw [hl1];unfold ix;omega) hoy ?_
                            conv=>whnf
                            repeat' (first|((first|refine zs1 ?_|refine zs2 ?_|refine zs3 ?_|refine zs4 ?_|refine zs5 ?_);conv=>whnf)|((first|apply zi1|apply zi2|apply zi3|apply zi4|apply zi5) <;> intro _ <;> conv=>whnf))
                            refine zs6 [] ?_
                            conv=>whnf
                            repeat' (first|((first|refine zs1 ?_|refine zs2 ?_|refine zs3 ?_|refine zs4 ?_|refine zs5 ?_);conv=>whnf)|((first|apply zi1|apply zi2|apply zi3|apply zi4|apply zi5) <;> intro _ <;> conv=>whnf)|(refine VLd.cell rfl rfl (get_outNe (by decide) (get_setO (by decide) j0 _)) rfl ?_;conv=>whnf)|(refine VLd.cell rfl rfl (outW_get _ _ _ _) (tr_map (by rw [List.length_set];exact hl1)) ?_;conv=>whnf))
                            refine VMem.putC (c:=c1) (k:=(y.p,y.s)) (v:=(k.1,k.2,(j : Int))) ((get_outNe (by decide) (get_setO (by decide) j2 _)).trans (by rw [cmE_ren])) ?_
                            conv=>whnf
                            repeat' (first|((first|refine zs1 ?_|refine zs2 ?_|refine zs3 ?_|refine zs4 ?_|refine zs5 ?_);conv=>whnf)|((first|apply zi1|apply zi2|apply zi3|apply zi4|apply zi5) <;> intro _ <;> conv=>whnf))
                            refine VLd.cell rfl rfl (get_outNe (by decide) (get_outNe (by decide) (get_setO (by decide) j3 _))) rfl ?_
                            conv=>whnf
                            repeat' (first|((first|refine zs1 ?_|refine zs2 ?_|refine zs3 ?_|refine zs4 ?_|refine zs5 ?_);conv=>whnf)|((first|apply zi1|apply zi2|apply zi3|apply zi4|apply zi5) <;> intro _ <;> conv=>whnf))
                            refine VMem.app1B (α:=Ky) (l:=q1) (y.p,y.s) encKy_len rfl (get_outNe hm2 (get_outNe hm1 (get_setO hm6 jm _))) rfl rfl rfl (by omega) ?_
                            conv=>whnf
                            repeat' (first|((first|refine zs1 ?_|refine zs2 ?_|refine zs3 ?_|refine zs4 ?_|refine zs5 ?_);conv=>whnf)|((first|apply zi1|apply zi2|apply zi3|apply zi4|apply zi5) <;> intro _ <;> conv=>whnf))
                            refine VMem.st1 rfl rfl rfl (b:=.cells true [.gl (.out (.loc m)) 2 q1.length]) (get_outNe hm3 (get_outNe (by decide) (get_outNe (by decide) (get_setO (by decide) j3 _)))) rfl ?_
                            conv=>whnf
                            repeat' (first|((first|refine zs1 ?_|refine zs2 ?_|refine zs3 ?_|refine zs4 ?_|refine zs5 ?_);conv=>whnf)|((first|apply zi1|apply zi2|apply zi3|apply zi4|apply zi5) <;> intro _ <;> conv=>whnf))
                            refine RFin.on (get_outNe (by decide) (get_outNe hm6' (get_outNe (by decide) (get_outNe (by decide) (outW_get _ _ _ _))))) ?_
                            refine VOut.upd (upL N x (D1.set (ix y.p y.s) y.d) (put c1 (y.p,y.s) (k.1,k.2,(j : Int))) m (.cells true [.gl g.fresh 2 (q1.length + 1)])) [.flat true ((q1 ++ [(y.p,y.s)]).flatMap encKy)] [4] 5 ?_ (upL_ok j1 j2 jm j3) ?_ ?_ ?_ ?_ ?_
                            · rfl
                            · decide
                            · rfl
                            · intro k' b hk'
                              cases k' with
                              | zero=>rw [List.getElem?_cons_zero,Option.some.injEq] at hk';subst hk';exact ⟨4,rfl,rfl⟩
                              | succ k'=>simp at hk'
                            · intro σ x hx;exact hx
                            · have e1 : (Blk.cells true [V.gl g.fresh 2 (q1.length + 1)]).ren (backR g.loc.length [4] 5) = .cells true [.gl (.loc 4) 2 (q1.length + 1)]:=by simp [Blk.ren,V.ren,backR,Hp.fresh]
                              have hlt2 : 2 < g.loc.length:=by
                                rcases Nat.lt_or_ge 2 g.loc.length with h9|h9
                                · exact h9
                                · have : g.get (.loc 2) = none:=List.getElem?_eq_none h9
                                  rw [j2] at this;cases this
                              have e2 : backR g.loc.length [4] 5 (.loc 2) = .out (.loc 2):=by simp [backR,hlt2]
                              simp only [upL,List.map_cons,List.map_nil,e1,cmE_ren,trB_ren,e2]
                              exact outer_fix4 (get_out hlp []) (by decide) (by decide) hm6' (by decide)
                          · rename_i hh;exact absurd hlt hh
                      · rw [if_neg hlt]
                        refine Rnd.go hlp g hlp ?_ ⟨jo,j0,j1,j2,⟨m,hm,j3,jm⟩,j5⟩
                        refine VRound.vy' hlp rfl rfl rfl g.grows_refl fun l0=>?_
                        refine VRound.tell [(5,.ptr (.out (.loc 0)) 0),(8,.ptr (.out (.loc 3)) 0),(9,.fp (encKy k)),(68,I j),(69,vWy w)] ?_ ?_
                        · conv=>whnf
                          refine Retell.turn ⟨[],0,[],[]⟩ (TurnOk.mk' _ _ [] [] (OutOk.lift _) rfl (by decide) zb trivial trivial rfl) zw zm
                        · conv=>whnf
                          repeat (first|((first|refine zs1 ?_|refine zs2 ?_|refine zs3 ?_|refine zs4 ?_|refine zs5 ?_|refine zs6 [] ?_);conv=>whnf))
                          refine VBegin.intro (get_out hlp _) rfl ?_
                          conv=>whnf
                          repeat' (first|((first|refine zs1 ?_|refine zs2 ?_|refine zs3 ?_|refine zs4 ?_|refine zs5 ?_);conv=>whnf)|((first|apply zi1|apply zi2|apply zi3|apply zi4|apply zi5) <;> intro _ <;> conv=>whnf))
                          refine zs6 [] ?_
                          conv=>whnf
                          repeat' (first|((first|refine zs1 ?_|refine zs2 ?_|refine zs3 ?_|refine zs4 ?_|refine zs5 ?_);conv=>whnf)|((first|apply zi1|apply zi2|apply zi3|apply zi4|apply zi5) <;> intro _ <;> conv=>whnf)|(refine VLd.cell rfl rfl (get_setO (by decide) j0 _) rfl ?_;conv=>whnf)|(refine VLd.mid (pre:=preT N x) (l:=D1) (post:=[.map (.out (.loc 2))]) (ix k.1 k.2) rfl rfl (hT1 _ _) hgk hok ?_;conv=>whnf)|(refine VCall.intro (cG _) ?_;conv=>whnf))
                          refine zs6 [] ?_
                          conv=>whnf
                          repeat' (first|((first|refine zs1 ?_|refine zs2 ?_|refine zs3 ?_|refine zs4 ?_|refine zs5 ?_);conv=>whnf)|((first|apply zi1|apply zi2|apply zi3|apply zi4|apply zi5) <;> intro _ <;> conv=>whnf)|(refine VLd.cell rfl rfl (get_setO (by decide) j0 _) rfl ?_;conv=>whnf)|(refine VLd.mid (pre:=preT N x) (l:=D1) (post:=[.map (.out (.loc 2))]) (ix y.p y.s) rfl rfl (hT1 _ _) hgy hoy ?_;conv=>whnf))
                          all_goals first|exact RFin.on (outW_get _ _ _ _) (VOut.back (get_out hlp []) rfl)|(rename_i hh;exact absurd hh hlt)
                  · rintro g hJ hlp
                    rw [sJ_end] at hJ
                    have hst:=bgo_step hn1.2 hN.ws hx h2
                    have hb5 : ∃ M',phi (rlxs k.1 k.2 (nmb N.ws 0) ⟨D,c,r⟩) < M' ∧ E = bgo N.ws M' (rlxs k.1 k.2 (nmb N.ws 0) ⟨D,c,r⟩):=by
                      cases M with
                      | zero=>omega
                      | succ M=>exact ⟨M,by have:=hst.2;omega,h5⟩
                    generalize rlxs k.1 k.2 (nmb N.ws 0) ⟨D,c,r⟩ = s1 at hJ hst hb5
                    obtain ⟨go,gl⟩:=g
                    obtain ⟨jo,j0,j1,j2,⟨m,hm,j3,jm⟩,j5⟩:=hJ
                    dsimp only at jo
                    subst jo
                    simp only [Hp.get] at j0 j1 j2 j3 jm j5
                    have l0:=(List.getElem?_eq_some_iff.1 j0).1
                    have l1:=(List.getElem?_eq_some_iff.1 j1).1
                    have l2:=(List.getElem?_eq_some_iff.1 j2).1
                    have l3:=(List.getElem?_eq_some_iff.1 j3).1
                    have lm:=(List.getElem?_eq_some_iff.1 jm).1
                    have key : ∀ (x : Nat) (A : Blk),x ≠ 6 → (gl.set 6 A)[x]? = gl[x]?:=fun x A hx=>List.getElem?_set_ne (Ne.symm hx)
                    refine Told.mk [(2,.fp (encN N)),(3,.fp (encHd x)),(4,.nilptr),(5,.ptr (.loc 0) 0),(8,.ptr (.loc 3) 0)] [.cells true [.ptr (.loc 1) 0],trB N x s1.D (.loc 2),.map (cmE s1.c),.cells true [.gl (.loc 4) 2 s1.q.length],.flat true (s1.q.flatMap encKy)] (marks':=[]) ?_ ?_
                    · conv=>whnf
                      have hmn : ([0,1,2,3,m] : List Nat).Nodup:=by simp;omega
                      have hm4 : 5 ∉ ([0,1,2,3,m] : List Nat):=by simp;omega
                      refine Retell.turn ⟨[0,1,2,3,m],gl.length,[],[]⟩ (TurnOk.mk' _ _ [] [] (OutOk.lift _) (Nat.ble_eq_true_of_le (by simp)) hmn
                        (turn3 (blt_of l0) (blt_of l1) (blt_of l2) ((key 0 _ (by omega)).trans j0) ((key 1 _ (by omega)).trans j1) ((key 2 _ (by omega)).trans j2) rfl rfl (BTos.cells (blt_of l3) ((key 3 _ (by omega)).trans j3) rfl zw (BTos.flat (blt_of lm) ((key m _ (by omega)).trans jm) rfl BTos.nil))) trivial trivial rfl) zw
                        (MkTo.drop hm4 ((key 5 _ (by omega)).trans j5) MkTo.nil)
                    · conv=>whnf
                      repeat' (first|((first|refine zs1 ?_|refine zs2 ?_|refine zs3 ?_|refine zs4 ?_|refine zs5 ?_);conv=>whnf)|((first|apply zi1|apply zi2|apply zi3|apply zi4|apply zi5) <;> intro _ <;> conv=>whnf))
                      refine LEnd.intro s1 ⟨hst.1,by have:=hst.2;omega,hb5⟩ hst.2 ?_
                      conv=>whnf
                      refine Retell.turn ⟨[0,1,2,3,4],5,[],[]⟩ (TurnOk.mk' _ _ [] [] (OutOk.lift _) rfl (by decide) (turn3 rfl rfl rfl rfl rfl rfl rfl rfl (BTos.cells rfl rfl rfl zw (BTos.flat rfl rfl rfl BTos.nil))) trivial trivial rfl) zw zm
                  · rintro e g _ hF
                    exact hF.elim
            · rename_i h6;exact absurd (by simp) h6
end Go.Proofs.YtoeendggmalcpaaGreat

open Go.Vm
open Psg
namespace Go.Proofs.YtoeendggmalcpaaGreat
set_option maxRecDepth 20000
set_option maxHeartbeats 4000000

def rowD (D : List Int) (p : Nat) : List Int:=(D.drop (16 * p)).take 16
def lsG (f : Nat → Int) : Nat → Nat
  | 0=>0
  | k + 1=>if f k < f (lsG f k) then k else lsG f k
theorem lsG_le (f : Nat → Int) : ∀ k,lsG f (k + 1) ≤ k
  | 0=>by simp [lsG]
  | k + 1=>by
    have:=lsG_le f k
    rw [lsG]
    split
    · omega
    · omega
theorem lsG_mn (f : Nat → Int) : ∀ k,f (lsG f (k + 1)) = mn f k
  | 0=>by simp [lsG,mn]
  | k + 1=>by
    have ih:=lsG_mn f k
    rw [lsG,mn,← ih]
    split <;> rfl
theorem vc_least (N : Nt) (x : Hd) (D : List Int) (i j : Vm.Id) (p : Nat) (h : Hp) (hb : h.get i = some (trB N x D j)) (hl : D.length = 160) (hp : p < 10) : VC Tryz.prog 57 [.ptr i 0,I p] h (vKy ((p : Int),(lsG (fun s=>atD D p s) 16 : Nat))) h:=by
  have hrow : rowD D p = (List.range 16).map (fun s : Nat=>atD D p s):=by
    apply List.ext_getElem?
    intro s
    rcases Nat.lt_or_ge s 16 with hs|hs
    · unfold rowD atD
      rw [List.getElem?_take_of_lt hs,List.getElem?_drop,List.getElem?_map,List.getElem?_range hs]
      have e : ix (p : Int) (s : Int) = 16 * p + s:=by unfold ix;omega
      simp only [Option.map_some,e,List.getD_eq_getElem?_getD]
      rw [List.getElem?_eq_getElem (by omega)];rfl
    · rw [List.getElem?_eq_none (l:=rowD D p) (by unfold rowD;rw [List.length_take];omega),List.getElem?_eq_none (by simp;omega)]
  have hat : ∀ s : Nat,s < 16 → D[16 * p + s]? = some (atD D p s):=fun s hs=>by
    unfold atD
    have e : ix (p : Int) (s : Int) = 16 * p + s:=by unfold ix;omega
    rw [e,List.getD_eq_getElem?_getD,List.getElem?_eq_getElem (by omega)];rfl
  generalize hf : (fun s : Nat=>atD D p s) = f at hrow
  have hat : ∀ s : Nat,s < 16 → D[16 * p + s]? = some (f s):=fun s hs=>by rw [← hf];exact hat s hs
  have hrow : rowD D p = [f 0,f 1,f 2,f 3,f 4,f 5,f 6,f 7,f 8,f 9,f 10,f 11,f 12,f 13,f 14,f 15]:=hrow
  refine VC.body Tryz.func57 rfl Tryz.ntmps57 Tryz.call57 (h.grows_refl) rfl ?_;conv=>whnf
  repeat' (first|((first|refine zs1 ?_|refine zs2 ?_|refine zs3 ?_|refine zs4 ?_|refine zs5 ?_);conv=>whnf)|((first|apply zi1|apply zi2|apply zi3|apply zi4|apply zi5) <;> intro _ <;> conv=>whnf))
  have hT1 : ∀ loc,(⟨h.lift,loc⟩ : Hp).get (.out i) = some (trB N x D (.out j)):=fun loc=>(get_out hb loc).trans (by rw [trB_ren])
  refine VLd.midN (pre:=preT N x) (l:=D) (post:=[.map (.out j)]) (16 * p) rfl rfl (hT1 _) (by rw [hl];show 16 * p + 16 ≤ 160;omega) (by show 0 + 5 + (p : Int).toNat * 16 = 5 + 16 * p;omega) ?_
  rw [show (((D.drop (16 * p)).take (TI.size _)).map I) = (rowD D p).map I from rfl,hrow]
  conv=>whnf
  repeat' (first|((first|refine zs1 ?_|refine zs2 ?_|refine zs3 ?_|refine zs4 ?_|refine zs5 ?_);conv=>whnf)|((first|apply zi1|apply zi2|apply zi3|apply zi4|apply zi5) <;> intro _ <;> conv=>whnf))
  refine VCode.lp (fun s : Nat=>[(0,.ptr (.out i) 0),(1,I p),(4,.ptr (.loc 0) 0),(5,.ptr (.loc 1) 0),(15,.agg (List.map I [f 0,f 1,f 2,f 3,f 4,f 5,f 6,f 7,f 8,f 9,f 10,f 11,f 12,f 13,f 14,f 15])),(16,I s)]) (fun s=>[.flat true [DI 0,DI 0],.flat true [DI p,DI (lsG f s : Nat)]]) (fun s=>s ≤ 16) (fun s=>16 - s) 0 (Nat.zero_le _) ?_ ?_
  · rw [show lsG f 0 = 0 from rfl]
    conv=>whnf
    refine Retell.turn ⟨[0,1],2,[],[]⟩ (TurnOk.mk' _ _ [] [] (OutOk.lift _) rfl (by decide) zb trivial trivial rfl) zw zm
  · rintro s hs
    rcases Nat.lt_or_ge s 16 with h1|h1
    · have ho : lsG f s ≤ 15:=by
        cases s with
        | zero=>simp [lsG]
        | succ s=>have:=lsG_le f s;omega
      have hst : lsG f (s + 1) = if f s < f (lsG f s) then s else lsG f s:=rfl
      have hao:=hat (lsG f s) (by omega)
      generalize lsG f s = o at ho hst hao
      have hoff : 0 + 5 + (p : Int).toNat * 16 + (o : Int).toNat * 1 = (preT N x).length + (16 * p + o):=by show _ = 5 + (16 * p + o);omega
      generalize hq : lsG f (s + 1) = q at hst
      obtain ⟨t,ht⟩ : ∃ t,t = s + 1:=⟨_,rfl⟩
      rw [← ht] at hq
      have hs16 : s = 0 ∨ s = 1 ∨ s = 2 ∨ s = 3 ∨ s = 4 ∨ s = 5 ∨ s = 6 ∨ s = 7 ∨ s = 8 ∨ s = 9 ∨ s = 10 ∨ s = 11 ∨ s = 12 ∨ s = 13 ∨ s = 14 ∨ s = 15:=by omega
      rcases hs16 with rfl|rfl|rfl|rfl|rfl|rfl|rfl|rfl|rfl|rfl|rfl|rfl|rfl|rfl|rfl|rfl
      all_goals (
        conv=>whnf
        repeat' (first|((first|refine zs1 ?_|refine zs2 ?_|refine zs3 ?_|refine zs4 ?_|refine zs5 ?_);conv=>whnf)|((first|apply zi1|apply zi2|apply zi3|apply zi4|apply zi5) <;> intro _ <;> conv=>whnf))
        refine zs6 [] ?_
        conv=>whnf
        repeat' (first|((first|refine zs1 ?_|refine zs2 ?_|refine zs3 ?_|refine zs4 ?_|refine zs5 ?_);conv=>whnf)|((first|apply zi1|apply zi2|apply zi3|apply zi4|apply zi5) <;> intro _ <;> conv=>whnf)|(refine VLd.mid (pre:=preT N x) (l:=D) (post:=[.map (.out j)]) (16 * p + o) rfl rfl (hT1 _) hao hoff ?_;conv=>whnf)))
      all_goals first
        | (rename_i hh
           rw [if_pos hh] at hst
           subst hst
           refine LEnd.intro t (by omega) (by omega) ?_
           rw [hq]
           conv=>whnf
           refine Retell.turn ⟨[0,1],2,[],[]⟩ (TurnOk.mk' _ _ [] [] (OutOk.lift _) rfl (by decide) zb trivial trivial rfl) zw zm)
        | (rename_i hh
           rw [if_neg hh] at hst
           subst hst
           refine LEnd.intro t (by omega) (by omega) ?_
           rw [hq]
           conv=>whnf
           refine Retell.turn ⟨[0,1],2,[],[]⟩ (TurnOk.mk' _ _ [] [] (OutOk.lift _) rfl (by decide) zb trivial trivial rfl) zw zm)
    · obtain rfl : s = 16:=by omega
      generalize lsG f 16 = o
      conv=>whnf
      repeat' (first|((first|refine zs1 ?_|refine zs2 ?_|refine zs3 ?_|refine zs4 ?_|refine zs5 ?_);conv=>whnf)|((first|apply zi1|apply zi2|apply zi3|apply zi4|apply zi5) <;> intro _ <;> conv=>whnf))
      exact VOut.same rfl
end Go.Proofs.YtoeendggmalcpaaGreat

open Go.Vm
open Psg
namespace Go.Proofs.YtoeendggmalcpaaGreat
set_option maxRecDepth 20000
set_option maxHeartbeats 4000000

theorem vc_day (N : Nt) (x : Hd) (D : List Int) (i j : Vm.Id) (p : Nat) (h : Hp) (hb : h.get i = some (trB N x D j)) (hl : D.length = 160) (hp : p < 10) : VC Tryz.prog 54 [.ptr i 0,I p] h (I (tell (dayOf (atD D) p))) h:=by
  have hT1 : ∀ loc,(⟨h.lift,loc⟩ : Hp).get (.out i) = some (trB N x D (.out j)):=fun loc=>(get_out hb loc).trans (by rw [trB_ren])
  have cL:=fun loc=>vc_least N x D (.out i) (.out j) p ⟨h.lift,loc⟩ (hT1 loc) hl hp
  have hmn : atD D p (lsG (fun s=>atD D p s) 16 : Nat) = dayOf (atD D) p:=lsG_mn (fun s : Nat=>atD D p s) 15
  have hle:=lsG_le (fun s=>atD D p s) 15
  generalize lsG (fun s=>atD D p s) 16 = o at cL hmn hle
  have hat : D[16 * p + o]? = some (atD D p o):=by
    unfold atD
    have e : ix (p : Int) (o : Int) = 16 * p + o:=by unfold ix;omega
    rw [e,List.getD_eq_getElem?_getD,List.getElem?_eq_getElem (by omega)];rfl
  rw [hmn] at hat
  unfold tell
  generalize dayOf (atD D) p = d at hat
  refine VC.body Tryz.func54 rfl Tryz.ntmps54 Tryz.call54 (h.grows_refl) rfl ?_;conv=>whnf
  repeat' (first|((first|refine zs1 ?_|refine zs2 ?_|refine zs3 ?_|refine zs4 ?_|refine zs5 ?_);conv=>whnf)|((first|apply zi1|apply zi2|apply zi3|apply zi4|apply zi5) <;> intro _ <;> conv=>whnf))
  refine zs6 [] ?_
  conv=>whnf
  repeat' (first|((first|refine zs1 ?_|refine zs2 ?_|refine zs3 ?_|refine zs4 ?_|refine zs5 ?_);conv=>whnf)|((first|apply zi1|apply zi2|apply zi3|apply zi4|apply zi5) <;> intro _ <;> conv=>whnf)|(refine VCall.intro (cL _) ?_;conv=>whnf))
  refine VLd.mid (pre:=preT N x) (l:=D) (post:=[.map (.out j)]) (16 * p + o) rfl rfl (hT1 _) hat (by show 0 + 5 + (p : Int).toNat * 16 + (o : Int).toNat * 1 = 5 + (16 * p + o);omega) ?_
  conv=>whnf
  repeat' (first|((first|refine zs1 ?_|refine zs2 ?_|refine zs3 ?_|refine zs4 ?_|refine zs5 ?_);conv=>whnf)|((first|apply zi1|apply zi2|apply zi3|apply zi4|apply zi5) <;> intro _ <;> conv=>whnf))
  · rename_i hh;rw [if_pos hh];exact VOut.same rfl
  · rename_i hh;rw [if_neg hh];exact VOut.same rfl
theorem bgn_len {n : Nat} {N : Nt} {x : Hd} (hN : NOk n N) (hx : HOk n x) : (bgn N.ws x).D.length = 160:=(bgn_ok hN.n1.2 hN.ws hx).1.len
def dyP (N : Nt) (x : Hd) (p : Nat) : Int:=tell (dayOf (atD (bgn N.ws x).D) p)
def eaL (N : Nt) (x : Hd) : List Int:=if hrd N x = 0 then (List.range N.p.toNat).map (dyP N x) else []
theorem vc_Earliest (N : Nt) (x : Hd) (h : Hp) (hn : N.ws.length ≤ 4000000) : VC Tryz.prog 19 [vN N,vHd x] h (.tuple [ints (eaL N x),I (hrd N x)]) h:=by
  obtain ⟨L,hL⟩ : ∃ L,L = eaL N x:=⟨_,rfl⟩
  rw [← hL]
  unfold eaL at hL
  have cH:=fun h=>vc_herded N x h hn
  by_cases h0 : hrd N x = 0
  · obtain ⟨n,hN,hx⟩:=hrd_ok h0
    rw [h0] at cH ⊢
    rw [if_pos h0] at hL
    have hp:=hN.p
    have hn1:=hN.n1
    have hbl:=bgn_len hN hx
    have cB:=fun h=>vc_begun0 N x h hN hx
    rw [show N.p.toNat = n by omega] at hL
    unfold dyP at hL
    generalize bgn N.ws x = b at hbl cB hL
    obtain ⟨D,c,q⟩:=b
    dsimp only at hbl cB hL
    refine VC.body Tryz.func19 rfl Tryz.ntmps19 Tryz.call19 (h.grows_refl) rfl ?_;conv=>whnf
    repeat' (first|((first|refine zs1 ?_|refine zs2 ?_|refine zs3 ?_|refine zs4 ?_|refine zs5 ?_|refine zs6 [] ?_);conv=>whnf)|((first|apply zi1|apply zi2|apply zi3|apply zi4|apply zi5) <;> intro _ <;> conv=>whnf)|(refine VCall.intro (cH _) ?_;conv=>whnf)|(refine VCall.intro (cB _) ?_;conv=>whnf))
    refine VCode.lp (fun k : Nat=>[(4,.nilslice),(5,I 0),(7,.ptr (.loc 0) 0),(8,.gl (.loc 2) 1 ((List.range k).map fun p : Nat=>tell (dayOf (atD D) p)).length),(20,I N.p),(21,I k)]) (fun k=>[trB N x D (.loc 1),.map (cmE c),.flat true (((List.range k).map fun p : Nat=>tell (dayOf (atD D) p)).flatMap encI)]) (fun k=>k ≤ n) (fun k=>n - k) 0 (Nat.zero_le _) ?_ ?_
    · rw [show (List.range 0).map (fun p : Nat=>tell (dayOf (atD D) p)) = [] from rfl]
      conv=>whnf
      refine Retell.turn ⟨[2,3,4],4,[],[]⟩ (TurnOk.mk' _ _ [] [] (OutOk.lift _) rfl (by decide) (BTos.tr rfl rfl rfl (BTos.cm rfl rfl (BTos.new rfl BTos.nil))) trivial trivial rfl) zw zm
    · rintro k hk
      have hstep : (List.range (k + 1)).map (fun p : Nat=>tell (dayOf (atD D) p)) = (List.range k).map (fun p : Nat=>tell (dayOf (atD D) p)) ++ [tell (dayOf (atD D) k)]:=by rw [List.range_succ,List.map_append];rfl
      have hlen : ((List.range k).map (fun p : Nat=>tell (dayOf (atD D) p))).length = k:=by simp
      conv=>whnf
      refine VIte.dec (fun h1=>?_) (fun h1=>?_)
      · generalize (List.range k).map (fun p : Nat=>tell (dayOf (atD D) p)) = l at hstep hlen
        have cD:=fun h hb=>vc_day N x D (.loc 0) (.loc 1) k h hb hbl (by omega)
        generalize tell (dayOf (atD D) k) = v at cD hstep
        conv=>whnf
        repeat' (first|((first|refine zs1 ?_|refine zs2 ?_|refine zs3 ?_|refine zs4 ?_|refine zs5 ?_);conv=>whnf)|((first|apply zi1|apply zi2|apply zi3|apply zi4|apply zi5) <;> intro _ <;> conv=>whnf)|(refine VCall.intro (cD _ rfl) ?_;conv=>whnf))
        refine VMem.app1 (l:=l) (v : Int) encI_len rfl rfl rfl rfl rfl (by omega) ?_
        conv=>whnf
        repeat' (first|((first|refine zs1 ?_|refine zs2 ?_|refine zs3 ?_|refine zs4 ?_|refine zs5 ?_);conv=>whnf)|((first|apply zi1|apply zi2|apply zi3|apply zi4|apply zi5) <;> intro _ <;> conv=>whnf))
        refine LEnd.intro (k + 1) (by omega) (by omega) ?_
        rw [hstep,List.length_append]
        conv=>whnf
        refine Retell.turn ⟨[0,1,4],5,[],[]⟩ (TurnOk.mk' _ _ [] [] (OutOk.lift _) rfl (by decide) (BTos.tr rfl rfl rfl (BTos.cm rfl rfl (BTos.flat rfl rfl rfl BTos.nil))) trivial trivial rfl) zw zm
      · obtain rfl : k = n:=by omega
        rw [← hL]
        conv=>whnf
        repeat' (first|((first|refine zs1 ?_|refine zs2 ?_|refine zs3 ?_|refine zs4 ?_|refine zs5 ?_);conv=>whnf)|((first|apply zi1|apply zi2|apply zi3|apply zi4|apply zi5) <;> intro _ <;> conv=>whnf))
        refine VOut.data 3 [(2,L.flatMap encI)] [] rfl zf (by exact FmAll.nil) zw
  · rw [if_neg h0] at hL
    rw [hL]
    generalize hrd N x = e at cH h0
    refine VC.body Tryz.func19 rfl Tryz.ntmps19 Tryz.call19 (h.grows_refl) rfl ?_;conv=>whnf
    repeat' (first|((first|refine zs1 ?_|refine zs2 ?_|refine zs3 ?_|refine zs4 ?_|refine zs5 ?_|refine zs6 [] ?_);conv=>whnf)|((first|apply zi1|apply zi2|apply zi3|apply zi4|apply zi5) <;> intro _ <;> conv=>whnf)|(refine VCall.intro (cH _) ?_;conv=>whnf))
    · refine VOut.data 2 [] [] rfl zf (by exact FmAll.nil) zw
    all_goals (rename_i hh;exact absurd (by omega) h0)
end Go.Proofs.YtoeendggmalcpaaGreat

open Go.Vm
open Psg
namespace Go.Proofs.YtoeendggmalcpaaGreat
set_option maxRecDepth 20000
set_option maxHeartbeats 4000000

structure Rvd (l : List Int) (k : Nat) (m : List Int) : Prop where
  len : m.length = l.length
  le : 2 * k ≤ l.length + 1
  at' : ∀ j,j < l.length → m[j]? = if j < k ∨ l.length - k ≤ j then l[l.length - 1 - j]? else l[j]?
theorem Rvd.step {l m : List Int} {k : Nat} {a b : Int} (h : Rvd l k m) (hk : 2 * k + 1 < l.length) (ha : m[k]? = some a) (hb : m[l.length - 1 - k]? = some b) : Rvd l (k + 1) ((m.set k b).set (l.length - 1 - k) a) where
  len:=by simp [h.len]
  le:=by omega
  at':=fun j hj=>by
    have hl:=h.len
    have e1:=h.at' k (by omega)
    have e2:=h.at' (l.length - 1 - k) (by omega)
    rw [ha,if_neg (by omega)] at e1
    rw [hb,if_neg (by omega)] at e2
    rw [List.getElem?_set,List.length_set]
    by_cases h1 : l.length - 1 - k = j
    · rw [if_pos h1,if_pos (by omega),if_pos (by omega),e1]
      congr 1;omega
    · rw [if_neg h1,List.getElem?_set]
      by_cases h2 : k = j
      · rw [if_pos h2,if_pos (by omega),if_pos (by omega),e2]
        subst h2;rfl
      · rw [if_neg h2,h.at' j hj]
        have : (j < k ∨ l.length - k ≤ j) ↔ (j < k + 1 ∨ l.length - (k + 1) ≤ j):=by omega
        simp only [this]
theorem Rvd.done {l m : List Int} {k : Nat} (h : Rvd l k m) (hk : l.length ≤ 2 * k + 1) : m = l.reverse:=by
  apply List.ext_getElem?
  intro j
  have hl:=h.len
  rcases Nat.lt_or_ge j l.length with h1|h1
  · rw [h.at' j h1,List.getElem?_reverse h1]
    split
    · rfl
    · congr 1;omega
  · rw [List.getElem?_eq_none (by omega),List.getElem?_eq_none (by simpa using h1)]
theorem vc_reverse (l : List Int) (i : Vm.Id) (h : Hp) (hb : h.get i = some (.flat true (l.flatMap encI))) (hn : l.length ≤ 4000000) :
    VC Tryz.prog 58 [.gl i 1 l.length] h (.tuple []) (h.set i (.flat true (l.reverse.flatMap encI))):=by
  have hd : ∀ p ∈ [(i,Blk.flat true (l.reverse.flatMap encI))],h.get p.1 ≠ none:=by
    intro p hp
    simp only [List.mem_cons,List.not_mem_nil,or_false] at hp
    subst hp;simp only;rw [hb];simp
  have hgr : h.grows (h.set i (.flat true (l.reverse.flatMap encI))):=h.grows_set _ _
  refine VC.body Tryz.func58 rfl Tryz.ntmps58 Tryz.call58 hgr rfl ?_;conv=>whnf
  repeat (first|((first|refine zs1 ?_|refine zs2 ?_|refine zs3 ?_|refine zs4 ?_|refine zs5 ?_|refine zs6 [] ?_);conv=>whnf))
  have hlift : h.lift i = some (.flat true (l.flatMap encI)):=get_out hb []
  refine VCode.lpo (fun x : Nat × List Int=>[(0,.gl (.out i) 1 l.length),(2,I x.1),(3,I ((l.length : Int) - 1 - x.1))]) (fun x=>outW h.lift i (.flat true (x.2.flatMap encI))) (fun _=>[]) (fun x=>Rvd l x.1 x.2) (fun x=>l.length - x.1) (0,l) ⟨rfl,by omega,fun j hj=>?_⟩ (outW_id hlift) ?_ ?_
  · rw [if_neg (by omega)]
  · conv=>whnf
    refine Retell.turn ⟨[],0,[],[]⟩ (TurnOk.mk' _ _ [] [] (OutOk.outW (OutOk.lift _) rfl) rfl (by decide) zb trivial trivial rfl) zw zm
  · rintro ⟨k,m⟩ hr
    simp only at hr ⊢
    have hl:=hr.len
    conv=>whnf
    refine VIte.dec (fun h3=>?_) (fun h3=>?_)
    · have ha : m[k]? = some m[k]:=List.getElem?_eq_getElem (by omega)
      have hc : m[l.length - 1 - k]? = some m[l.length - 1 - k]:=List.getElem?_eq_getElem (by omega)
      generalize m[k] = a at ha
      generalize m[l.length - 1 - k] = c at hc
      have hst:=hr.step (by omega) ha hc
      have hc2 : (m.set k c)[l.length - 1 - k]? = some c:=by rw [List.getElem?_set,if_neg (by omega)];exact hc
      conv=>whnf
      repeat' (first|((first|refine zs1 ?_|refine zs2 ?_|refine zs3 ?_|refine zs4 ?_|refine zs5 ?_|refine zs6 [] ?_);conv=>whnf)|((first|apply zi1|apply zi2|apply zi3|apply zi4|apply zi5) <;> intro _ <;> conv=>whnf)|(refine VLd.recc encI_len (l.length - 1 - k) 0 rfl rfl (outW_get _ _ _ _) hc (by decide) rfl (by simp only [Nat.zero_add,Nat.mul_one];omega) ?_;conv=>whnf)|(refine VLd.recc encI_len k 0 rfl rfl (outW_get _ _ _ _) ha (by decide) rfl (by simp only [Nat.zero_add,Nat.mul_one];omega) ?_;conv=>whnf))
      refine VMem.setRec encI_len k 0 c rfl rfl (outW_get _ _ _ _) ha (by decide) rfl (by simp only [Nat.zero_add,Nat.mul_one];omega) ?_
      conv=>whnf
      repeat (first|((first|refine zs1 ?_|refine zs2 ?_|refine zs3 ?_|refine zs4 ?_|refine zs5 ?_|refine zs6 [] ?_);conv=>whnf))
      refine VMem.setRec encI_len (l.length - 1 - k) 0 a rfl rfl (outW_get _ _ _ _) hc2 (by decide) rfl (by simp only [Nat.zero_add,Nat.mul_one];omega) ?_
      conv=>whnf
      repeat (first|((first|refine zs1 ?_|refine zs2 ?_|refine zs3 ?_|refine zs4 ?_|refine zs5 ?_|refine zs6 [] ?_);conv=>whnf))
      refine LEndO.intro (k + 1,(m.set k c).set (l.length - 1 - k) a) hst (by simp only;omega) ((outW_same (outW _ _ _) _ _ _).trans (outW_same _ _ _ _)) ?_
      conv=>whnf
      refine Retell.turn ⟨[],0,[],[]⟩ (TurnOk.mk' _ _ [] [] (OutOk.outW (OutOk.lift _) rfl) rfl (by decide) zb trivial trivial rfl) zw zm
    · conv=>whnf
      have hm:=hr.done (by omega)
      subst hm
      have:=VOut.upd (loc:=[]) (r1:=.tuple []) (r:=.tuple []) [(i,.flat true (l.reverse.flatMap encI))] [] [] 0 rfl hd (by simp) rfl (by intro k b hk;simp at hk) (fun σ x hx=>hx) (outer:=outW h.lift i (.flat true (l.reverse.flatMap encI))) rfl
      have he : (h.sets [(i,Blk.flat true (l.reverse.flatMap encI))]).pushes [] = h.set i (.flat true (l.reverse.flatMap encI)):=by simp [Hp.sets,Hp.pushes]
      rw [he] at this
      exact this
theorem Path.uniq {c : Cm} {s0 : Ky} : ∀ {k : Ky} {l l' : List Int},Path c s0 k l → Path c s0 k l' → l = l':=by
  intro k l l' h
  induction h generalizing l' with
  | base =>
    intro h'
    cases h' with
    | base=>rfl
    | step _ h2 _=>exact absurd rfl h2
  | step h1 h2 _ ih =>
    intro h'
    cases h' with
    | base=>exact absurd rfl h2
    | step g1 g2 g3 =>
      rw [h1] at g1
      injection g1 with g1
      subst g1
      rw [ih g3]
theorem Path.keys {n : Nat} {ws : List Wy} {x : Hd} {st : Psg.St} (hx : HOk n x) (hI : TI n ws x st none []) : ∀ {k : Ky} {l : List Int},Path st.c (x.p,x.s) k l → InR n k → ∃ ks : List Ky,ks.length = l.length + 1 ∧ ks.Nodup ∧ (∀ j ∈ ks,InR n j) ∧ ∀ j ∈ ks,∃ l',Path st.c (x.p,x.s) j l' ∧ l'.length ≤ l.length:=by
  intro k l h
  induction h with
  | base=>intro hk;exact ⟨[(x.p,x.s)],rfl,by simp,fun j hj=>by simp at hj;rw [hj];exact hk,fun j hj=>by simp at hj;rw [hj];exact ⟨[],Path.base,Nat.le_refl _⟩⟩
  | step h1 h2 h3 ih =>
    rename_i s v l
    intro hk
    obtain ⟨_,_,h4,_⟩:=hI.stp _ _ h1
    obtain ⟨ks,g1,g2,g3,g4⟩:=ih h4
    refine ⟨s :: ks,by simp [g1],List.nodup_cons.2 ⟨fun hm=>?_,g2⟩,fun j hj=>?_,fun j hj=>?_⟩
    · obtain ⟨l',a1,a2⟩:=g4 s hm
      have:=Path.uniq a1 (Path.step h1 h2 h3)
      rw [this,List.length_cons] at a2
      omega
    · rcases List.mem_cons.1 hj with rfl|hj
      · exact hk
      · exact g3 j hj
    · rcases List.mem_cons.1 hj with rfl|hj
      · exact ⟨_,Path.step h1 h2 h3,Nat.le_refl _⟩
      · obtain ⟨l',a1,a2⟩:=g4 j hj
        exact ⟨l',a1,by simp;omega⟩
theorem Path.short {n : Nat} {ws : List Wy} {x : Hd} {st : Psg.St} (hn : n ≤ 10) (hx : HOk n x) (hI : TI n ws x st none []) {k : Ky} {l : List Int} (h : Path st.c (x.p,x.s) k l) (hk : InR n k) : l.length < 160:=by
  obtain ⟨ks,g1,g2,g3,_⟩:=Path.keys hx hI h hk
  have h1 : (ks.map fun k=>ix k.1 k.2).Nodup:=by
    rw [List.nodup_iff_pairwise_ne,List.pairwise_map] at *
    refine g2.imp_of_mem fun {a b} ha hb hab e=>hab (ix_inj (g3 a ha) (g3 b hb) e)
  have h2:=nodup_len 160 _ h1 fun y hy=>by
    obtain ⟨k,hk,rfl⟩:=List.mem_map.1 hy
    exact ix_lt hn (g3 k hk)
  rw [List.length_map] at h2
  omega
theorem Path.ok {n : Nat} {ws : List Wy} {x : Hd} {st : Psg.St} (hI : TI n ws x st none []) : ∀ {k : Ky} {l : List Int},Path st.c (x.p,x.s) k l → ∀ i ∈ l,0 ≤ i ∧ i ≤ (ws.length : Int) - 1:=by
  intro k l h
  induction h with
  | base=>intro i hi;cases hi
  | step h1 _ _ ih =>
    intro i hi
    obtain ⟨_,_,_,h5,w,h6,_⟩:=hI.stp _ _ h1
    rcases List.mem_cons.1 hi with rfl|hi
    · have:=(List.getElem?_eq_some_iff.1 h6).1
      omega
    · exact ih i hi
theorem look_C {c : Cm} {k : Ky} {v : Sp3} (h : Psg.look c k = some v) : Look Tryz.prog (tiOf Tryz.prog) 106 false (vKy k) (cmE c) (vSt v):=by
  obtain ⟨i,hi,_⟩:=found_some h
  exact ⟨_,100,103,_,_,true,some (i,vSt v),rfl,rfl,top139,by rw [veq139];simp,hi,rfl⟩
theorem vne139 (a b : Ky) : vaggeq Tryz.prog .neq 100 (vKy a) (vKy b) = some (B (decide (¬ a = b))):=by
  have : (!decide (a = b)) = decide (¬ a = b):=by simp
  rw [← this]
  unfold vaggeq
  rw [top139]
  dsimp only
  rw [veq139]
end Go.Proofs.YtoeendggmalcpaaGreat

open Go.Vm
open Psg
namespace Go.Proofs.YtoeendggmalcpaaGreat
set_option maxRecDepth 20000
set_option maxHeartbeats 4000000

structure RtR (N : Nt) (x : Hd) (to : Int) (L : List Int) : Prop where
  fol : ∃ s,Pp s ∧ folI N.ws x L = some ⟨to,dyP N x to.toNat,s⟩
  ok : L.all (okI N) = true
  len : L.length ≤ 160
  uni : ∀ l,Path (bgn N.ws x).c (x.p,x.s) (to,(lsG (fun s : Nat=>atD (bgn N.ws x).D to s) 16 : Nat)) l → L = l.reverse
def rtE (N : Nt) (x : Hd) (to : Int) : Int:=if hrd N x = 0 then (if 0 ≤ to ∧ to ≤ N.p - 1 then (if dyP N x to.toNat = -1 then 7 else 0) else 2) else hrd N x
theorem vc_Route (N : Nt) (x : Hd) (to : Int) (hn : N.ws.length ≤ 4000000) : ∃ L : List Int,(rtE N x to = 0 → RtR N x to L) ∧ (rtE N x to ≠ 0 → L = []) ∧ ∀ h : Hp,VC Tryz.prog 22 [vN N,vHd x,I to] h (.tuple [ints L,I (rtE N x to)]) h:=by
  have cH:=fun h=>vc_herded N x h hn
  unfold rtE
  by_cases h0 : hrd N x = 0
  · obtain ⟨n,hN,hx⟩:=hrd_ok h0
    rw [h0] at cH
    rw [if_pos h0]
    have hp:=hN.p
    have hn1:=hN.n1
    by_cases ht : 0 ≤ to ∧ to ≤ N.p - 1
    · rw [if_pos ht]
      have hbl:=bgn_len hN hx
      have cB:=fun h=>vc_begun0 N x h hN hx
      have hT:=bgn_ok hn1.2 hN.ws hx
      have hLst:=bgn_lst hn1.2 hN.ws hx
      have hdy : dyP N x to.toNat = tell (dayOf (atD (bgn N.ws x).D) to):=by unfold dyP;rw [Int.toNat_of_nonneg ht.1]
      obtain ⟨t,rfl⟩ : ∃ t : Nat,to = t:=⟨to.toNat,by omega⟩
      have hcap:=dayOf_cap hLst (p:=(t : Int)) (by omega)
      have hmn : atD (bgn N.ws x).D t (lsG (fun s=>atD (bgn N.ws x).D t s) 16 : Nat) = dayOf (atD (bgn N.ws x).D) t:=lsG_mn (fun s : Nat=>atD (bgn N.ws x).D t s) 15
      have hle : lsG (fun s : Nat=>atD (bgn N.ws x).D t s) 16 ≤ 15:=lsG_le (fun s : Nat=>atD (bgn N.ws x).D t s) 15
      by_cases hd : dyP N x t = -1
      · rw [show ((t : Int)).toNat = t from rfl,if_pos hd]
        refine ⟨[],fun h=>absurd h (by decide),fun _=>rfl,fun h=>?_⟩
        have hd' : tell (dayOf (atD (bgn N.ws x).D) t) = -1:=hd
        generalize bgn N.ws x = b at *
        obtain ⟨D,c,q⟩:=b
        dsimp only at *
        have cD:=fun h hb=>vc_day N x D (.loc 2) (.loc 3) t h hb hbl (by omega)
        rw [hd'] at cD
        refine VC.body Tryz.func22 rfl Tryz.ntmps22 Tryz.call22 (h.grows_refl) rfl ?_;conv=>whnf
        repeat' (first|((first|refine zs1 ?_|refine zs2 ?_|refine zs3 ?_|refine zs4 ?_|refine zs5 ?_|refine zs6 [] ?_);conv=>whnf)|((first|apply zi1|apply zi2|apply zi3|apply zi4|apply zi5) <;> intro _ <;> conv=>whnf)|(refine VCall.intro (cH _) ?_;conv=>whnf)|(refine VCall.intro (cB _) ?_;conv=>whnf)|(refine VCall.intro (vc_posted N t _ (by omega)) ?_;conv=>whnf)|(refine VCall.intro (cD _ rfl) ?_;conv=>whnf))
        all_goals try (exfalso;omega)
        refine VOut.data 4 [] [] rfl zf (by exact FmAll.nil) zw
      · rw [show ((t : Int)).toNat = t from rfl,if_neg hd]
        have hd' : tell (dayOf (atD (bgn N.ws x).D) t) ≠ -1:=hd
        have hd2 : dayOf (atD (bgn N.ws x).D) t ≤ 1000:=Decidable.byContradiction fun h=>hd' (by unfold tell;rw [if_neg h])
        have hty : dyP N x t = dayOf (atD (bgn N.ws x).D) t:=by show tell _ = _;unfold tell;rw [if_pos hd2]
        have hkR : InR n ((t : Int),(lsG (fun s=>atD (bgn N.ws x).D t s) 16 : Nat)):=⟨by dsimp only;omega,by unfold Pp;dsimp only;omega⟩
        obtain ⟨l,hl⟩:=hT.1.pth _ hkR (by dsimp only;rw [hmn];exact hd2)
        have hfol:=path_fol hN.ws hT.1 hT.2 hl
        dsimp only at hfol
        rw [hmn,← hty] at hfol
        have hlok:=Path.ok hT.1 hl
        have hlen:=Path.short hn1.2 hx hT.1 hl hkR
        refine ⟨l.reverse,fun _=>⟨⟨_,hkR.2,by rw [folI_eq];exact hfol⟩,?_,by rw [List.length_reverse];omega,fun l2 h2=>by rw [Path.uniq hl h2]⟩,fun h=>absurd rfl h,fun h=>?_⟩
        · rw [List.all_eq_true]
          intro i hi
          unfold okI
          rw [decide_eq_true_eq]
          exact hlok i (List.mem_reverse.1 hi)
        clear hfol hty hlok hkR
        have hcv : ∀ k v,Psg.look (bgn N.ws x).c k = some v → True:=fun _ _ _=>trivial
        generalize bgn N.ws x = b at *
        obtain ⟨D,c,q⟩:=b
        dsimp only at *
        have cD:=fun h hb=>vc_day N x D (.loc 2) (.loc 3) t h hb hbl (by omega)
        have cL:=fun h hb=>vc_least N x D (.loc 2) (.loc 3) t h hb hbl (by omega)
        generalize lsG (fun s=>atD D t s) 16 = o at *
        generalize tell (dayOf (atD D) t) = dd at *
        refine VC.body Tryz.func22 rfl Tryz.ntmps22 Tryz.call22 (h.grows_refl) rfl ?_;conv=>whnf
        repeat' (first|((first|refine zs1 ?_|refine zs2 ?_|refine zs3 ?_|refine zs4 ?_|refine zs5 ?_|refine zs6 [] ?_);conv=>whnf)|((first|apply zi1|apply zi2|apply zi3|apply zi4|apply zi5) <;> intro _ <;> conv=>whnf)|(refine VCall.intro (cH _) ?_;conv=>whnf)|(refine VCall.intro (cB _) ?_;conv=>whnf)|(refine VCall.intro (vc_posted N t _ (by omega)) ?_;conv=>whnf)|(refine VCall.intro (cD _ rfl) ?_;conv=>whnf)|(refine VCall.intro (cL _ rfl) ?_;conv=>whnf))
        all_goals try (exfalso;omega)
        refine VCode.lp (outer:=h.lift) (marks:=[]) (fun y : Ky × List Int × List Int=>[(4,.fp (encHd x)),(6,.nilslice),(7,I 0),(9,.ptr (.loc 0) 0),(10,.gl (.loc 2) 1 y.2.1.length),(11,.ptr (.loc 3) 0)]) (fun y=>[trB N x D (.loc 1),.map (cmE c),.flat true (y.2.1.flatMap encI),.flat true (encKy y.1)]) (fun y=>Path c (x.p,x.s) y.1 y.2.2 ∧ y.2.1 ++ y.2.2 = l) (fun y=>y.2.2.length) (((t : Int),(o : Int)),[],l) ⟨hl,rfl⟩ ?_ ?_
        · conv=>whnf
          refine Retell.turn ⟨[2,3,5,4],5,[(1,encHd x)],[]⟩ (TurnOk.mk' _ _ [(1,encHd x)] [] (OutOk.lift _) rfl (by decide) (BTos.tr rfl rfl rfl (BTos.cm rfl rfl (BTos.new rfl (BTos.flat rfl rfl rfl BTos.nil)))) zf trivial rfl) zw zm
        · rintro ⟨k,w,r⟩ ⟨h1,h2⟩
          dsimp only at h1 h2
          have hwl : w.length ≤ 160:=by
            have:=congrArg List.length h2
            rw [List.length_append] at this
            omega
          cases h1 with
          | base =>
            rw [List.append_nil] at h2
            subst h2
            conv=>whnf
            repeat' (first|((first|refine zs1 ?_|refine zs2 ?_|refine zs3 ?_|refine zs4 ?_|refine zs5 ?_|refine zs6 [] ?_);conv=>whnf)|((first|apply zi1|apply zi2|apply zi3|apply zi4|apply zi5) <;> intro _ <;> conv=>whnf)|(refine VAgg.intro (vne139 (x.p,x.s) (x.p,x.s)) ?_;conv=>whnf))
            · rename_i hh;exact absurd rfl hh
            refine VCall.intro (vc_reverse w (.loc 2) _ rfl (by omega)) ?_
            conv=>whnf
            repeat' (first|((first|refine zs1 ?_|refine zs2 ?_|refine zs3 ?_|refine zs4 ?_|refine zs5 ?_|refine zs6 [] ?_);conv=>whnf)|((first|apply zi1|apply zi2|apply zi3|apply zi4|apply zi5) <;> intro _ <;> conv=>whnf))
            rw [← List.length_reverse]
            refine VOut.data 4 [(2,w.reverse.flatMap encI)] [] rfl zf (by exact FmAll.nil) zw
          | step g1 g2 g3 =>
            rename_i v r'
            have hlk:=look_C g1
            have h2' : (w ++ [v.2.2]) ++ r' = l:=by rw [List.append_assoc];exact h2
            conv=>whnf
            repeat' (first|((first|refine zs1 ?_|refine zs2 ?_|refine zs3 ?_|refine zs4 ?_|refine zs5 ?_);conv=>whnf)|((first|apply zi1|apply zi2|apply zi3|apply zi4|apply zi5) <;> intro _ <;> conv=>whnf)|(refine VAgg.intro (vne139 k (x.p,x.s)) ?_;conv=>whnf))
            · refine zs6 [] ?_
              conv=>whnf
              repeat' (first|((first|refine zs1 ?_|refine zs2 ?_|refine zs3 ?_|refine zs4 ?_|refine zs5 ?_);conv=>whnf)|((first|apply zi1|apply zi2|apply zi3|apply zi4|apply zi5) <;> intro _ <;> conv=>whnf)|(refine VLd.cell rfl rfl rfl (tr_map (N:=N) (x:=x) (D:=D) (v:=.map (.loc 1)) hbl) ?_;conv=>whnf)|(refine VLook.intro rfl hlk ?_;conv=>whnf))
              refine VMem.app1 (l:=w) (v.2.2 : Int) encI_len rfl rfl rfl rfl rfl (by omega) ?_
              conv=>whnf
              repeat' (first|((first|refine zs1 ?_|refine zs2 ?_|refine zs3 ?_|refine zs4 ?_|refine zs5 ?_);conv=>whnf)|((first|apply zi1|apply zi2|apply zi3|apply zi4|apply zi5) <;> intro _ <;> conv=>whnf))
              refine zs6 [] ?_
              conv=>whnf
              repeat' (first|((first|refine zs1 ?_|refine zs2 ?_|refine zs3 ?_|refine zs4 ?_|refine zs5 ?_);conv=>whnf)|((first|apply zi1|apply zi2|apply zi3|apply zi4|apply zi5) <;> intro _ <;> conv=>whnf)|(refine VLd.cell rfl rfl rfl (tr_map (N:=N) (x:=x) (D:=D) (v:=.map (.loc 1)) hbl) ?_;conv=>whnf)|(refine VLook.intro rfl hlk ?_;conv=>whnf))
              refine LEnd.intro (Y:=Ky × List Int × List Int) ((v.1,v.2.1),w ++ [v.2.2],r') ⟨g3,h2'⟩ (by dsimp only;simp) ?_
              rw [List.length_append]
              conv=>whnf
              refine Retell.turn ⟨[0,1,5,6],7,[],[]⟩ (TurnOk.mk' _ _ [] [] (OutOk.lift _) rfl (by decide) (BTos.tr rfl rfl rfl (BTos.cm rfl rfl (BTos.flat rfl rfl rfl (BTos.flat rfl rfl rfl BTos.nil)))) trivial trivial rfl) zw zm
            · rename_i hh;exact absurd g2 hh
    · rw [if_neg ht]
      refine ⟨[],fun h=>absurd h (by decide),fun _=>rfl,fun h=>?_⟩
      refine VC.body Tryz.func22 rfl Tryz.ntmps22 Tryz.call22 (h.grows_refl) rfl ?_;conv=>whnf
      repeat' (first|((first|refine zs1 ?_|refine zs2 ?_|refine zs3 ?_|refine zs4 ?_|refine zs5 ?_|refine zs6 [] ?_);conv=>whnf)|((first|apply zi1|apply zi2|apply zi3|apply zi4|apply zi5) <;> intro _ <;> conv=>whnf)|(refine VCall.intro (cH _) ?_;conv=>whnf)|(refine VCall.intro (vc_posted N to _ (by omega)) ?_;conv=>whnf))
      · refine VOut.data 2 [] [] rfl zf (by exact FmAll.nil) zw
      all_goals (exfalso;omega)
  · rw [if_neg h0]
    refine ⟨[],fun h=>absurd h h0,fun _=>rfl,fun h=>?_⟩
    generalize hrd N x = e at cH h0
    refine VC.body Tryz.func22 rfl Tryz.ntmps22 Tryz.call22 (h.grows_refl) rfl ?_;conv=>whnf
    repeat' (first|((first|refine zs1 ?_|refine zs2 ?_|refine zs3 ?_|refine zs4 ?_|refine zs5 ?_|refine zs6 [] ?_);conv=>whnf)|((first|apply zi1|apply zi2|apply zi3|apply zi4|apply zi5) <;> intro _ <;> conv=>whnf)|(refine VCall.intro (cH _) ?_;conv=>whnf))
    · refine VOut.data 2 [] [] rfl zf (by exact FmAll.nil) zw
    all_goals (rename_i hh;exact absurd (by omega) h0)
end Go.Proofs.YtoeendggmalcpaaGreat

open Go.Vm
open Psg
namespace Go.Proofs.YtoeendggmalcpaaGreat
set_option maxRecDepth 20000
set_option maxHeartbeats 4000000

theorem vc_first (l : List Int) (h : Hp) (hl : l.length ≤ 4000000) (h0 : 0 < l.length) : VC Tryz.prog 56 [ints l] h (I (mn (fun s=>l.getD s 1001) (l.length - 1))) h:=by
  have hg : ∀ k,k < l.length → l[k]? = some (l.getD k 1001):=fun k hk=>by
    rw [List.getD_eq_getElem?_getD,List.getElem?_eq_getElem hk];rfl
  generalize hf : (fun s=>l.getD s 1001) = f
  have hg : ∀ k,k < l.length → l[k]? = some (f k):=fun k hk=>by rw [← hf];exact hg k hk
  clear hf
  refine VC.body Tryz.func56 rfl Tryz.ntmps56 Tryz.call56 (h.grows_refl) rfl ?_;conv=>whnf
  repeat' (first|((first|refine zs1 ?_|refine zs2 ?_|refine zs3 ?_|refine zs4 ?_|refine zs5 ?_|refine zs6 [] ?_);conv=>whnf)|((first|apply zi1|apply zi2|apply zi3|apply zi4|apply zi5) <;> intro _ <;> conv=>whnf)|(refine VAny.ix encI_len 0 rfl rfl (hg 0 h0) ?_;conv=>whnf))
  refine VCode.lp (fun k : Nat=>[(0,ints l),(3,I (mn f k)),(4,I ((k + 1 : Nat) : Int))]) (fun _=>[]) (fun k=>k < l.length) (fun k=>l.length - k) 0 h0 ?_ ?_
  · rw [show mn f 0 = f 0 from rfl]
    conv=>whnf
    refine Retell.turn ⟨[],0,[],[]⟩ (TurnOk.mk' _ _ [] [] (OutOk.lift _) rfl (by decide) zb trivial trivial rfl) zw zm
  · rintro k hk
    conv=>whnf
    refine VIte.dec (fun h1=>?_) (fun h1=>?_)
    · have hx:=hg (k + 1) (by omega)
      have hst : mn f (k + 1) = if f (k + 1) < mn f k then f (k + 1) else mn f k:=rfl
      generalize hq : mn f (k + 1) = q at hst
      generalize mn f k = m at hst
      generalize f (k + 1) = y at hx hst
      conv=>whnf
      repeat' (first|((first|refine zs1 ?_|refine zs2 ?_|refine zs3 ?_|refine zs4 ?_|refine zs5 ?_|refine zs6 [] ?_);conv=>whnf)|((first|apply zi1|apply zi2|apply zi3|apply zi4|apply zi5) <;> intro _ <;> conv=>whnf)|(refine VAny.ix encI_len (k + 1) rfl rfl hx ?_;conv=>whnf))
      · rename_i hh
        rw [if_pos hh] at hst
        subst hst
        refine LEnd.intro (k + 1) (by omega) (by omega) ?_
        rw [hq]
        conv=>whnf
        refine Retell.turn ⟨[],0,[],[]⟩ (TurnOk.mk' _ _ [] [] (OutOk.lift _) rfl (by decide) zb trivial trivial rfl) zw zm
      · rename_i hh
        rw [if_neg hh] at hst
        subst hst
        refine LEnd.intro (k + 1) (by omega) (by omega) ?_
        rw [hq]
        conv=>whnf
        refine Retell.turn ⟨[],0,[],[]⟩ (TurnOk.mk' _ _ [] [] (OutOk.lift _) rfl (by decide) zb trivial trivial rfl) zw zm
    · obtain rfl : k = l.length - 1:=by omega
      conv=>whnf
      repeat' (first|((first|refine zs1 ?_|refine zs2 ?_|refine zs3 ?_|refine zs4 ?_|refine zs5 ?_|refine zs6 [] ?_);conv=>whnf)|((first|apply zi1|apply zi2|apply zi3|apply zi4|apply zi5) <;> intro _ <;> conv=>whnf))
      exact VOut.same rfl
structure Hold (R : Prop) : Prop where
  out : R
theorem suffices_ {R G : Prop} (main : Hold R → G) (rest : R) : G:=main ⟨rest⟩
/-! ### The reference's table -/
def rowsV (n : Nat) : List V:=(List.range n).map fun q=>.gl (.loc (q + 1)) 1 16
def rB (X : Rw) (q : Nat) : Blk:=.flat true ((X.getD q []).flatMap encI)
theorem rowsV_at {n q : Nat} (h : q < n) : (rowsV n)[q]? = some (.gl (.loc (q + 1)) 1 16):=by
  unfold rowsV
  rw [List.getElem?_map,List.getElem?_range h];rfl
def tabB (b : Blk) (X : Rw) (r : List Blk) : List Blk:=b :: rB X 0 :: rB X 1 :: rB X 2 :: rB X 3 :: rB X 4 :: rB X 5 :: rB X 6 :: rB X 7 :: rB X 8 :: rB X 9 :: r
theorem ten {p : Nat} (h : p < 10) : p = 0 ∨ p = 1 ∨ p = 2 ∨ p = 3 ∨ p = 4 ∨ p = 5 ∨ p = 6 ∨ p = 7 ∨ p = 8 ∨ p = 9:=by omega
theorem tab_get (b : Blk) (X : Rw) (r : List Blk) {p : Nat} (hp : p < 10) : (tabB b X r)[p + 1]? = some (.flat true ((X.getD p []).flatMap encI)):=by
  rcases ten hp with rfl|rfl|rfl|rfl|rfl|rfl|rfl|rfl|rfl|rfl <;> rfl
theorem rB_set {X : Rw} {p s : Nat} {v : Int} (hp : p < X.length) (q : Nat) : rB (setR X p s v) q = if q = p then .flat true (((X.getD p []).set s v).flatMap encI) else rB X q:=by
  unfold rB setR
  split
  · rename_i e
    subst e
    rw [List.getD_eq_getElem?_getD,List.getElem?_set_self hp];rfl
  · rename_i e
    rw [List.getD_eq_getElem?_getD,List.getElem?_set_ne (fun h=>e h.symm),← List.getD_eq_getElem?_getD]
theorem tab_set (b : Blk) {X : Rw} (r : List Blk) {p s : Nat} {v : Int} (hp : p < X.length) (hn : p < 10) : (tabB b X r).set (p + 1) (.flat true (((X.getD p []).set s v).flatMap encI)) = tabB b (setR X p s v) r:=by
  have h:=fun q=>rB_set (s:=s) (v:=v) hp q
  unfold tabB
  rw [h 0,h 1,h 2,h 3,h 4,h 5,h 6,h 7,h 8,h 9]
  rcases ten hn with rfl|rfl|rfl|rfl|rfl|rfl|rfl|rfl|rfl|rfl <;> rfl
theorem VTos.rows {c : TCtx} (h : ∀ q,q < 10 → c.ρ (.loc (q + 1)) = .loc (q + 1)) (n : Nat) (hn : n ≤ 10) : VTos c (rowsV n) (rowsV n):=by
  have key : ∀ l : List Nat,(∀ q ∈ l,q < 10) → VTos c (l.map fun q=>V.gl (.loc (q + 1)) 1 16) (l.map fun q=>V.gl (.loc (q + 1)) 1 16):=by
    intro l
    induction l with
    | nil=>intro _;exact VTos.nil
    | cons a l ih =>
      intro hl
      exact VTos.cons (VTo.gl (h a (hl a List.mem_cons_self)).symm) (ih fun q hq=>hl q (List.mem_cons_of_mem _ hq))
  exact key (List.range n) fun q hq=>by have:=List.mem_range.1 hq;omega
theorem BTos.tab {c : TCtx} {loc : List Blk} {pm : List Nat} {bs : List Blk} {n : Nat} {X : Rw} (r0 : List Blk) (hn : n ≤ 10) (hpm : ∀ q,q < 10 → c.pm[q + 1]? = some (q + 1)) (hL : 11 ≤ c.L) (hl : loc = tabB (.cells true (rowsV n)) X r0) (r : BTos c loc pm bs) :
    BTos c loc (0 :: 1 :: 2 :: 3 :: 4 :: 5 :: 6 :: 7 :: 8 :: 9 :: 10 :: pm) (tabB (.cells true (rowsV n)) X bs):=by
  have hb : ∀ q,q ≤ 10 → Nat.blt q c.L = true:=fun q hq=>blt_of (by omega)
  refine BTos.cells (hb 0 (by omega)) (by rw [hl];rfl) rfl (VTos.rows (fun q hq=>by unfold TCtx.ρ;simp only [hpm q hq]) n hn) ?_
  refine BTos.flat (hb 1 (by omega)) (by rw [hl];rfl) rfl (BTos.flat (hb 2 (by omega)) (by rw [hl];rfl) rfl (BTos.flat (hb 3 (by omega)) (by rw [hl];rfl) rfl (BTos.flat (hb 4 (by omega)) (by rw [hl];rfl) rfl (BTos.flat (hb 5 (by omega)) (by rw [hl];rfl) rfl (BTos.flat (hb 6 (by omega)) (by rw [hl];rfl) rfl (BTos.flat (hb 7 (by omega)) (by rw [hl];rfl) rfl (BTos.flat (hb 8 (by omega)) (by rw [hl];rfl) rfl (BTos.flat (hb 9 (by omega)) (by rw [hl];rfl) rfl (BTos.flat (hb 10 (by omega)) (by rw [hl];rfl) rfl r)))))))))
theorem VLd.rowP {n q off : Nat} {h : Hp} {K : V → Prop} (hb : h.get (.loc 0) = some (.cells true (rowsV n))) (hq : q < n) (ho : off = q) (hK : K (.gl (.loc (q + 1)) 1 16)) : VLd (tiOf Tryz.prog) 22 (.ptr (.loc 0) off) h K:=by
  subst ho
  exact VLd.cell rfl rfl hb (rowsV_at hq) hK
theorem VLd.tab {b : Blk} {X : Rw} {r : List Blk} {h : Hp} {p off : Nat} {y : Int} {K : V → Prop} (s : Nat) (hl : h.loc = tabB b X r) (h10 : p < 10) (hg : (X.getD p [])[s]? = some y) (ho : off = s) (hK : K (I y)) : VLd (tiOf Tryz.prog) 3 (.ptr (.loc (p + 1)) off) h K:=by
  have hb : h.get (.loc (p + 1)) = some (.flat true ((X.getD p []).flatMap encI)):=by
    show h.loc[p + 1]? = _
    rw [hl];exact tab_get b X r h10
  exact VLd.recc encI_len s 0 rfl rfl hb hg (by decide) rfl (by omega) hK
theorem VMem.setTab {b : Blk} {X : Rw} {r : List Blk} {h : Hp} {p off : Nat} {v : Int} {K : V → Hp → Prop} (s : Nat) (hl : h.loc = tabB b X r) (hp : p < X.length) (h10 : p < 10) (hs : s < (X.getD p []).length) (ho : off = s) (hK : K .undef ⟨h.outer,tabB b (setR X p s v) r⟩) : VMem Tryz.prog (opStore 3) [.ptr (.loc (p + 1)) off,I v] h K:=by
  have hb : h.get (.loc (p + 1)) = some (.flat true ((X.getD p []).flatMap encI)):=by
    show h.loc[p + 1]? = _
    rw [hl];exact tab_get b X r h10
  refine VMem.setRec encI_len s 0 v rfl rfl hb (List.getElem?_eq_getElem hs) (by decide) rfl (by omega) ?_
  have e : h.set (.loc (p + 1)) (.flat true (((X.getD p []).set s v).flatMap encI)) = ⟨h.outer,tabB b (setR X p s v) r⟩:=by
    unfold Hp.set
    simp only [hl]
    rw [tab_set b r hp h10]
  rw [e]
  exact hK
theorem rx_if {p s : Nat} {X : Rw} {ch : Bool} {w : Wy} : rx p s (X,ch) w = if gnB w ⟨p,atR X p s,s⟩ = true then (if (gnV w ⟨p,atR X p s,s⟩).d < atR X (gnV w ⟨p,atR X p s,s⟩).p (gnV w ⟨p,atR X p s,s⟩).s then (setR X (gnV w ⟨p,atR X p s,s⟩).p.toNat (gnV w ⟨p,atR X p s,s⟩).s.toNat (gnV w ⟨p,atR X p s,s⟩).d,true) else (X,ch)) else (X,ch):=by
  unfold rx
  dsimp only
  rw [gone_eq]
  cases gnB w ⟨p,atR X p s,s⟩ <;> rfl
theorem atR_at {n : Nat} {X : Rw} {p s : Nat} (h : Sz n X) (hp : p < n) (hs : s < 16) : (X.getD p [])[s]? = some (atR X p s):=by
  have:=(atR_get h (k:=((p : Int),(s : Int))) ⟨by dsimp only;omega,by unfold Pp;dsimp only;omega⟩).2
  exact this
theorem sz_row {n : Nat} {X : Rw} {p : Nat} (h : Sz n X) (hp : p < n) : (X.getD p []).length = 16:=by
  have hl : p < X.length:=by rw [h.len];exact hp
  rw [List.getD_eq_getElem?_getD,List.getElem?_eq_getElem hl]
  exact h.row _ (List.getElem_mem hl)
theorem lt_row {n : Nat} {X : Rw} {p s : Nat} (h : Sz n X) (hp : p < n) (hs : s < 16) : s < (X.getD p []).length:=by rw [sz_row h hp];exact hs
theorem lt_len {n : Nat} {X : Rw} {p : Nat} (h : Sz n X) (hp : p < n) : p < X.length:=by rw [h.len];exact hp
def dRow (r : List Int) : D:=.sl 1 r.length (r.flatMap encI)
def rws (X : Rw) : V:=.fs 1 X.length (X.map dRow)
def fzL (X : Rw) : List (Nat × List D):=(0,X.map dRow) :: (List.range X.length).map fun q=>(q + 1,(X.getD q []).flatMap encI)
theorem assoc_map {α : Type} (f : Nat → α) {k : Nat} : ∀ {l : List Nat},k ∈ l → assoc (l.map fun q=>(q + 1,f q)) (k + 1) = some (f k)
  | a :: l,h=>by
    rw [List.map_cons,assoc]
    cases hb : Nat.beq (a + 1) (k + 1) with
    | true =>
      have:=Nat.eq_of_beq_eq_true hb
      have : a = k:=by omega
      subst this;rfl
    | false =>
      have hne:=Nat.ne_of_beq_eq_false hb
      refine assoc_map f ?_
      rcases List.mem_cons.1 h with h|h
      · omega
      · exact h
theorem FzAll.of {c : TCtx} {loc : List Blk} : ∀ {l : List (Nat × List D)},(∀ e ∈ l,∃ b r,loc[e.1]? = some b ∧ b.row = some (true,r) ∧ RowTo c r (e.2.map D.v)) → FzAll c loc l
  | [],_=>by simp only [FzAll]
  | (p,ds) :: l,h=>by
    simp only [FzAll]
    obtain ⟨b,r,h1,h2,h3⟩:=h (p,ds) List.mem_cons_self
    exact ⟨⟨b,r,h1,h2,h3⟩,FzAll.of fun e he=>h e (List.mem_cons_of_mem _ he)⟩
theorem tab_out {X : Rw} (h : Hp) (hz : Sz X.length X) (hn : X.length ≤ 10) : VOut h ⟨h.lift,tabB (.cells true (rowsV X.length)) X []⟩ (.gl (.loc 0) 1 X.length) (rws X) h:=by
  have hf : ∀ q,q < X.length → assoc (fzL X) (q + 1) = some ((X.getD q []).flatMap encI):=fun q hq=>assoc_map (fun q=>(X.getD q []).flatMap encI) (List.mem_range.2 hq)
  have hat : ∀ (L : Nat),VTo ⟨[],L,fzL X,[]⟩ (.gl (.loc 0) 1 X.length) (.fs 1 X.length (X.map dRow)):=fun L=>VTo.fsGl rfl (by rw [List.length_map,Nat.mul_one])
  refine VOut.data 11 (fzL X) [] rfl (FzAll.of fun e he=>?_) FmAll.nil (hat 11)
  rcases List.mem_cons.1 he with rfl|he
  · refine ⟨_,rowsV X.length,rfl,rfl,by simp [rowsV],fun i v' hv=>?_⟩
    dsimp only at hv
    rw [List.getElem?_map,List.getElem?_map] at hv
    cases hi : X[i]? with
    | none=>rw [hi] at hv;cases hv
    | some r =>
      rw [hi] at hv
      have hlt:=(List.getElem?_eq_some_iff.1 hi).1
      have hr:=hz.row r (List.mem_of_getElem? hi)
      have e : X.getD i [] = r:=by rw [List.getD_eq_getElem?_getD,hi];rfl
      simp only [Option.map_some,Option.some.injEq] at hv
      subst hv
      refine ⟨_,rowsV_at hlt,?_⟩
      show VTo _ _ (.fs 1 r.length (r.flatMap encI))
      rw [hr]
      refine VTo.fsGl ?_ (by rw [flat_len encI_len,hr])
      have:=hf i hlt
      rw [e] at this
      exact this
  · obtain ⟨q,hq,rfl⟩:=List.mem_map.1 he
    have hq:=List.mem_range.1 hq
    exact ⟨_,((X.getD q []).flatMap encI).map D.v,tab_get _ X [] (by omega),rfl,RowTo.dv _ _⟩
end Go.Proofs.YtoeendggmalcpaaGreat

open Go.Vm
open Psg
namespace Go.Proofs.YtoeendggmalcpaaGreat
set_option maxRecDepth 20000
set_option maxHeartbeats 4000000

def R16 : List Int:=List.replicate 16 1001
def pmO (o p : Nat) : List Nat:=[o,if 1 = p + 1 then 11 else 1,if 2 = p + 1 then 11 else 2,if 3 = p + 1 then 11 else 3,if 4 = p + 1 then 11 else 4,if 5 = p + 1 then 11 else 5,if 6 = p + 1 then 11 else 6,if 7 = p + 1 then 11 else 7,if 8 = p + 1 then 11 else 8,if 9 = p + 1 then 11 else 9,if 10 = p + 1 then 11 else 10]
theorem vc_table {n : Nat} (N : Nt) (x : Hd) (h : Hp) (hN : NOk n N) (hx : HOk n x) : VC Tryz.prog 55 [vN N,vHd x] h (rws (rtab n N.ws x)) h:=by
  obtain ⟨E,hE⟩ : ∃ E,E = rtab n N.ws x:=⟨_,rfl⟩
  rw [← hE]
  have hp:=hN.p
  have hn1:=hN.n1
  have hwl:=hN.len
  refine VC.bodyC 1 Tryz.func55 rfl Tryz.ntmps55 Tryz.call55 (h.grows_refl) rfl ?_;conv=>whnf
  refine VCut.at' (outer:=h.lift) (marks:=[]) 99 [(2,.fp (encN N)),(3,.fp (encHd x)),(4,.nilslice)] [] ?_ ?_
  · conv=>whnf
    refine Retell.turn ⟨[],2,[(0,encN N),(1,encHd x)],[]⟩ (TurnOk.mk' _ _ [(0,encN N),(1,encHd x)] [] (OutOk.lift _) rfl (by decide) zb zf trivial rfl) zw zm
  · conv=>whnf
    repeat' (first|((first|refine zs1 ?_|refine zs2 ?_|refine zs3 ?_|refine zs4 ?_|refine zs5 ?_);conv=>whnf)|((first|apply zi1|apply zi2|apply zi3|apply zi4|apply zi5) <;> intro _ <;> conv=>whnf))
    refine VCode.lp (outer:=h.lift) (marks:=[]) (fun p : Nat=>[(2,.fp (encN N)),(3,.fp (encHd x)),(4,.nilslice),(5,.gl (.loc 0) 1 p),(6,I p)]) (fun p=>tabB (.cells true (rowsV p)) (List.replicate p R16) []) (fun p=>p ≤ n) (fun p=>n - p) 0 (Nat.zero_le _) ?_ ?_
    · conv=>whnf
      refine Retell.trans (b:=⟨105,Fr.set (Fr.set (Fr.set (Fr.set (Fr.set .leaf 2 (.fp (encN N))) 3 (.fp (encHd x))) 4 .nilslice) 5 (.gl (.loc 0) 1 0)) 6 (I 0),⟨h.lift,[.flat true [],.flat true [],.flat true [],.flat true [],.flat true [],.flat true [],.flat true [],.flat true [],.flat true [],.flat true [],.flat true []]⟩,[]⟩) ?_ ?_
      · conv=>whnf
        refine Retell.turn ⟨[0,1,2,3,4,5,6,7,8,9,10],0,[],[]⟩ (TurnOk.mk' _ _ [] [] (OutOk.lift _) rfl (by decide) (BTos.new rfl (BTos.new rfl (BTos.new rfl (BTos.new rfl (BTos.new rfl (BTos.new rfl (BTos.new rfl (BTos.new rfl (BTos.new rfl (BTos.new rfl (BTos.new rfl BTos.nil))))))))))) trivial trivial rfl) zw zm
      · conv=>whnf
        refine Retell.turn ⟨[0,1,2,3,4,5,6,7,8,9,10],11,[],[]⟩ (TurnOk.mk' _ _ [] [] (OutOk.lift _) rfl (by decide) (BTos.cells rfl rfl rfl VTos.nil (BTos.flat rfl rfl rfl (BTos.flat rfl rfl rfl (BTos.flat rfl rfl rfl (BTos.flat rfl rfl rfl (BTos.flat rfl rfl rfl (BTos.flat rfl rfl rfl (BTos.flat rfl rfl rfl (BTos.flat rfl rfl rfl (BTos.flat rfl rfl rfl (BTos.flat rfl rfl rfl BTos.nil))))))))))) trivial trivial rfl) zw zm
    · intro p hpn
      rcases Nat.lt_or_ge p n with h1|h1
      · have h10 : p < 10:=by omega
        have hrl : (rowsV p).length = p:=by simp [rowsV]
        conv=>whnf
        repeat' (first|((first|refine zs1 ?_|refine zs2 ?_|refine zs3 ?_|refine zs4 ?_|refine zs5 ?_);conv=>whnf)|((first|apply zi1|apply zi2|apply zi3|apply zi4|apply zi5) <;> intro _ <;> conv=>whnf))
        all_goals try (exfalso;omega)
        refine VCode.lp (outer:=h.lift) (marks:=[]) (fun s : Nat=>[(2,.fp (encN N)),(3,.fp (encHd x)),(4,.nilslice),(5,.gl (.loc 0) 1 p),(6,I p),(7,.gl (.loc 11) 1 (List.replicate s (1001 : Int)).length),(8,I s)]) (fun s=>tabB (.cells true (rowsV p)) (List.replicate p R16) [.flat true ((List.replicate s (1001 : Int)).flatMap encI)]) (fun s=>s ≤ 16) (fun s=>16 - s) 0 (Nat.zero_le _) ?_ ?_
        · rw [show List.replicate 0 (1001 : Int) = [] from rfl]
          conv=>whnf
          refine Retell.turn ⟨[0,1,2,3,4,5,6,7,8,9,10,11],11,[],[]⟩ (TurnOk.mk' _ _ [] [] (OutOk.lift _) rfl (by decide) (BTos.tab [] (by omega) (by intro q hq;rcases ten hq with rfl|rfl|rfl|rfl|rfl|rfl|rfl|rfl|rfl|rfl <;> rfl) (by decide) rfl (BTos.new rfl BTos.nil)) trivial trivial rfl) zw zm
        · intro s hs
          have hrep : List.replicate (s + 1) (1001 : Int) = List.replicate s 1001 ++ [1001]:=by rw [List.replicate_succ']
          have hlen : (List.replicate s (1001 : Int)).length = s:=List.length_replicate
          conv=>whnf
          repeat' (first|((first|refine zs1 ?_|refine zs2 ?_|refine zs3 ?_|refine zs4 ?_|refine zs5 ?_);conv=>whnf)|((first|apply zi1|apply zi2|apply zi3|apply zi4|apply zi5) <;> intro _ <;> conv=>whnf))
          · generalize List.replicate s (1001 : Int) = l at hrep hlen
            refine VMem.app1 (l:=l) (1001 : Int) encI_len rfl rfl rfl rfl rfl (by omega) ?_
            conv=>whnf
            repeat' (first|((first|refine zs1 ?_|refine zs2 ?_|refine zs3 ?_|refine zs4 ?_|refine zs5 ?_);conv=>whnf)|((first|apply zi1|apply zi2|apply zi3|apply zi4|apply zi5) <;> intro _ <;> conv=>whnf))
            refine LEnd.intro (s + 1) (by omega) (by omega) ?_
            rw [hrep,List.length_append]
            conv=>whnf
            refine Retell.turn ⟨[0,1,2,3,4,5,6,7,8,9,10,13],14,[],[]⟩ (TurnOk.mk' _ _ [] [] (OutOk.lift _) rfl (by decide) (BTos.tab [.dead,.flat true [DI 1001],.flat true ((l ++ [1001]).flatMap encI)] (by omega) (by intro q hq;rcases ten hq with rfl|rfl|rfl|rfl|rfl|rfl|rfl|rfl|rfl|rfl <;> rfl) (by decide) rfl (BTos.flat rfl rfl rfl BTos.nil)) trivial trivial rfl) zw zm
          · obtain rfl : s = 16:=by omega
            rw [show List.replicate 16 (1001 : Int) = R16 from rfl,show R16.length = 16 from rfl]
            repeat' (first|((first|refine zs1 ?_|refine zs2 ?_|refine zs3 ?_|refine zs4 ?_|refine zs5 ?_);conv=>whnf)|((first|apply zi1|apply zi2|apply zi3|apply zi4|apply zi5) <;> intro _ <;> conv=>whnf))
            refine VMem.appCell (l:=rowsV p) (v:=.gl (.loc 11) 1 16) rfl rfl rfl rfl hrl.symm rfl (by omega) ?_
            conv=>whnf
            repeat' (first|((first|refine zs1 ?_|refine zs2 ?_|refine zs3 ?_|refine zs4 ?_|refine zs5 ?_);conv=>whnf)|((first|apply zi1|apply zi2|apply zi3|apply zi4|apply zi5) <;> intro _ <;> conv=>whnf))
            refine LEnd.intro (p + 1) (by omega) (by omega) ?_
            clear hrl
            rcases ten h10 with rfl|rfl|rfl|rfl|rfl|rfl|rfl|rfl|rfl|rfl
            · conv=>whnf
              refine Retell.turn ⟨pmO 13 0,14,[],[]⟩ (TurnOk.mk' _ _ [] [] (OutOk.lift _) rfl (by decide) (BTos.cells rfl rfl rfl zw (BTos.flat rfl rfl rfl (BTos.flat rfl rfl rfl (BTos.flat rfl rfl rfl (BTos.flat rfl rfl rfl (BTos.flat rfl rfl rfl (BTos.flat rfl rfl rfl (BTos.flat rfl rfl rfl (BTos.flat rfl rfl rfl (BTos.flat rfl rfl rfl (BTos.flat rfl rfl rfl BTos.nil))))))))))) trivial trivial rfl) zw zm
            · conv=>whnf
              refine Retell.turn ⟨pmO 13 1,14,[],[]⟩ (TurnOk.mk' _ _ [] [] (OutOk.lift _) rfl (by decide) (BTos.cells rfl rfl rfl zw (BTos.flat rfl rfl rfl (BTos.flat rfl rfl rfl (BTos.flat rfl rfl rfl (BTos.flat rfl rfl rfl (BTos.flat rfl rfl rfl (BTos.flat rfl rfl rfl (BTos.flat rfl rfl rfl (BTos.flat rfl rfl rfl (BTos.flat rfl rfl rfl (BTos.flat rfl rfl rfl BTos.nil))))))))))) trivial trivial rfl) zw zm
            · conv=>whnf
              refine Retell.turn ⟨pmO 13 2,14,[],[]⟩ (TurnOk.mk' _ _ [] [] (OutOk.lift _) rfl (by decide) (BTos.cells rfl rfl rfl zw (BTos.flat rfl rfl rfl (BTos.flat rfl rfl rfl (BTos.flat rfl rfl rfl (BTos.flat rfl rfl rfl (BTos.flat rfl rfl rfl (BTos.flat rfl rfl rfl (BTos.flat rfl rfl rfl (BTos.flat rfl rfl rfl (BTos.flat rfl rfl rfl (BTos.flat rfl rfl rfl BTos.nil))))))))))) trivial trivial rfl) zw zm
            · conv=>whnf
              refine Retell.turn ⟨pmO 13 3,14,[],[]⟩ (TurnOk.mk' _ _ [] [] (OutOk.lift _) rfl (by decide) (BTos.cells rfl rfl rfl zw (BTos.flat rfl rfl rfl (BTos.flat rfl rfl rfl (BTos.flat rfl rfl rfl (BTos.flat rfl rfl rfl (BTos.flat rfl rfl rfl (BTos.flat rfl rfl rfl (BTos.flat rfl rfl rfl (BTos.flat rfl rfl rfl (BTos.flat rfl rfl rfl (BTos.flat rfl rfl rfl BTos.nil))))))))))) trivial trivial rfl) zw zm
            · conv=>whnf
              refine Retell.turn ⟨pmO 13 4,14,[],[]⟩ (TurnOk.mk' _ _ [] [] (OutOk.lift _) rfl (by decide) (BTos.cells rfl rfl rfl zw (BTos.flat rfl rfl rfl (BTos.flat rfl rfl rfl (BTos.flat rfl rfl rfl (BTos.flat rfl rfl rfl (BTos.flat rfl rfl rfl (BTos.flat rfl rfl rfl (BTos.flat rfl rfl rfl (BTos.flat rfl rfl rfl (BTos.flat rfl rfl rfl (BTos.flat rfl rfl rfl BTos.nil))))))))))) trivial trivial rfl) zw zm
            · conv=>whnf
              refine Retell.turn ⟨pmO 13 5,14,[],[]⟩ (TurnOk.mk' _ _ [] [] (OutOk.lift _) rfl (by decide) (BTos.cells rfl rfl rfl zw (BTos.flat rfl rfl rfl (BTos.flat rfl rfl rfl (BTos.flat rfl rfl rfl (BTos.flat rfl rfl rfl (BTos.flat rfl rfl rfl (BTos.flat rfl rfl rfl (BTos.flat rfl rfl rfl (BTos.flat rfl rfl rfl (BTos.flat rfl rfl rfl (BTos.flat rfl rfl rfl BTos.nil))))))))))) trivial trivial rfl) zw zm
            · conv=>whnf
              refine Retell.turn ⟨pmO 13 6,14,[],[]⟩ (TurnOk.mk' _ _ [] [] (OutOk.lift _) rfl (by decide) (BTos.cells rfl rfl rfl zw (BTos.flat rfl rfl rfl (BTos.flat rfl rfl rfl (BTos.flat rfl rfl rfl (BTos.flat rfl rfl rfl (BTos.flat rfl rfl rfl (BTos.flat rfl rfl rfl (BTos.flat rfl rfl rfl (BTos.flat rfl rfl rfl (BTos.flat rfl rfl rfl (BTos.flat rfl rfl rfl BTos.nil))))))))))) trivial trivial rfl) zw zm
            · conv=>whnf
              refine Retell.turn ⟨pmO 13 7,14,[],[]⟩ (TurnOk.mk' _ _ [] [] (OutOk.lift _) rfl (by decide) (BTos.cells rfl rfl rfl zw (BTos.flat rfl rfl rfl (BTos.flat rfl rfl rfl (BTos.flat rfl rfl rfl (BTos.flat rfl rfl rfl (BTos.flat rfl rfl rfl (BTos.flat rfl rfl rfl (BTos.flat rfl rfl rfl (BTos.flat rfl rfl rfl (BTos.flat rfl rfl rfl (BTos.flat rfl rfl rfl BTos.nil))))))))))) trivial trivial rfl) zw zm
            · conv=>whnf
              refine Retell.turn ⟨pmO 13 8,14,[],[]⟩ (TurnOk.mk' _ _ [] [] (OutOk.lift _) rfl (by decide) (BTos.cells rfl rfl rfl zw (BTos.flat rfl rfl rfl (BTos.flat rfl rfl rfl (BTos.flat rfl rfl rfl (BTos.flat rfl rfl rfl (BTos.flat rfl rfl rfl (BTos.flat rfl rfl rfl (BTos.flat rfl rfl rfl (BTos.flat rfl rfl rfl (BTos.flat rfl rfl rfl (BTos.flat rfl rfl rfl BTos.nil))))))))))) trivial trivial rfl) zw zm
            · conv=>whnf
              refine Retell.turn ⟨pmO 13 9,14,[],[]⟩ (TurnOk.mk' _ _ [] [] (OutOk.lift _) rfl (by decide) (BTos.cells rfl rfl rfl zw (BTos.flat rfl rfl rfl (BTos.flat rfl rfl rfl (BTos.flat rfl rfl rfl (BTos.flat rfl rfl rfl (BTos.flat rfl rfl rfl (BTos.flat rfl rfl rfl (BTos.flat rfl rfl rfl (BTos.flat rfl rfl rfl (BTos.flat rfl rfl rfl (BTos.flat rfl rfl rfl BTos.nil))))))))))) trivial trivial rfl) zw zm
      · obtain rfl : p = n:=by omega
        have hxp:=hx.p
        have hxs:=hx.s
        unfold Pp at hxs
        have hX0:=ri0 (ws:=N.ws) hx
        have hrt : setR (List.replicate p R16) x.p.toNat x.s.toNat x.d = rt0 p x:=rfl
        have hE0 : E = rgo p N.ws 200000 (rt0 p x):=hE
        have htot:=ri_tot hX0 hn1.2
        generalize hY : rt0 p x = Y at hX0 hrt hE0 htot
        have hsz0 : Sz p (List.replicate p R16):=sz_rep p
        conv=>whnf
        repeat' (first|((first|refine zs1 ?_|refine zs2 ?_|refine zs3 ?_|refine zs4 ?_|refine zs5 ?_);conv=>whnf)|((first|apply zi1|apply zi2|apply zi3|apply zi4|apply zi5) <;> intro _ <;> conv=>whnf))
        · exfalso;omega
        apply suffices_
        · intro hrest
          refine zs6 [] ?_
          rcases ten (show x.p.toNat < 10 by omega) with e|e|e|e|e|e|e|e|e|e
          all_goals (
            conv=>whnf
            repeat' (first|((first|refine zs1 ?_|refine zs2 ?_|refine zs3 ?_|refine zs4 ?_|refine zs5 ?_);conv=>whnf)|((first|apply zi1|apply zi2|apply zi3|apply zi4|apply zi5) <;> intro _ <;> conv=>whnf)|((first|refine VLd.rowP (n:=p) (q:=0) rfl (by omega) (by show x.p.toNat * 1 = 0;omega) ?_|refine VLd.rowP (n:=p) (q:=1) rfl (by omega) (by show x.p.toNat * 1 = 1;omega) ?_|refine VLd.rowP (n:=p) (q:=2) rfl (by omega) (by show x.p.toNat * 1 = 2;omega) ?_|refine VLd.rowP (n:=p) (q:=3) rfl (by omega) (by show x.p.toNat * 1 = 3;omega) ?_|refine VLd.rowP (n:=p) (q:=4) rfl (by omega) (by show x.p.toNat * 1 = 4;omega) ?_|refine VLd.rowP (n:=p) (q:=5) rfl (by omega) (by show x.p.toNat * 1 = 5;omega) ?_|refine VLd.rowP (n:=p) (q:=6) rfl (by omega) (by show x.p.toNat * 1 = 6;omega) ?_|refine VLd.rowP (n:=p) (q:=7) rfl (by omega) (by show x.p.toNat * 1 = 7;omega) ?_|refine VLd.rowP (n:=p) (q:=8) rfl (by omega) (by show x.p.toNat * 1 = 8;omega) ?_|refine VLd.rowP (n:=p) (q:=9) rfl (by omega) (by show x.p.toNat * 1 = 9;omega) ?_);conv=>whnf))
            refine VMem.setTab (b:=.cells true (rowsV p)) (X:=List.replicate p R16) (r:=[]) x.s.toNat rfl (lt_len hsz0 (by omega)) (by omega) (lt_row hsz0 (by omega) (by omega)) (by show x.s.toNat * 1 = x.s.toNat;omega) ?_
            have hrt2:=hrt
            rw [e] at hrt2
            rw [hrt2]
            conv=>whnf
            repeat' (first|((first|refine zs1 ?_|refine zs2 ?_|refine zs3 ?_|refine zs4 ?_|refine zs5 ?_);conv=>whnf)|((first|apply zi1|apply zi2|apply zi3|apply zi4|apply zi5) <;> intro _ <;> conv=>whnf))
            refine VCode.tell (marks':=[]) [(2,.fp (encN N)),(3,.fp (encHd x)),(4,.nilslice),(5,.gl (.loc 0) 1 p),(9,B true)] (tabB (.cells true (rowsV p)) Y []) ?_ hrest.out
            conv=>whnf
            refine Retell.turn ⟨[0,1,2,3,4,5,6,7,8,9,10],11,[],[]⟩ (TurnOk.mk' _ _ [] [] (OutOk.lift _) rfl (by decide) (BTos.tab _ (by omega) (by intro q hq;rcases ten hq with rfl|rfl|rfl|rfl|rfl|rfl|rfl|rfl|rfl|rfl <;> rfl) (by decide) rfl BTos.nil) trivial trivial rfl) zw zm)
        conv=>whnf
        refine VCode.lp (outer:=h.lift) (marks:=[]) (fun y : Rw × Bool=>[(2,.fp (encN N)),(3,.fp (encHd x)),(4,.nilslice),(5,.gl (.loc 0) 1 p),(9,B y.2)]) (fun y=>tabB (.cells true (rowsV p)) y.1 []) (fun y=>RI p N.ws x y.1 ∧ if y.2 = true then ∃ M,totR y.1 < M ∧ E = rgo p N.ws M y.1 else E = y.1) (fun y=>bif y.2 then totR y.1 + 1 else 0) (Y,true) ⟨hX0,by rw [if_pos rfl];exact ⟨_,htot,hE0⟩⟩ ?_ ?_
        · conv=>whnf
          refine Retell.turn ⟨[0,1,2,3,4,5,6,7,8,9,10],11,[],[]⟩ (TurnOk.mk' _ _ [] [] (OutOk.lift _) rfl (by decide) (BTos.tab _ (by omega) (by intro q hq;rcases ten hq with rfl|rfl|rfl|rfl|rfl|rfl|rfl|rfl|rfl|rfl <;> rfl) (by decide) rfl BTos.nil) trivial trivial rfl) zw zm
        · rintro ⟨X,ch⟩ ⟨hI,hc⟩
          dsimp only at hI hc
          cases ch with
          | false =>
            rw [if_neg (by decide)] at hc
            subst hc
            have hel : E.length = p:=hI.sz.len
            conv=>whnf
            repeat' (first|((first|refine zs1 ?_|refine zs2 ?_|refine zs3 ?_|refine zs4 ?_|refine zs5 ?_);conv=>whnf)|((first|apply zi1|apply zi2|apply zi3|apply zi4|apply zi5) <;> intro _ <;> conv=>whnf))
            have:=tab_out (X:=E) h (by rw [hel];exact hI.sz) (by omega)
            rw [hel] at this
            exact this
          | true =>
            rw [if_pos rfl] at hc
            obtain ⟨M,hM,hEM⟩:=hc
            have hJ:=rxP_ok hN.ws hx hI
            conv=>whnf
            repeat' (first|((first|refine zs1 ?_|refine zs2 ?_|refine zs3 ?_|refine zs4 ?_|refine zs5 ?_);conv=>whnf)|((first|apply zi1|apply zi2|apply zi3|apply zi4|apply zi5) <;> intro _ <;> conv=>whnf))
            refine VCode.lp (outer:=h.lift) (marks:=[]) (fun a : Nat=>[(2,.fp (encN N)),(3,.fp (encHd x)),(4,.nilslice),(5,.gl (.loc 0) 1 p),(9,B (rxP N.ws a (X,false)).2),(10,I a)]) (fun a=>tabB (.cells true (rowsV p)) (rxP N.ws a (X,false)).1 []) (fun a=>a ≤ p) (fun a=>p - a) 0 (Nat.zero_le _) ?_ ?_
            · rw [show rxP N.ws 0 (X,false) = (X,false) from rfl]
              conv=>whnf
              refine Retell.turn ⟨[0,1,2,3,4,5,6,7,8,9,10],11,[],[]⟩ (TurnOk.mk' _ _ [] [] (OutOk.lift _) rfl (by decide) (BTos.tab _ (by omega) (by intro q hq;rcases ten hq with rfl|rfl|rfl|rfl|rfl|rfl|rfl|rfl|rfl|rfl <;> rfl) (by decide) rfl BTos.nil) trivial trivial rfl) zw zm
            · intro a ha
              rcases Nat.lt_or_ge a p with h3|h3
              · have hJa:=hJ a (by omega)
                have hst : rxP N.ws (a + 1) (X,false) = rxS N.ws a 16 (rxP N.ws a (X,false)):=rfl
                generalize hz1 : rxP N.ws (a + 1) (X,false) = z1 at hst
                generalize rxP N.ws a (X,false) = z at hJa hst
                conv=>whnf
                repeat' (first|((first|refine zs1 ?_|refine zs2 ?_|refine zs3 ?_|refine zs4 ?_|refine zs5 ?_);conv=>whnf)|((first|apply zi1|apply zi2|apply zi3|apply zi4|apply zi5) <;> intro _ <;> conv=>whnf))
                all_goals try (exfalso;omega)
                refine VCode.lp (outer:=h.lift) (marks:=[]) (fun s : Nat=>[(2,.fp (encN N)),(3,.fp (encHd x)),(4,.nilslice),(5,.gl (.loc 0) 1 p),(9,B (rxS N.ws a s z).2),(10,I a),(11,I s)]) (fun s=>tabB (.cells true (rowsV p)) (rxS N.ws a s z).1 []) (fun s=>s ≤ 16) (fun s=>16 - s) 0 (Nat.zero_le _) ?_ ?_
                · rw [show rxS N.ws a 0 z = z from rfl]
                  conv=>whnf
                  refine Retell.turn ⟨[0,1,2,3,4,5,6,7,8,9,10],11,[],[]⟩ (TurnOk.mk' _ _ [] [] (OutOk.lift _) rfl (by decide) (BTos.tab _ (by omega) (by intro q hq;rcases ten hq with rfl|rfl|rfl|rfl|rfl|rfl|rfl|rfl|rfl|rfl <;> rfl) (by decide) rfl BTos.nil) trivial trivial rfl) zw zm
                · intro s hs
                  rcases Nat.lt_or_ge s 16 with h4|h4
                  · have hJs:=rxS_ok hN.ws hx h3 hJa s hs
                    have hst2 : rxS N.ws a (s + 1) z = rxs N.ws a s (rxS N.ws a s z):=rfl
                    have hkR : InR p ((a : Int),(s : Int)):=⟨by dsimp only;omega,by unfold Pp;dsimp only;omega⟩
                    generalize hu1 : rxS N.ws a (s + 1) z = u1 at hst2
                    generalize rxS N.ws a s z = u at hJs hst2
                    conv=>whnf
                    repeat' (first|((first|refine zs1 ?_|refine zs2 ?_|refine zs3 ?_|refine zs4 ?_|refine zs5 ?_);conv=>whnf)|((first|apply zi1|apply zi2|apply zi3|apply zi4|apply zi5) <;> intro _ <;> conv=>whnf))
                    all_goals try (exfalso;omega)
                    refine VCode.lpC (outer:=h.lift) (marks:=[]) 1 (fun i : Nat=>[(2,.fp (encN N)),(3,.fp (encHd x)),(4,.nilslice),(5,.gl (.loc 0) 1 p),(9,B ((N.ws.take i).foldl (rx a s) u).2),(10,I a),(11,I s),(12,I i)]) (fun i=>tabB (.cells true (rowsV p)) ((N.ws.take i).foldl (rx a s) u).1 []) (fun i=>i ≤ N.ws.length) (fun i=>N.ws.length - i) 0 (Nat.zero_le _) ?_ ?_
                    · rw [show (N.ws.take 0).foldl (rx a s) u = u from rfl]
                      conv=>whnf
                      refine Retell.turn ⟨[0,1,2,3,4,5,6,7,8,9,10],11,[],[]⟩ (TurnOk.mk' _ _ [] [] (OutOk.lift _) rfl (by decide) (BTos.tab _ (by omega) (by intro q hq;rcases ten hq with rfl|rfl|rfl|rfl|rfl|rfl|rfl|rfl|rfl|rfl <;> rfl) (by decide) rfl BTos.nil) trivial trivial rfl) zw zm
                    · intro i hi
                      rcases Nat.lt_or_ge i N.ws.length with h5|h5
                      · have hJi:=rxs_ok hN.ws hx hkR (N.ws.take i) u _ (fun w hw=>List.mem_of_mem_take hw) hJs
                        have hw : N.ws[i]? = some N.ws[i]:=List.getElem?_eq_getElem h5
                        have hwo:=hN.ws N.ws[i] (List.getElem_mem h5)
                        have hst3 : (N.ws.take (i + 1)).foldl (rx a s) u = rx a s ((N.ws.take i).foldl (rx a s) u) N.ws[i]:=by
                          rw [List.take_succ_eq_append_getElem h5,List.foldl_append];rfl
                        generalize hv1 : (N.ws.take (i + 1)).foldl (rx a s) u = v1 at hst3
                        generalize (N.ws.take i).foldl (rx a s) u = v at hJi hst3
                        generalize N.ws[i] = w at hw hwo hst3
                        obtain ⟨X1,ch1⟩:=v
                        have hI1:=hJi.ri
                        dsimp only at hI1
                        have hrg:=hI1.rng _ hkR
                        have hgk:=atR_at hI1.sz h3 h4
                        have hxd:=hx.d
                        rw [rx_if] at hst3
                        dsimp only at hrg
                        generalize atR X1 a s = dk at hrg hgk hst3
                        have cG:=fun h=>vc_rgone w ⟨a,dk,s⟩ h hwo (by dsimp only;omega) hkR.2
                        have hg1:=fun (hg : gnB w ⟨a,dk,s⟩ = true)=>rgV_gn hg
                        have hg2:=fun (hg : gnB w ⟨a,dk,s⟩ = true)=>(show gone w ⟨a,dk,s⟩ = some (gnV w ⟨a,dk,s⟩) by rw [gone_eq,hg];rfl)
                        generalize rgV w ⟨a,dk,s⟩ = y at cG hg1
                        have cut : ∀ bb,gnB w ⟨a,dk,s⟩ = bb → (∀ h,VC Tryz.prog 52 [vWy w,vHd ⟨a,dk,s⟩] h (.tuple [vHd y,B bb]) h) → True:=fun _ _ _=>trivial
                        clear cut
                        generalize hbb : gnB w ⟨a,dk,s⟩ = bb at cG hst3 hg1 hg2
                        conv=>whnf
                        repeat' (first|((first|refine zs1 ?_|refine zs2 ?_|refine zs3 ?_|refine zs4 ?_|refine zs5 ?_);conv=>whnf)|((first|apply zi1|apply zi2|apply zi3|apply zi4|apply zi5) <;> intro _ <;> conv=>whnf))
                        all_goals try (exfalso;omega)
                        refine VCut.block 1 ?_
                        apply suffices_
                        · intro hrest
                          conv=>whnf
                          refine zs6 [] ?_
                          rcases ten (show a < 10 by omega) with e|e|e|e|e|e|e|e|e|e
                          all_goals (
                            conv=>whnf
                            repeat' (first|((first|refine zs1 ?_|refine zs2 ?_|refine zs3 ?_|refine zs4 ?_|refine zs5 ?_);conv=>whnf)|((first|apply zi1|apply zi2|apply zi3|apply zi4|apply zi5) <;> intro _ <;> conv=>whnf)|(refine VAny.ix encWy_len i rfl rfl hw ?_;conv=>whnf)|((first|refine VLd.rowP (n:=p) (q:=0) rfl (by omega) (by show (a : Int).toNat * 1 = 0;omega) ?_|refine VLd.rowP (n:=p) (q:=1) rfl (by omega) (by show (a : Int).toNat * 1 = 1;omega) ?_|refine VLd.rowP (n:=p) (q:=2) rfl (by omega) (by show (a : Int).toNat * 1 = 2;omega) ?_|refine VLd.rowP (n:=p) (q:=3) rfl (by omega) (by show (a : Int).toNat * 1 = 3;omega) ?_|refine VLd.rowP (n:=p) (q:=4) rfl (by omega) (by show (a : Int).toNat * 1 = 4;omega) ?_|refine VLd.rowP (n:=p) (q:=5) rfl (by omega) (by show (a : Int).toNat * 1 = 5;omega) ?_|refine VLd.rowP (n:=p) (q:=6) rfl (by omega) (by show (a : Int).toNat * 1 = 6;omega) ?_|refine VLd.rowP (n:=p) (q:=7) rfl (by omega) (by show (a : Int).toNat * 1 = 7;omega) ?_|refine VLd.rowP (n:=p) (q:=8) rfl (by omega) (by show (a : Int).toNat * 1 = 8;omega) ?_|refine VLd.rowP (n:=p) (q:=9) rfl (by omega) (by show (a : Int).toNat * 1 = 9;omega) ?_);conv=>whnf)|(refine VLd.tab (b:=.cells true (rowsV p)) (X:=X1) (r:=[]) s rfl (by decide) (by have hq:=hgk;rw [e] at hq;exact hq) (by show (s : Int).toNat * 1 = s;omega) ?_;conv=>whnf)|(refine VCall.intro (cG _) ?_;conv=>whnf))
                            refine VCut.at' (outer:=h.lift) (marks:=[]) 99 [(2,.fp (encN N)),(3,.fp (encHd x)),(4,.nilslice),(5,.gl (.loc 0) 1 p),(9,B ch1),(10,I a),(11,I s),(12,I i),(13,.ptr (.loc 11) 0),(14,B bb)] (tabB (.cells true (rowsV p)) X1 [.flat true (encHd y)]) ?_ hrest.out
                            conv=>whnf
                            refine Retell.turn ⟨[0,1,2,3,4,5,6,7,8,9,10,11],12,[],[]⟩ (TurnOk.mk' _ _ [] [] (OutOk.lift _) rfl (by decide) (BTos.tab _ (by omega) (by intro q hq;rcases ten hq with rfl|rfl|rfl|rfl|rfl|rfl|rfl|rfl|rfl|rfl <;> rfl) (by decide) rfl (BTos.flat rfl rfl rfl BTos.nil)) trivial trivial rfl) zw zm)
                        · cases bb with
                          | false =>
                            rw [if_neg (by decide)] at hst3
                            subst hst3
                            conv=>whnf
                            refine zs6 [] ?_
                            conv=>whnf
                            repeat' (first|((first|refine zs1 ?_|refine zs2 ?_|refine zs3 ?_|refine zs4 ?_|refine zs5 ?_);conv=>whnf)|((first|apply zi1|apply zi2|apply zi3|apply zi4|apply zi5) <;> intro _ <;> conv=>whnf))
                            refine LEnd.intro (i + 1) (by omega) (by omega) ?_
                            rw [hv1]
                            conv=>whnf
                            refine Retell.turn ⟨[0,1,2,3,4,5,6,7,8,9,10],12,[],[]⟩ (TurnOk.mk' _ _ [] [] (OutOk.lift _) rfl (by decide) (BTos.tab _ (by omega) (by intro q hq;rcases ten hq with rfl|rfl|rfl|rfl|rfl|rfl|rfl|rfl|rfl|rfl <;> rfl) (by decide) rfl BTos.nil) trivial trivial rfl) zw zm
                          | true =>
                            rw [if_pos rfl] at hst3
                            have hgn:=gone_ok hwo hkR.2 (hg2 rfl)
                            rw [← hg1 rfl] at hst3 hgn
                            obtain ⟨_,_,hyp,_,hyd,hyd2,hys⟩:=hgn
                            unfold Pp at hys
                            have hgy:=atR_at (p:=y.p.toNat) (s:=y.s.toNat) hI1.sz (by omega) (by omega)
                            rw [show ((y.p.toNat : Nat) : Int) = y.p by omega,show ((y.s.toNat : Nat) : Int) = y.s by omega] at hgy
                            generalize atR X1 y.p y.s = dy at hst3 hgy
                            conv=>whnf
                            refine zs6 [] ?_
                            by_cases hlt : y.d < dy
                            · rw [if_pos hlt] at hst3
                              rcases ten (show y.p.toNat < 10 by omega) with e|e|e|e|e|e|e|e|e|e
                              all_goals (
                                rw [e] at hst3 hgy
                                subst hst3
                                conv=>whnf
                                repeat' (first|((first|refine zs1 ?_|refine zs2 ?_|refine zs3 ?_|refine zs4 ?_|refine zs5 ?_);conv=>whnf)|((first|apply zi1|apply zi2|apply zi3|apply zi4|apply zi5) <;> intro _ <;> conv=>whnf)|((first|refine VLd.rowP (n:=p) (q:=0) rfl (by omega) (by show y.p.toNat * 1 = 0;omega) ?_|refine VLd.rowP (n:=p) (q:=1) rfl (by omega) (by show y.p.toNat * 1 = 1;omega) ?_|refine VLd.rowP (n:=p) (q:=2) rfl (by omega) (by show y.p.toNat * 1 = 2;omega) ?_|refine VLd.rowP (n:=p) (q:=3) rfl (by omega) (by show y.p.toNat * 1 = 3;omega) ?_|refine VLd.rowP (n:=p) (q:=4) rfl (by omega) (by show y.p.toNat * 1 = 4;omega) ?_|refine VLd.rowP (n:=p) (q:=5) rfl (by omega) (by show y.p.toNat * 1 = 5;omega) ?_|refine VLd.rowP (n:=p) (q:=6) rfl (by omega) (by show y.p.toNat * 1 = 6;omega) ?_|refine VLd.rowP (n:=p) (q:=7) rfl (by omega) (by show y.p.toNat * 1 = 7;omega) ?_|refine VLd.rowP (n:=p) (q:=8) rfl (by omega) (by show y.p.toNat * 1 = 8;omega) ?_|refine VLd.rowP (n:=p) (q:=9) rfl (by omega) (by show y.p.toNat * 1 = 9;omega) ?_);conv=>whnf)|(refine VLd.tab (b:=.cells true (rowsV p)) (X:=X1) (r:=[.flat true (encHd y)]) y.s.toNat rfl (by decide) hgy (by show y.s.toNat * 1 = y.s.toNat;omega) ?_;conv=>whnf))
                                all_goals try (rename_i hh;exact absurd hlt hh)
                                refine zs6 [] ?_
                                conv=>whnf
                                repeat' (first|((first|refine zs1 ?_|refine zs2 ?_|refine zs3 ?_|refine zs4 ?_|refine zs5 ?_);conv=>whnf)|((first|apply zi1|apply zi2|apply zi3|apply zi4|apply zi5) <;> intro _ <;> conv=>whnf)|((first|refine VLd.rowP (n:=p) (q:=0) rfl (by omega) (by show y.p.toNat * 1 = 0;omega) ?_|refine VLd.rowP (n:=p) (q:=1) rfl (by omega) (by show y.p.toNat * 1 = 1;omega) ?_|refine VLd.rowP (n:=p) (q:=2) rfl (by omega) (by show y.p.toNat * 1 = 2;omega) ?_|refine VLd.rowP (n:=p) (q:=3) rfl (by omega) (by show y.p.toNat * 1 = 3;omega) ?_|refine VLd.rowP (n:=p) (q:=4) rfl (by omega) (by show y.p.toNat * 1 = 4;omega) ?_|refine VLd.rowP (n:=p) (q:=5) rfl (by omega) (by show y.p.toNat * 1 = 5;omega) ?_|refine VLd.rowP (n:=p) (q:=6) rfl (by omega) (by show y.p.toNat * 1 = 6;omega) ?_|refine VLd.rowP (n:=p) (q:=7) rfl (by omega) (by show y.p.toNat * 1 = 7;omega) ?_|refine VLd.rowP (n:=p) (q:=8) rfl (by omega) (by show y.p.toNat * 1 = 8;omega) ?_|refine VLd.rowP (n:=p) (q:=9) rfl (by omega) (by show y.p.toNat * 1 = 9;omega) ?_);conv=>whnf))
                                refine VMem.setTab (b:=.cells true (rowsV p)) (X:=X1) (r:=[.flat true (encHd y)]) y.s.toNat rfl (lt_len hI1.sz (by omega)) (by omega) (lt_row hI1.sz (by omega) (by omega)) (by show y.s.toNat * 1 = y.s.toNat;omega) ?_
                                conv=>whnf
                                repeat' (first|((first|refine zs1 ?_|refine zs2 ?_|refine zs3 ?_|refine zs4 ?_|refine zs5 ?_);conv=>whnf)|((first|apply zi1|apply zi2|apply zi3|apply zi4|apply zi5) <;> intro _ <;> conv=>whnf))
                                refine LEnd.intro (i + 1) (by omega) (by omega) ?_
                                rw [hv1]
                                conv=>whnf
                                refine Retell.turn ⟨[0,1,2,3,4,5,6,7,8,9,10],12,[],[]⟩ (TurnOk.mk' _ _ [] [] (OutOk.lift _) rfl (by decide) (BTos.tab _ (by omega) (by intro q hq;rcases ten hq with rfl|rfl|rfl|rfl|rfl|rfl|rfl|rfl|rfl|rfl <;> rfl) (by decide) rfl BTos.nil) trivial trivial rfl) zw zm)
                            · rw [if_neg hlt] at hst3
                              subst hst3
                              rcases ten (show y.p.toNat < 10 by omega) with e|e|e|e|e|e|e|e|e|e
                              all_goals (
                                rw [e] at hgy
                                conv=>whnf
                                repeat' (first|((first|refine zs1 ?_|refine zs2 ?_|refine zs3 ?_|refine zs4 ?_|refine zs5 ?_);conv=>whnf)|((first|apply zi1|apply zi2|apply zi3|apply zi4|apply zi5) <;> intro _ <;> conv=>whnf)|((first|refine VLd.rowP (n:=p) (q:=0) rfl (by omega) (by show y.p.toNat * 1 = 0;omega) ?_|refine VLd.rowP (n:=p) (q:=1) rfl (by omega) (by show y.p.toNat * 1 = 1;omega) ?_|refine VLd.rowP (n:=p) (q:=2) rfl (by omega) (by show y.p.toNat * 1 = 2;omega) ?_|refine VLd.rowP (n:=p) (q:=3) rfl (by omega) (by show y.p.toNat * 1 = 3;omega) ?_|refine VLd.rowP (n:=p) (q:=4) rfl (by omega) (by show y.p.toNat * 1 = 4;omega) ?_|refine VLd.rowP (n:=p) (q:=5) rfl (by omega) (by show y.p.toNat * 1 = 5;omega) ?_|refine VLd.rowP (n:=p) (q:=6) rfl (by omega) (by show y.p.toNat * 1 = 6;omega) ?_|refine VLd.rowP (n:=p) (q:=7) rfl (by omega) (by show y.p.toNat * 1 = 7;omega) ?_|refine VLd.rowP (n:=p) (q:=8) rfl (by omega) (by show y.p.toNat * 1 = 8;omega) ?_|refine VLd.rowP (n:=p) (q:=9) rfl (by omega) (by show y.p.toNat * 1 = 9;omega) ?_);conv=>whnf)|(refine VLd.tab (b:=.cells true (rowsV p)) (X:=X1) (r:=[.flat true (encHd y)]) y.s.toNat rfl (by decide) hgy (by show y.s.toNat * 1 = y.s.toNat;omega) ?_;conv=>whnf))
                                all_goals try (rename_i hh;exact absurd hh hlt)
                                refine LEnd.intro (i + 1) (by omega) (by omega) ?_
                                rw [hv1]
                                conv=>whnf
                                refine Retell.turn ⟨[0,1,2,3,4,5,6,7,8,9,10],12,[],[]⟩ (TurnOk.mk' _ _ [] [] (OutOk.lift _) rfl (by decide) (BTos.tab _ (by omega) (by intro q hq;rcases ten hq with rfl|rfl|rfl|rfl|rfl|rfl|rfl|rfl|rfl|rfl <;> rfl) (by decide) rfl BTos.nil) trivial trivial rfl) zw zm)
                      · obtain rfl : i = N.ws.length:=by omega
                        rw [List.take_length]
                        rw [show N.ws.foldl (rx a s) u = u1 from hst2.symm]
                        conv=>whnf
                        repeat' (first|((first|refine zs1 ?_|refine zs2 ?_|refine zs3 ?_|refine zs4 ?_|refine zs5 ?_);conv=>whnf)|((first|apply zi1|apply zi2|apply zi3|apply zi4|apply zi5) <;> intro _ <;> conv=>whnf))
                        all_goals try (exfalso;omega)
                        refine LEnd.intro (s + 1) (by omega) (by omega) ?_
                        rw [hu1]
                        conv=>whnf
                        refine Retell.turn ⟨[0,1,2,3,4,5,6,7,8,9,10],11,[],[]⟩ (TurnOk.mk' _ _ [] [] (OutOk.lift _) rfl (by decide) (BTos.tab _ (by omega) (by intro q hq;rcases ten hq with rfl|rfl|rfl|rfl|rfl|rfl|rfl|rfl|rfl|rfl <;> rfl) (by decide) rfl BTos.nil) trivial trivial rfl) zw zm
                  · obtain rfl : s = 16:=by omega
                    rw [← hst]
                    conv=>whnf
                    repeat' (first|((first|refine zs1 ?_|refine zs2 ?_|refine zs3 ?_|refine zs4 ?_|refine zs5 ?_);conv=>whnf)|((first|apply zi1|apply zi2|apply zi3|apply zi4|apply zi5) <;> intro _ <;> conv=>whnf))
                    all_goals try (exfalso;omega)
                    refine LEnd.intro (a + 1) (by omega) (by omega) ?_
                    rw [hz1]
                    conv=>whnf
                    refine Retell.turn ⟨[0,1,2,3,4,5,6,7,8,9,10],11,[],[]⟩ (TurnOk.mk' _ _ [] [] (OutOk.lift _) rfl (by decide) (BTos.tab _ (by omega) (by intro q hq;rcases ten hq with rfl|rfl|rfl|rfl|rfl|rfl|rfl|rfl|rfl|rfl <;> rfl) (by decide) rfl BTos.nil) trivial trivial rfl) zw zm
              · obtain rfl : a = p:=by omega
                have hJ1:=hJ a (Nat.le_refl _)
                have hgo : E = if (rxP N.ws a (X,false)).2 then rgo a N.ws (M - 1) (rxP N.ws a (X,false)).1 else (rxP N.ws a (X,false)).1:=by
                  cases M with
                  | zero=>omega
                  | succ M=>exact hEM
                generalize rxP N.ws a (X,false) = z at hJ1 hgo
                conv=>whnf
                repeat' (first|((first|refine zs1 ?_|refine zs2 ?_|refine zs3 ?_|refine zs4 ?_|refine zs5 ?_);conv=>whnf)|((first|apply zi1|apply zi2|apply zi3|apply zi4|apply zi5) <;> intro _ <;> conv=>whnf))
                all_goals try (exfalso;omega)
                refine LEnd.intro (Y:=Rw × Bool) z ⟨hJ1.ri,?_⟩ ?_ ?_
                · split
                  · rename_i hz
                    rw [if_pos hz] at hgo
                    exact ⟨M - 1,by have:=hJ1.yes hz;omega,hgo⟩
                  · rename_i hz
                    rw [if_neg hz] at hgo
                    exact hgo
                · cases hz : z.2 with
                  | true=>have:=hJ1.yes hz;simp only [hz,cond_true];omega
                  | false=>simp only [hz,cond_false,cond_true];omega
                · conv=>whnf
                  refine Retell.turn ⟨[0,1,2,3,4,5,6,7,8,9,10],11,[],[]⟩ (TurnOk.mk' _ _ [] [] (OutOk.lift _) rfl (by decide) (BTos.tab _ (by omega) (by intro q hq;rcases ten hq with rfl|rfl|rfl|rfl|rfl|rfl|rfl|rfl|rfl|rfl <;> rfl) (by decide) rfl BTos.nil) trivial trivial rfl) zw zm
end Go.Proofs.YtoeendggmalcpaaGreat

open Go.Vm
open Psg
namespace Go.Proofs.YtoeendggmalcpaaGreat
set_option maxRecDepth 20000
set_option maxHeartbeats 4000000

theorem rws_intss (X : Rw) : rws X = intss X:=by
  unfold rws intss
  congr 1
  rw [List.map_eq_flatMap]
  rfl
theorem vc_rtab {n : Nat} (N : Nt) (x : Hd) (h : Hp) (hN : NOk n N) (hx : HOk n x) : VC Tryz.prog 55 [vN N,vHd x] h (intss (rtab n N.ws x)) h:=by
  rw [← rws_intss];exact vc_table N x h hN hx
theorem rtab_row {n : Nat} {N : Nt} {x : Hd} (hN : NOk n N) (hx : HOk n x) {p : Nat} (hp : p < n) : ∃ r,(rtab n N.ws x)[p]? = some r ∧ r.length = 16 ∧ mn (fun s=>r.getD s 1001) 15 = dayOf (atD (bgn N.ws x).D) p:=by
  have hL:=rtab_lst hN.n1.2 hN.ws hx
  have hlt : p < (rtab n N.ws x).length:=by rw [hL.2.len];exact hp
  refine ⟨(rtab n N.ws x)[p],List.getElem?_eq_getElem hlt,hL.2.row _ (List.getElem_mem hlt),?_⟩
  have key : ∀ (f g : Nat → Int) (m : Nat),(∀ i,i ≤ m → f i = g i) → mn f m = mn g m:=by
    intro f g m
    induction m with
    | zero=>intro h;exact h 0 (Nat.le_refl _)
    | succ m ih=>intro h;rw [mn,mn,ih fun i hi=>h i (by omega),h (m + 1) (Nat.le_refl _)]
  unfold dayOf
  refine key _ _ 15 fun i hi=>?_
  have e:=tab_eq hN.n1.2 hN.ws hx (p:=(p : Int)) (s:=(i : Int)) (by omega) (by unfold Pp;omega)
  rw [← e]
  unfold atR
  simp only [Int.toNat_natCast]
  rw [List.getD_eq_getElem?_getD (l:=rtab n N.ws x),List.getElem?_eq_getElem hlt]
  rfl
theorem day_tell {n : Nat} {N : Nt} {x : Hd} (hN : NOk n N) (hx : HOk n x) {p : Nat} (hp : p < n) : (if dayOf (atD (bgn N.ws x).D) p = 1001 then -1 else dayOf (atD (bgn N.ws x).D) p) = dyP N x p:=by
  have hc:=dayOf_cap (bgn_lst hN.n1.2 hN.ws hx) (p:=(p : Int)) (by omega)
  unfold dyP tell
  split
  · rw [if_neg (by omega)]
  · rw [if_pos (by omega)]
theorem vc_rEarliest (N : Nt) (x : Hd) (h : Hp) (hn : N.ws.length ≤ 4000000) : VC Tryz.prog 20 [vN N,vHd x] h (.tuple [ints (eaL N x),I (hrd N x)]) h:=by
  obtain ⟨L,hL⟩ : ∃ L,L = eaL N x:=⟨_,rfl⟩
  rw [← hL]
  unfold eaL at hL
  have cH:=fun h=>vc_rherded N x h hn
  by_cases h0 : hrd N x = 0
  · obtain ⟨n,hN,hx⟩:=hrd_ok h0
    rw [h0] at cH ⊢
    rw [if_pos h0] at hL
    have hp:=hN.p
    have hn1:=hN.n1
    have cT:=fun h=>vc_rtab N x h hN hx
    have hrow:=fun {p : Nat} (hp : p < n)=>rtab_row hN hx hp
    have hdy:=fun {p : Nat} (hp : p < n)=>day_tell hN hx hp
    have htl : (rtab n N.ws x).length = n:=(rtab_lst hN.n1.2 hN.ws hx).2.len
    rw [show N.p.toNat = n by omega] at hL
    generalize rtab n N.ws x = T at cT hrow htl
    generalize hF : dyP N x = F at hL hdy
    refine VC.bodyC 1 Tryz.func20 rfl Tryz.ntmps20 Tryz.call20 (h.grows_refl) rfl ?_;conv=>whnf
    refine VCut.at' (outer:=h.lift) (marks:=[]) 99 [(2,.fp (encN N)),(3,.fp (encHd x)),(4,.nilslice),(5,I 0)] [] ?_ ?_
    · conv=>whnf
      refine Retell.turn ⟨[],2,[(0,encN N),(1,encHd x)],[]⟩ (TurnOk.mk' _ _ [(0,encN N),(1,encHd x)] [] (OutOk.lift _) rfl (by decide) zb zf trivial rfl) zw zm
    · conv=>whnf
      repeat' (first|((first|refine zs1 ?_|refine zs2 ?_|refine zs3 ?_|refine zs4 ?_|refine zs5 ?_);conv=>whnf)|((first|apply zi1|apply zi2|apply zi3|apply zi4|apply zi5) <;> intro _ <;> conv=>whnf)|(refine VCall.intro (cH _) ?_;conv=>whnf)|(refine VCall.intro (cT _) ?_;conv=>whnf))
      refine VCode.lp (outer:=h.lift) (marks:=[]) (fun k : Nat=>[(2,.fp (encN N)),(4,.nilslice),(5,I 0),(7,intss T),(8,.gl (.loc 0) 1 ((List.range k).map F).length),(9,I k)]) (fun k=>[.flat true (((List.range k).map F).flatMap encI)]) (fun k=>k ≤ n) (fun k=>n - k) 0 (Nat.zero_le _) ?_ ?_
      · rw [show (List.range 0).map F = [] from rfl]
        conv=>whnf
        refine Retell.turn ⟨[0],0,[],[]⟩ (TurnOk.mk' _ _ [] [] (OutOk.lift _) rfl (by decide) (BTos.new rfl BTos.nil) trivial trivial rfl) zw zm
      · rintro k hk
        have hstep : (List.range (k + 1)).map F = (List.range k).map F ++ [F k]:=by rw [List.range_succ,List.map_append];rfl
        have hlen : ((List.range k).map F).length = k:=by simp
        rcases Nat.lt_or_ge k n with h1|h1
        · obtain ⟨r,hr,hr16,hrm⟩:=hrow h1
          have hd:=hdy h1
          rw [← hrm] at hd
          have cF:=fun h=>vc_first r h (by omega) (by omega)
          rw [show r.length - 1 = 15 by omega] at cF
          generalize (List.range k).map F = l at hstep hlen
          generalize mn (fun s=>r.getD s 1001) 15 = m at cF hd
          generalize F k = v at hd hstep
          by_cases hm : m = 1001
          · rw [if_pos hm] at hd
            subst hd
            conv=>whnf
            repeat' (first|((first|refine zs1 ?_|refine zs2 ?_|refine zs3 ?_|refine zs4 ?_|refine zs5 ?_);conv=>whnf)|((first|apply zi1|apply zi2|apply zi3|apply zi4|apply zi5) <;> intro _ <;> conv=>whnf)|(refine VAny.ix encL_len k rfl rfl hr ?_;conv=>whnf)|(refine VCall.intro (cF _) ?_;conv=>whnf))
            all_goals try (exfalso;omega)
            refine VMem.app1 (l:=l) (-1 : Int) encI_len rfl rfl rfl rfl rfl (by omega) ?_
            conv=>whnf
            repeat' (first|((first|refine zs1 ?_|refine zs2 ?_|refine zs3 ?_|refine zs4 ?_|refine zs5 ?_);conv=>whnf)|((first|apply zi1|apply zi2|apply zi3|apply zi4|apply zi5) <;> intro _ <;> conv=>whnf))
            refine LEnd.intro (k + 1) (by omega) (by omega) ?_
            rw [hstep,List.length_append]
            conv=>whnf
            refine Retell.turn ⟨[2],3,[],[]⟩ (TurnOk.mk' _ _ [] [] (OutOk.lift _) rfl (by decide) zb trivial trivial rfl) zw zm
          · rw [if_neg hm] at hd
            subst hd
            conv=>whnf
            repeat' (first|((first|refine zs1 ?_|refine zs2 ?_|refine zs3 ?_|refine zs4 ?_|refine zs5 ?_);conv=>whnf)|((first|apply zi1|apply zi2|apply zi3|apply zi4|apply zi5) <;> intro _ <;> conv=>whnf)|(refine VAny.ix encL_len k rfl rfl hr ?_;conv=>whnf)|(refine VCall.intro (cF _) ?_;conv=>whnf))
            all_goals try (exfalso;omega)
            refine VMem.app1 (l:=l) (m : Int) encI_len rfl rfl rfl rfl rfl (by omega) ?_
            conv=>whnf
            repeat' (first|((first|refine zs1 ?_|refine zs2 ?_|refine zs3 ?_|refine zs4 ?_|refine zs5 ?_);conv=>whnf)|((first|apply zi1|apply zi2|apply zi3|apply zi4|apply zi5) <;> intro _ <;> conv=>whnf))
            refine LEnd.intro (k + 1) (by omega) (by omega) ?_
            rw [hstep,List.length_append]
            conv=>whnf
            refine Retell.turn ⟨[2],3,[],[]⟩ (TurnOk.mk' _ _ [] [] (OutOk.lift _) rfl (by decide) zb trivial trivial rfl) zw zm
        · obtain rfl : k = n:=by omega
          rw [← hL]
          conv=>whnf
          repeat' (first|((first|refine zs1 ?_|refine zs2 ?_|refine zs3 ?_|refine zs4 ?_|refine zs5 ?_);conv=>whnf)|((first|apply zi1|apply zi2|apply zi3|apply zi4|apply zi5) <;> intro _ <;> conv=>whnf))
          all_goals try (exfalso;omega)
          refine VOut.data 1 [(0,L.flatMap encI)] [] rfl zf (by exact FmAll.nil) zw
  · rw [if_neg h0] at hL
    rw [hL]
    generalize hrd N x = e at cH h0
    refine VC.body Tryz.func20 rfl Tryz.ntmps20 Tryz.call20 (h.grows_refl) rfl ?_;conv=>whnf
    repeat' (first|((first|refine zs1 ?_|refine zs2 ?_|refine zs3 ?_|refine zs4 ?_|refine zs5 ?_|refine zs6 [] ?_);conv=>whnf)|((first|apply zi1|apply zi2|apply zi3|apply zi4|apply zi5) <;> intro _ <;> conv=>whnf)|(refine VCall.intro (cH _) ?_;conv=>whnf))
    · refine VOut.data 2 [] [] rfl zf (by exact FmAll.nil) zw
    all_goals (rename_i hh;exact absurd (by omega) h0)
def rdD (N : Nt) (x : Hd) (to : Int) : Int:=if rtE N x to = 0 then dyP N x to.toNat else 0
theorem vc_Routed (N : Nt) (x : Hd) (to : Int) (h : Hp) (hn : N.ws.length ≤ 4000000) : VC Tryz.prog 23 [vN N,vHd x,I to] h (.tuple [I (rdD N x to),I (rtE N x to)]) h:=by
  obtain ⟨E,hE⟩ : ∃ E,E = rtE N x to:=⟨_,rfl⟩
  obtain ⟨R,hR⟩ : ∃ R,R = rdD N x to:=⟨_,rfl⟩
  rw [← hE,← hR]
  unfold rdD at hR
  rw [← hE] at hR
  unfold rtE at hE
  have cE:=fun h=>vc_rEarliest N x h hn
  unfold eaL at cE
  by_cases h0 : hrd N x = 0
  · obtain ⟨n,hN,hx⟩:=hrd_ok h0
    have hp:=hN.p
    have hn1:=hN.n1
    rw [if_pos h0] at cE hE
    rw [h0,show N.p.toNat = n by omega] at cE
    have hF : ∀ k,k < n → ((List.range n).map (dyP N x))[k]? = some (dyP N x k):=fun k hk=>by rw [List.getElem?_map,List.getElem?_range hk];rfl
    have hFl : ((List.range n).map (dyP N x)).length = n:=by simp
    generalize (List.range n).map (dyP N x) = L at cE hF hFl
    by_cases ht : 0 ≤ to ∧ to ≤ N.p - 1
    · rw [if_pos ht] at hE
      have hix:=hF to.toNat (by omega)
      generalize dyP N x to.toNat = d at hE hR hix
      refine VC.body Tryz.func23 rfl Tryz.ntmps23 Tryz.call23 (h.grows_refl) rfl ?_;conv=>whnf
      repeat' (first|((first|refine zs1 ?_|refine zs2 ?_|refine zs3 ?_|refine zs4 ?_|refine zs5 ?_|refine zs6 [] ?_);conv=>whnf)|((first|apply zi1|apply zi2|apply zi3|apply zi4|apply zi5) <;> intro _ <;> conv=>whnf)|(refine VCall.intro (cE _) ?_;conv=>whnf)|(refine VCall.intro (vc_beside _ _ _ _) ?_;conv=>whnf)|(refine VAny.ix encI_len to.toNat (by omega) (by omega) hix ?_;conv=>whnf))
      all_goals try (exfalso;omega)
      · rename_i hh
        rw [if_pos hh] at hE
        subst hE
        rw [if_neg (by decide)] at hR
        rw [hR]
        exact VOut.same rfl
      · rename_i hh
        rw [if_neg hh] at hE
        subst hE
        rw [if_pos rfl] at hR
        rw [hR]
        exact VOut.same rfl
    · rw [if_neg ht] at hE
      subst hE
      rw [if_neg (by decide)] at hR
      rw [hR]
      refine VC.body Tryz.func23 rfl Tryz.ntmps23 Tryz.call23 (h.grows_refl) rfl ?_;conv=>whnf
      repeat' (first|((first|refine zs1 ?_|refine zs2 ?_|refine zs3 ?_|refine zs4 ?_|refine zs5 ?_|refine zs6 [] ?_);conv=>whnf)|((first|apply zi1|apply zi2|apply zi3|apply zi4|apply zi5) <;> intro _ <;> conv=>whnf)|(refine VCall.intro (cE _) ?_;conv=>whnf)|(refine VCall.intro (vc_beside _ _ _ _) ?_;conv=>whnf))
      · exact VOut.same rfl
      all_goals (exfalso;omega)
  · rw [if_neg h0] at cE hE
    rw [← hE] at cE h0
    rw [if_neg h0] at hR
    rw [hR]
    refine VC.body Tryz.func23 rfl Tryz.ntmps23 Tryz.call23 (h.grows_refl) rfl ?_;conv=>whnf
    repeat' (first|((first|refine zs1 ?_|refine zs2 ?_|refine zs3 ?_|refine zs4 ?_|refine zs5 ?_|refine zs6 [] ?_);conv=>whnf)|((first|apply zi1|apply zi2|apply zi3|apply zi4|apply zi5) <;> intro _ <;> conv=>whnf)|(refine VCall.intro (cE _) ?_;conv=>whnf))
    · exact VOut.same rfl
    all_goals (rename_i hh;exact absurd (by omega) h0)
end Go.Proofs.YtoeendggmalcpaaGreat

namespace Psg
def valR (R : Rw) : Bool:=R.all fun r=>r.all fun d=>inB d 0 1001
def szR (p : Int) (R : Rw) : Bool:=decide ((R.length : Int) = p) && R.all fun r=>decide (r.length = 16)
def prE (N : Nt) (x : Hd) (R : Rw) (to : Int) : Int :=
  if hrd N x = 0 then (if szR N.p R = true then (if valR R = true then (if holds N.p.toNat N.ws x R = true then (if 0 ≤ to ∧ to ≤ N.p - 1 then 0 else 2) else 9) else 4) else 3) else hrd N x
def prV (N : Nt) (x : Hd) (R : Rw) (to : Int) : Int:=if prE N x R to = 0 then dayOf (atR R) to else 0
theorem szR_iff {p : Int} {R : Rw} : szR p R = true ↔ (R.length : Int) = p ∧ ∀ r ∈ R,r.length = 16:=by
  unfold szR
  rw [Bool.and_eq_true,decide_eq_true_eq,List.all_eq_true]
  simp only [decide_eq_true_eq]
theorem valR_iff {R : Rw} : valR R = true ↔ ∀ r ∈ R,∀ d ∈ r,0 ≤ d ∧ d ≤ 1001:=by
  unfold valR
  rw [List.all_eq_true]
  constructor
  · intro h r hr d hd
    have:=h r hr
    rw [List.all_eq_true] at this
    exact inB_iff.1 (this d hd)
  · intro h r hr
    rw [List.all_eq_true]
    intro d hd
    exact inB_iff.2 (h r hr d hd)
theorem Sz.of {n : Nat} {p : Int} {R : Rw} (hp : p = n) (h : szR p R = true) : Sz n R:=by
  have:=szR_iff.1 h
  exact ⟨by omega,this.2⟩
theorem atR_mem {n : Nat} {R : Rw} (h : Sz n R) {p s : Nat} (hp : p < n) (hs : s < 16) : ∃ r,R[p]? = some r ∧ r.length = 16 ∧ r[s]? = some (atR R p s):=by
  have hl : p < R.length:=by rw [h.len];exact hp
  have hr:=h.row R[p] (List.getElem_mem hl)
  refine ⟨R[p],List.getElem?_eq_getElem hl,hr,?_⟩
  unfold atR
  rw [Int.toNat_natCast,Int.toNat_natCast,List.getD_eq_getElem?_getD (l:=R),List.getElem?_eq_getElem hl]
  show _ = some (R[p].getD s 1001)
  rw [List.getD_eq_getElem?_getD,List.getElem?_eq_getElem (by omega)];rfl
theorem atR_row {R : Rw} {p s : Nat} {r : List Int} (h : R[p]? = some r) : r.getD s 1001 = atR R p s:=by
  unfold atR
  rw [Int.toNat_natCast,Int.toNat_natCast,List.getD_eq_getElem?_getD (l:=R),h]
  rfl
theorem atR_bd {n : Nat} {R : Rw} (h : Sz n R) (hv : valR R = true) {p s : Nat} (hp : p < n) (hs : s < 16) : 0 ≤ atR R p s ∧ atR R p s ≤ 1001:=by
  obtain ⟨r,h1,_,h3⟩:=atR_mem h hp hs
  exact valR_iff.1 hv r (List.mem_of_getElem? h1) _ (List.mem_of_getElem? h3)
theorem holds_no {n : Nat} {ws : List Wy} {x : Hd} {R : Rw} {p s : Nat} {w : Wy} (hp : p < n) (hs : s < 16) (hw : w ∈ ws) (h : okW R p s w = false) : holds n ws x R = false:=by
  rw [Bool.eq_false_iff]
  intro hh
  unfold holds at hh
  rw [Bool.and_eq_true,List.all_eq_true] at hh
  have h1:=hh.2 p (List.mem_range.2 hp)
  rw [List.all_eq_true] at h1
  have h2:=h1 s (List.mem_range.2 hs)
  rw [List.all_eq_true] at h2
  have h3:=h2 w hw
  rw [h] at h3;cases h3
theorem holds_own {n : Nat} {ws : List Wy} {x : Hd} {R : Rw} (h : ¬ atR R x.p x.s ≤ x.d) : holds n ws x R = false:=by
  unfold holds
  rw [decide_eq_false h];rfl
def OkTo (ws : List Wy) (R : Rw) (k : Nat) : Prop:=∀ p s : Nat,p * 16 + s < k → s < 16 → ∀ w ∈ ws,okW R p s w = true
theorem holds_yes {n : Nat} {ws : List Wy} {x : Hd} {R : Rw} (h : atR R x.p x.s ≤ x.d) (ho : OkTo ws R (16 * n)) : holds n ws x R = true:=by
  unfold holds
  rw [decide_eq_true h,Bool.true_and,List.all_eq_true]
  intro p hp
  rw [List.all_eq_true]
  intro s hs
  rw [List.all_eq_true]
  intro w hw
  have hp:=List.mem_range.1 hp
  have hs:=List.mem_range.1 hs
  exact ho p s (by omega) hs w hw
theorem OkTo.zero (ws : List Wy) (R : Rw) : OkTo ws R 0:=fun _ _ h=>absurd h (by omega)
theorem OkTo.step {ws : List Wy} {R : Rw} {p s : Nat} (h : OkTo ws R (16 * p + s)) (hs : s < 16) (hw : ∀ w ∈ ws,okW R p s w = true) : OkTo ws R (16 * p + (s + 1)):=by
  intro p' s' h1 h2 w hm
  by_cases e : p' * 16 + s' < 16 * p + s
  · exact h p' s' e h2 w hm
  · have : p' = p:=by omega
    have : s' = s:=by omega
    subst_vars
    exact hw w hm
theorem Hol.congr {n : Nat} {ws : List Wy} {h : Hd} {D E : Tb} (hw : ∀ w ∈ ws,WOk n w) (hh : HOk n h) (hD : Hol n ws h D) (he : ∀ p s : Int,(0 ≤ p ∧ p < n) → Pp s → E p s = D p s) : Hol n ws h E:=by
  refine ⟨by rw [he _ _ hh.p hh.s];exact hD.own,fun p s hp hs w hm y hy=>?_⟩
  rw [he p s hp hs] at hy
  have:=gone_ok (hw w hm) hs hy
  rw [he _ _ this.2.2.1 this.2.2.2.2.2.2]
  exact hD.clo p s hp hs w hm y hy
theorem dayOf_congr {D E : Tb} {p : Int} (h : ∀ s : Int,Pp s → E p s = D p s) : dayOf E p = dayOf D p:=by
  obtain ⟨s,hs,e⟩:=dayOf_ex D p
  obtain ⟨t,ht,f⟩:=dayOf_ex E p
  have a:=dayOf_le (D:=D) (p:=p) ht
  have b:=dayOf_le (D:=E) (p:=p) hs
  rw [h s hs] at b
  rw [h t ht] at f
  omega
theorem dayOf_row {R : Rw} {p : Nat} {r : List Int} (h : R[p]? = some r) : dayOf (atR R) p = mn (fun s=>r.getD s 1001) 15:=by
  unfold dayOf
  congr 1
  funext s
  exact (atR_row h).symm
theorem chkW_of {n : Nat} {w : Wy} (h : WOk n w) (h2 : w.f ≠ w.t) : chkW n w = 0:=by
  have h3:=h.f;have h4:=h.t;have h5:=h.d;have h6:=h.h;have h7:=h.n;have h8:=h.g;have h9:=h.lo;have h10:=h.hi
  unfold Pp at h7 h8
  have e1 : endW (n : Int) w = true:=by
    unfold endW
    simp only [Bool.and_eq_true,inB_iff,Bool.not_eq_true',decide_eq_false_iff_not]
    exact ⟨⟨by omega,by omega⟩,h2⟩
  have e2 : rgtW w = true:=by
    unfold rgtW
    simp only [Bool.and_eq_true,inB_iff]
    omega
  unfold chkW
  rw [e1,e2];rfl
theorem chkL_of {n : Nat} : ∀ {ws : List Wy},(∀ w ∈ ws,WOk n w ∧ w.f ≠ w.t) → chkL n ws = 0
  | [],_=>rfl
  | w :: ws,h=>by
    have h1:=h w List.mem_cons_self
    rw [chkL,chkW_of h1.1 h1.2]
    exact chkL_of fun v hv=>h v (List.mem_cons_of_mem _ hv)
theorem NOk.chk {n : Nat} {N : Nt} (h : NOk n N) : chk N = 0:=by
  have hp:=h.p
  have h1:=h.n1
  have e : (inB N.p 1 10 && decide (N.ws.length ≤ 24)) = true:=by
    rw [Bool.and_eq_true,inB_iff,decide_eq_true_eq]
    exact ⟨by omega,h.len⟩
  unfold Psg.chk
  rw [e,cond_true,hp]
  exact chkL_of fun w hw=>⟨h.ws w hw,h.ne w hw⟩
theorem NOk.hrd {n : Nat} {N : Nt} (h : NOk n N) {x : Hd} (hx : HOk n x) : hrd N x = 0:=by
  have hp:=h.p
  have h1:=hx.p;have h2:=hx.d;have h3:=hx.s
  unfold Pp at h3
  unfold Psg.hrd
  rw [decide_eq_true h.chk,cond_true,inB_iff.2 (by omega),cond_true,inB_iff.2 h2,inB_iff.2 (by omega)];rfl
end Psg

open Go.Vm
open Psg
namespace Go.Proofs.YtoeendggmalcpaaGreat
set_option maxRecDepth 20000
set_option maxHeartbeats 4000000

def idxI (x : Int) : List Int → Int → Int
  | [],_=>-1
  | a :: r,k=>if x = a then k else idxI x r (k + 1)
theorem idxI_at {x a : Int} {l : List Int} {k : Nat} (h : l[k]? = some a) : idxI x (l.drop k) k = if x = a then (k : Int) else idxI x (l.drop (k + 1)) ((k + 1 : Nat) : Int):=by
  obtain ⟨hlt,rfl⟩:=List.getElem?_eq_some_iff.1 h
  rw [List.drop_eq_getElem_cons hlt,idxI];rfl
theorem idxI_nn (x : Int) : ∀ (l : List Int) (k : Int),0 ≤ k → (0 ≤ idxI x l k ↔ x ∈ l)
  | [],k,h=>by simp [idxI]
  | a :: r,k,h=>by
    rw [idxI,List.mem_cons]
    split
    · rename_i e;simp [e,h]
    · rename_i e;rw [idxI_nn x r (k + 1) (by omega)];simp [e]
theorem vc_IndexI (l : List Int) (x : Int) (h : Hp) (hl : l.length ≤ 4000000) : VC Tryz.prog 86 [ints l,I x] h (I (idxI x l 0)) h:=by
  obtain ⟨E,hE⟩ : ∃ E,E = idxI x l 0:=⟨_,rfl⟩
  rw [← hE]
  refine VC.body Tryz.func86 rfl Tryz.ntmps86 Tryz.call86 (h.grows_refl) rfl ?_;conv=>whnf
  repeat' (first|((first|refine zs1 ?_|refine zs2 ?_|refine zs3 ?_|refine zs4 ?_|refine zs5 ?_|refine zs6 [] ?_);conv=>whnf)|((first|apply zi1|apply zi2|apply zi3|apply zi4|apply zi5) <;> intro _ <;> conv=>whnf))
  refine VCode.lp (fun k : Nat=>[(0,ints l),(1,I x),(7,I l.length),(8,I k)]) (fun _=>[]) (fun k=>k ≤ l.length ∧ E = idxI x (l.drop k) k) (fun k=>l.length - k) 0 ⟨Nat.zero_le _,hE⟩ ?_ ?_
  · conv=>whnf
    refine Retell.turn ⟨[],0,[],[]⟩ (TurnOk.mk' _ _ [] [] (OutOk.lift _) rfl (by decide) zb trivial trivial rfl) zw zm
  · rintro k ⟨h1,h2⟩
    conv=>whnf
    refine VIte.dec (fun h3=>?_) (fun h3=>?_)
    · have hk : l[k]? = some l[k]:=List.getElem?_eq_getElem (by omega)
      rw [idxI_at hk] at h2
      generalize l[k] = a at hk h2
      conv=>whnf
      repeat' (first|((first|refine zs1 ?_|refine zs2 ?_|refine zs3 ?_|refine zs4 ?_|refine zs5 ?_|refine zs6 [] ?_);conv=>whnf)|((first|apply zi1|apply zi2|apply zi3|apply zi4|apply zi5) <;> intro _ <;> conv=>whnf)|(refine VAny.ix encI_len k rfl rfl hk ?_;conv=>whnf))
      · rename_i hx
        rw [if_pos hx] at h2
        rw [h2]
        exact VOut.same rfl
      · rename_i hx
        rw [if_neg hx] at h2
        refine LEnd.intro (k + 1) ⟨by omega,h2⟩ (by omega) ?_
        conv=>whnf
        refine Retell.turn ⟨[],0,[],[]⟩ (TurnOk.mk' _ _ [] [] (OutOk.lift _) rfl (by decide) zb trivial trivial rfl) zw zm
    · rw [List.drop_of_length_le (by omega),idxI] at h2
      conv=>whnf
      repeat' (first|((first|refine zs1 ?_|refine zs2 ?_|refine zs3 ?_|refine zs4 ?_|refine zs5 ?_|refine zs6 [] ?_);conv=>whnf)|((first|apply zi1|apply zi2|apply zi3|apply zi4|apply zi5) <;> intro _ <;> conv=>whnf))
      rw [h2]
      exact VOut.same rfl
theorem vc_ContI (l : List Int) (x : Int) (h : Hp) (hl : l.length ≤ 4000000) : VC Tryz.prog 68 [ints l,I x] h (B (decide (x ∈ l))) h:=by
  have e : decide (x ∈ l) = decide (0 ≤ idxI x l 0):=decide_eq_decide.2 (idxI_nn x l 0 (by omega)).symm
  rw [e]
  have c:=fun h=>vc_IndexI l x h hl
  generalize idxI x l 0 = E at c
  refine VC.body Tryz.func68 rfl Tryz.ntmps68 Tryz.call68 (h.grows_refl) rfl ?_;conv=>whnf
  repeat' (first|((first|refine zs1 ?_|refine zs2 ?_|refine zs3 ?_|refine zs4 ?_|refine zs5 ?_|refine zs6 [] ?_);conv=>whnf)|((first|apply zi1|apply zi2|apply zi3|apply zi4|apply zi5) <;> intro _ <;> conv=>whnf)|(refine VCall.intro (c _) ?_;conv=>whnf))
  exact VOut.same rfl
/-! ### Lists that rise -/
def risB : List Int → Bool
  | a :: b :: r=>decide (a < b) && risB (b :: r)
  | _=>true
theorem risB_at {a b : Int} {l : List Int} {k : Nat} (ha : l[k]? = some a) (hb : l[k + 1]? = some b) : risB (l.drop k) = (decide (a < b) && risB (l.drop (k + 1))):=by
  obtain ⟨h1,rfl⟩:=List.getElem?_eq_some_iff.1 ha
  obtain ⟨h2,rfl⟩:=List.getElem?_eq_some_iff.1 hb
  rw [List.drop_eq_getElem_cons h1,List.drop_eq_getElem_cons h2,risB]
theorem risB_end {l : List Int} {k : Nat} (h : l.length ≤ k + 1) : risB (l.drop k) = true:=by
  have : (l.drop k).length ≤ 1:=by rw [List.length_drop];omega
  match hd : l.drop k,this with
  | [],_=>rfl
  | [_],_=>rfl
  | _ :: _ :: _,h=>simp at h
theorem risB_pw : ∀ {l : List Int},risB l = true ↔ l.Pairwise (· < ·)
  | []=>by simp [risB]
  | [a]=>by simp [risB]
  | a :: b :: r=>by
    rw [risB,Bool.and_eq_true,decide_eq_true_eq,risB_pw (l:=b :: r),List.pairwise_cons (a:=a) (l:=b :: r)]
    constructor
    · rintro ⟨h1,h2⟩
      refine ⟨fun x hx=>?_,h2⟩
      rcases List.mem_cons.1 hx with rfl|hx
      · exact h1
      · have:=(List.pairwise_cons.1 h2).1 x hx;omega
    · rintro ⟨h1,h2⟩
      exact ⟨h1 b List.mem_cons_self,h2⟩
theorem vc_rises (l : List Int) (h : Hp) (hl : l.length ≤ 4000000) : VC Tryz.prog 73 [ints l] h (B (risB l)) h:=by
  obtain ⟨E,hE⟩ : ∃ E,E = risB l:=⟨_,rfl⟩
  rw [← hE]
  refine VC.body Tryz.func73 rfl Tryz.ntmps73 Tryz.call73 (h.grows_refl) rfl ?_;conv=>whnf
  repeat' (first|((first|refine zs1 ?_|refine zs2 ?_|refine zs3 ?_|refine zs4 ?_|refine zs5 ?_|refine zs6 [] ?_);conv=>whnf)|((first|apply zi1|apply zi2|apply zi3|apply zi4|apply zi5) <;> intro _ <;> conv=>whnf))
  refine VCode.lp (fun k : Nat=>[(0,ints l),(2,B false),(3,I ((k + 1 : Nat) : Int))]) (fun _=>[]) (fun k=>E = risB (l.drop k)) (fun k=>l.length - k) 0 hE ?_ ?_
  · conv=>whnf
    refine Retell.turn ⟨[],0,[],[]⟩ (TurnOk.mk' _ _ [] [] (OutOk.lift _) rfl (by decide) zb trivial trivial rfl) zw zm
  · intro k h1
    rcases Nat.lt_or_ge (k + 1) l.length with h3|h3
    · have ha : l[k]? = some l[k]:=List.getElem?_eq_getElem (by omega)
      have hb : l[k + 1]? = some l[k + 1]:=List.getElem?_eq_getElem h3
      rw [risB_at ha hb] at h1
      generalize l[k] = a at ha h1
      generalize l[k + 1] = b at hb h1
      conv=>whnf
      repeat' (first|((first|refine zs1 ?_|refine zs2 ?_|refine zs3 ?_|refine zs4 ?_|refine zs5 ?_|refine zs6 [] ?_);conv=>whnf)|((first|apply zi1|apply zi2|apply zi3|apply zi4|apply zi5) <;> intro _ <;> conv=>whnf)|(refine VAny.ix encI_len (k + 1) rfl rfl hb ?_;conv=>whnf)|(refine VAny.ix encI_len k (by omega) rfl ha ?_;conv=>whnf))
      all_goals try (exfalso;omega)
      · rename_i hh
        rw [decide_eq_false (by omega)] at h1
        rw [h1]
        exact VOut.same rfl
      · rename_i hh
        rw [decide_eq_true (by omega),Bool.true_and] at h1
        refine LEnd.intro (k + 1) h1 (by omega) ?_
        conv=>whnf
        refine Retell.turn ⟨[],0,[],[]⟩ (TurnOk.mk' _ _ [] [] (OutOk.lift _) rfl (by decide) zb trivial trivial rfl) zw zm
    · rw [risB_end (by omega)] at h1
      rw [h1]
      conv=>whnf
      repeat' (first|((first|refine zs1 ?_|refine zs2 ?_|refine zs3 ?_|refine zs4 ?_|refine zs5 ?_|refine zs6 [] ?_);conv=>whnf)|((first|apply zi1|apply zi2|apply zi3|apply zi4|apply zi5) <;> intro _ <;> conv=>whnf))
      all_goals try (exfalso;omega)
      exact VOut.same rfl
/-! ### Pastures -/
def pstB (N : Nt) (p : Int) : Bool:=decide (0 ≤ p ∧ p ≤ N.p - 1)
def pas (N : Nt) (a b : List Int) : Int:=if chk N = 0 then (if a.all (pstB N) = true ∧ b.all (pstB N) = true then (if a.length = 0 ∨ b.length = 0 then 3 else if risB a = true ∧ risB b = true then (if (a.all fun p=>decide (¬ p ∈ b)) = true then 0 else 6) else 5) else 2) else chk N
theorem vc_past1 (b : List Int) (p : Int) (h : Hp) (hb : b.length ≤ 4000000) : VC Tryz.prog 85 (D.vs [] ++ [I p] ++ D.vs [.pt [dints b]]) h (B (decide (¬ p ∈ b))) h:=by
  have c:=fun h=>vc_ContI b p h hb
  by_cases hp : p ∈ b
  · rw [decide_eq_true hp] at c
    rw [decide_eq_false (fun h=>h hp)]
    refine VC.body Tryz.func85 rfl Tryz.ntmps85 Tryz.call85 (h.grows_refl) rfl ?_;conv=>whnf
    repeat' (first|((first|refine zs1 ?_|refine zs2 ?_|refine zs3 ?_|refine zs4 ?_|refine zs5 ?_|refine zs6 [] ?_);conv=>whnf)|((first|apply zi1|apply zi2|apply zi3|apply zi4|apply zi5) <;> intro _ <;> conv=>whnf)|(refine VCall.intro (c _) ?_;conv=>whnf))
    exact VOut.same rfl
  · rw [decide_eq_false hp] at c
    rw [decide_eq_true hp]
    refine VC.body Tryz.func85 rfl Tryz.ntmps85 Tryz.call85 (h.grows_refl) rfl ?_;conv=>whnf
    repeat' (first|((first|refine zs1 ?_|refine zs2 ?_|refine zs3 ?_|refine zs4 ?_|refine zs5 ?_|refine zs6 [] ?_);conv=>whnf)|((first|apply zi1|apply zi2|apply zi3|apply zi4|apply zi5) <;> intro _ <;> conv=>whnf)|(refine VCall.intro (c _) ?_;conv=>whnf))
    exact VOut.same rfl
theorem vc_pastured (N : Nt) (a b : List Int) (h : Hp) (hn : N.ws.length ≤ 4000000) (ha : a.length ≤ 4000000) (hb : b.length ≤ 4000000) : VC Tryz.prog 67 [vN N,ints a,ints b] h (I (pas N a b)) h:=by
  obtain ⟨E,hE⟩ : ∃ E,E = pas N a b:=⟨_,rfl⟩
  rw [← hE]
  unfold pas at hE
  have cC:=fun h=>vc_check N h hn
  by_cases h0 : chk N = 0
  · obtain ⟨n,hN⟩:=chk_ok h0
    have hp:=hN.p
    have hn1:=hN.n1
    rw [h0] at cC
    rw [if_pos h0] at hE
    have cA:=fun h=>vc_allA a (pstB N) 43 N ha (fun e _ h=>vc_posted N e h (by omega)) h
    have cB:=fun h=>vc_allA b (pstB N) 43 N hb (fun e _ h=>vc_posted N e h (by omega)) h
    have cR:=fun h=>vc_rises a h ha
    have cS:=fun h=>vc_rises b h hb
    have cP:=fun h=>vc_allP a (fun p=>decide (¬ p ∈ b)) 85 [dints b] ha (fun e _ h=>vc_past1 b e h hb) h
    generalize a.all (pstB N) = A at cA hE
    generalize b.all (pstB N) = BB at cB hE
    generalize risB a = R at cR hE
    generalize risB b = S at cS hE
    generalize (a.all fun p=>decide (¬ p ∈ b)) = P at cP hE
    refine VC.bodyC 1 Tryz.func67 rfl Tryz.ntmps67 Tryz.call67 (h.grows_refl) rfl ?_;conv=>whnf
    refine VCut.at' (outer:=h.lift) (marks:=[]) 99 [(1,ints a),(3,.fp (encN N)),(5,.fp [dints b]),(6,I 0)] [] ?_ ?_
    · conv=>whnf
      refine Retell.turn ⟨[],2,[(0,encN N),(1,[dints b])],[]⟩ (TurnOk.mk' _ _ [(0,encN N),(1,[dints b])] [] (OutOk.lift _) rfl (by decide) zb zf trivial rfl) zw zm
    · cases A
      · rw [if_neg (by simp)] at hE
        rw [hE]
        conv=>whnf
        repeat' (first|((first|refine zs1 ?_|refine zs2 ?_|refine zs3 ?_|refine zs4 ?_|refine zs5 ?_|refine zs6 [] ?_);conv=>whnf)|((first|apply zi1|apply zi2|apply zi3|apply zi4|apply zi5) <;> intro _ <;> conv=>whnf)|(refine VCall.intro (cC _) ?_;conv=>whnf)|(refine VCall.intro (cA _) ?_;conv=>whnf))
        exact VOut.same rfl
      · cases BB
        · rw [if_neg (by simp)] at hE
          rw [hE]
          conv=>whnf
          repeat' (first|((first|refine zs1 ?_|refine zs2 ?_|refine zs3 ?_|refine zs4 ?_|refine zs5 ?_|refine zs6 [] ?_);conv=>whnf)|((first|apply zi1|apply zi2|apply zi3|apply zi4|apply zi5) <;> intro _ <;> conv=>whnf)|(refine VCall.intro (cC _) ?_;conv=>whnf)|(refine VCall.intro (cA _) ?_;conv=>whnf)|(refine VCall.intro (cB _) ?_;conv=>whnf))
          exact VOut.same rfl
        · rw [if_pos ⟨rfl,rfl⟩] at hE
          by_cases h1 : a.length = 0 ∨ b.length = 0
          · rw [if_pos h1] at hE
            rw [hE]
            conv=>whnf
            repeat' (first|((first|refine zs1 ?_|refine zs2 ?_|refine zs3 ?_|refine zs4 ?_|refine zs5 ?_|refine zs6 [] ?_);conv=>whnf)|((first|apply zi1|apply zi2|apply zi3|apply zi4|apply zi5) <;> intro _ <;> conv=>whnf)|(refine VCall.intro (cC _) ?_;conv=>whnf)|(refine VCall.intro (cA _) ?_;conv=>whnf)|(refine VCall.intro (cB _) ?_;conv=>whnf))
            all_goals first|exact VOut.same rfl|(exfalso;omega)
          · rw [if_neg h1] at hE
            cases R
            · rw [if_neg (by simp)] at hE
              rw [hE]
              conv=>whnf
              repeat' (first|((first|refine zs1 ?_|refine zs2 ?_|refine zs3 ?_|refine zs4 ?_|refine zs5 ?_|refine zs6 [] ?_);conv=>whnf)|((first|apply zi1|apply zi2|apply zi3|apply zi4|apply zi5) <;> intro _ <;> conv=>whnf)|(refine VCall.intro (cC _) ?_;conv=>whnf)|(refine VCall.intro (cA _) ?_;conv=>whnf)|(refine VCall.intro (cB _) ?_;conv=>whnf)|(refine VCall.intro (cR _) ?_;conv=>whnf))
              all_goals first|exact VOut.same rfl|(exfalso;omega)
            · cases S
              · rw [if_neg (by simp)] at hE
                rw [hE]
                conv=>whnf
                repeat' (first|((first|refine zs1 ?_|refine zs2 ?_|refine zs3 ?_|refine zs4 ?_|refine zs5 ?_|refine zs6 [] ?_);conv=>whnf)|((first|apply zi1|apply zi2|apply zi3|apply zi4|apply zi5) <;> intro _ <;> conv=>whnf)|(refine VCall.intro (cC _) ?_;conv=>whnf)|(refine VCall.intro (cA _) ?_;conv=>whnf)|(refine VCall.intro (cB _) ?_;conv=>whnf)|(refine VCall.intro (cR _) ?_;conv=>whnf)|(refine VCall.intro (cS _) ?_;conv=>whnf))
                all_goals first|exact VOut.same rfl|(exfalso;omega)
              · rw [if_pos ⟨rfl,rfl⟩] at hE
                cases P
                · rw [if_neg (by decide)] at hE
                  rw [hE]
                  conv=>whnf
                  repeat' (first|((first|refine zs1 ?_|refine zs2 ?_|refine zs3 ?_|refine zs4 ?_|refine zs5 ?_|refine zs6 [] ?_);conv=>whnf)|((first|apply zi1|apply zi2|apply zi3|apply zi4|apply zi5) <;> intro _ <;> conv=>whnf)|(refine VCall.intro (cC _) ?_;conv=>whnf)|(refine VCall.intro (cA _) ?_;conv=>whnf)|(refine VCall.intro (cB _) ?_;conv=>whnf)|(refine VCall.intro (cR _) ?_;conv=>whnf)|(refine VCall.intro (cS _) ?_;conv=>whnf)|(refine VCall.intro (cP _) ?_;conv=>whnf))
                  all_goals first|exact VOut.same rfl|(exfalso;omega)
                · rw [if_pos rfl] at hE
                  rw [hE]
                  conv=>whnf
                  repeat' (first|((first|refine zs1 ?_|refine zs2 ?_|refine zs3 ?_|refine zs4 ?_|refine zs5 ?_|refine zs6 [] ?_);conv=>whnf)|((first|apply zi1|apply zi2|apply zi3|apply zi4|apply zi5) <;> intro _ <;> conv=>whnf)|(refine VCall.intro (cC _) ?_;conv=>whnf)|(refine VCall.intro (cA _) ?_;conv=>whnf)|(refine VCall.intro (cB _) ?_;conv=>whnf)|(refine VCall.intro (cR _) ?_;conv=>whnf)|(refine VCall.intro (cS _) ?_;conv=>whnf)|(refine VCall.intro (cP _) ?_;conv=>whnf))
                  all_goals first|exact VOut.same rfl|(exfalso;omega)
  · rw [if_neg h0] at hE
    rw [← hE] at cC h0
    refine VC.body Tryz.func67 rfl Tryz.ntmps67 Tryz.call67 (h.grows_refl) rfl ?_;conv=>whnf
    repeat' (first|((first|refine zs1 ?_|refine zs2 ?_|refine zs3 ?_|refine zs4 ?_|refine zs5 ?_|refine zs6 [] ?_);conv=>whnf)|((first|apply zi1|apply zi2|apply zi3|apply zi4|apply zi5) <;> intro _ <;> conv=>whnf)|(refine VCall.intro (cC _) ?_;conv=>whnf))
    · exact VOut.same rfl
    all_goals (rename_i hh;exact absurd (by omega) h0)
end Go.Proofs.YtoeendggmalcpaaGreat

open Go.Vm
open Psg
namespace Go.Proofs.YtoeendggmalcpaaGreat
set_option maxRecDepth 20000
set_option maxHeartbeats 4000000

/-! ### A way along, and back -/
def fE (fw : Bool) : FuncId:=bif fw then 93 else 95
def fR (fw : Bool) : FuncId:=bif fw then 94 else 96
def sgD (fw : Bool) : Int:=bif fw then 1 else -1
def dirD (fw : Bool) : List D:=[.func (.func (fE fw)) [] [],.func (.func (fR fw)) [] [],DI (sgD fw)]
def dirsV : V:=.agg [.func (.func 93) [] [],.func (.func 94) [] [],I 1,.func (.func 95) [] [],.func (.func 96) [] [],I (-1)]
theorem vc_dirs (h : Hp) : VC Tryz.prog 90 [] h dirsV h:=by
  refine VC.body Tryz.func90 rfl Tryz.ntmps90 Tryz.call90 (h.grows_refl) rfl ?_;conv=>whnf
  repeat' (first|((first|refine zs1 ?_|refine zs2 ?_|refine zs3 ?_|refine zs4 ?_|refine zs5 ?_|refine zs6 [] ?_);conv=>whnf)|((first|apply zi1|apply zi2|apply zi3|apply zi4|apply zi5) <;> intro _ <;> conv=>whnf))
  exact VOut.same rfl
theorem vc_ends (fw : Bool) (w : Wy) (i : Nat) (h : Hp) : VC Tryz.prog (fE fw) [vWy w] h (.tuple [I (Eg.mk w i fw).a,I (Eg.mk w i fw).b]) h:=by
  cases fw
  · show VC Tryz.prog 95 _ _ (.tuple [I w.t,I w.f]) _
    refine VC.body Tryz.func95 rfl Tryz.ntmps95 Tryz.call95 (h.grows_refl) rfl ?_;conv=>whnf
    repeat' (first|((first|refine zs1 ?_|refine zs2 ?_|refine zs3 ?_|refine zs4 ?_|refine zs5 ?_|refine zs6 [] ?_);conv=>whnf)|((first|apply zi1|apply zi2|apply zi3|apply zi4|apply zi5) <;> intro _ <;> conv=>whnf))
    exact VOut.same rfl
  · show VC Tryz.prog 93 _ _ (.tuple [I w.f,I w.t]) _
    refine VC.body Tryz.func93 rfl Tryz.ntmps93 Tryz.call93 (h.grows_refl) rfl ?_;conv=>whnf
    repeat' (first|((first|refine zs1 ?_|refine zs2 ?_|refine zs3 ?_|refine zs4 ?_|refine zs5 ?_|refine zs6 [] ?_);conv=>whnf)|((first|apply zi1|apply zi2|apply zi3|apply zi4|apply zi5) <;> intro _ <;> conv=>whnf))
    exact VOut.same rfl
theorem vc_room (fw : Bool) (w : Wy) (i : Nat) (x : Int) (h : Hp) (hw : 0 ≤ w.h ∧ w.h ≤ 1000) (hx : 0 ≤ x ∧ x ≤ 1000) : VC Tryz.prog (fR fw) [vWy w,I x] h (I ((Eg.mk w i fw).room x)) h:=by
  cases fw
  · show VC Tryz.prog 96 _ _ (I x) _
    refine VC.body Tryz.func96 rfl Tryz.ntmps96 Tryz.call96 (h.grows_refl) rfl ?_;conv=>whnf
    repeat' (first|((first|refine zs1 ?_|refine zs2 ?_|refine zs3 ?_|refine zs4 ?_|refine zs5 ?_|refine zs6 [] ?_);conv=>whnf)|((first|apply zi1|apply zi2|apply zi3|apply zi4|apply zi5) <;> intro _ <;> conv=>whnf))
    exact VOut.same rfl
  · show VC Tryz.prog 94 _ _ (I (w.h - x)) _
    refine VC.body Tryz.func94 rfl Tryz.ntmps94 Tryz.call94 (h.grows_refl) rfl ?_;conv=>whnf
    repeat' (first|((first|refine zs1 ?_|refine zs2 ?_|refine zs3 ?_|refine zs4 ?_|refine zs5 ?_|refine zs6 [] ?_);conv=>whnf)|((first|apply zi1|apply zi2|apply zi3|apply zi4|apply zi5) <;> intro _ <;> conv=>whnf))
    exact VOut.same rfl
/-! ### Whether a number is in a list that can be written -/
theorem vc_IndexG (l : List Int) (x : Int) (i : Vm.Id) (h : Hp) (hb : h.get i = some (.flat true (l.flatMap encI))) (hl : l.length ≤ 4000000) : VC Tryz.prog 86 [.gl i 1 l.length,I x] h (I (idxI x l 0)) h:=by
  obtain ⟨E,hE⟩ : ∃ E,E = idxI x l 0:=⟨_,rfl⟩
  rw [← hE]
  have hg : ∀ loc,(⟨h.lift,loc⟩ : Hp).get (.out i) = some (.flat true (l.flatMap encI)):=fun loc=>get_out hb loc
  refine VC.body Tryz.func86 rfl Tryz.ntmps86 Tryz.call86 (h.grows_refl) rfl ?_;conv=>whnf
  repeat' (first|((first|refine zs1 ?_|refine zs2 ?_|refine zs3 ?_|refine zs4 ?_|refine zs5 ?_|refine zs6 [] ?_);conv=>whnf)|((first|apply zi1|apply zi2|apply zi3|apply zi4|apply zi5) <;> intro _ <;> conv=>whnf))
  refine VCode.lp (outer:=h.lift) (marks:=[]) (fun k : Nat=>[(0,.gl (.out i) 1 l.length),(1,I x),(7,I l.length),(8,I k)]) (fun _=>[]) (fun k=>k ≤ l.length ∧ E = idxI x (l.drop k) k) (fun k=>l.length - k) 0 ⟨Nat.zero_le _,hE⟩ ?_ ?_
  · conv=>whnf
    refine Retell.turn ⟨[],0,[],[]⟩ (TurnOk.mk' _ _ [] [] (OutOk.lift _) rfl (by decide) zb trivial trivial rfl) zw zm
  · rintro k ⟨h1,h2⟩
    conv=>whnf
    refine VIte.dec (fun h3=>?_) (fun h3=>?_)
    · have hk : l[k]? = some l[k]:=List.getElem?_eq_getElem (by omega)
      rw [idxI_at hk] at h2
      generalize l[k] = a at hk h2
      conv=>whnf
      repeat' (first|((first|refine zs1 ?_|refine zs2 ?_|refine zs3 ?_|refine zs4 ?_|refine zs5 ?_|refine zs6 [] ?_);conv=>whnf)|((first|apply zi1|apply zi2|apply zi3|apply zi4|apply zi5) <;> intro _ <;> conv=>whnf)|(refine VLd.recc encI_len k 0 rfl rfl (hg _) hk (by decide) rfl (by show (k : Int).toNat * 1 = k * 1 + 0;omega) ?_;conv=>whnf))
      · rename_i hx
        rw [if_pos hx] at h2
        rw [h2]
        exact VOut.same rfl
      · rename_i hx
        rw [if_neg hx] at h2
        refine LEnd.intro (k + 1) ⟨by omega,h2⟩ (by omega) ?_
        conv=>whnf
        refine Retell.turn ⟨[],0,[],[]⟩ (TurnOk.mk' _ _ [] [] (OutOk.lift _) rfl (by decide) zb trivial trivial rfl) zw zm
    · rw [List.drop_of_length_le (by omega),idxI] at h2
      conv=>whnf
      repeat' (first|((first|refine zs1 ?_|refine zs2 ?_|refine zs3 ?_|refine zs4 ?_|refine zs5 ?_|refine zs6 [] ?_);conv=>whnf)|((first|apply zi1|apply zi2|apply zi3|apply zi4|apply zi5) <;> intro _ <;> conv=>whnf))
      rw [h2]
      exact VOut.same rfl
theorem vc_ContG (l : List Int) (x : Int) (i : Vm.Id) (h : Hp) (hb : h.get i = some (.flat true (l.flatMap encI))) (hl : l.length ≤ 4000000) : VC Tryz.prog 68 [.gl i 1 l.length,I x] h (B (decide (x ∈ l))) h:=by
  have e : decide (x ∈ l) = decide (0 ≤ idxI x l 0):=decide_eq_decide.2 (idxI_nn x l 0 (by omega)).symm
  rw [e]
  have c:=fun loc=>vc_IndexG l x (.out i) ⟨h.lift,loc⟩ (get_out hb loc) hl
  generalize idxI x l 0 = E at c
  refine VC.body Tryz.func68 rfl Tryz.ntmps68 Tryz.call68 (h.grows_refl) rfl ?_;conv=>whnf
  repeat' (first|((first|refine zs1 ?_|refine zs2 ?_|refine zs3 ?_|refine zs4 ?_|refine zs5 ?_|refine zs6 [] ?_);conv=>whnf)|((first|apply zi1|apply zi2|apply zi3|apply zi4|apply zi5) <;> intro _ <;> conv=>whnf)|(refine VCall.intro (c _) ?_;conv=>whnf))
  exact VOut.same rfl
/-! ### What is pushed on -/
def vPush (gls : List Int) (c m p : Vm.Id) : V:=.func (.func 89) [] [.fp [dints gls],.ptr c 0,.ptr m 0,.ptr p 0]
structure PM (N : Nt) (gls hs met : List Int) (c s hI mC mL pC : Vm.Id) (g : Hp) : Prop where
  c0 : g.get c = some (.cells true [.ptr s 0])
  s0 : g.get s = some (.cells true [I N.p,wys N.ws,.gl hI 1 hs.length])
  h0 : g.get hI = some (.flat true (hs.flatMap encI))
  m0 : g.get mC = some (.cells true [.gl mL 1 met.length])
  l0 : g.get mL = some (.flat true (met.flatMap encI))
  p0 : g.get pC = some (.cells true [vPush gls c mC pC])
structure Dj (c s hI mC mL pC : Vm.Id) : Prop where
  hm : hI ≠ mC
  hl : hI ≠ mL
  ml : mC ≠ mL
  ch : c ≠ hI
  cm : c ≠ mC
  cl : c ≠ mL
  sh : s ≠ hI
  sm : s ≠ mC
  sl : s ≠ mL
  ph : pC ≠ hI
  pm : pC ≠ mC
  pl : pC ≠ mL
def upP (h : Hp) (hI mC mL : Vm.Id) (r : R3) : List (Vm.Id × Blk):=[(mL,.dead),(mC,.cells true [.gl h.fresh 1 r.2.2.length]),(hI,.flat true (r.2.1.flatMap encI))]
def effP (h : Hp) (hI mC mL : Vm.Id) (met : List Int) (r : R3) : Hp:=if r.2.2 = met then h else (h.sets (upP h hI mC mL r)).pushes [.flat true (r.2.2.flatMap encI)]
theorem pushL_same {n : Nat} {gls : List Int} {ws : List Wy} {rec : Int → Int → List Int → List Int → R3} {k : Nat} (hn : InN n ws) (hr : Psg.Good n gls ws rec k) {p most : Int} {hs met : List Int} (hp : p ∈ met) (hm : 1 ≤ most) (hb : Bnd ws hs) (hk : n + 1 ≤ met.length + (k + 1)) (hmt : Mt n met) :
    ∀ (es : List Eg),(∀ e ∈ es,e ∈ egs ws 0) → (pushL rec p most es hs met).2.2 = met → (pushL rec p most es hs met).1 = 0 ∧ (pushL rec p most es hs met).2.1 = hs
  | [],_,_=>⟨rfl,rfl⟩
  | e :: es,hes,heq=>by
    have he:=hes e List.mem_cons_self
    rw [pushL] at heq ⊢
    split
    · rename_i hc
      exfalso
      rw [if_pos hc] at heq
      have hend:=eg_ends hn he
      have hmt2:=hmt.snoc hc.2.1 hend.2
      have hR:=hr e.b (min most (e.room (hs.getD e.i 0))) hs (met ++ [e.b]) (by simp) hmt2 (by omega) hb (by rw [List.length_append];simp;omega)
      generalize rec e.b (min most (e.room (hs.getD e.i 0))) hs (met ++ [e.b]) = r at hR heq
      have hlen : met.length + 1 ≤ r.2.2.length:=by
        have:=hR.src.length_le
        rw [List.length_append] at this
        simpa using this
      split at heq
      · dsimp only at heq
        rw [heq] at hlen;omega
      · rename_i hz
        have hz0 : r.1 = 0:=by have:=hR.low;omega
        have hz1:=hR.zero hz0
        rw [hz1.1] at heq
        have key : ∀ (es : List Eg) (M : List Int),(∀ e ∈ es,e ∈ egs ws 0) → Mt n M → n + 1 ≤ M.length + (k + 1) → M <+: (pushL rec p most es hs M).2.2:=by
          intro es
          induction es with
          | nil=>intro M _ _ _;exact List.prefix_refl _
          | cons f es ih =>
            intro M hes hM hMk
            rw [pushL]
            split
            · rename_i hc
              have hend:=eg_ends hn (hes f List.mem_cons_self)
              have hM2:=hM.snoc hc.2.1 hend.2
              have hR:=hr f.b (min most (f.room (hs.getD f.i 0))) hs (M ++ [f.b]) (by simp) hM2 (by omega) hb (by rw [List.length_append];simp;omega)
              generalize rec f.b (min most (f.room (hs.getD f.i 0))) hs (M ++ [f.b]) = q at hR
              have hpre : M <+: q.2.2:=(List.prefix_append _ _).trans hR.src
              split
              · exact hpre
              · rename_i hz
                have hz1:=hR.zero (by have:=hR.low;omega)
                rw [hz1.1]
                exact hpre.trans (ih q.2.2 (fun e he=>hes e (List.mem_cons_of_mem _ he)) hR.mt (by have:=hpre.length_le;omega))
            · exact ih M (fun e he=>hes e (List.mem_cons_of_mem _ he)) hM hMk
        have:=(key es r.2.2 (fun e he=>hes e (List.mem_cons_of_mem _ he)) hR.mt (by omega)).length_le
        rw [heq] at this
        omega
    · rename_i hc
      rw [if_neg hc] at heq
      exact pushL_same hn hr hp hm hb hk hmt es (fun e he=>hes e (List.mem_cons_of_mem _ he)) heq
theorem push_same {n : Nat} {gls : List Int} {ws : List Wy} (hn : InN n ws) {p most : Int} {hs met : List Int} (hp : p ∈ met) (hm : 1 ≤ most) (hb : Bnd ws hs) (hmt : Mt n met) : ∀ k,n + 1 ≤ met.length + k → (push gls ws k p most hs met).2.2 = met → (push gls ws k p most hs met).2.1 = hs
  | 0,_,_=>rfl
  | k + 1,hk,h=>by
    rw [push] at h ⊢
    split
    · rfl
    · rename_i hc
      rw [if_neg hc] at h
      exact (pushL_same hn (push_ok hn k) hp hm hb (by omega) hmt (egs ws 0) (fun _ h=>h) h).2
theorem outNe {a b : Vm.Id} (h : a ≠ b) : Vm.Id.out a ≠ Vm.Id.out b:=fun e=>h (by injection e)
theorem outLoc {a : Vm.Id} {k : Nat} : Vm.Id.out a ≠ Vm.Id.loc k:=fun e=>by cases e
theorem Dj.inner {c s hI mC mL pC : Vm.Id} (h : Dj c s hI mC mL pC) : Dj (.out c) (.out s) (.out hI) (.out mC) (.loc 0) (.out pC) :=
  ⟨outNe h.hm,outLoc,outLoc,outNe h.ch,outNe h.cm,outLoc,outNe h.sh,outNe h.sm,outLoc,outNe h.ph,outNe h.pm,outLoc⟩
theorem turnB {h : Hp} {mL mC : Vm.Id} {j n : Nat} {c : TCtx} (hρ : Vm.Id.loc j = c.ρ (.loc 0)) : ∀ (i : Vm.Id) (b' : Blk),(outW (outW h.lift mL .dead) mC (.cells true [.gl (.loc 0) 1 n])) i = some b' →
    ((∃ b0 : Blk,b' = b0.ren .out) ∧ (outW (outW h.lift mL .dead) mC (.cells true [.gl (.loc j) 1 n])) i = some b') ∨ ∃ b,(outW (outW h.lift mL .dead) mC (.cells true [.gl (.loc j) 1 n])) i = some b ∧ BTo c (some b) b':=by
  intro i b' hb
  unfold outW at hb ⊢
  by_cases h1 : i = mC
  · rw [if_pos h1] at hb
    injection hb with hb;subst hb
    refine .inr ⟨.cells true [.gl (.loc j) 1 n],by rw [if_pos h1],?_⟩
    exact ⟨_,_,rfl,rfl,RowTo.vtos (VTos.cons (VTo.gl hρ) VTos.nil)⟩
  · rw [if_neg h1] at hb
    refine .inl ⟨?_,by rw [if_neg h1];exact hb⟩
    by_cases h2 : i = mL
    · rw [if_pos h2] at hb
      injection hb with hb;subst hb
      exact ⟨.dead,rfl⟩
    · rw [if_neg h2] at hb
      unfold Hp.lift at hb
      rw [Option.map_eq_some_iff] at hb
      obtain ⟨b0,_,h3⟩:=hb
      exact ⟨b0,h3.symm⟩
theorem turnBn {h : Hp} {mL mC : Vm.Id} {j n : Nat} : ∀ i,(outW (outW h.lift mL .dead) mC (.cells true [.gl (.loc 0) 1 n])) i = none → (outW (outW h.lift mL .dead) mC (.cells true [.gl (.loc j) 1 n])) i = none:=by
  intro i hb
  unfold outW at hb ⊢
  by_cases h1 : i = mC
  · rw [if_pos h1] at hb;cases hb
  · rw [if_neg h1] at hb ⊢;exact hb
theorem turnBH {h : Hp} {mL mC hI : Vm.Id} {j n m : Nat} {c : TCtx} {l : List Int} (h1 : hI ≠ mC) (h2 : hI ≠ mL) (h3 : h.get hI = some (.flat true (l.flatMap encI))) (hρ : Vm.Id.loc j = c.ρ (.loc 0)) : ∀ (i : Vm.Id) (b' : Blk),(outW (outW h.lift mL .dead) mC (.cells true [.gl (.loc 0) 1 n])) i = some b' →
    ((∃ b0 : Blk,b' = b0.ren .out) ∧ (outW (outW (outW (outW h.lift mL .dead) mC (.cells true [.gl (.loc 0) 1 m])) mC (.cells true [.gl (.loc j) 1 n])) hI (.flat true (l.flatMap encI))) i = some b') ∨ ∃ b,(outW (outW (outW (outW h.lift mL .dead) mC (.cells true [.gl (.loc 0) 1 m])) mC (.cells true [.gl (.loc j) 1 n])) hI (.flat true (l.flatMap encI))) i = some b ∧ BTo c (some b) b':=by
  have e : outW (outW (outW (outW h.lift mL .dead) mC (.cells true [.gl (.loc 0) 1 m])) mC (.cells true [.gl (.loc j) 1 n])) hI (.flat true (l.flatMap encI)) = outW (outW h.lift mL .dead) mC (.cells true [.gl (.loc j) 1 n]):=by
    rw [outW_same]
    refine (outW_id ?_).symm
    have h4 : h.lift hI = some (.flat true (l.flatMap encI)):=get_out h3 []
    unfold outW
    rw [if_neg h1,if_neg h2,h4]
  rw [e]
  exact turnB hρ
theorem turnBHn {h : Hp} {mL mC hI : Vm.Id} {j n m : Nat} {l : List Int} (h3 : h.get hI = some (.flat true (l.flatMap encI))) : ∀ i,(outW (outW h.lift mL .dead) mC (.cells true [.gl (.loc 0) 1 n])) i = none → (outW (outW (outW (outW h.lift mL .dead) mC (.cells true [.gl (.loc 0) 1 m])) mC (.cells true [.gl (.loc j) 1 n])) hI (.flat true (l.flatMap encI))) i = none:=by
  intro i hb
  unfold outW at hb ⊢
  by_cases g1 : i = mC
  · rw [if_pos g1] at hb;cases hb
  · rw [if_neg g1] at hb
    by_cases g2 : i = hI
    · exfalso
      subst g2
      have h4 : h.lift i = some (.flat true (l.flatMap encI)):=get_out h3 []
      split at hb
      · cases hb
      · rw [h4] at hb;cases hb
    · rw [if_neg g2,if_neg g1,if_neg g1];exact hb
theorem turnBO {h : Hp} {mL mC : Vm.Id} {j n m : Nat} {c : TCtx} {O : Vm.Id → Option Blk} (hO : outW (outW h.lift mL .dead) mC (.cells true [.gl (.loc 0) 1 m]) = O) (hρ : Vm.Id.loc j = c.ρ (.loc 0)) : ∀ (i : Vm.Id) (b' : Blk),(outW (outW h.lift mL .dead) mC (.cells true [.gl (.loc 0) 1 n])) i = some b' →
    ((∃ b0 : Blk,b' = b0.ren .out) ∧ (outW O mC (.cells true [.gl (.loc j) 1 n])) i = some b') ∨ ∃ b,(outW O mC (.cells true [.gl (.loc j) 1 n])) i = some b ∧ BTo c (some b) b':=by
  subst hO
  rw [outW_same]
  exact turnB hρ
theorem turnBOn {h : Hp} {mL mC : Vm.Id} {j n m : Nat} {O : Vm.Id → Option Blk} (hO : outW (outW h.lift mL .dead) mC (.cells true [.gl (.loc 0) 1 m]) = O) : ∀ i,(outW (outW h.lift mL .dead) mC (.cells true [.gl (.loc 0) 1 n])) i = none → (outW O mC (.cells true [.gl (.loc j) 1 n])) i = none:=by
  subst hO
  rw [outW_same]
  exact turnBn
def oB (h : Hp) (mL mC : Vm.Id) (n : Nat) : Vm.Id → Option Blk:=outW (outW h.lift mL .dead) mC (.cells true [.gl (.loc 0) 1 n])
end Go.Proofs.YtoeendggmalcpaaGreat


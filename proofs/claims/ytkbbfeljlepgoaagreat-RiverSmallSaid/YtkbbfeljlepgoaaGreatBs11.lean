/- Part 11 of the proof that answers about rivers are as the given statement says. No condition. -/
import Derived.Test.YtkbbfeljlepgoaaGreatBs10
set_option linter.unusedVariables false
set_option linter.unusedSimpArgs false
open Go.Vm
open Riv
namespace Go.Proofs.YtkbbfeljlepgoaaGreat
set_option maxRecDepth 100000
set_option maxHeartbeats 16000000

theorem sm3 (h : Hp) : VCut Tryz.prog none isOut (tlC (tlC (tlC (Tryz.f4.body.getD .skip)))) ⟨351, .leaf, ⟨h.lift, []⟩, []⟩ (vfin (tiOf Tryz.prog) Tryz.f4.results.toList h (B true) h) := by
        have fF:=vc_RiverFars
        have fO:=vc_RiverOwners
        have fY:=vc_RiverYears
        refine VCut.at' (outer:=h.lift) (marks:=[]) 1 [] [] ?_ ?_
        · conv=>whnf
          refine Retell.turn ⟨[],9,[],[]⟩ (TurnOk.mk' _ _ [] [] (OutOk.lift _) rfl (by decide) zb trivial trivial rfl) zw zm
        conv=>whnf
        repeat' (first|((first|refine zs1 ?_|refine zs2 ?_|refine zs3 ?_|refine zs4 ?_|refine zs5 ?_);conv=>whnf)|((first|apply zi1|apply zi2|apply zi3|apply zi4|apply zi5) <;> intro _ <;> first|(exfalso;omega)|contradiction|(conv=>whnf)))
        refine VCode.lpC (outer:=h.lift) (marks:=[]) 2 (fun n : Nat=>[(144,I n)]) (fun _=>[]) (fun n=>n ≤ 400) (fun n=>400 - n) 0 (Nat.zero_le _) ?_ ?_
        · conv=>whnf
          refine Retell.turn ⟨[],9,[],[]⟩ (TurnOk.mk' _ _ [] [] (OutOk.lift _) rfl (by decide) zb trivial trivial rfl) zw zm
        rintro n hn
        rcases Nat.lt_or_ge n 400 with h3|h3
        · have hn0 : (0 : Int) ≤ n:=by omega
          have hn1 : (n : Int) ≤ 400:=by omega
          obtain ⟨a,ha,ba⟩:=wtm (a:=(n : Int)) (k:=4) hn0 (by omega)
          obtain ⟨M,hM,bM⟩ : ∃ M : Nat,1 + a = (M : Int) ∧ M ≤ 4:=⟨(1 + a).toNat,by omega,by omega⟩
          obtain ⟨p5,hp5,_⟩:=wtm (a:=(n : Int)) (k:=5) hn0 (by omega)
          obtain ⟨d4,hd4,bd4⟩:=wtd (a:=(n : Int)) (k:=4) hn0 hn1 (by omega) (by omega)
          obtain ⟨p6,hp6,_⟩:=wtm (a:=d4) (k:=6) bd4.1 (by omega)
          obtain ⟨p8,hp8,_⟩:=wtm (a:=(n : Int)) (k:=8) hn0 (by omega)
          obtain ⟨d3,hd3,bd3⟩:=wtd (a:=(n : Int)) (k:=3) hn0 hn1 (by omega) (by omega)
          obtain ⟨q4,hq4,_⟩:=wtm (a:=d3) (k:=4) bd3.1 (by omega)
          conv=>whnf
          repeat' (first|((first|refine zs1 ?_|refine zs2 ?_|refine zs3 ?_|refine zs4 ?_|refine zs5 ?_);conv=>whnf)|((first|apply zi1|apply zi2|apply zi3|apply zi4|apply zi5) <;> intro _ <;> first|(exfalso;omega)|contradiction|(conv=>whnf)))
          refine VCut.block 2 ?_
          conv=>whnf
          repeat' (first|((first|refine zs1 ?_|refine zs2 ?_|refine zs3 ?_|refine zs4 ?_|refine zs5 ?_);conv=>whnf)|((first|apply zi1|apply zi2|apply zi3|apply zi4|apply zi5) <;> intro _ <;> first|(exfalso;omega)|contradiction|(conv=>whnf)))
          refine VCut.at' (outer:=h.lift) (marks:=[]) 99 [(144,I n),(16,I n),(17,.nilslice)] [] ?_ ?_
          · conv=>whnf
            refine Retell.turn ⟨[],9,[],[]⟩ (TurnOk.mk' _ _ [] [] (OutOk.lift _) rfl (by decide) zb trivial trivial rfl) zw zm
          conv=>whnf
          repeat' (first|((first|refine zs1 ?_|refine zs2 ?_|refine zs3 ?_|refine zs4 ?_|refine zs5 ?_);conv=>whnf)|((first|apply zi1|apply zi2|apply zi3|apply zi4|apply zi5) <;> intro _ <;> first|(exfalso;omega)|contradiction|(conv=>whnf))|(simp only [ha,hM];conv=>whnf))
          refine VCode.lpC (outer:=h.lift) (marks:=[]) 2 (fun y : Nat × List Mp=>[(144,I n),(16,I n),(17,.gl (.loc 0) 3 y.1),(149,I M),(150,I y.1)]) (fun y=>[.flat true (y.2.flatMap encM)]) (fun y=>y.1 ≤ M ∧ y.2.length = y.1) (fun y=>M - y.1) (0,[]) ⟨Nat.zero_le _,rfl⟩ ?_ ?_
          · conv=>whnf
            refine Retell.turn ⟨[0],0,[],[]⟩ (TurnOk.mk' _ _ [] [] (OutOk.lift _) rfl (by decide) zb trivial trivial rfl) zw zm
          rintro ⟨y,L⟩ ⟨hy,hL⟩
          dsimp only at hy hL ⊢
          rcases Nat.lt_or_ge y M with h4|h4
          · conv=>whnf
            repeat' (first|((first|refine zs1 ?_|refine zs2 ?_|refine zs3 ?_|refine zs4 ?_|refine zs5 ?_);conv=>whnf)|((first|apply zi1|apply zi2|apply zi3|apply zi4|apply zi5) <;> intro _ <;> first|(exfalso;omega)|contradiction|(conv=>whnf)))
            refine VCut.block 2 ?_
            conv=>whnf
            have hb : 0 ≤ (n : Int) * ((y : Int) + 1) + 7 * (y : Int) * (y : Int) ∧ (n : Int) * ((y : Int) + 1) + 7 * (y : Int) * (y : Int) ≤ 10000 ∧ 0 ≤ (n : Int) * ((y : Int) + 1) ∧ (n : Int) * ((y : Int) + 1) ≤ 10000 ∧ 0 ≤ 7 * (y : Int) * (y : Int) ∧ 7 * (y : Int) * (y : Int) ≤ 10000:=by
              have h5 : y = 0 ∨ y = 1 ∨ y = 2 ∨ y = 3:=by omega
              rcases h5 with rfl|rfl|rfl|rfl <;> omega
            repeat' (first|((first|refine zs1 ?_|refine zs2 ?_|refine zs3 ?_|refine zs4 ?_|refine zs5 ?_);conv=>whnf)|((first|apply zi1|apply zi2|apply zi3|apply zi4|apply zi5) <;> intro _ <;> first|(exfalso;omega)|contradiction|(conv=>whnf))|(refine VArith.ok (by omega) ?_;conv=>whnf))
            refine VCut.at' (outer:=h.lift) (marks:=[]) 99 [(144,I n),(16,I n),(17,.gl (.loc 0) 3 y),(149,I M),(150,I y),(19,I ((n : Int) * ((y : Int) + 1) + 7 * (y : Int) * (y : Int)))] [.flat true (L.flatMap encM)] ?_ ?_
            · conv=>whnf
              refine Retell.turn ⟨[0],9,[],[]⟩ (TurnOk.mk' _ _ [] [] (OutOk.lift _) rfl (by decide) zb trivial trivial rfl) zw zm
            obtain ⟨hb1,hb2,_⟩:=hb
            generalize (n : Int) * ((y : Int) + 1) + 7 * (y : Int) * (y : Int) = K at *
            obtain ⟨x4,hx4,_⟩:=wtm (a:=K) (k:=4) hb1 (by omega)
            obtain ⟨k3,hk3,bk3⟩:=wtd (a:=K) (k:=3) hb1 hb2 (by omega) (by omega)
            obtain ⟨x3,hx3,_⟩:=wtm (a:=k3) (k:=4) bk3.1 (by omega)
            obtain ⟨k5,hk5,bk5⟩:=wtd (a:=K) (k:=5) hb1 hb2 (by omega) (by omega)
            obtain ⟨x5,hx5,_⟩:=wtm (a:=k5) (k:=4) bk5.1 (by omega)
            obtain ⟨k7,hk7,bk7⟩:=wtd (a:=K) (k:=7) hb1 hb2 (by omega) (by omega)
            obtain ⟨x7,hx7,_⟩:=wtm (a:=k7) (k:=3) bk7.1 (by omega)
            have hLl : ((L.flatMap encM).map D.v).length = y * 3:=by rw [List.length_map,flat_len encM_len,hL]
            conv=>whnf
            repeat' (first|((first|refine zs1 ?_|refine zs2 ?_|refine zs3 ?_|refine zs4 ?_|refine zs5 ?_);conv=>whnf)|((first|apply zi1|apply zi2|apply zi3|apply zi4|apply zi5) <;> intro _ <;> first|(exfalso;omega)|contradiction|(conv=>whnf))|(simp only [hx4,hk3,hx3,hk5,hx5,hk7,hx7];conv=>whnf))
            refine VMem.appRow (l:=(L.flatMap encM).map D.v) (news:=[I 4,I 2,.gl (.loc 1) 1 8]) rfl rfl rfl rfl rfl hLl rfl (by omega) ?_
            conv=>whnf
            repeat' (first|((first|refine zs1 ?_|refine zs2 ?_|refine zs3 ?_|refine zs4 ?_|refine zs5 ?_);conv=>whnf)|((first|apply zi1|apply zi2|apply zi3|apply zi4|apply zi5) <;> intro _ <;> first|(exfalso;omega)|contradiction|(conv=>whnf)))
            refine LEnd.intro (y + 1,L ++ [⟨4,2,[1,x4,x3,2,1,x5,x7,2]⟩]) ⟨by dsimp only;omega,by dsimp only;rw [List.length_append,hL];rfl⟩ (by dsimp only;omega) ?_
            dsimp only
            conv=>whnf
            refine Retell.turn ⟨[3],9,[(1,([1,x4,x3,2,1,x5,x7,2] : List Int).flatMap Vm.encI)],[]⟩ (TurnOk.mk' _ _ [(1,([1,x4,x3,2,1,x5,x7,2] : List Int).flatMap Vm.encI)] [] (OutOk.lift _) rfl (by decide) (BTos.row rfl rfl rfl (RowTo.snoc (RowTo.vtos zv)) BTos.nil) zf trivial rfl) zw zm
          · obtain rfl : y = M:=by omega
            have cY:=fun h=>fY L p5 p6 p8 q4 h
            have hyv : yrs L = .fs 3 y (L.flatMap encM):=by unfold yrs;rw [hL]
            have hRf : (L.flatMap encM).length = y * 3:=by rw [flat_len encM_len,hL]
            rw [hyv] at cY
            conv=>whnf
            repeat' (first|((first|refine zs1 ?_|refine zs2 ?_|refine zs3 ?_|refine zs4 ?_|refine zs5 ?_);conv=>whnf)|((first|apply zi1|apply zi2|apply zi3|apply zi4|apply zi5) <;> intro _ <;> first|(exfalso;omega)|contradiction|(conv=>whnf))|(simp only [hp5,hd4,hp6,hp8,hd3,hq4];conv=>whnf))
            refine VCall.intro (VC.give (args':=[.fs 3 y (L.flatMap encM),I p5,I p6,I p8,I q4]) (loc':=[.dead]) [(0,L.flatMap encM)] [] (OutOk.lift _) zb zf (by exact FmAll.nil) rfl zw (cY _)) ?_
            conv=>whnf
            repeat' (first|((first|refine zs1 ?_|refine zs2 ?_|refine zs3 ?_|refine zs4 ?_|refine zs5 ?_);conv=>whnf)|((first|apply zi1|apply zi2|apply zi3|apply zi4|apply zi5) <;> intro _ <;> first|(exfalso;omega)|contradiction|(conv=>whnf)))
            refine LEnd.intro (n + 1) (by omega) (by omega) ?_
            conv=>whnf
            refine Retell.turn ⟨[],9,[],[]⟩ (TurnOk.mk' _ _ [] [] (OutOk.lift _) rfl (by decide) zb trivial trivial rfl) zw zm
        · obtain rfl : n = 400:=by omega
          conv=>whnf
          repeat' (first|((first|refine zs1 ?_|refine zs2 ?_|refine zs3 ?_|refine zs4 ?_|refine zs5 ?_);conv=>whnf)|((first|apply zi1|apply zi2|apply zi3|apply zi4|apply zi5) <;> intro _ <;> first|(exfalso;omega)|contradiction|(conv=>whnf)))
          refine VCut.at' (outer:=h.lift) (marks:=[]) 0 [] [] ?_ (sm4 h)
          conv=>whnf
          refine Retell.turn ⟨[],9,[],[]⟩ (TurnOk.mk' _ _ [] [] (OutOk.lift _) rfl (by decide) zb trivial trivial rfl) zw zm
theorem sm2 (h : Hp) : VCut Tryz.prog none isOut (tlC (tlC (Tryz.f4.body.getD .skip))) ⟨351, .leaf, ⟨h.lift, []⟩, []⟩ (vfin (tiOf Tryz.prog) Tryz.f4.results.toList h (B true) h) := by
      have fF:=vc_RiverFars
      have fO:=vc_RiverOwners
      have fY:=vc_RiverYears
      refine VCut.at' (outer:=h.lift) (marks:=[]) 1 [] [] ?_ ?_
      · conv=>whnf
        refine Retell.turn ⟨[],9,[],[]⟩ (TurnOk.mk' _ _ [] [] (OutOk.lift _) rfl (by decide) zb trivial trivial rfl) zw zm
      conv=>whnf
      repeat' (first|((first|refine zs1 ?_|refine zs2 ?_|refine zs3 ?_|refine zs4 ?_|refine zs5 ?_);conv=>whnf)|((first|apply zi1|apply zi2|apply zi3|apply zi4|apply zi5) <;> intro _ <;> first|(exfalso;omega)|contradiction|(conv=>whnf)))
      refine VCode.lpC (outer:=h.lift) (marks:=[]) 2 (fun n : Nat=>[(100,I n)]) (fun _=>[]) (fun n=>n ≤ 4096) (fun n=>4096 - n) 0 (Nat.zero_le _) ?_ ?_
      · conv=>whnf
        refine Retell.turn ⟨[],9,[],[]⟩ (TurnOk.mk' _ _ [] [] (OutOk.lift _) rfl (by decide) zb trivial trivial rfl) zw zm
      rintro n hn
      rcases Nat.lt_or_ge n 4096 with h3|h3
      · have hn0 : (0 : Int) ≤ n:=by omega
        have hn1 : (n : Int) ≤ 4096:=by omega
        obtain ⟨a,ha,_⟩:=wtm (a:=(n : Int)) (k:=4) hn0 (by omega)
        obtain ⟨d4,hd4,bd4⟩:=wtd (a:=(n : Int)) (k:=4) hn0 hn1 (by omega) (by omega)
        obtain ⟨b,hb,_⟩:=wtm (a:=d4) (k:=4) bd4.1 (by omega)
        obtain ⟨d16,hd16,bd16⟩:=wtd (a:=(n : Int)) (k:=16) hn0 hn1 (by omega) (by omega)
        obtain ⟨c,hc,_⟩:=wtm (a:=d16) (k:=4) bd16.1 (by omega)
        obtain ⟨d64,hd64,bd64⟩:=wtd (a:=(n : Int)) (k:=64) hn0 hn1 (by omega) (by omega)
        obtain ⟨d,hd,_⟩:=wtm (a:=d64) (k:=4) bd64.1 (by omega)
        obtain ⟨d256,hd256,bd256⟩:=wtd (a:=(n : Int)) (k:=256) hn0 hn1 (by omega) (by omega)
        obtain ⟨e,he,_⟩:=wtm (a:=d256) (k:=4) bd256.1 (by omega)
        obtain ⟨d1024,hd1024,bd1024⟩:=wtd (a:=(n : Int)) (k:=1024) hn0 hn1 (by omega) (by omega)
        obtain ⟨f,hf,_⟩:=wtm (a:=d1024) (k:=4) bd1024.1 (by omega)
        obtain ⟨d8,hd8,bd8⟩:=wtd (a:=(n : Int)) (k:=8) hn0 hn1 (by omega) (by omega)
        obtain ⟨p,hp,bp⟩:=wtm (a:=d8) (k:=2) bd8.1 (by omega)
        obtain ⟨q,hq,bq⟩:=wtm (a:=d8) (k:=10) bd8.1 (by omega)
        conv=>whnf
        repeat' (first|((first|refine zs1 ?_|refine zs2 ?_|refine zs3 ?_|refine zs4 ?_|refine zs5 ?_);conv=>whnf)|((first|apply zi1|apply zi2|apply zi3|apply zi4|apply zi5) <;> intro _ <;> first|(exfalso;omega)|contradiction|(conv=>whnf)))
        refine VCut.block 2 ?_
        conv=>whnf
        repeat' (first|((first|refine zs1 ?_|refine zs2 ?_|refine zs3 ?_|refine zs4 ?_|refine zs5 ?_);conv=>whnf)|((first|apply zi1|apply zi2|apply zi3|apply zi4|apply zi5) <;> intro _ <;> first|(exfalso;omega)|contradiction|(conv=>whnf))|(simp only [ha,hd4,hb,hd16,hc,hd64,hd,hd256,he,hd1024,hf];conv=>whnf))
        refine VCut.at' (outer:=h.lift) (marks:=[]) 99 [(100,I n),(14,I n),(15,.fp [DI 5,DI 2,.sl 1 10 [DI 1,DI a,DI b,DI c,DI 2,DI 1,DI d,DI e,DI f,DI 2]])] [] ?_ ?_
        · conv=>whnf
          refine Retell.turn ⟨[],9,[(0,[DI 1,DI a,DI b,DI c,DI 2,DI 1,DI d,DI e,DI f,DI 2]),(1,[DI 5,DI 2,.sl 1 10 [DI 1,DI a,DI b,DI c,DI 2,DI 1,DI d,DI e,DI f,DI 2]])],[]⟩ (TurnOk.mk' _ _ [(0,[DI 1,DI a,DI b,DI c,DI 2,DI 1,DI d,DI e,DI f,DI 2]),(1,[DI 5,DI 2,.sl 1 10 [DI 1,DI a,DI b,DI c,DI 2,DI 1,DI d,DI e,DI f,DI 2]])] [] (OutOk.lift _) rfl (by decide) zb zr trivial rfl) zw zm
        have c1:=fun h=>fO ⟨5,2,[1,a,b,c,2,1,d,e,f,2]⟩ h
        have c2:=fun h=>fF ⟨5,2,[1,a,b,c,2,1,d,e,f,2]⟩ (1 + p) q [0,1,2,3,-1,0,1,2,3,-1] h
        conv=>whnf
        repeat' (first|((first|refine zs1 ?_|refine zs2 ?_|refine zs3 ?_|refine zs4 ?_|refine zs5 ?_);conv=>whnf)|((first|apply zi1|apply zi2|apply zi3|apply zi4|apply zi5) <;> intro _ <;> first|(exfalso;omega)|contradiction|(conv=>whnf))|(refine VCall.intro (c1 _) ?_;conv=>whnf)|(simp only [hd8,hp,hq];conv=>whnf))
        · refine VCall.intro (VC.give (args':=[.agg [I 5,I 2,.fs 1 10 [DI 1,DI a,DI b,DI c,DI 2,DI 1,DI d,DI e,DI f,DI 2]],I (1 + p),I q,.fs 1 10 [DI 0,DI 1,DI 2,DI 3,DI (-1),DI 0,DI 1,DI 2,DI 3,DI (-1)]]) (loc':=[.dead]) [(0,[DI 0,DI 1,DI 2,DI 3,DI (-1),DI 0,DI 1,DI 2,DI 3,DI (-1)])] [] (OutOk.lift _) zb zf (by exact FmAll.nil) rfl zw (c2 _)) ?_
          conv=>whnf
          repeat' (first|((first|refine zs1 ?_|refine zs2 ?_|refine zs3 ?_|refine zs4 ?_|refine zs5 ?_);conv=>whnf)|((first|apply zi1|apply zi2|apply zi3|apply zi4|apply zi5) <;> intro _ <;> first|(exfalso;omega)|contradiction|(conv=>whnf)))
          refine LEnd.intro (n + 1) (by omega) (by omega) ?_
          conv=>whnf
          refine Retell.turn ⟨[],9,[],[]⟩ (TurnOk.mk' _ _ [] [] (OutOk.lift _) rfl (by decide) zb trivial trivial rfl) zw zm
        · refine LEnd.intro (n + 1) (by omega) (by omega) ?_
          conv=>whnf
          refine Retell.turn ⟨[],9,[],[]⟩ (TurnOk.mk' _ _ [] [] (OutOk.lift _) rfl (by decide) zb trivial trivial rfl) zw zm
      · obtain rfl : n = 4096:=by omega
        conv=>whnf
        repeat' (first|((first|refine zs1 ?_|refine zs2 ?_|refine zs3 ?_|refine zs4 ?_|refine zs5 ?_);conv=>whnf)|((first|apply zi1|apply zi2|apply zi3|apply zi4|apply zi5) <;> intro _ <;> first|(exfalso;omega)|contradiction|(conv=>whnf)))
        refine VCut.at' (outer:=h.lift) (marks:=[]) 0 [] [] ?_ (sm3 h)
        conv=>whnf
        refine Retell.turn ⟨[],9,[],[]⟩ (TurnOk.mk' _ _ [] [] (OutOk.lift _) rfl (by decide) zb trivial trivial rfl) zw zm
end Go.Proofs.YtkbbfeljlepgoaaGreat

open Go.Vm
open Riv
namespace Go.Proofs.YtkbbfeljlepgoaaGreat
set_option maxRecDepth 100000
set_option maxHeartbeats 16000000

theorem sm1 (h : Hp) : VCut Tryz.prog none isOut (tlC (Tryz.f4.body.getD .skip)) ⟨351,.leaf,⟨h.lift,[]⟩,[]⟩ (vfin (tiOf Tryz.prog) Tryz.f4.results.toList h (B true) h):=by
  have fF:=vc_RiverFars
  have fO:=vc_RiverOwners
  have fY:=vc_RiverYears
  have cI:=vc_IslesO
  have cT:=vc_ThreeO
  refine VCut.at' (outer:=h.lift) (marks:=[]) 1 [] [] ?_ ?_
  · conv=>whnf
    refine Retell.turn ⟨[],9,[],[]⟩ (TurnOk.mk' _ _ [] [] (OutOk.lift _) rfl (by decide) zb trivial trivial rfl) zw zm
  conv=>whnf
  repeat' (first|((first|refine zs1 ?_|refine zs2 ?_|refine zs3 ?_|refine zs4 ?_|refine zs5 ?_);conv=>whnf)|((first|apply zi1|apply zi2|apply zi3|apply zi4|apply zi5) <;> intro _ <;> first|(exfalso;omega)|contradiction|(conv=>whnf)))
  refine VCode.lpC (outer:=h.lift) (marks:=[]) 99 (fun k : Nat=>[(31,ints smV),(32,I 20),(33,I k)]) (fun _=>[]) (fun k=>k ≤ 20) (fun k=>20 - k) 0 (Nat.zero_le _) ?_ ?_
  · conv=>whnf
    refine Retell.turn ⟨[],9,[(0,smV.flatMap Vm.encI)],[]⟩ (TurnOk.mk' _ _ [(0,smV.flatMap Vm.encI)] [] (OutOk.lift _) rfl (by decide) zb zf trivial rfl) zw zm
  · rintro k hk
    rcases Nat.lt_or_ge k 20 with h3|h3
    · have hv : smV[k]? = some smV[k]:=List.getElem?_eq_getElem (show k < smV.length from h3)
      generalize smV[k] = v at hv
      conv=>whnf
      repeat' (first|((first|refine zs1 ?_|refine zs2 ?_|refine zs3 ?_|refine zs4 ?_|refine zs5 ?_);conv=>whnf)|((first|apply zi1|apply zi2|apply zi3|apply zi4|apply zi5) <;> intro _ <;> first|(exfalso;omega)|contradiction|(conv=>whnf))|(refine VAny.ix Vm.encI_len k rfl rfl hv ?_;conv=>whnf))
      refine VCode.lpC (outer:=h.lift) (marks:=[]) 2 (fun i : Nat=>[(31,ints smV),(32,I 20),(33,I k),(2,I v),(37,I i)]) (fun _=>[]) (fun i=>i ≤ 14) (fun i=>14 - i) 0 (Nat.zero_le _) ?_ ?_
      · conv=>whnf
        refine Retell.turn ⟨[],9,[],[]⟩ (TurnOk.mk' _ _ [] [] (OutOk.lift _) rfl (by decide) zb trivial trivial rfl) zw zm
      rintro i hi
      rcases Nat.lt_or_ge i 14 with h4|h4
      · conv=>whnf
        repeat' (first|((first|refine zs1 ?_|refine zs2 ?_|refine zs3 ?_|refine zs4 ?_|refine zs5 ?_);conv=>whnf)|((first|apply zi1|apply zi2|apply zi3|apply zi4|apply zi5) <;> intro _ <;> first|(exfalso;omega)|contradiction|(conv=>whnf)))
        refine VCut.block 2 ?_
        conv=>whnf
        repeat' (first|((first|refine zs1 ?_|refine zs2 ?_|refine zs3 ?_|refine zs4 ?_|refine zs5 ?_);conv=>whnf)|((first|apply zi1|apply zi2|apply zi3|apply zi4|apply zi5) <;> intro _ <;> first|(exfalso;omega)|contradiction|(conv=>whnf))|(refine VCall.intro (cI _) ?_;conv=>whnf))
        refine VCut.atL (outer:=h.lift) (marks:=[]) [(31,ints smV),(32,I 20),(33,I k),(2,I v),(37,I i),(3,I i),(4,.ptr (.loc 0) 0),(5,.ptr (.loc 1) 0),(6,.ptr (.loc 2) 0)] [.cells true [I 7,I 3,.gl (.loc 3) 1 21],.flat true [DI 1],.flat true [DI 10],.flat true (cC.flatMap Vm.encI)] ?_ ?_
        · conv=>whnf
          refine Retell.turn ⟨[1,2,3,0],9,[],[]⟩ (TurnOk.mk' _ _ [] [] (OutOk.lift _) rfl (by decide) zb trivial trivial rfl) zw zm
        conv=>whnf
        refine Later.lit (.sl 1 21) (smT.map I) rfl rfl (by kernel_rfl) ?_
        conv=>whnf
        repeat' (first|((first|refine zs1 ?_|refine zs2 ?_|refine zs3 ?_|refine zs4 ?_|refine zs5 ?_);conv=>whnf)|((first|apply zi1|apply zi2|apply zi3|apply zi4|apply zi5) <;> intro _ <;> first|(exfalso;omega)|contradiction|(conv=>whnf)))
        refine VCut.at' (outer:=h.lift) (marks:=[]) 1 [(31,ints smV),(32,I 20),(33,I k),(2,I v),(37,I i),(3,I i),(4,.ptr (.loc 0) 0),(5,.ptr (.loc 1) 0),(6,.ptr (.loc 2) 0),(7,.gl (.loc 4) 1 21)] [.cells true [I 7,I 3,.gl (.loc 3) 1 21],.flat true [DI 1],.flat true [DI 10],.flat true (cC.flatMap Vm.encI),.flat true (smT.flatMap Vm.encI)] ?_ ?_
        · conv=>whnf
          refine Retell.turn ⟨[0,1,2,3,4],9,[],[]⟩ (TurnOk.mk' _ _ [] [] (OutOk.lift _) rfl (by decide) zb trivial trivial rfl) zw zm
        conv=>whnf
        repeat' (first|((first|refine zs1 ?_|refine zs2 ?_|refine zs3 ?_|refine zs4 ?_|refine zs5 ?_);conv=>whnf)|((first|apply zi1|apply zi2|apply zi3|apply zi4|apply zi5) <;> intro _ <;> first|(exfalso;omega)|contradiction|(conv=>whnf))|(refine VCall.intro (cT _) ?_;conv=>whnf))
        refine VCut.at' (outer:=h.lift) (marks:=[]) 1 [(31,ints smV),(32,I 20),(33,I k),(2,I v),(37,I i),(3,I i),(4,.ptr (.loc 0) 0),(5,.ptr (.loc 1) 0),(6,.ptr (.loc 2) 0),(7,.gl (.loc 4) 1 21),(8,.gl (.loc 5) 3 3),(9,.ptr (.loc 7) 0),(10,.ptr (.loc 8) 0),(11,.ptr (.loc 9) 0),(12,.ptr (.loc 10) 0)] [.cells true [I 7,I 3,.gl (.loc 3) 1 21],.flat true [DI 1],.flat true [DI 10],.flat true (cC.flatMap Vm.encI),.flat true (smT.flatMap Vm.encI),.cells true [I 7,I 1,ints cA,I 7,I 1,.gl (.loc 6) 1 7,I 7,I 1,ints cE],.flat true (cD.flatMap Vm.encI),.flat true [DI 2],.flat true [DI 1],.flat true [DI 3],.flat true [DI 1]] ?_ ?_
        · conv=>whnf
          refine Retell.turn ⟨[0,1,2,3,4,5,6,7,8,9,10],19,[],[]⟩ (TurnOk.mk' _ _ [] [] (OutOk.lift _) rfl (by decide) zb trivial trivial rfl) zw zm
        conv=>whnf
        refine VDraw.cut 20 (by kernel_rfl) (by kernel_rfl) ?_
        conv=>whnf
        repeat' (first|((first|refine zs1 ?_|refine zs2 ?_|refine zs3 ?_|refine zs4 ?_|refine zs5 ?_);conv=>whnf)|((first|apply zi1|apply zi2|apply zi3|apply zi4|apply zi5) <;> intro _ <;> conv=>whnf))
        refine Later.alloc (.sl 1 14) [.ptr (.loc 0) 0,.ptr (.loc 0) 1,.ptr (.loc 3) 9,.ptr (.loc 3) 0,.ptr (.loc 3) 6,.ptr (.loc 1) 0,.ptr (.loc 2) 0,.ptr (.loc 4) 12,.ptr (.loc 4) 11,.ptr (.loc 6) 1,.ptr (.loc 7) 0,.ptr (.loc 8) 0,.ptr (.loc 9) 0,.ptr (.loc 10) 0] rfl rfl (by kernel_rfl) rfl ?_
        conv=>whnf
        repeat' (first|((first|refine zs1 ?_|refine zs2 ?_|refine zs3 ?_|refine zs4 ?_|refine zs5 ?_);conv=>whnf)|((first|apply zi1|apply zi2|apply zi3|apply zi4|apply zi5) <;> intro _ <;> conv=>whnf))
        refine VCut.at' (outer:=h.lift) (marks:=[]) 1 [(31,ints smV),(32,I 20),(33,I k),(2,I v),(37,I i),(3,I i),(4,.ptr (.loc 0) 0),(5,.ptr (.loc 1) 0),(6,.ptr (.loc 2) 0),(7,.gl (.loc 4) 1 21),(8,.gl (.loc 5) 3 3),(9,.ptr (.loc 7) 0),(10,.ptr (.loc 8) 0),(11,.ptr (.loc 9) 0),(12,.ptr (.loc 10) 0),(13,.gl (.loc 11) 1 14)] [.cells true [I 7,I 3,.gl (.loc 3) 1 21],.flat true [DI 1],.flat true [DI 10],.flat true (cC.flatMap Vm.encI),.flat true (smT.flatMap Vm.encI),.cells true [I 7,I 1,ints cA,I 7,I 1,.gl (.loc 6) 1 7,I 7,I 1,ints cE],.flat true (cD.flatMap Vm.encI),.flat true [DI 2],.flat true [DI 1],.flat true [DI 3],.flat true [DI 1],.cells true [.ptr (.loc 0) 0,.ptr (.loc 0) 1,.ptr (.loc 3) 9,.ptr (.loc 3) 0,.ptr (.loc 3) 6,.ptr (.loc 1) 0,.ptr (.loc 2) 0,.ptr (.loc 4) 12,.ptr (.loc 4) 11,.ptr (.loc 6) 1,.ptr (.loc 7) 0,.ptr (.loc 8) 0,.ptr (.loc 9) 0,.ptr (.loc 10) 0]] ?_ ?_
        · conv=>whnf
          refine Retell.turn ⟨[0,1,2,3,4,5,6,7,8,9,10,11],19,[],[]⟩ (TurnOk.mk' _ _ [] [] (OutOk.lift _) rfl (by decide) zb trivial trivial rfl) zw zm
        have h20 : i = 0 ∨ i = 1 ∨ i = 2 ∨ i = 3 ∨ i = 4 ∨ i = 5 ∨ i = 6 ∨ i = 7 ∨ i = 8 ∨ i = 9 ∨ i = 10 ∨ i = 11 ∨ i = 12 ∨ i = 13:=by omega
        rcases h20 with rfl|rfl|rfl|rfl|rfl|rfl|rfl|rfl|rfl|rfl|rfl|rfl|rfl|rfl
        · conv=>whnf
          repeat' (first|((first|refine zs1 ?_|refine zs2 ?_|refine zs3 ?_|refine zs4 ?_|refine zs5 ?_);conv=>whnf)|((first|apply zi1|apply zi2|apply zi3|apply zi4|apply zi5) <;> intro _ <;> first|(exfalso;omega)|contradiction|(conv=>whnf)))
          refine VCut.at' (outer:=h.lift) (marks:=[]) 99 [(31,ints smV),(32,I 20),(33,I k),(2,I v),(37,I (0 : Nat)),(3,I (0 : Nat)),(4,.fp [DI v,DI 3,.sl 1 21 (([1,0,0,0,0,0,2,1,0,3,0,3,0,2,1,0,0,0,0,0,2] : List Int).flatMap Vm.encI)]),(5,.fp [DI 1]),(6,.fp [DI 10]),(7,.fs 1 21 (([0,1,2,3,4,5,-1,0,1,2,4,6,6,-1,0,1,2,3,4,5,-1] : List Int).flatMap Vm.encI))] [] ?_ ?_
          · conv=>whnf
            refine Retell.turn ⟨[],20,[(3,([1,0,0,0,0,0,2,1,0,3,0,3,0,2,1,0,0,0,0,0,2] : List Int).flatMap Vm.encI),(0,[DI v,DI 3,.sl 1 21 (([1,0,0,0,0,0,2,1,0,3,0,3,0,2,1,0,0,0,0,0,2] : List Int).flatMap Vm.encI)]),(1,[DI 1]),(2,[DI 10]),(4,([0,1,2,3,4,5,-1,0,1,2,4,6,6,-1,0,1,2,3,4,5,-1] : List Int).flatMap Vm.encI)],[]⟩ (TurnOk.mk' _ _ [(3,([1,0,0,0,0,0,2,1,0,3,0,3,0,2,1,0,0,0,0,0,2] : List Int).flatMap Vm.encI),(0,[DI v,DI 3,.sl 1 21 (([1,0,0,0,0,0,2,1,0,3,0,3,0,2,1,0,0,0,0,0,2] : List Int).flatMap Vm.encI)]),(1,[DI 1]),(2,[DI 10]),(4,([0,1,2,3,4,5,-1,0,1,2,4,6,6,-1,0,1,2,3,4,5,-1] : List Int).flatMap Vm.encI)] [] (OutOk.lift _) rfl (by decide) zb zr trivial rfl) zw zm
          conv=>whnf
          repeat' (first|((first|refine zs1 ?_|refine zs2 ?_|refine zs3 ?_|refine zs4 ?_|refine zs5 ?_);conv=>whnf)|((first|apply zi1|apply zi2|apply zi3|apply zi4|apply zi5) <;> intro _ <;> first|(exfalso;omega)|contradiction|(conv=>whnf))|(refine VCall.intro (fF ⟨v,3,[1,0,0,0,0,0,2,1,0,3,0,3,0,2,1,0,0,0,0,0,2]⟩ 1 10 [0,1,2,3,4,5,-1,0,1,2,4,6,6,-1,0,1,2,3,4,5,-1] _) ?_;conv=>whnf)|(refine VCall.intro (fO ⟨v,3,[1,0,0,0,0,0,2,1,0,3,0,3,0,2,1,0,0,0,0,0,2]⟩ _) ?_;conv=>whnf))
          refine LEnd.intro 1 (by omega) (by omega) ?_
          conv=>whnf
          refine Retell.turn ⟨[],9,[],[]⟩ (TurnOk.mk' _ _ [] [] (OutOk.lift _) rfl (by decide) zb trivial trivial rfl) zw zm
        · conv=>whnf
          repeat' (first|((first|refine zs1 ?_|refine zs2 ?_|refine zs3 ?_|refine zs4 ?_|refine zs5 ?_);conv=>whnf)|((first|apply zi1|apply zi2|apply zi3|apply zi4|apply zi5) <;> intro _ <;> first|(exfalso;omega)|contradiction|(conv=>whnf)))
          refine VCut.at' (outer:=h.lift) (marks:=[]) 99 [(31,ints smV),(32,I 20),(33,I k),(2,I v),(37,I (1 : Nat)),(3,I (1 : Nat)),(4,.fp [DI 7,DI v,.sl 1 21 (([1,0,0,0,0,0,2,1,0,3,0,3,0,2,1,0,0,0,0,0,2] : List Int).flatMap Vm.encI)]),(5,.fp [DI 1]),(6,.fp [DI 10]),(7,.fs 1 21 (([0,1,2,3,4,5,-1,0,1,2,4,6,6,-1,0,1,2,3,4,5,-1] : List Int).flatMap Vm.encI))] [] ?_ ?_
          · conv=>whnf
            refine Retell.turn ⟨[],20,[(3,([1,0,0,0,0,0,2,1,0,3,0,3,0,2,1,0,0,0,0,0,2] : List Int).flatMap Vm.encI),(0,[DI 7,DI v,.sl 1 21 (([1,0,0,0,0,0,2,1,0,3,0,3,0,2,1,0,0,0,0,0,2] : List Int).flatMap Vm.encI)]),(1,[DI 1]),(2,[DI 10]),(4,([0,1,2,3,4,5,-1,0,1,2,4,6,6,-1,0,1,2,3,4,5,-1] : List Int).flatMap Vm.encI)],[]⟩ (TurnOk.mk' _ _ [(3,([1,0,0,0,0,0,2,1,0,3,0,3,0,2,1,0,0,0,0,0,2] : List Int).flatMap Vm.encI),(0,[DI 7,DI v,.sl 1 21 (([1,0,0,0,0,0,2,1,0,3,0,3,0,2,1,0,0,0,0,0,2] : List Int).flatMap Vm.encI)]),(1,[DI 1]),(2,[DI 10]),(4,([0,1,2,3,4,5,-1,0,1,2,4,6,6,-1,0,1,2,3,4,5,-1] : List Int).flatMap Vm.encI)] [] (OutOk.lift _) rfl (by decide) zb zr trivial rfl) zw zm
          conv=>whnf
          repeat' (first|((first|refine zs1 ?_|refine zs2 ?_|refine zs3 ?_|refine zs4 ?_|refine zs5 ?_);conv=>whnf)|((first|apply zi1|apply zi2|apply zi3|apply zi4|apply zi5) <;> intro _ <;> first|(exfalso;omega)|contradiction|(conv=>whnf))|(refine VCall.intro (fF ⟨7,v,[1,0,0,0,0,0,2,1,0,3,0,3,0,2,1,0,0,0,0,0,2]⟩ 1 10 [0,1,2,3,4,5,-1,0,1,2,4,6,6,-1,0,1,2,3,4,5,-1] _) ?_;conv=>whnf)|(refine VCall.intro (fO ⟨7,v,[1,0,0,0,0,0,2,1,0,3,0,3,0,2,1,0,0,0,0,0,2]⟩ _) ?_;conv=>whnf))
          refine LEnd.intro 2 (by omega) (by omega) ?_
          conv=>whnf
          refine Retell.turn ⟨[],9,[],[]⟩ (TurnOk.mk' _ _ [] [] (OutOk.lift _) rfl (by decide) zb trivial trivial rfl) zw zm
        · conv=>whnf
          repeat' (first|((first|refine zs1 ?_|refine zs2 ?_|refine zs3 ?_|refine zs4 ?_|refine zs5 ?_);conv=>whnf)|((first|apply zi1|apply zi2|apply zi3|apply zi4|apply zi5) <;> intro _ <;> first|(exfalso;omega)|contradiction|(conv=>whnf)))
          refine VCut.at' (outer:=h.lift) (marks:=[]) 99 [(31,ints smV),(32,I 20),(33,I k),(2,I v),(37,I (2 : Nat)),(3,I (2 : Nat)),(4,.fp [DI 7,DI 3,.sl 1 21 (([1,0,0,0,0,0,2,1,0,v,0,3,0,2,1,0,0,0,0,0,2] : List Int).flatMap Vm.encI)]),(5,.fp [DI 1]),(6,.fp [DI 10]),(7,.fs 1 21 (([0,1,2,3,4,5,-1,0,1,2,4,6,6,-1,0,1,2,3,4,5,-1] : List Int).flatMap Vm.encI))] [] ?_ ?_
          · conv=>whnf
            refine Retell.turn ⟨[],20,[(3,([1,0,0,0,0,0,2,1,0,v,0,3,0,2,1,0,0,0,0,0,2] : List Int).flatMap Vm.encI),(0,[DI 7,DI 3,.sl 1 21 (([1,0,0,0,0,0,2,1,0,v,0,3,0,2,1,0,0,0,0,0,2] : List Int).flatMap Vm.encI)]),(1,[DI 1]),(2,[DI 10]),(4,([0,1,2,3,4,5,-1,0,1,2,4,6,6,-1,0,1,2,3,4,5,-1] : List Int).flatMap Vm.encI)],[]⟩ (TurnOk.mk' _ _ [(3,([1,0,0,0,0,0,2,1,0,v,0,3,0,2,1,0,0,0,0,0,2] : List Int).flatMap Vm.encI),(0,[DI 7,DI 3,.sl 1 21 (([1,0,0,0,0,0,2,1,0,v,0,3,0,2,1,0,0,0,0,0,2] : List Int).flatMap Vm.encI)]),(1,[DI 1]),(2,[DI 10]),(4,([0,1,2,3,4,5,-1,0,1,2,4,6,6,-1,0,1,2,3,4,5,-1] : List Int).flatMap Vm.encI)] [] (OutOk.lift _) rfl (by decide) zb zr trivial rfl) zw zm
          conv=>whnf
          repeat' (first|((first|refine zs1 ?_|refine zs2 ?_|refine zs3 ?_|refine zs4 ?_|refine zs5 ?_);conv=>whnf)|((first|apply zi1|apply zi2|apply zi3|apply zi4|apply zi5) <;> intro _ <;> first|(exfalso;omega)|contradiction|(conv=>whnf))|(refine VCall.intro (fF ⟨7,3,[1,0,0,0,0,0,2,1,0,v,0,3,0,2,1,0,0,0,0,0,2]⟩ 1 10 [0,1,2,3,4,5,-1,0,1,2,4,6,6,-1,0,1,2,3,4,5,-1] _) ?_;conv=>whnf)|(refine VCall.intro (fO ⟨7,3,[1,0,0,0,0,0,2,1,0,v,0,3,0,2,1,0,0,0,0,0,2]⟩ _) ?_;conv=>whnf))
          refine LEnd.intro 3 (by omega) (by omega) ?_
          conv=>whnf
          refine Retell.turn ⟨[],9,[],[]⟩ (TurnOk.mk' _ _ [] [] (OutOk.lift _) rfl (by decide) zb trivial trivial rfl) zw zm
        · conv=>whnf
          repeat' (first|((first|refine zs1 ?_|refine zs2 ?_|refine zs3 ?_|refine zs4 ?_|refine zs5 ?_);conv=>whnf)|((first|apply zi1|apply zi2|apply zi3|apply zi4|apply zi5) <;> intro _ <;> first|(exfalso;omega)|contradiction|(conv=>whnf)))
          refine VCut.at' (outer:=h.lift) (marks:=[]) 99 [(31,ints smV),(32,I 20),(33,I k),(2,I v),(37,I (3 : Nat)),(3,I (3 : Nat)),(4,.fp [DI 7,DI 3,.sl 1 21 (([v,0,0,0,0,0,2,1,0,3,0,3,0,2,1,0,0,0,0,0,2] : List Int).flatMap Vm.encI)]),(5,.fp [DI 1]),(6,.fp [DI 10]),(7,.fs 1 21 (([0,1,2,3,4,5,-1,0,1,2,4,6,6,-1,0,1,2,3,4,5,-1] : List Int).flatMap Vm.encI))] [] ?_ ?_
          · conv=>whnf
            refine Retell.turn ⟨[],20,[(3,([v,0,0,0,0,0,2,1,0,3,0,3,0,2,1,0,0,0,0,0,2] : List Int).flatMap Vm.encI),(0,[DI 7,DI 3,.sl 1 21 (([v,0,0,0,0,0,2,1,0,3,0,3,0,2,1,0,0,0,0,0,2] : List Int).flatMap Vm.encI)]),(1,[DI 1]),(2,[DI 10]),(4,([0,1,2,3,4,5,-1,0,1,2,4,6,6,-1,0,1,2,3,4,5,-1] : List Int).flatMap Vm.encI)],[]⟩ (TurnOk.mk' _ _ [(3,([v,0,0,0,0,0,2,1,0,3,0,3,0,2,1,0,0,0,0,0,2] : List Int).flatMap Vm.encI),(0,[DI 7,DI 3,.sl 1 21 (([v,0,0,0,0,0,2,1,0,3,0,3,0,2,1,0,0,0,0,0,2] : List Int).flatMap Vm.encI)]),(1,[DI 1]),(2,[DI 10]),(4,([0,1,2,3,4,5,-1,0,1,2,4,6,6,-1,0,1,2,3,4,5,-1] : List Int).flatMap Vm.encI)] [] (OutOk.lift _) rfl (by decide) zb zr trivial rfl) zw zm
          conv=>whnf
          repeat' (first|((first|refine zs1 ?_|refine zs2 ?_|refine zs3 ?_|refine zs4 ?_|refine zs5 ?_);conv=>whnf)|((first|apply zi1|apply zi2|apply zi3|apply zi4|apply zi5) <;> intro _ <;> first|(exfalso;omega)|contradiction|(conv=>whnf))|(refine VCall.intro (fF ⟨7,3,[v,0,0,0,0,0,2,1,0,3,0,3,0,2,1,0,0,0,0,0,2]⟩ 1 10 [0,1,2,3,4,5,-1,0,1,2,4,6,6,-1,0,1,2,3,4,5,-1] _) ?_;conv=>whnf)|(refine VCall.intro (fO ⟨7,3,[v,0,0,0,0,0,2,1,0,3,0,3,0,2,1,0,0,0,0,0,2]⟩ _) ?_;conv=>whnf))
          refine LEnd.intro 4 (by omega) (by omega) ?_
          conv=>whnf
          refine Retell.turn ⟨[],9,[],[]⟩ (TurnOk.mk' _ _ [] [] (OutOk.lift _) rfl (by decide) zb trivial trivial rfl) zw zm
        · conv=>whnf
          repeat' (first|((first|refine zs1 ?_|refine zs2 ?_|refine zs3 ?_|refine zs4 ?_|refine zs5 ?_);conv=>whnf)|((first|apply zi1|apply zi2|apply zi3|apply zi4|apply zi5) <;> intro _ <;> first|(exfalso;omega)|contradiction|(conv=>whnf)))
          refine VCut.at' (outer:=h.lift) (marks:=[]) 99 [(31,ints smV),(32,I 20),(33,I k),(2,I v),(37,I (4 : Nat)),(3,I (4 : Nat)),(4,.fp [DI 7,DI 3,.sl 1 21 (([1,0,0,0,0,0,v,1,0,3,0,3,0,2,1,0,0,0,0,0,2] : List Int).flatMap Vm.encI)]),(5,.fp [DI 1]),(6,.fp [DI 10]),(7,.fs 1 21 (([0,1,2,3,4,5,-1,0,1,2,4,6,6,-1,0,1,2,3,4,5,-1] : List Int).flatMap Vm.encI))] [] ?_ ?_
          · conv=>whnf
            refine Retell.turn ⟨[],20,[(3,([1,0,0,0,0,0,v,1,0,3,0,3,0,2,1,0,0,0,0,0,2] : List Int).flatMap Vm.encI),(0,[DI 7,DI 3,.sl 1 21 (([1,0,0,0,0,0,v,1,0,3,0,3,0,2,1,0,0,0,0,0,2] : List Int).flatMap Vm.encI)]),(1,[DI 1]),(2,[DI 10]),(4,([0,1,2,3,4,5,-1,0,1,2,4,6,6,-1,0,1,2,3,4,5,-1] : List Int).flatMap Vm.encI)],[]⟩ (TurnOk.mk' _ _ [(3,([1,0,0,0,0,0,v,1,0,3,0,3,0,2,1,0,0,0,0,0,2] : List Int).flatMap Vm.encI),(0,[DI 7,DI 3,.sl 1 21 (([1,0,0,0,0,0,v,1,0,3,0,3,0,2,1,0,0,0,0,0,2] : List Int).flatMap Vm.encI)]),(1,[DI 1]),(2,[DI 10]),(4,([0,1,2,3,4,5,-1,0,1,2,4,6,6,-1,0,1,2,3,4,5,-1] : List Int).flatMap Vm.encI)] [] (OutOk.lift _) rfl (by decide) zb zr trivial rfl) zw zm
          conv=>whnf
          repeat' (first|((first|refine zs1 ?_|refine zs2 ?_|refine zs3 ?_|refine zs4 ?_|refine zs5 ?_);conv=>whnf)|((first|apply zi1|apply zi2|apply zi3|apply zi4|apply zi5) <;> intro _ <;> first|(exfalso;omega)|contradiction|(conv=>whnf))|(refine VCall.intro (fF ⟨7,3,[1,0,0,0,0,0,v,1,0,3,0,3,0,2,1,0,0,0,0,0,2]⟩ 1 10 [0,1,2,3,4,5,-1,0,1,2,4,6,6,-1,0,1,2,3,4,5,-1] _) ?_;conv=>whnf)|(refine VCall.intro (fO ⟨7,3,[1,0,0,0,0,0,v,1,0,3,0,3,0,2,1,0,0,0,0,0,2]⟩ _) ?_;conv=>whnf))
          refine LEnd.intro 5 (by omega) (by omega) ?_
          conv=>whnf
          refine Retell.turn ⟨[],9,[],[]⟩ (TurnOk.mk' _ _ [] [] (OutOk.lift _) rfl (by decide) zb trivial trivial rfl) zw zm
        · conv=>whnf
          repeat' (first|((first|refine zs1 ?_|refine zs2 ?_|refine zs3 ?_|refine zs4 ?_|refine zs5 ?_);conv=>whnf)|((first|apply zi1|apply zi2|apply zi3|apply zi4|apply zi5) <;> intro _ <;> first|(exfalso;omega)|contradiction|(conv=>whnf)))
          refine VCut.at' (outer:=h.lift) (marks:=[]) 99 [(31,ints smV),(32,I 20),(33,I k),(2,I v),(37,I (5 : Nat)),(3,I (5 : Nat)),(4,.fp [DI 7,DI 3,.sl 1 21 (([1,0,0,0,0,0,2,1,0,3,0,3,0,2,1,0,0,0,0,0,2] : List Int).flatMap Vm.encI)]),(5,.fp [DI v]),(6,.fp [DI 10]),(7,.fs 1 21 (([0,1,2,3,4,5,-1,0,1,2,4,6,6,-1,0,1,2,3,4,5,-1] : List Int).flatMap Vm.encI))] [] ?_ ?_
          · conv=>whnf
            refine Retell.turn ⟨[],20,[(3,([1,0,0,0,0,0,2,1,0,3,0,3,0,2,1,0,0,0,0,0,2] : List Int).flatMap Vm.encI),(0,[DI 7,DI 3,.sl 1 21 (([1,0,0,0,0,0,2,1,0,3,0,3,0,2,1,0,0,0,0,0,2] : List Int).flatMap Vm.encI)]),(1,[DI v]),(2,[DI 10]),(4,([0,1,2,3,4,5,-1,0,1,2,4,6,6,-1,0,1,2,3,4,5,-1] : List Int).flatMap Vm.encI)],[]⟩ (TurnOk.mk' _ _ [(3,([1,0,0,0,0,0,2,1,0,3,0,3,0,2,1,0,0,0,0,0,2] : List Int).flatMap Vm.encI),(0,[DI 7,DI 3,.sl 1 21 (([1,0,0,0,0,0,2,1,0,3,0,3,0,2,1,0,0,0,0,0,2] : List Int).flatMap Vm.encI)]),(1,[DI v]),(2,[DI 10]),(4,([0,1,2,3,4,5,-1,0,1,2,4,6,6,-1,0,1,2,3,4,5,-1] : List Int).flatMap Vm.encI)] [] (OutOk.lift _) rfl (by decide) zb zr trivial rfl) zw zm
          conv=>whnf
          repeat' (first|((first|refine zs1 ?_|refine zs2 ?_|refine zs3 ?_|refine zs4 ?_|refine zs5 ?_);conv=>whnf)|((first|apply zi1|apply zi2|apply zi3|apply zi4|apply zi5) <;> intro _ <;> first|(exfalso;omega)|contradiction|(conv=>whnf))|(refine VCall.intro (fF ⟨7,3,[1,0,0,0,0,0,2,1,0,3,0,3,0,2,1,0,0,0,0,0,2]⟩ v 10 [0,1,2,3,4,5,-1,0,1,2,4,6,6,-1,0,1,2,3,4,5,-1] _) ?_;conv=>whnf)|(refine VCall.intro (fO ⟨7,3,[1,0,0,0,0,0,2,1,0,3,0,3,0,2,1,0,0,0,0,0,2]⟩ _) ?_;conv=>whnf))
          refine LEnd.intro 6 (by omega) (by omega) ?_
          conv=>whnf
          refine Retell.turn ⟨[],9,[],[]⟩ (TurnOk.mk' _ _ [] [] (OutOk.lift _) rfl (by decide) zb trivial trivial rfl) zw zm
        · conv=>whnf
          repeat' (first|((first|refine zs1 ?_|refine zs2 ?_|refine zs3 ?_|refine zs4 ?_|refine zs5 ?_);conv=>whnf)|((first|apply zi1|apply zi2|apply zi3|apply zi4|apply zi5) <;> intro _ <;> first|(exfalso;omega)|contradiction|(conv=>whnf)))
          refine VCut.at' (outer:=h.lift) (marks:=[]) 99 [(31,ints smV),(32,I 20),(33,I k),(2,I v),(37,I (6 : Nat)),(3,I (6 : Nat)),(4,.fp [DI 7,DI 3,.sl 1 21 (([1,0,0,0,0,0,2,1,0,3,0,3,0,2,1,0,0,0,0,0,2] : List Int).flatMap Vm.encI)]),(5,.fp [DI 1]),(6,.fp [DI v]),(7,.fs 1 21 (([0,1,2,3,4,5,-1,0,1,2,4,6,6,-1,0,1,2,3,4,5,-1] : List Int).flatMap Vm.encI))] [] ?_ ?_
          · conv=>whnf
            refine Retell.turn ⟨[],20,[(3,([1,0,0,0,0,0,2,1,0,3,0,3,0,2,1,0,0,0,0,0,2] : List Int).flatMap Vm.encI),(0,[DI 7,DI 3,.sl 1 21 (([1,0,0,0,0,0,2,1,0,3,0,3,0,2,1,0,0,0,0,0,2] : List Int).flatMap Vm.encI)]),(1,[DI 1]),(2,[DI v]),(4,([0,1,2,3,4,5,-1,0,1,2,4,6,6,-1,0,1,2,3,4,5,-1] : List Int).flatMap Vm.encI)],[]⟩ (TurnOk.mk' _ _ [(3,([1,0,0,0,0,0,2,1,0,3,0,3,0,2,1,0,0,0,0,0,2] : List Int).flatMap Vm.encI),(0,[DI 7,DI 3,.sl 1 21 (([1,0,0,0,0,0,2,1,0,3,0,3,0,2,1,0,0,0,0,0,2] : List Int).flatMap Vm.encI)]),(1,[DI 1]),(2,[DI v]),(4,([0,1,2,3,4,5,-1,0,1,2,4,6,6,-1,0,1,2,3,4,5,-1] : List Int).flatMap Vm.encI)] [] (OutOk.lift _) rfl (by decide) zb zr trivial rfl) zw zm
          conv=>whnf
          repeat' (first|((first|refine zs1 ?_|refine zs2 ?_|refine zs3 ?_|refine zs4 ?_|refine zs5 ?_);conv=>whnf)|((first|apply zi1|apply zi2|apply zi3|apply zi4|apply zi5) <;> intro _ <;> first|(exfalso;omega)|contradiction|(conv=>whnf))|(refine VCall.intro (fF ⟨7,3,[1,0,0,0,0,0,2,1,0,3,0,3,0,2,1,0,0,0,0,0,2]⟩ 1 v [0,1,2,3,4,5,-1,0,1,2,4,6,6,-1,0,1,2,3,4,5,-1] _) ?_;conv=>whnf)|(refine VCall.intro (fO ⟨7,3,[1,0,0,0,0,0,2,1,0,3,0,3,0,2,1,0,0,0,0,0,2]⟩ _) ?_;conv=>whnf))
          refine LEnd.intro 7 (by omega) (by omega) ?_
          conv=>whnf
          refine Retell.turn ⟨[],9,[],[]⟩ (TurnOk.mk' _ _ [] [] (OutOk.lift _) rfl (by decide) zb trivial trivial rfl) zw zm
        · conv=>whnf
          repeat' (first|((first|refine zs1 ?_|refine zs2 ?_|refine zs3 ?_|refine zs4 ?_|refine zs5 ?_);conv=>whnf)|((first|apply zi1|apply zi2|apply zi3|apply zi4|apply zi5) <;> intro _ <;> first|(exfalso;omega)|contradiction|(conv=>whnf)))
          refine VCut.at' (outer:=h.lift) (marks:=[]) 99 [(31,ints smV),(32,I 20),(33,I k),(2,I v),(37,I (7 : Nat)),(3,I (7 : Nat)),(4,.fp [DI 7,DI 3,.sl 1 21 (([1,0,0,0,0,0,2,1,0,3,0,3,0,2,1,0,0,0,0,0,2] : List Int).flatMap Vm.encI)]),(5,.fp [DI 1]),(6,.fp [DI 10]),(7,.fs 1 21 (([0,1,2,3,4,5,-1,0,1,2,4,6,v,-1,0,1,2,3,4,5,-1] : List Int).flatMap Vm.encI))] [] ?_ ?_
          · conv=>whnf
            refine Retell.turn ⟨[],20,[(3,([1,0,0,0,0,0,2,1,0,3,0,3,0,2,1,0,0,0,0,0,2] : List Int).flatMap Vm.encI),(0,[DI 7,DI 3,.sl 1 21 (([1,0,0,0,0,0,2,1,0,3,0,3,0,2,1,0,0,0,0,0,2] : List Int).flatMap Vm.encI)]),(1,[DI 1]),(2,[DI 10]),(4,([0,1,2,3,4,5,-1,0,1,2,4,6,v,-1,0,1,2,3,4,5,-1] : List Int).flatMap Vm.encI)],[]⟩ (TurnOk.mk' _ _ [(3,([1,0,0,0,0,0,2,1,0,3,0,3,0,2,1,0,0,0,0,0,2] : List Int).flatMap Vm.encI),(0,[DI 7,DI 3,.sl 1 21 (([1,0,0,0,0,0,2,1,0,3,0,3,0,2,1,0,0,0,0,0,2] : List Int).flatMap Vm.encI)]),(1,[DI 1]),(2,[DI 10]),(4,([0,1,2,3,4,5,-1,0,1,2,4,6,v,-1,0,1,2,3,4,5,-1] : List Int).flatMap Vm.encI)] [] (OutOk.lift _) rfl (by decide) zb zr trivial rfl) zw zm
          conv=>whnf
          repeat' (first|((first|refine zs1 ?_|refine zs2 ?_|refine zs3 ?_|refine zs4 ?_|refine zs5 ?_);conv=>whnf)|((first|apply zi1|apply zi2|apply zi3|apply zi4|apply zi5) <;> intro _ <;> first|(exfalso;omega)|contradiction|(conv=>whnf))|(refine VCall.intro (fF ⟨7,3,[1,0,0,0,0,0,2,1,0,3,0,3,0,2,1,0,0,0,0,0,2]⟩ 1 10 [0,1,2,3,4,5,-1,0,1,2,4,6,v,-1,0,1,2,3,4,5,-1] _) ?_;conv=>whnf)|(refine VCall.intro (fO ⟨7,3,[1,0,0,0,0,0,2,1,0,3,0,3,0,2,1,0,0,0,0,0,2]⟩ _) ?_;conv=>whnf))
          refine LEnd.intro 8 (by omega) (by omega) ?_
          conv=>whnf
          refine Retell.turn ⟨[],9,[],[]⟩ (TurnOk.mk' _ _ [] [] (OutOk.lift _) rfl (by decide) zb trivial trivial rfl) zw zm
        · conv=>whnf
          repeat' (first|((first|refine zs1 ?_|refine zs2 ?_|refine zs3 ?_|refine zs4 ?_|refine zs5 ?_);conv=>whnf)|((first|apply zi1|apply zi2|apply zi3|apply zi4|apply zi5) <;> intro _ <;> first|(exfalso;omega)|contradiction|(conv=>whnf)))
          refine VCut.at' (outer:=h.lift) (marks:=[]) 99 [(31,ints smV),(32,I 20),(33,I k),(2,I v),(37,I (8 : Nat)),(3,I (8 : Nat)),(4,.fp [DI 7,DI 3,.sl 1 21 (([1,0,0,0,0,0,2,1,0,3,0,3,0,2,1,0,0,0,0,0,2] : List Int).flatMap Vm.encI)]),(5,.fp [DI 1]),(6,.fp [DI 10]),(7,.fs 1 21 (([0,1,2,3,4,5,-1,0,1,2,4,v,6,-1,0,1,2,3,4,5,-1] : List Int).flatMap Vm.encI))] [] ?_ ?_
          · conv=>whnf
            refine Retell.turn ⟨[],20,[(3,([1,0,0,0,0,0,2,1,0,3,0,3,0,2,1,0,0,0,0,0,2] : List Int).flatMap Vm.encI),(0,[DI 7,DI 3,.sl 1 21 (([1,0,0,0,0,0,2,1,0,3,0,3,0,2,1,0,0,0,0,0,2] : List Int).flatMap Vm.encI)]),(1,[DI 1]),(2,[DI 10]),(4,([0,1,2,3,4,5,-1,0,1,2,4,v,6,-1,0,1,2,3,4,5,-1] : List Int).flatMap Vm.encI)],[]⟩ (TurnOk.mk' _ _ [(3,([1,0,0,0,0,0,2,1,0,3,0,3,0,2,1,0,0,0,0,0,2] : List Int).flatMap Vm.encI),(0,[DI 7,DI 3,.sl 1 21 (([1,0,0,0,0,0,2,1,0,3,0,3,0,2,1,0,0,0,0,0,2] : List Int).flatMap Vm.encI)]),(1,[DI 1]),(2,[DI 10]),(4,([0,1,2,3,4,5,-1,0,1,2,4,v,6,-1,0,1,2,3,4,5,-1] : List Int).flatMap Vm.encI)] [] (OutOk.lift _) rfl (by decide) zb zr trivial rfl) zw zm
          conv=>whnf
          repeat' (first|((first|refine zs1 ?_|refine zs2 ?_|refine zs3 ?_|refine zs4 ?_|refine zs5 ?_);conv=>whnf)|((first|apply zi1|apply zi2|apply zi3|apply zi4|apply zi5) <;> intro _ <;> first|(exfalso;omega)|contradiction|(conv=>whnf))|(refine VCall.intro (fF ⟨7,3,[1,0,0,0,0,0,2,1,0,3,0,3,0,2,1,0,0,0,0,0,2]⟩ 1 10 [0,1,2,3,4,5,-1,0,1,2,4,v,6,-1,0,1,2,3,4,5,-1] _) ?_;conv=>whnf)|(refine VCall.intro (fO ⟨7,3,[1,0,0,0,0,0,2,1,0,3,0,3,0,2,1,0,0,0,0,0,2]⟩ _) ?_;conv=>whnf))
          refine LEnd.intro 9 (by omega) (by omega) ?_
          conv=>whnf
          refine Retell.turn ⟨[],9,[],[]⟩ (TurnOk.mk' _ _ [] [] (OutOk.lift _) rfl (by decide) zb trivial trivial rfl) zw zm
        · conv=>whnf
          repeat' (first|((first|refine zs1 ?_|refine zs2 ?_|refine zs3 ?_|refine zs4 ?_|refine zs5 ?_);conv=>whnf)|((first|apply zi1|apply zi2|apply zi3|apply zi4|apply zi5) <;> intro _ <;> first|(exfalso;omega)|contradiction|(conv=>whnf)))
          refine VCut.at' (outer:=h.lift) (marks:=[]) 99 [(31,ints smV),(32,I 20),(33,I k),(2,I v),(37,I (9 : Nat)),(3,I (9 : Nat)),(8,.fs 3 3 [DI 7,DI 1,.sl 1 7 (cA.flatMap Vm.encI),DI 7,DI 1,.sl 1 7 (([1,v,0,0,0,0,2] : List Int).flatMap Vm.encI),DI 7,DI 1,.sl 1 7 (cE.flatMap Vm.encI)]),(9,.fp [DI 2]),(10,.fp [DI 1]),(11,.fp [DI 3]),(12,.fp [DI 1])] [] ?_ ?_
          · conv=>whnf
            refine Retell.turn ⟨[],20,[(6,([1,v,0,0,0,0,2] : List Int).flatMap Vm.encI),(5,[DI 7,DI 1,.sl 1 7 (cA.flatMap Vm.encI),DI 7,DI 1,.sl 1 7 (([1,v,0,0,0,0,2] : List Int).flatMap Vm.encI),DI 7,DI 1,.sl 1 7 (cE.flatMap Vm.encI)]),(7,[DI 2]),(8,[DI 1]),(9,[DI 3]),(10,[DI 1])],[]⟩ (TurnOk.mk' _ _ [(6,([1,v,0,0,0,0,2] : List Int).flatMap Vm.encI),(5,[DI 7,DI 1,.sl 1 7 (cA.flatMap Vm.encI),DI 7,DI 1,.sl 1 7 (([1,v,0,0,0,0,2] : List Int).flatMap Vm.encI),DI 7,DI 1,.sl 1 7 (cE.flatMap Vm.encI)]),(7,[DI 2]),(8,[DI 1]),(9,[DI 3]),(10,[DI 1])] [] (OutOk.lift _) rfl (by decide) zb zr trivial rfl) zw zm
          have cY:=fun h=>fY [⟨7,1,cA⟩,⟨7,1,[1,v,0,0,0,0,2]⟩,⟨7,1,cE⟩] 2 1 3 1 h
          conv=>whnf
          repeat' (first|((first|refine zs1 ?_|refine zs2 ?_|refine zs3 ?_|refine zs4 ?_|refine zs5 ?_);conv=>whnf)|((first|apply zi1|apply zi2|apply zi3|apply zi4|apply zi5) <;> intro _ <;> first|(exfalso;omega)|contradiction|(conv=>whnf))|(refine VCall.intro (cY _) ?_;conv=>whnf))
          refine LEnd.intro 10 (by omega) (by omega) ?_
          conv=>whnf
          refine Retell.turn ⟨[],9,[],[]⟩ (TurnOk.mk' _ _ [] [] (OutOk.lift _) rfl (by decide) zb trivial trivial rfl) zw zm
        · conv=>whnf
          repeat' (first|((first|refine zs1 ?_|refine zs2 ?_|refine zs3 ?_|refine zs4 ?_|refine zs5 ?_);conv=>whnf)|((first|apply zi1|apply zi2|apply zi3|apply zi4|apply zi5) <;> intro _ <;> first|(exfalso;omega)|contradiction|(conv=>whnf)))
          refine VCut.at' (outer:=h.lift) (marks:=[]) 99 [(31,ints smV),(32,I 20),(33,I k),(2,I v),(37,I (10 : Nat)),(3,I (10 : Nat)),(8,.fs 3 3 [DI 7,DI 1,.sl 1 7 (cA.flatMap Vm.encI),DI 7,DI 1,.sl 1 7 (([1,1,0,0,0,0,2] : List Int).flatMap Vm.encI),DI 7,DI 1,.sl 1 7 (cE.flatMap Vm.encI)]),(9,.fp [DI v]),(10,.fp [DI 1]),(11,.fp [DI 3]),(12,.fp [DI 1])] [] ?_ ?_
          · conv=>whnf
            refine Retell.turn ⟨[],20,[(6,([1,1,0,0,0,0,2] : List Int).flatMap Vm.encI),(5,[DI 7,DI 1,.sl 1 7 (cA.flatMap Vm.encI),DI 7,DI 1,.sl 1 7 (([1,1,0,0,0,0,2] : List Int).flatMap Vm.encI),DI 7,DI 1,.sl 1 7 (cE.flatMap Vm.encI)]),(7,[DI v]),(8,[DI 1]),(9,[DI 3]),(10,[DI 1])],[]⟩ (TurnOk.mk' _ _ [(6,([1,1,0,0,0,0,2] : List Int).flatMap Vm.encI),(5,[DI 7,DI 1,.sl 1 7 (cA.flatMap Vm.encI),DI 7,DI 1,.sl 1 7 (([1,1,0,0,0,0,2] : List Int).flatMap Vm.encI),DI 7,DI 1,.sl 1 7 (cE.flatMap Vm.encI)]),(7,[DI v]),(8,[DI 1]),(9,[DI 3]),(10,[DI 1])] [] (OutOk.lift _) rfl (by decide) zb zr trivial rfl) zw zm
          have cY:=fun h=>fY [⟨7,1,cA⟩,⟨7,1,[1,1,0,0,0,0,2]⟩,⟨7,1,cE⟩] v 1 3 1 h
          conv=>whnf
          repeat' (first|((first|refine zs1 ?_|refine zs2 ?_|refine zs3 ?_|refine zs4 ?_|refine zs5 ?_);conv=>whnf)|((first|apply zi1|apply zi2|apply zi3|apply zi4|apply zi5) <;> intro _ <;> first|(exfalso;omega)|contradiction|(conv=>whnf))|(refine VCall.intro (cY _) ?_;conv=>whnf))
          refine LEnd.intro 11 (by omega) (by omega) ?_
          conv=>whnf
          refine Retell.turn ⟨[],9,[],[]⟩ (TurnOk.mk' _ _ [] [] (OutOk.lift _) rfl (by decide) zb trivial trivial rfl) zw zm
        · conv=>whnf
          repeat' (first|((first|refine zs1 ?_|refine zs2 ?_|refine zs3 ?_|refine zs4 ?_|refine zs5 ?_);conv=>whnf)|((first|apply zi1|apply zi2|apply zi3|apply zi4|apply zi5) <;> intro _ <;> first|(exfalso;omega)|contradiction|(conv=>whnf)))
          refine VCut.at' (outer:=h.lift) (marks:=[]) 99 [(31,ints smV),(32,I 20),(33,I k),(2,I v),(37,I (11 : Nat)),(3,I (11 : Nat)),(8,.fs 3 3 [DI 7,DI 1,.sl 1 7 (cA.flatMap Vm.encI),DI 7,DI 1,.sl 1 7 (([1,1,0,0,0,0,2] : List Int).flatMap Vm.encI),DI 7,DI 1,.sl 1 7 (cE.flatMap Vm.encI)]),(9,.fp [DI 2]),(10,.fp [DI v]),(11,.fp [DI 3]),(12,.fp [DI 1])] [] ?_ ?_
          · conv=>whnf
            refine Retell.turn ⟨[],20,[(6,([1,1,0,0,0,0,2] : List Int).flatMap Vm.encI),(5,[DI 7,DI 1,.sl 1 7 (cA.flatMap Vm.encI),DI 7,DI 1,.sl 1 7 (([1,1,0,0,0,0,2] : List Int).flatMap Vm.encI),DI 7,DI 1,.sl 1 7 (cE.flatMap Vm.encI)]),(7,[DI 2]),(8,[DI v]),(9,[DI 3]),(10,[DI 1])],[]⟩ (TurnOk.mk' _ _ [(6,([1,1,0,0,0,0,2] : List Int).flatMap Vm.encI),(5,[DI 7,DI 1,.sl 1 7 (cA.flatMap Vm.encI),DI 7,DI 1,.sl 1 7 (([1,1,0,0,0,0,2] : List Int).flatMap Vm.encI),DI 7,DI 1,.sl 1 7 (cE.flatMap Vm.encI)]),(7,[DI 2]),(8,[DI v]),(9,[DI 3]),(10,[DI 1])] [] (OutOk.lift _) rfl (by decide) zb zr trivial rfl) zw zm
          have cY:=fun h=>fY [⟨7,1,cA⟩,⟨7,1,[1,1,0,0,0,0,2]⟩,⟨7,1,cE⟩] 2 v 3 1 h
          conv=>whnf
          repeat' (first|((first|refine zs1 ?_|refine zs2 ?_|refine zs3 ?_|refine zs4 ?_|refine zs5 ?_);conv=>whnf)|((first|apply zi1|apply zi2|apply zi3|apply zi4|apply zi5) <;> intro _ <;> first|(exfalso;omega)|contradiction|(conv=>whnf))|(refine VCall.intro (cY _) ?_;conv=>whnf))
          refine LEnd.intro 12 (by omega) (by omega) ?_
          conv=>whnf
          refine Retell.turn ⟨[],9,[],[]⟩ (TurnOk.mk' _ _ [] [] (OutOk.lift _) rfl (by decide) zb trivial trivial rfl) zw zm
        · conv=>whnf
          repeat' (first|((first|refine zs1 ?_|refine zs2 ?_|refine zs3 ?_|refine zs4 ?_|refine zs5 ?_);conv=>whnf)|((first|apply zi1|apply zi2|apply zi3|apply zi4|apply zi5) <;> intro _ <;> first|(exfalso;omega)|contradiction|(conv=>whnf)))
          refine VCut.at' (outer:=h.lift) (marks:=[]) 99 [(31,ints smV),(32,I 20),(33,I k),(2,I v),(37,I (12 : Nat)),(3,I (12 : Nat)),(8,.fs 3 3 [DI 7,DI 1,.sl 1 7 (cA.flatMap Vm.encI),DI 7,DI 1,.sl 1 7 (([1,1,0,0,0,0,2] : List Int).flatMap Vm.encI),DI 7,DI 1,.sl 1 7 (cE.flatMap Vm.encI)]),(9,.fp [DI 2]),(10,.fp [DI 1]),(11,.fp [DI v]),(12,.fp [DI 1])] [] ?_ ?_
          · conv=>whnf
            refine Retell.turn ⟨[],20,[(6,([1,1,0,0,0,0,2] : List Int).flatMap Vm.encI),(5,[DI 7,DI 1,.sl 1 7 (cA.flatMap Vm.encI),DI 7,DI 1,.sl 1 7 (([1,1,0,0,0,0,2] : List Int).flatMap Vm.encI),DI 7,DI 1,.sl 1 7 (cE.flatMap Vm.encI)]),(7,[DI 2]),(8,[DI 1]),(9,[DI v]),(10,[DI 1])],[]⟩ (TurnOk.mk' _ _ [(6,([1,1,0,0,0,0,2] : List Int).flatMap Vm.encI),(5,[DI 7,DI 1,.sl 1 7 (cA.flatMap Vm.encI),DI 7,DI 1,.sl 1 7 (([1,1,0,0,0,0,2] : List Int).flatMap Vm.encI),DI 7,DI 1,.sl 1 7 (cE.flatMap Vm.encI)]),(7,[DI 2]),(8,[DI 1]),(9,[DI v]),(10,[DI 1])] [] (OutOk.lift _) rfl (by decide) zb zr trivial rfl) zw zm
          have cY:=fun h=>fY [⟨7,1,cA⟩,⟨7,1,[1,1,0,0,0,0,2]⟩,⟨7,1,cE⟩] 2 1 v 1 h
          conv=>whnf
          repeat' (first|((first|refine zs1 ?_|refine zs2 ?_|refine zs3 ?_|refine zs4 ?_|refine zs5 ?_);conv=>whnf)|((first|apply zi1|apply zi2|apply zi3|apply zi4|apply zi5) <;> intro _ <;> first|(exfalso;omega)|contradiction|(conv=>whnf))|(refine VCall.intro (cY _) ?_;conv=>whnf))
          refine LEnd.intro 13 (by omega) (by omega) ?_
          conv=>whnf
          refine Retell.turn ⟨[],9,[],[]⟩ (TurnOk.mk' _ _ [] [] (OutOk.lift _) rfl (by decide) zb trivial trivial rfl) zw zm
        · conv=>whnf
          repeat' (first|((first|refine zs1 ?_|refine zs2 ?_|refine zs3 ?_|refine zs4 ?_|refine zs5 ?_);conv=>whnf)|((first|apply zi1|apply zi2|apply zi3|apply zi4|apply zi5) <;> intro _ <;> first|(exfalso;omega)|contradiction|(conv=>whnf)))
          refine VCut.at' (outer:=h.lift) (marks:=[]) 99 [(31,ints smV),(32,I 20),(33,I k),(2,I v),(37,I (13 : Nat)),(3,I (13 : Nat)),(8,.fs 3 3 [DI 7,DI 1,.sl 1 7 (cA.flatMap Vm.encI),DI 7,DI 1,.sl 1 7 (([1,1,0,0,0,0,2] : List Int).flatMap Vm.encI),DI 7,DI 1,.sl 1 7 (cE.flatMap Vm.encI)]),(9,.fp [DI 2]),(10,.fp [DI 1]),(11,.fp [DI 3]),(12,.fp [DI v])] [] ?_ ?_
          · conv=>whnf
            refine Retell.turn ⟨[],20,[(6,([1,1,0,0,0,0,2] : List Int).flatMap Vm.encI),(5,[DI 7,DI 1,.sl 1 7 (cA.flatMap Vm.encI),DI 7,DI 1,.sl 1 7 (([1,1,0,0,0,0,2] : List Int).flatMap Vm.encI),DI 7,DI 1,.sl 1 7 (cE.flatMap Vm.encI)]),(7,[DI 2]),(8,[DI 1]),(9,[DI 3]),(10,[DI v])],[]⟩ (TurnOk.mk' _ _ [(6,([1,1,0,0,0,0,2] : List Int).flatMap Vm.encI),(5,[DI 7,DI 1,.sl 1 7 (cA.flatMap Vm.encI),DI 7,DI 1,.sl 1 7 (([1,1,0,0,0,0,2] : List Int).flatMap Vm.encI),DI 7,DI 1,.sl 1 7 (cE.flatMap Vm.encI)]),(7,[DI 2]),(8,[DI 1]),(9,[DI 3]),(10,[DI v])] [] (OutOk.lift _) rfl (by decide) zb zr trivial rfl) zw zm
          have cY:=fun h=>fY [⟨7,1,cA⟩,⟨7,1,[1,1,0,0,0,0,2]⟩,⟨7,1,cE⟩] 2 1 3 v h
          conv=>whnf
          repeat' (first|((first|refine zs1 ?_|refine zs2 ?_|refine zs3 ?_|refine zs4 ?_|refine zs5 ?_);conv=>whnf)|((first|apply zi1|apply zi2|apply zi3|apply zi4|apply zi5) <;> intro _ <;> first|(exfalso;omega)|contradiction|(conv=>whnf))|(refine VCall.intro (cY _) ?_;conv=>whnf))
          refine LEnd.intro 14 (by omega) (by omega) ?_
          conv=>whnf
          refine Retell.turn ⟨[],9,[],[]⟩ (TurnOk.mk' _ _ [] [] (OutOk.lift _) rfl (by decide) zb trivial trivial rfl) zw zm
      · obtain rfl : i = 14:=by omega
        conv=>whnf
        repeat' (first|((first|refine zs1 ?_|refine zs2 ?_|refine zs3 ?_|refine zs4 ?_|refine zs5 ?_);conv=>whnf)|((first|apply zi1|apply zi2|apply zi3|apply zi4|apply zi5) <;> intro _ <;> first|(exfalso;omega)|contradiction|(conv=>whnf)))
        refine LEnd.intro (k + 1) (by omega) (by omega) ?_
        conv=>whnf
        refine Retell.turn ⟨[],9,[],[]⟩ (TurnOk.mk' _ _ [] [] (OutOk.lift _) rfl (by decide) zb trivial trivial rfl) zw zm
    · obtain rfl : k = 20:=by omega
      conv=>whnf
      repeat' (first|((first|refine zs1 ?_|refine zs2 ?_|refine zs3 ?_|refine zs4 ?_|refine zs5 ?_);conv=>whnf)|((first|apply zi1|apply zi2|apply zi3|apply zi4|apply zi5) <;> intro _ <;> first|(exfalso;omega)|contradiction|(conv=>whnf)))
      refine VCut.at' (outer:=h.lift) (marks:=[]) 0 [] [] ?_ (sm2 h)
      conv=>whnf
      refine Retell.turn ⟨[],9,[],[]⟩ (TurnOk.mk' _ _ [] [] (OutOk.lift _) rfl (by decide) zb trivial trivial rfl) zw zm
theorem vc_RiverSmall (h : Hp) : VC Tryz.prog 4 [] h (B true) h:=by
  refine VC.bodyC 1 Tryz.func4 rfl Tryz.ntmps4 Tryz.call4 (h.grows_refl) rfl ?_
  conv=>whnf
  repeat' (first|((first|refine zs1 ?_|refine zs2 ?_|refine zs3 ?_|refine zs4 ?_|refine zs5 ?_);conv=>whnf)|((first|apply zi1|apply zi2|apply zi3|apply zi4|apply zi5) <;> intro _ <;> first|(exfalso;omega)|contradiction|(conv=>whnf)))
  refine VCut.at' (outer:=h.lift) (marks:=[]) 0 [] [] ?_ (sm1 h)
  conv=>whnf
  refine Retell.turn ⟨[],9,[],[]⟩ (TurnOk.mk' _ _ [] [] (OutOk.lift _) rfl (by decide) zb trivial trivial rfl) zw zm
end Go.Proofs.YtkbbfeljlepgoaaGreat


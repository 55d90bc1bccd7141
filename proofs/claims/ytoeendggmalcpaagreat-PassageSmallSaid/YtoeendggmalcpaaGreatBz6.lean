/- Part 6 of the proof that small nets are as the given statement says. No condition. -/
import Derived.Test.YtoeendggmalcpaaGreatBz5
set_option linter.unusedVariables false
set_option linter.unusedSimpArgs false
open Go.Vm
open Psg
namespace Go.Proofs.YtoeendggmalcpaaGreat
set_option maxRecDepth 20000
set_option maxHeartbeats 4000000

structure Hold2 (R : Prop) : Prop where
  out : R
theorem suffices2_ {R G : Prop} (main : Hold2 R → G) (rest : R) : G:=main ⟨rest⟩
def remE (w : Wy) (i : Nat) (es : List Eg) : Nat → List Eg
  | 0=>⟨w,i,true⟩ :: ⟨w,i,false⟩ :: es
  | 1=>⟨w,i,false⟩ :: es
  | _=>es
theorem egs_drop {ws : List Wy} {i : Nat} {w : Wy} (h : ws[i]? = some w) : egs (ws.drop i) i = remE w i (egs (ws.drop (i + 1)) (i + 1)) 0:=by
  obtain ⟨hlt,rfl⟩:=List.getElem?_eq_some_iff.1 h
  rw [List.drop_eq_getElem_cons hlt,egs];rfl
structure PO (N : Nt) (gls hs : List Int) (c s hI mC pC mid : Vm.Id) (m : Nat) (O : Vm.Id → Option Blk) : Prop where
  c1 : ∀ loc,(⟨O,loc⟩ : Hp).get (.out c) = some (.cells true [.ptr (.out s) 0])
  s1 : ∀ loc,(⟨O,loc⟩ : Hp).get (.out s) = some (.cells true [I N.p,wys N.ws,.gl (.out hI) 1 hs.length])
  h1 : ∀ loc,(⟨O,loc⟩ : Hp).get (.out hI) = some (.flat true (hs.flatMap encI))
  m1 : ∀ loc,(⟨O,loc⟩ : Hp).get (.out mC) = some (.cells true [.gl mid 1 m])
  p1 : ∀ loc,(⟨O,loc⟩ : Hp).get (.out pC) = some (.cells true [vPush gls (.out c) (.out mC) (.out pC)])
theorem poA {N : Nt} {gls hs met : List Int} {c s hI mC mL pC : Vm.Id} {h : Hp} (h7 : PM N gls hs met c s hI mC mL pC h) : PO N gls hs c s hI mC pC (.out mL) met.length h.lift :=
  ⟨fun loc=>get_out h7.c0 loc,fun loc=>get_out h7.s0 loc,fun loc=>get_out h7.h0 loc,fun loc=>get_out h7.m0 loc,fun loc=>get_out h7.p0 loc⟩
theorem poB {N : Nt} {gls hs met : List Int} {c s hI mC mL pC : Vm.Id} {h : Hp} (h7 : PM N gls hs met c s hI mC mL pC h) (h8 : Dj c s hI mC mL pC) (m : Nat) : PO N gls hs c s hI mC pC (.loc 0) m (oB h mL mC m) :=
  ⟨fun loc=>get_outNe h8.cm (get_outNe h8.cl (get_out h7.c0 loc)),fun loc=>get_outNe h8.sm (get_outNe h8.sl (get_out h7.s0 loc)),fun loc=>get_outNe h8.hm (get_outNe h8.hl (get_out h7.h0 loc)),
    fun loc=>outW_get _ _ _ _,fun loc=>get_outNe h8.pm (get_outNe h8.pl (get_out h7.p0 loc))⟩
def oM (h : Hp) (mL mC : Vm.Id) (met met' : List Int) : Vm.Id → Option Blk:=if met' = met then h.lift else oB h mL mC met'.length
def lM (met met' : List Int) : List Blk:=if met' = met then [] else [.flat true (met'.flatMap encI)]
theorem vout_push {h : Hp} {hI mC mL : Vm.Id} {met : List Int} {R : R3} (j L : Nat) {loc : List Blk} {outer : Vm.Id → Option Blk} (hne : ¬ R.2.2 = met) (h1 : h.get mL ≠ none) (h2 : h.get mC ≠ none) (h3 : h.get hI ≠ none) (hloc : loc[j]? = some (.flat true (R.2.2.flatMap encI))) (hL : Nat.ble loc.length L = true)
    (ho : outer = setsO h.lift [(mL,.dead),(mC,.cells true [.gl (.loc j) 1 R.2.2.length]),(hI,.flat true (R.2.1.flatMap encI))]) : VOut h ⟨outer,loc⟩ (I R.1) (I R.1) (effP h hI mC mL met R):=by
  rw [effP,if_neg hne]
  refine VOut.upd (h:=h) (r1:=I R.1) (r:=I R.1) (upP h hI mC mL R) [.flat true (R.2.2.flatMap encI)] [j] L hL ?_ (by simp) rfl ?_ (fun σ x hx=>hx) ?_
  · intro p hp
    simp only [upP,List.mem_cons,List.not_mem_nil,or_false] at hp
    rcases hp with rfl|rfl|rfl
    · exact h1
    · exact h2
    · exact h3
  · intro k b hk
    cases k with
    | zero=>rw [List.getElem?_cons_zero,Option.some.injEq] at hk;subst hk;exact ⟨j,rfl,hloc⟩
    | succ k=>simp at hk
  · have e1 : (Blk.cells true [V.gl h.fresh 1 R.2.2.length]).ren (backR h.loc.length [j] L) = .cells true [.gl (.loc j) 1 R.2.2.length]:=by simp [Blk.ren,V.ren,backR,Hp.fresh]
    rw [ho]
    simp only [upP,List.map_cons,List.map_nil,e1]
    rfl
theorem vc_push {n : Nat} {gls : List Int} {N : Nt} (hN : NOk n N) (hg : gls.length ≤ 4000000) : ∀ (k : Nat) (p most : Int) (hs met : List Int) (c s hI mC mL pC : Vm.Id) (h : Hp),p ∈ met → Mt n met → 1 ≤ most → most ≤ 24000 → Bnd N.ws hs → n + 1 ≤ met.length + k →
    PM N gls hs met c s hI mC mL pC h → Dj c s hI mC mL pC → VC Tryz.prog 89 [I p,I most,.fp [dints gls],.ptr c 0,.ptr mC 0,.ptr pC 0] h (I (push gls N.ws k p most hs met).1) (effP h hI mC mL met (push gls N.ws k p most hs met))
  | 0,p,most,hs,met,c,s,hI,mC,mL,pC,h,h1,h2,h3,h4,h5,h6,h7,h8=>absurd h2.len (by omega)
  | k + 1,p,most,hs,met,c,s,hI,mC,mL,pC,h,h1,h2,h3,h4,h5,h6,h7,h8=>by
    have hInN:=hN.inN
    have hn1:=hN.n1
    have hwl:=hN.len
    have IH:=fun p most hs met c s hI mC mL pC h=>vc_push hN hg k p most hs met c s hI mC mL pC h
    have hG:=push_ok (gls:=gls) hInN k
    have hml:=h2.len
    have hhl:=h5.len
    obtain ⟨R,hR⟩ : ∃ R,R = push gls N.ws (k + 1) p most hs met:=⟨_,rfl⟩
    rw [← hR]
    have hgrow : h.grows (effP h hI mC mL met R):=by
      unfold effP
      split
      · exact h.grows_refl
      · refine Hp.grows_sets fun e he=>?_
        simp only [upP,List.mem_cons,List.not_mem_nil,or_false] at he
        rcases he with rfl|rfl|rfl <;> simp only
        · rw [h7.l0];simp
        · rw [h7.m0];simp
        · rw [h7.h0];simp
    have cP:=fun h=>vc_ContI gls p h hg
    rw [push] at hR
    by_cases hpg : p ∈ gls
    · rw [if_pos hpg] at hR
      subst hR
      rw [decide_eq_true hpg] at cP
      have e : effP h hI mC mL met (most,hs,met) = h:=by unfold effP;rw [if_pos rfl]
      rw [e] at hgrow ⊢
      refine VC.body Tryz.func89 rfl Tryz.ntmps89 Tryz.call89 hgrow rfl ?_
      conv=>whnf
      repeat' (first|((first|refine zs1 ?_|refine zs2 ?_|refine zs3 ?_|refine zs4 ?_|refine zs5 ?_);conv=>whnf)|((first|apply zi1|apply zi2|apply zi3|apply zi4|apply zi5) <;> intro _ <;> conv=>whnf)|(refine VCall.intro (cP _) ?_;conv=>whnf))
      exact VOut.same rfl
    · rw [if_neg hpg] at hR
      rw [decide_eq_false hpg] at cP
      have hsame:=pushL_same hInN hG h1 h3 h5 (by omega) h2 (egs N.ws 0) (fun e he=>he)
      have hPR:=pushL_ok hInN hG h1 hpg h3 h5 (by omega) (egs N.ws 0) met (fun e he=>he) (List.prefix_refl _) h2 (fun e he hne=>absurd he hne) (fun q hq hq0=>absurd hq hq0)
      rw [← hR] at hsame hPR
      refine VC.body Tryz.func89 rfl Tryz.ntmps89 Tryz.call89 hgrow rfl ?_
      conv=>whnf
      repeat' (first|((first|refine zs1 ?_|refine zs2 ?_|refine zs3 ?_|refine zs4 ?_|refine zs5 ?_);conv=>whnf)|((first|apply zi1|apply zi2|apply zi3|apply zi4|apply zi5) <;> intro _ <;> conv=>whnf)|(refine VCall.intro (cP _) ?_;conv=>whnf)|(refine VLd.cell rfl rfl (get_out h7.c0 _) rfl ?_;conv=>whnf)|(refine VLd.cell rfl rfl (get_out h7.s0 _) rfl ?_;conv=>whnf))
      refine VCode.lpoC (marks:=[]) 99 (fun y : Nat × List Int=>[(0,I p),(1,I most),(2,.fp [dints gls]),(3,.ptr (.out c) 0),(4,.ptr (.out mC) 0),(5,.ptr (.out pC) 0),(9,I 0),(24,wys N.ws),(25,I N.ws.length),(26,I y.1)]) (fun y=>oM h mL mC met y.2) (fun y=>lM met y.2) (fun y=>y.1 ≤ N.ws.length ∧ met <+: y.2 ∧ Mt n y.2 ∧ R = pushL (push gls N.ws k) p most (egs (N.ws.drop y.1) y.1) hs y.2) (fun y=>N.ws.length - y.1) (0,met) ⟨Nat.zero_le _,List.prefix_refl _,h2,hR⟩ ?_ ?_
      · rw [show oM h mL mC met met = h.lift from if_pos rfl,show lM met met = [] from if_pos rfl]
        conv=>whnf
        refine Retell.turn ⟨[],0,[],[]⟩ (TurnOk.mk' _ _ [] [] (OutOk.lift _) rfl (by decide) zb trivial trivial rfl) zw zm
      · rintro ⟨i,met'⟩ ⟨a1,a2,a3,a4⟩
        dsimp only at a1 a2 a3 a4 ⊢
        rcases Nat.lt_or_ge i N.ws.length with hi|hi
        · have hw : N.ws[i]? = some N.ws[i]:=List.getElem?_eq_getElem hi
          have hwo:=hN.ws N.ws[i] (List.getElem_mem hi)
          rw [egs_drop hw] at a4
          generalize N.ws[i] = w at hw hwo a4
          apply suffices2_
          · intro hrest
            by_cases hm : met' = met
            · rw [show oM h mL mC met met' = h.lift from if_pos hm,show lM met met' = [] from if_pos hm]
              conv=>whnf
              repeat' (first|((first|refine zs1 ?_|refine zs2 ?_|refine zs3 ?_|refine zs4 ?_|refine zs5 ?_);conv=>whnf)|((first|apply zi1|apply zi2|apply zi3|apply zi4|apply zi5) <;> intro _ <;> conv=>whnf)|(refine VAny.ix encWy_len i rfl rfl hw ?_;conv=>whnf)|(refine VCall.intro (vc_dirs _) ?_;conv=>whnf))
              all_goals try (exfalso;omega)
              refine VCode.lpoC (marks:=[]) 2 (fun y : Nat × List Int=>[(0,I p),(1,I most),(2,.fp [dints gls]),(3,.ptr (.out c) 0),(4,.ptr (.out mC) 0),(5,.ptr (.out pC) 0),(9,I 0),(24,wys N.ws),(25,I N.ws.length),(10,I i),(11,.fp (encWy w)),(26,I i),(31,dirsV),(32,I y.1)]) (fun y=>oM h mL mC met y.2) (fun y=>lM met y.2) (fun y=>y.1 ≤ 2 ∧ met <+: y.2 ∧ Mt n y.2 ∧ R = pushL (push gls N.ws k) p most (remE w i (egs (N.ws.drop (i + 1)) (i + 1)) y.1) hs y.2) (fun y=>2 - y.1) (0,met') ⟨Nat.zero_le _,a2,a3,a4⟩ ?_ hrest.out
              dsimp only
              rw [show oM h mL mC met met' = h.lift from if_pos hm,show lM met met' = [] from if_pos hm]
              conv=>whnf
              refine Retell.turn ⟨[],1,[(0,encWy w)],[]⟩ (TurnOk.mk' _ _ [(0,encWy w)] [] (OutOk.lift _) rfl (by decide) zb zf trivial rfl) zw zm
            · rw [show oM h mL mC met met' = oB h mL mC met'.length from if_neg hm,show lM met met' = [.flat true (met'.flatMap encI)] from if_neg hm]
              conv=>whnf
              repeat' (first|((first|refine zs1 ?_|refine zs2 ?_|refine zs3 ?_|refine zs4 ?_|refine zs5 ?_);conv=>whnf)|((first|apply zi1|apply zi2|apply zi3|apply zi4|apply zi5) <;> intro _ <;> conv=>whnf)|(refine VAny.ix encWy_len i rfl rfl hw ?_;conv=>whnf)|(refine VCall.intro (vc_dirs _) ?_;conv=>whnf))
              all_goals try (exfalso;omega)
              refine VCode.lpoC (marks:=[]) 2 (fun y : Nat × List Int=>[(0,I p),(1,I most),(2,.fp [dints gls]),(3,.ptr (.out c) 0),(4,.ptr (.out mC) 0),(5,.ptr (.out pC) 0),(9,I 0),(24,wys N.ws),(25,I N.ws.length),(10,I i),(11,.fp (encWy w)),(26,I i),(31,dirsV),(32,I y.1)]) (fun y=>oM h mL mC met y.2) (fun y=>lM met y.2) (fun y=>y.1 ≤ 2 ∧ met <+: y.2 ∧ Mt n y.2 ∧ R = pushL (push gls N.ws k) p most (remE w i (egs (N.ws.drop (i + 1)) (i + 1)) y.1) hs y.2) (fun y=>2 - y.1) (0,met') ⟨Nat.zero_le _,a2,a3,a4⟩ ?_ hrest.out
              dsimp only
              rw [show oM h mL mC met met' = oB h mL mC met'.length from if_neg hm,show lM met met' = [.flat true (met'.flatMap encI)] from if_neg hm]
              conv=>whnf
              refine Retell.turnO ⟨[0],2,[(1,encWy w)],[]⟩ (TurnO.mk' _ _ [(1,encWy w)] (turnB (j:=0) rfl) turnBn rfl (by decide) (BTos.flat rfl rfl rfl BTos.nil) zf rfl) zw zm
          · clear a4 a3 a2
            rintro ⟨d,met2⟩ ⟨b1,b2,b3,b4⟩
            dsimp only at b1 b2 b3 b4 ⊢
            generalize hes0 : egs (N.ws.drop (i + 1)) (i + 1) = es at b4 ⊢
            have hxl : i < hs.length:=by omega
            have hx : hs[i]? = some (hs.getD i 0):=by rw [List.getD_eq_getElem?_getD,List.getElem?_eq_getElem hxl];rfl
            have hxb:=h5.at hw hx
            have hwh:=hwo.h
            generalize hs.getD i 0 = x0 at hx hxb
            rcases Nat.lt_or_ge d 2 with hd|hd
            · obtain ⟨fw,hfw,hrem⟩ : ∃ fw : Bool,((d = 0 ∧ fw = true) ∨ (d = 1 ∧ fw = false)) ∧ remE w i es d = ⟨w,i,fw⟩ :: remE w i es (d + 1):=by
                rcases (show d = 0 ∨ d = 1 by omega) with rfl|rfl
                · exact ⟨true,.inl ⟨rfl,rfl⟩,rfl⟩
                · exact ⟨false,.inr ⟨rfl,rfl⟩,rfl⟩
              rw [hrem,pushL] at b4
              have cE:=fun h=>vc_ends fw w i h
              have cR:=fun h=>vc_room fw w i x0 h hwh (by omega)
              have hei : (Eg.mk w i fw).i = i:=rfl
              have hesg : (Eg.mk w i fw).sg = sgD fw:=rfl
              rw [hei,hesg] at b4
              have hxg : hs.getD i 0 = x0:=by rw [List.getD_eq_getElem?_getD,hx];rfl
              rw [hxg] at b4
              have heb : 0 ≤ (Eg.mk w i fw).b ∧ (Eg.mk w i fw).b < n:=by
                have h1:=hwo.f;have h2:=hwo.t
                cases fw
                · exact h1
                · exact h2
              have hrm : (Eg.mk w i fw).room x0 ≤ 1000:=by
                cases fw
                · show x0 ≤ 1000;omega
                · show w.h - x0 ≤ 1000;omega
              generalize (Eg.mk w i fw).a = ea at b4 cE
              generalize (Eg.mk w i fw).b = eb at b4 cE heb
              generalize (Eg.mk w i fw).room x0 = rm at b4 cR hrm
              by_cases htake : ea = p ∧ eb ∉ met2 ∧ 1 ≤ rm
              · rw [if_pos htake] at b4
                have hlen2:=b3.len
                obtain ⟨fv,hfv⟩ : ∃ fv,fv = fw:=⟨_,rfl⟩
                obtain ⟨dv,hdv⟩ : ∃ dv,dv = d:=⟨_,rfl⟩
                obtain ⟨d1,hd1⟩ : ∃ d1,d1 = d + 1:=⟨_,rfl⟩
                rcases hfw with ⟨rfl,rfl⟩|⟨rfl,rfl⟩
                all_goals (
                  apply suffices2_
                  · intro hrest
                    by_cases hm : met2 = met
                    · have po:=poA h7
                      have hmL : ∀ loc,(⟨h.lift,loc⟩ : Hp).get (.out mL) = some (.flat true (met2.flatMap encI)):=fun loc=>by rw [hm];exact get_out h7.l0 loc
                      have cC:=fun loc=>vc_ContG met2 eb (.out mL) ⟨h.lift,loc⟩ (hmL loc) (by omega)
                      rw [← hm] at po
                      rw [show oM h mL mC met met2 = h.lift from if_pos hm,show lM met met2 = [] from if_pos hm]
                      · conv=>whnf
                        repeat' (first|((first|refine zs1 ?_|refine zs2 ?_|refine zs3 ?_|refine zs4 ?_|refine zs5 ?_);conv=>whnf)|((first|apply zi1|apply zi2|apply zi3|apply zi4|apply zi5) <;> intro _ <;> conv=>whnf))
                        all_goals try (exfalso;omega)
                        refine VCut.block 4 ?_
                        conv=>whnf
                        repeat' (first|((first|refine zs1 ?_|refine zs2 ?_|refine zs3 ?_|refine zs4 ?_|refine zs5 ?_);conv=>whnf)|((first|apply zi1|apply zi2|apply zi3|apply zi4|apply zi5) <;> intro _ <;> conv=>whnf)|(refine VCall.intro (cE _) ?_;conv=>whnf))
                        refine zs6 [] ?_
                        conv=>whnf
                        repeat' (first|((first|refine zs1 ?_|refine zs2 ?_|refine zs3 ?_|refine zs4 ?_|refine zs5 ?_);conv=>whnf)|((first|apply zi1|apply zi2|apply zi3|apply zi4|apply zi5) <;> intro _ <;> conv=>whnf)|(refine VCall.intro (cC _) ?_;conv=>whnf)|(refine VCall.intro (cR _) ?_;conv=>whnf)|(refine VLd.cell rfl rfl (po.c1 _) rfl ?_;conv=>whnf)|(refine VLd.cell rfl rfl (po.s1 _) rfl ?_;conv=>whnf)|(refine VLd.cell rfl rfl (po.m1 _) rfl ?_;conv=>whnf)|(refine VLd.cell rfl rfl (po.p1 _) rfl ?_;conv=>whnf)|(refine VLd.recc encI_len i 0 rfl rfl (po.h1 _) hx (by decide) rfl (by show (i : Int).toNat * 1 = i * 1 + 0;omega) ?_;conv=>whnf))
                        all_goals first
                          | (rename_i hh;exact absurd htake.1 hh)
                          | (rename_i hh;exact absurd hh htake.2.1)
                          | (exfalso;omega)
                          | skip
                        refine VMem.app1 (l:=met2) (eb : Int) encI_len rfl (hmL _) rfl rfl rfl (by omega) ?_
                        conv=>whnf
                        repeat' (first|((first|refine zs1 ?_|refine zs2 ?_|refine zs3 ?_|refine zs4 ?_|refine zs5 ?_);conv=>whnf)|((first|apply zi1|apply zi2|apply zi3|apply zi4|apply zi5) <;> intro _ <;> conv=>whnf))
                        refine VMem.st1 rfl rfl rfl (b:=.cells true [.gl (.out mL) 1 met2.length]) (get_outNe h8.ml (po.m1 _)) rfl ?_
                        conv=>whnf
                        refine VCut.atR (marks':=[]) 99 [(0,I p),(1,I most),(2,.fp [dints gls]),(3,.ptr (.out c) 0),(4,.ptr (.out mC) 0),(5,.ptr (.out pC) 0),(9,I 0),(24,wys N.ws),(25,I N.ws.length),(10,I i),(11,.fp (encWy w)),(13,.fp (dirD fv)),(14,I ea),(15,I eb),(26,I i),(31,dirsV),(32,I dv)] (outer:=oB h mL mC (met2 ++ [eb]).length) [.flat true ((met2 ++ [eb]).flatMap encI)] ?_ hrest.out
                        rw [hdv]
                        rw [List.length_append]
                        conv=>whnf
                        refine Retell.turnO ⟨[2],3,[(0,dirD fv)],[]⟩ (TurnO.mk' _ _ [(0,dirD fv)] (turnB (j:=2) rfl) (turnBn) rfl (by decide) (BTos.flat rfl rfl rfl BTos.nil) (by rw [hfv];exact FzAll.flat rfl FzAll.nil) rfl) zw zm
                    · have po:=poB h7 h8 met2.length
                      rw [show oM h mL mC met met2 = oB h mL mC met2.length from if_neg hm,show lM met met2 = [.flat true (met2.flatMap encI)] from if_neg hm]
                      have cC:=fun (h : Hp) (hb : h.get (.loc 0) = some (.flat true (met2.flatMap encI)))=>vc_ContG met2 eb (.loc 0) h hb (by omega)
                      generalize hO : oB h mL mC met2.length = O at po
                      · conv=>whnf
                        repeat' (first|((first|refine zs1 ?_|refine zs2 ?_|refine zs3 ?_|refine zs4 ?_|refine zs5 ?_);conv=>whnf)|((first|apply zi1|apply zi2|apply zi3|apply zi4|apply zi5) <;> intro _ <;> conv=>whnf))
                        all_goals try (exfalso;omega)
                        refine VCut.block 4 ?_
                        conv=>whnf
                        repeat' (first|((first|refine zs1 ?_|refine zs2 ?_|refine zs3 ?_|refine zs4 ?_|refine zs5 ?_);conv=>whnf)|((first|apply zi1|apply zi2|apply zi3|apply zi4|apply zi5) <;> intro _ <;> conv=>whnf)|(refine VCall.intro (cE _) ?_;conv=>whnf))
                        refine zs6 [] ?_
                        conv=>whnf
                        repeat' (first|((first|refine zs1 ?_|refine zs2 ?_|refine zs3 ?_|refine zs4 ?_|refine zs5 ?_);conv=>whnf)|((first|apply zi1|apply zi2|apply zi3|apply zi4|apply zi5) <;> intro _ <;> conv=>whnf)|(refine VCall.intro (cC _ rfl) ?_;conv=>whnf)|(refine VCall.intro (cR _) ?_;conv=>whnf)|(refine VLd.cell rfl rfl (po.c1 _) rfl ?_;conv=>whnf)|(refine VLd.cell rfl rfl (po.s1 _) rfl ?_;conv=>whnf)|(refine VLd.cell rfl rfl (po.m1 _) rfl ?_;conv=>whnf)|(refine VLd.cell rfl rfl (po.p1 _) rfl ?_;conv=>whnf)|(refine VLd.recc encI_len i 0 rfl rfl (po.h1 _) hx (by decide) rfl (by show (i : Int).toNat * 1 = i * 1 + 0;omega) ?_;conv=>whnf))
                        all_goals first
                          | (rename_i hh;exact absurd htake.1 hh)
                          | (rename_i hh;exact absurd hh htake.2.1)
                          | (exfalso;omega)
                          | skip
                        refine VMem.app1 (l:=met2) (eb : Int) encI_len rfl rfl rfl rfl rfl (by omega) ?_
                        conv=>whnf
                        repeat' (first|((first|refine zs1 ?_|refine zs2 ?_|refine zs3 ?_|refine zs4 ?_|refine zs5 ?_);conv=>whnf)|((first|apply zi1|apply zi2|apply zi3|apply zi4|apply zi5) <;> intro _ <;> conv=>whnf))
                        refine VMem.st1 rfl rfl rfl (b:=.cells true [.gl (.loc 0) 1 met2.length]) (po.m1 _) rfl ?_
                        conv=>whnf
                        refine VCut.atR (marks':=[]) 99 [(0,I p),(1,I most),(2,.fp [dints gls]),(3,.ptr (.out c) 0),(4,.ptr (.out mC) 0),(5,.ptr (.out pC) 0),(9,I 0),(24,wys N.ws),(25,I N.ws.length),(10,I i),(11,.fp (encWy w)),(13,.fp (dirD fv)),(14,I ea),(15,I eb),(26,I i),(31,dirsV),(32,I dv)] (outer:=oB h mL mC (met2 ++ [eb]).length) [.flat true ((met2 ++ [eb]).flatMap encI)] ?_ hrest.out
                        rw [hdv]
                        rw [List.length_append]
                        conv=>whnf
                        refine Retell.turnO ⟨[3],4,[(1,dirD fv)],[]⟩ (TurnO.mk' _ _ [(1,dirD fv)] (turnBO (j:=3) hO rfl) (turnBOn hO) rfl (by decide) (BTos.flat rfl rfl rfl BTos.nil) (by rw [hfv];exact FzAll.flat rfl FzAll.nil) rfl) zw zm
                  · subst hfv hdv
                    clear cE cP
                    have hM : Mt n (met2 ++ [eb]):=b3.snoc htake.2.1 heb
                    have hMl : (met2 ++ [eb]).length = met2.length + 1:=by simp
                    have hpl:=b2.length_le
                    have hMm : ¬ met2 ++ [eb] = met:=fun e=>by rw [e] at hMl;omega
                    have hpre : met <+: met2 ++ [eb]:=b2.trans (List.prefix_append _ _)
                    have po:=poB h7 h8 (met2 ++ [eb]).length
                    have cI:=IH eb (min most rm) hs (met2 ++ [eb]) (.out c) (.out s) (.out hI) (.out mC) (.loc 0) (.out pC) ⟨oB h mL mC (met2 ++ [eb]).length,[.flat true ((met2 ++ [eb]).flatMap encI)]⟩ (by simp) hM (by omega) (by omega) h5 (by omega) ⟨po.c1 _,po.s1 _,po.h1 _,po.m1 _,rfl,po.p1 _⟩ h8.inner
                    have hQ:=hG eb (min most rm) hs (met2 ++ [eb]) (by simp) hM (by omega) h5 (by omega)
                    have hQs:=push_same hInN (gls:=gls) (p:=eb) (most:=min most rm) (hs:=hs) (met:=met2 ++ [eb]) (by simp) (by omega) h5 hM k (by omega)
                    generalize push gls N.ws k eb (min most rm) hs (met2 ++ [eb]) = r at b4 cI hQ hQs
                    generalize met2 ++ [eb] = M at *
                    have hsl:=hQ.src.length_le
                    have hQl:=hQ.low
                    have hQh:=hQ.high
                    have hMl2:=hQ.mt.len
                    generalize hO : oB h mL mC M.length = O at po cI ⊢
                    conv=>whnf
                    by_cases hrM : r.2.2 = M
                    · rw [show effP _ _ _ _ M r = _ from if_pos hrM] at cI
                      refine zs6 [(0,13)] ?_
                      conv=>whnf
                      repeat' (first|((first|refine zs1 ?_|refine zs2 ?_|refine zs3 ?_|refine zs4 ?_|refine zs5 ?_);conv=>whnf)|((first|apply zi1|apply zi2|apply zi3|apply zi4|apply zi5) <;> intro _ <;> conv=>whnf)|(refine VCall.intro (cR _) ?_;conv=>whnf)|(refine VCall.intro (cI) ?_;conv=>whnf)|(refine VLd.cell rfl rfl (po.c1 _) rfl ?_;conv=>whnf)|(refine VLd.cell rfl rfl (po.s1 _) rfl ?_;conv=>whnf)|(refine VLd.cell rfl rfl (po.p1 _) rfl ?_;conv=>whnf)|(refine VLd.recc encI_len i 0 rfl rfl (po.h1 _) hx (by decide) rfl (by show (i : Int).toNat * 1 = i * 1 + 0;omega) ?_;conv=>whnf))
                      · rename_i hgot
                        rw [if_pos hgot,hQs hrM,hrM,hxg] at b4
                        first
                          | (obtain ⟨g,hgs,hg1⟩ : ∃ g,sgD true * r.1 = g ∧ -1000 ≤ g ∧ g ≤ 1000:=⟨_,rfl,by simp only [sgD,cond_true,cond_false];omega⟩
                             rw [hgs] at b4)
                          | (obtain ⟨g,hgs,hg1⟩ : ∃ g,sgD false * r.1 = g ∧ -1000 ≤ g ∧ g ≤ 1000:=⟨_,rfl,by simp only [sgD,cond_true,cond_false];omega⟩
                             rw [hgs] at b4)
                        refine zs6 [] ?_
                        conv=>whnf
                        repeat' (first|((first|refine zs1 ?_|refine zs2 ?_|refine zs3 ?_|refine zs4 ?_|refine zs5 ?_);conv=>whnf)|((first|apply zi1|apply zi2|apply zi3|apply zi4|apply zi5) <;> intro _ <;> conv=>whnf)|(refine VLd.cell rfl rfl (po.c1 _) rfl ?_;conv=>whnf)|(refine VLd.cell rfl rfl (po.s1 _) rfl ?_;conv=>whnf)|(refine VLd.recc encI_len i 0 rfl rfl (po.h1 _) hx (by decide) rfl (by show (i : Int).toNat * 1 = i * 1 + 0;omega) ?_;conv=>whnf)|(rw [hgs];conv=>whnf)|(refine VMem.setRec encI_len i 0 (x0 + g) rfl rfl (po.h1 _) hx (by decide) rfl (by show (i : Int).toNat * 1 = i * 1 + 0;omega) ?_;conv=>whnf))
                        rw [b4]
                        refine vout_push (R:=(r.1,hs.set i (x0 + g),M)) 0 1 hMm (by rw [h7.l0];simp) (by rw [h7.m0];simp) (by rw [h7.h0];simp) rfl rfl ?_
                        rw [← hO];rfl
                      · have hz : r.1 = 0:=by omega
                        rw [if_neg (by omega),(hQ.zero hz).1,hrM,← hd1] at b4
                        subst hO
                        rw [hz]
                        refine LEndO.introR (d1,M) ⟨by omega,hpre,hM,b4⟩ (by omega) ?_
                        dsimp only
                        rw [show oM h mL mC met M = oB h mL mC M.length from if_neg hMm,show lM met M = [.flat true (M.flatMap encI)] from if_neg hMm]
                        conv=>whnf
                        refine Retell.turnO ⟨[0],1,[],[]⟩ (TurnO.mk' _ _ [] (turnB (j:=0) rfl) turnBn rfl (by decide) (BTos.flat rfl rfl rfl BTos.nil) zf rfl) zw zm
                    · have hrm2 : ¬ r.2.2 = met:=fun e=>by rw [e] at hsl;omega
                      rw [show effP ⟨O,[.flat true (M.flatMap encI)]⟩ (.out hI) (.out mC) (.loc 0) M r = ⟨outW (outW O mC (.cells true [.gl (.loc 1) 1 r.2.2.length])) hI (.flat true (r.2.1.flatMap encI)),[.dead,.flat true (r.2.2.flatMap encI)]⟩ from if_neg hrM] at cI
                      refine zs6 [(0,13)] ?_
                      conv=>whnf
                      repeat' (first|((first|refine zs1 ?_|refine zs2 ?_|refine zs3 ?_|refine zs4 ?_|refine zs5 ?_);conv=>whnf)|((first|apply zi1|apply zi2|apply zi3|apply zi4|apply zi5) <;> intro _ <;> conv=>whnf)|(refine VCall.intro (cR _) ?_;conv=>whnf)|(refine VCall.intro (cI) ?_;conv=>whnf)|(refine VLd.cell rfl rfl (po.c1 _) rfl ?_;conv=>whnf)|(refine VLd.cell rfl rfl (po.s1 _) rfl ?_;conv=>whnf)|(refine VLd.cell rfl rfl (po.p1 _) rfl ?_;conv=>whnf)|(refine VLd.recc encI_len i 0 rfl rfl (po.h1 _) hx (by decide) rfl (by show (i : Int).toNat * 1 = i * 1 + 0;omega) ?_;conv=>whnf))
                      · rename_i hgot
                        have hB2:=(hQ.pos hgot).1
                        have hx2l : i < r.2.1.length:=by have:=hB2.len;omega
                        have hx2 : r.2.1[i]? = some (r.2.1.getD i 0):=by rw [List.getD_eq_getElem?_getD,List.getElem?_eq_getElem hx2l];rfl
                        have hxb2:=hB2.at hw hx2
                        rw [if_pos hgot] at b4
                        generalize r.2.1.getD i 0 = x2 at b4 hx2 hxb2
                        first
                          | (obtain ⟨g,hgs,hg1⟩ : ∃ g,sgD true * r.1 = g ∧ -1000 ≤ g ∧ g ≤ 1000:=⟨_,rfl,by simp only [sgD,cond_true,cond_false];omega⟩
                             rw [hgs] at b4)
                          | (obtain ⟨g,hgs,hg1⟩ : ∃ g,sgD false * r.1 = g ∧ -1000 ≤ g ∧ g ≤ 1000:=⟨_,rfl,by simp only [sgD,cond_true,cond_false];omega⟩
                             rw [hgs] at b4)
                        refine zs6 [] ?_
                        conv=>whnf
                        repeat' (first|((first|refine zs1 ?_|refine zs2 ?_|refine zs3 ?_|refine zs4 ?_|refine zs5 ?_);conv=>whnf)|((first|apply zi1|apply zi2|apply zi3|apply zi4|apply zi5) <;> intro _ <;> conv=>whnf)|(refine VLd.cell rfl rfl (get_outNe h8.ch (get_outNe h8.cm (po.c1 _))) rfl ?_;conv=>whnf)|(refine VLd.cell rfl rfl (get_outNe h8.sh (get_outNe h8.sm (po.s1 _))) rfl ?_;conv=>whnf)|(refine VLd.recc encI_len i 0 rfl rfl (outW_get _ _ _ _) hx2 (by decide) rfl (by show (i : Int).toNat * 1 = i * 1 + 0;omega) ?_;conv=>whnf)|(rw [hgs];conv=>whnf)|(refine VMem.setRec encI_len i 0 (x2 + g) rfl rfl (outW_get _ _ _ _) hx2 (by decide) rfl (by show (i : Int).toNat * 1 = i * 1 + 0;omega) ?_;conv=>whnf))
                        rw [b4]
                        refine vout_push (R:=(r.1,r.2.1.set i (x2 + g),r.2.2)) 1 2 hrm2 (by rw [h7.l0];simp) (by rw [h7.m0];simp) (by rw [h7.h0];simp) rfl rfl ?_
                        rw [← hO]
                        funext x
                        unfold oB outW
                        simp only [setsO]
                        repeat' split <;> simp_all
                      · have hz : r.1 = 0:=by omega
                        rw [if_neg (by omega),(hQ.zero hz).1,← hd1] at b4
                        subst hO
                        rw [hz,(hQ.zero hz).1]
                        refine LEndO.introR (d1,r.2.2) ⟨by omega,hpre.trans hQ.src,hQ.mt,b4⟩ (by omega) ?_
                        dsimp only
                        rw [show oM h mL mC met r.2.2 = oB h mL mC r.2.2.length from if_neg hrm2,show lM met r.2.2 = [.flat true (r.2.2.flatMap encI)] from if_neg hrm2]
                        conv=>whnf
                        refine Retell.turnO ⟨[1],2,[],[]⟩ (TurnO.mk' _ _ [] (turnBH (j:=1) h8.hm h8.hl h7.h0 rfl) (turnBHn h7.h0) rfl (by decide) (BTos.flat rfl rfl rfl BTos.nil) zf rfl) zw zm)
              · rw [if_neg htake] at b4
                obtain ⟨d1,hd1⟩ : ∃ d1,d1 = d + 1:=⟨_,rfl⟩
                rw [← hd1] at b4
                have hlen2:=b3.len
                rcases hfw with ⟨rfl,rfl⟩|⟨rfl,rfl⟩
                all_goals (
                    by_cases hm : met2 = met
                    · have po:=poA h7
                      have hmL : ∀ loc,(⟨h.lift,loc⟩ : Hp).get (.out mL) = some (.flat true (met2.flatMap encI)):=fun loc=>by rw [hm];exact get_out h7.l0 loc
                      have cC:=fun loc=>vc_ContG met2 eb (.out mL) ⟨h.lift,loc⟩ (hmL loc) (by omega)
                      rw [← hm] at po
                      rw [show oM h mL mC met met2 = h.lift from if_pos hm,show lM met met2 = [] from if_pos hm]
                      conv=>whnf
                      repeat' (first|((first|refine zs1 ?_|refine zs2 ?_|refine zs3 ?_|refine zs4 ?_|refine zs5 ?_);conv=>whnf)|((first|apply zi1|apply zi2|apply zi3|apply zi4|apply zi5) <;> intro _ <;> conv=>whnf))
                      all_goals try (exfalso;omega)
                      refine VCut.block 4 ?_
                      conv=>whnf
                      repeat' (first|((first|refine zs1 ?_|refine zs2 ?_|refine zs3 ?_|refine zs4 ?_|refine zs5 ?_);conv=>whnf)|((first|apply zi1|apply zi2|apply zi3|apply zi4|apply zi5) <;> intro _ <;> conv=>whnf)|(refine VCall.intro (cE _) ?_;conv=>whnf))
                      refine zs6 [] ?_
                      conv=>whnf
                      repeat' (first|((first|refine zs1 ?_|refine zs2 ?_|refine zs3 ?_|refine zs4 ?_|refine zs5 ?_);conv=>whnf)|((first|apply zi1|apply zi2|apply zi3|apply zi4|apply zi5) <;> intro _ <;> conv=>whnf)|(refine VCall.intro (cC _) ?_;conv=>whnf)|(refine VCall.intro (cR _) ?_;conv=>whnf)|(refine VLd.cell rfl rfl (po.c1 _) rfl ?_;conv=>whnf)|(refine VLd.cell rfl rfl (po.s1 _) rfl ?_;conv=>whnf)|(refine VLd.cell rfl rfl (po.m1 _) rfl ?_;conv=>whnf)|(refine VLd.cell rfl rfl (po.p1 _) rfl ?_;conv=>whnf)|(refine VLd.recc encI_len i 0 rfl rfl (po.h1 _) hx (by decide) rfl (by show (i : Int).toNat * 1 = i * 1 + 0;omega) ?_;conv=>whnf))
                      all_goals first
                        | (exfalso;refine htake ⟨?_,?_,?_⟩ <;> first|assumption|omega|(simp_all;done))
                        | (refine LEndO.introR (d1,met2) ⟨by omega,b2,b3,b4⟩ (by omega) ?_
                           dsimp only
                           rw [show oM h mL mC met met2 = h.lift from if_pos hm,show lM met met2 = [] from if_pos hm]
                           conv=>whnf
                           refine Retell.turn ⟨[],1,[],[]⟩ (TurnOk.mk' _ _ [] [] (OutOk.lift _) rfl (by decide) zb trivial trivial rfl) zw zm)
                    · have po:=poB h7 h8 met2.length
                      rw [show oM h mL mC met met2 = oB h mL mC met2.length from if_neg hm,show lM met met2 = [.flat true (met2.flatMap encI)] from if_neg hm]
                      have cC:=fun (h : Hp) (hb : h.get (.loc 0) = some (.flat true (met2.flatMap encI)))=>vc_ContG met2 eb (.loc 0) h hb (by omega)
                      generalize hO : oB h mL mC met2.length = O at po ⊢
                      conv=>whnf
                      repeat' (first|((first|refine zs1 ?_|refine zs2 ?_|refine zs3 ?_|refine zs4 ?_|refine zs5 ?_);conv=>whnf)|((first|apply zi1|apply zi2|apply zi3|apply zi4|apply zi5) <;> intro _ <;> conv=>whnf))
                      all_goals try (exfalso;omega)
                      refine VCut.block 4 ?_
                      conv=>whnf
                      repeat' (first|((first|refine zs1 ?_|refine zs2 ?_|refine zs3 ?_|refine zs4 ?_|refine zs5 ?_);conv=>whnf)|((first|apply zi1|apply zi2|apply zi3|apply zi4|apply zi5) <;> intro _ <;> conv=>whnf)|(refine VCall.intro (cE _) ?_;conv=>whnf))
                      refine zs6 [] ?_
                      conv=>whnf
                      repeat' (first|((first|refine zs1 ?_|refine zs2 ?_|refine zs3 ?_|refine zs4 ?_|refine zs5 ?_);conv=>whnf)|((first|apply zi1|apply zi2|apply zi3|apply zi4|apply zi5) <;> intro _ <;> conv=>whnf)|(refine VCall.intro (cC _ rfl) ?_;conv=>whnf)|(refine VCall.intro (cR _) ?_;conv=>whnf)|(refine VLd.cell rfl rfl (po.c1 _) rfl ?_;conv=>whnf)|(refine VLd.cell rfl rfl (po.s1 _) rfl ?_;conv=>whnf)|(refine VLd.cell rfl rfl (po.m1 _) rfl ?_;conv=>whnf)|(refine VLd.cell rfl rfl (po.p1 _) rfl ?_;conv=>whnf)|(refine VLd.recc encI_len i 0 rfl rfl (po.h1 _) hx (by decide) rfl (by show (i : Int).toNat * 1 = i * 1 + 0;omega) ?_;conv=>whnf))
                      all_goals first
                        | (exfalso;refine htake ⟨?_,?_,?_⟩ <;> first|assumption|omega|(simp_all;done))
                        | (refine LEndO.introR (d1,met2) ⟨by omega,b2,b3,b4⟩ (by omega) ?_
                           subst hO
                           dsimp only
                           rw [show oM h mL mC met met2 = oB h mL mC met2.length from if_neg hm,show lM met met2 = [.flat true (met2.flatMap encI)] from if_neg hm]
                           conv=>whnf
                           refine Retell.turnO ⟨[0],2,[],[]⟩ (TurnO.mk' _ _ [] (turnB (j:=0) rfl) turnBn rfl (by decide) (BTos.flat rfl rfl rfl BTos.nil) zf rfl) zw zm)
                )
            · have hd2 : d = 2:=by omega
              subst hd2
              rw [show remE w i es 2 = es from rfl] at b4
              by_cases hm : met2 = met
              · rw [show oM h mL mC met met2 = h.lift from if_pos hm,show lM met met2 = [] from if_pos hm]
                conv=>whnf
                repeat' (first|((first|refine zs1 ?_|refine zs2 ?_|refine zs3 ?_|refine zs4 ?_|refine zs5 ?_);conv=>whnf)|((first|apply zi1|apply zi2|apply zi3|apply zi4|apply zi5) <;> intro _ <;> conv=>whnf))
                all_goals try (exfalso;omega)
                refine LEndO.introR (i + 1,met2) ⟨by omega,b2,b3,by rw [hes0];exact b4⟩ (by omega) ?_
                dsimp only
                rw [show oM h mL mC met met2 = h.lift from if_pos hm,show lM met met2 = [] from if_pos hm]
                conv=>whnf
                refine Retell.turn ⟨[],0,[],[]⟩ (TurnOk.mk' _ _ [] [] (OutOk.lift _) rfl (by decide) zb trivial trivial rfl) zw zm
              · rw [show oM h mL mC met met2 = oB h mL mC met2.length from if_neg hm,show lM met met2 = [.flat true (met2.flatMap encI)] from if_neg hm]
                conv=>whnf
                repeat' (first|((first|refine zs1 ?_|refine zs2 ?_|refine zs3 ?_|refine zs4 ?_|refine zs5 ?_);conv=>whnf)|((first|apply zi1|apply zi2|apply zi3|apply zi4|apply zi5) <;> intro _ <;> conv=>whnf))
                all_goals try (exfalso;omega)
                refine LEndO.introR (i + 1,met2) ⟨by omega,b2,b3,by rw [hes0];exact b4⟩ (by omega) ?_
                dsimp only
                rw [show oM h mL mC met met2 = oB h mL mC met2.length from if_neg hm,show lM met met2 = [.flat true (met2.flatMap encI)] from if_neg hm]
                conv=>whnf
                refine Retell.turnO ⟨[0],1,[],[]⟩ (TurnO.mk' _ _ [] (turnB (j:=0) rfl) turnBn rfl (by decide) (BTos.flat rfl rfl rfl BTos.nil) zf rfl) zw zm
        · have hil : i = N.ws.length:=by omega
          rw [List.drop_of_length_le (by omega),egs,pushL] at a4
          by_cases hm : met' = met
          · rw [show oM h mL mC met met' = h.lift from if_pos hm,show lM met met' = [] from if_pos hm]
            conv=>whnf
            repeat' (first|((first|refine zs1 ?_|refine zs2 ?_|refine zs3 ?_|refine zs4 ?_|refine zs5 ?_);conv=>whnf)|((first|apply zi1|apply zi2|apply zi3|apply zi4|apply zi5) <;> intro _ <;> conv=>whnf))
            all_goals try (exfalso;omega)
            rw [show effP h hI mC mL met R = h from if_pos (by rw [a4];exact hm),a4]
            exact VOut.same rfl
          · rw [show oM h mL mC met met' = oB h mL mC met'.length from if_neg hm,show lM met met' = [.flat true (met'.flatMap encI)] from if_neg hm]
            conv=>whnf
            repeat' (first|((first|refine zs1 ?_|refine zs2 ?_|refine zs3 ?_|refine zs4 ?_|refine zs5 ?_);conv=>whnf)|((first|apply zi1|apply zi2|apply zi3|apply zi4|apply zi5) <;> intro _ <;> conv=>whnf))
            all_goals try (exfalso;omega)
            rw [a4]
            refine vout_push (R:=(0,hs,met')) 0 1 hm (by rw [h7.l0];simp) (by rw [h7.m0];simp) (by rw [h7.h0];simp) rfl rfl ?_
            have h9 : h.lift hI = some (.flat true (hs.flatMap encI)):=get_out h7.h0 []
            have:=h8.hm;have:=h8.hl;have:=Ne.symm h8.hm;have:=Ne.symm h8.hl
            funext x
            unfold oB outW
            simp only [setsO]
            repeat' split <;> simp_all
end Go.Proofs.YtoeendggmalcpaaGreat

open Go.Vm
open Psg
namespace Go.Vm
theorem VOut.own1 {h : Hp} {loc : List Blk} {esz n : Nat} {ds : List D} (j L : Nat) (hL : Nat.ble loc.length L = true) (hj : loc[j]? = some (.flat true ds)) : VOut h ⟨h.lift,loc⟩ (.gl (.loc j) esz n) (.gl h.fresh esz n) (h.push (.flat true ds)):=by
  refine VOut.upd [] [.flat true ds] [j] L hL (by intro p hp;cases hp) (by simp) rfl ?_ ?_ rfl
  · intro k b hk
    cases k with
    | zero=>rw [List.getElem?_cons_zero,Option.some.injEq] at hk;subst hk;exact ⟨j,rfl,hj⟩
    | succ k=>simp at hk
  · intro σ x hx
    have : (V.gl h.fresh esz n).ren (backR h.loc.length [j] L) = .gl (.loc j) esz n:=by simp [V.ren,backR,Hp.fresh]
    rw [this];exact hx
end Go.Vm
namespace Go.Proofs.YtoeendggmalcpaaGreat
set_option maxRecDepth 20000
set_option maxHeartbeats 4000000
theorem vc_cloneI (l : List Int) (h : Hp) (h0 : 0 < l.length) (hl : l.length ≤ 4000000) : VC Tryz.prog 66 [ints l] h (.gl h.fresh 1 l.length) (h.push (.flat true (l.flatMap encI))):=by
  refine VC.body Tryz.func66 rfl Tryz.ntmps66 Tryz.call66 (h.grows_push _) rfl ?_;conv=>whnf
  repeat' (first|((first|refine zs1 ?_|refine zs2 ?_|refine zs3 ?_|refine zs4 ?_|refine zs5 ?_);conv=>whnf)|((first|apply zi1|apply zi2|apply zi3|apply zi4|apply zi5) <;> intro _ <;> conv=>whnf))
  refine VMem.appN (l:=([] : List Int)) encI_len rfl rfl rfl rfl rfl (by show 0 + l.length ≤ _;omega) ?_
  conv=>whnf
  repeat' (first|((first|refine zs1 ?_|refine zs2 ?_|refine zs3 ?_|refine zs4 ?_|refine zs5 ?_);conv=>whnf)|((first|apply zi1|apply zi2|apply zi3|apply zi4|apply zi5) <;> intro _ <;> conv=>whnf))
  show VOut h _ (.gl (.loc 1) 1 (0 + l.length)) _ _
  rw [Nat.zero_add]
  exact VOut.own1 (h:=h) (loc:=[.dead,.flat true (l.flatMap encI)]) (ds:=l.flatMap encI) 1 2 rfl rfl
def effD (h : Hp) (hI : Vm.Id) (r : R3) : Hp:=(h.sets [(hI,.flat true (r.2.1.flatMap encI))]).pushes [.flat true (r.2.2.flatMap encI)]
theorem vout_pushed {h : Hp} {hI : Vm.Id} {R : R3} (j L : Nat) {loc : List Blk} {outer : Vm.Id → Option Blk} (h3 : h.get hI ≠ none) (hloc : loc[j]? = some (.flat true (R.2.2.flatMap encI))) (hL : Nat.ble loc.length L = true)
    (ho : outer = outW h.lift hI (.flat true (R.2.1.flatMap encI))) : VOut h ⟨outer,loc⟩ (.tuple [I R.1,.gl (.loc j) 1 R.2.2.length]) (.tuple [I R.1,.gl h.fresh 1 R.2.2.length]) (effD h hI R):=by
  have e : (V.tuple [I R.1,.gl h.fresh 1 R.2.2.length]).ren (backR h.loc.length [j] L) = .tuple [I R.1,.gl (.loc j) 1 R.2.2.length]:=by simp [V.ren,V.rens,backR,Hp.fresh]
  refine VOut.upd (h:=h) (r1:=.tuple [I R.1,.gl (.loc j) 1 R.2.2.length]) (r:=.tuple [I R.1,.gl h.fresh 1 R.2.2.length]) [(hI,.flat true (R.2.1.flatMap encI))] [.flat true (R.2.2.flatMap encI)] [j] L hL ?_ (by simp) rfl ?_ (fun σ x hx=>by rw [e];exact hx) ?_
  · intro p hp
    simp only [List.mem_cons,List.not_mem_nil,or_false] at hp
    subst hp
    exact h3
  · intro k b hk
    cases k with
    | zero=>rw [List.getElem?_cons_zero,Option.some.injEq] at hk;subst hk;exact ⟨j,rfl,hloc⟩
    | succ k=>simp at hk
  · rw [ho];rfl
def psL (s : Vm.Id) (gls met : List Int) : List Blk:=[.cells true [.ptr (.out s) 0],.flat true (met.flatMap encI),.cells true [.gl (.loc 1) 1 met.length],.cells true [vPush gls (.loc 0) (.loc 2) (.loc 3)]]
theorem vc_pushed {n : Nat} {gls src hs : List Int} {N : Nt} (hN : NOk n N) (hg : gls.length ≤ 4000000) (h0 : 0 < src.length) (hM : Mt n src) (hb : Bnd N.ws hs) {s hI : Vm.Id} (h : Hp) (hs0 : h.get s = some (.cells true [I N.p,wys N.ws,.gl hI 1 hs.length])) (hh : h.get hI = some (.flat true (hs.flatMap encI))) (hne : s ≠ hI) :
    VC Tryz.prog 87 [.ptr s 0,ints src,ints gls] h (.tuple [I (pushed gls N.ws (n + 1) src hs src).1,.gl h.fresh 1 (pushed gls N.ws (n + 1) src hs src).2.2.length]) (effD h hI (pushed gls N.ws (n + 1) src hs src)):=by
  obtain ⟨R,hR⟩ : ∃ R,R = pushed gls N.ws (n + 1) src hs src:=⟨_,rfl⟩
  rw [← hR]
  have hn1:=hN.n1
  have hml:=hM.len
  have hInN:=hN.inN
  have cC:=fun h=>vc_cloneI src h h0 (by omega)
  have hgrow : h.grows (effD h hI R):=by
    refine Hp.grows_sets fun e he=>?_
    simp only [List.mem_cons,List.not_mem_nil,or_false] at he
    subst he
    simp only
    rw [hh];simp
  refine VC.body Tryz.func87 rfl Tryz.ntmps87 Tryz.call87 hgrow rfl ?_
  conv=>whnf
  repeat' (first|((first|refine zs1 ?_|refine zs2 ?_|refine zs3 ?_|refine zs4 ?_|refine zs5 ?_);conv=>whnf)|((first|apply zi1|apply zi2|apply zi3|apply zi4|apply zi5) <;> intro _ <;> conv=>whnf)|(refine VCall.intro (cC _) ?_;conv=>whnf))
  refine VCode.lp (outer:=h.lift) (marks:=[]) (fun y : Nat × List Int=>[(8,.ptr (.loc 2) 0),(9,.ptr (.loc 3) 0),(16,ints src),(17,I src.length),(18,I y.1)]) (fun y=>psL s gls y.2) (fun y=>y.1 ≤ src.length ∧ (∀ q ∈ src,q ∈ y.2) ∧ Mt n y.2 ∧ R = pushed gls N.ws (n + 1) (src.drop y.1) hs y.2) (fun y=>src.length - y.1) (0,src) ⟨Nat.zero_le _,fun _ h=>h,hM,hR⟩ ?_ ?_
  · conv=>whnf
    refine Retell.turn ⟨[0,2,3,4],5,[(1,[dints gls])],[]⟩ (TurnOk.mk' _ _ [(1,[dints gls])] [] (OutOk.lift _) rfl (by decide) zb zr trivial rfl) zw zm
  · rintro ⟨i,met⟩ ⟨a1,a2,a3,a4⟩
    dsimp only at a1 a2 a3 a4 ⊢
    rcases Nat.lt_or_ge i src.length with hi|hi
    · have hp : src[i]? = some src[i]:=List.getElem?_eq_getElem hi
      have hpm:=a2 src[i] (List.getElem_mem hi)
      rw [List.drop_eq_getElem_cons hi,pushed] at a4
      generalize src[i] = p at hp hpm a4
      have hml2:=a3.len
      have cI:=vc_push hN hg (n + 1) p 24000 hs met (.loc 0) (.out s) (.out hI) (.loc 2) (.loc 1) (.loc 3) ⟨h.lift,psL s gls met⟩ hpm a3 (by omega) (by omega) hb (by omega) ⟨rfl,get_out hs0 _,get_out hh _,rfl,rfl,rfl⟩ ⟨outLoc,outLoc,by decide,outLoc.symm,by decide,by decide,outNe hne,outLoc,outLoc,outLoc.symm,by decide,by decide⟩
      have hQ:=push_ok (gls:=gls) hInN (n + 1) p 24000 hs met hpm a3 (by omega) hb (by omega)
      have hQs:=push_same hInN (gls:=gls) (p:=p) (most:=24000) (hs:=hs) (met:=met) hpm (by omega) hb a3 (n + 1) (by omega)
      generalize push gls N.ws (n + 1) p 24000 hs met = r at a4 cI hQ hQs
      have hQl:=hQ.low
      have hQh:=hQ.high
      have hMl2:=hQ.mt.len
      unfold psL at cI ⊢
      have h4 : h.lift hI = some (.flat true (hs.flatMap encI)):=get_out hh []
      by_cases hrM : r.2.2 = met
      · rw [show effP _ _ _ _ met r = _ from if_pos hrM] at cI
        conv=>whnf
        repeat' (first|((first|refine zs1 ?_|refine zs2 ?_|refine zs3 ?_|refine zs4 ?_|refine zs5 ?_);conv=>whnf)|((first|apply zi1|apply zi2|apply zi3|apply zi4|apply zi5) <;> intro _ <;> conv=>whnf)|(refine VCall.intro (cI) ?_;conv=>whnf)|(refine VAny.ix encI_len i rfl rfl hp ?_;conv=>whnf))
        all_goals try (exfalso;omega)
        · rename_i hgot
          rw [if_pos hgot] at a4
          refine zs6 [] ?_
          conv=>whnf
          repeat' (first|((first|refine zs1 ?_|refine zs2 ?_|refine zs3 ?_|refine zs4 ?_|refine zs5 ?_);conv=>whnf)|((first|apply zi1|apply zi2|apply zi3|apply zi4|apply zi5) <;> intro _ <;> conv=>whnf))
          rw [a4,← hrM]
          exact vout_pushed (R:=r) 1 4 (by rw [hh];simp) rfl rfl (by rw [hQs hrM];exact outW_id h4)
        · have hz : r.1 = 0:=by omega
          rw [if_neg (by omega),(hQ.zero hz).1] at a4
          refine LEnd.intro (i + 1,r.2.2) ⟨by omega,fun q hq=>hQ.pre q (a2 q hq),hQ.mt,a4⟩ (by omega) ?_
          rw [hrM]
          conv=>whnf
          refine Retell.turn ⟨[0,1,2,3],4,[],[]⟩ (TurnOk.mk' _ _ [] [] (OutOk.lift _) rfl (by decide) zb trivial trivial rfl) zw zm
      · rw [show effP ⟨h.lift,[.cells true [.ptr (.out s) 0],.flat true (met.flatMap encI),.cells true [.gl (.loc 1) 1 met.length],.cells true [vPush gls (.loc 0) (.loc 2) (.loc 3)]]⟩ (.out hI) (.loc 2) (.loc 1) met r = ⟨outW h.lift hI (.flat true (r.2.1.flatMap encI)),[.cells true [.ptr (.out s) 0],.dead,.cells true [.gl (.loc 4) 1 r.2.2.length],.cells true [vPush gls (.loc 0) (.loc 2) (.loc 3)],.flat true (r.2.2.flatMap encI)]⟩ from if_neg hrM] at cI
        by_cases hz : r.1 = 0
        · rw [if_neg (by omega),(hQ.zero hz).1] at a4
          rw [(hQ.zero hz).1,← outW_id h4] at cI
          conv=>whnf
          repeat' (first|((first|refine zs1 ?_|refine zs2 ?_|refine zs3 ?_|refine zs4 ?_|refine zs5 ?_);conv=>whnf)|((first|apply zi1|apply zi2|apply zi3|apply zi4|apply zi5) <;> intro _ <;> conv=>whnf)|(refine VCall.intro (cI) ?_;conv=>whnf)|(refine VAny.ix encI_len i rfl rfl hp ?_;conv=>whnf))
          all_goals try (exfalso;omega)
          refine LEnd.intro (i + 1,r.2.2) ⟨by omega,fun q hq=>hQ.pre q (a2 q hq),hQ.mt,a4⟩ (by omega) ?_
          conv=>whnf
          refine Retell.turn ⟨[0,4,2,3],5,[],[]⟩ (TurnOk.mk' _ _ [] [] (OutOk.lift _) rfl (by decide) zb trivial trivial rfl) zw zm
        · rw [if_pos (by omega)] at a4
          conv=>whnf
          repeat' (first|((first|refine zs1 ?_|refine zs2 ?_|refine zs3 ?_|refine zs4 ?_|refine zs5 ?_);conv=>whnf)|((first|apply zi1|apply zi2|apply zi3|apply zi4|apply zi5) <;> intro _ <;> conv=>whnf)|(refine VCall.intro (cI) ?_;conv=>whnf)|(refine VAny.ix encI_len i rfl rfl hp ?_;conv=>whnf))
          all_goals try (exfalso;omega)
          refine zs6 [] ?_
          conv=>whnf
          repeat' (first|((first|refine zs1 ?_|refine zs2 ?_|refine zs3 ?_|refine zs4 ?_|refine zs5 ?_);conv=>whnf)|((first|apply zi1|apply zi2|apply zi3|apply zi4|apply zi5) <;> intro _ <;> conv=>whnf))
          rw [a4]
          exact vout_pushed (R:=r) 4 5 (by rw [hh];simp) rfl rfl rfl
    · rw [List.drop_of_length_le (by omega),pushed] at a4
      have h4 : h.lift hI = some (.flat true (hs.flatMap encI)):=get_out hh []
      unfold psL
      conv=>whnf
      repeat' (first|((first|refine zs1 ?_|refine zs2 ?_|refine zs3 ?_|refine zs4 ?_|refine zs5 ?_);conv=>whnf)|((first|apply zi1|apply zi2|apply zi3|apply zi4|apply zi5) <;> intro _ <;> conv=>whnf))
      all_goals try (exfalso;omega)
      refine zs6 [] ?_
      conv=>whnf
      repeat' (first|((first|refine zs1 ?_|refine zs2 ?_|refine zs3 ?_|refine zs4 ?_|refine zs5 ?_);conv=>whnf)|((first|apply zi1|apply zi2|apply zi3|apply zi4|apply zi5) <;> intro _ <;> conv=>whnf))
      rw [a4]
      exact vout_pushed (R:=(0,hs,met)) 1 4 (by rw [hh];simp) rfl rfl (outW_id h4)
end Go.Proofs.YtoeendggmalcpaaGreat


/- Part 9 of the proof that small nets are as the given statement says. No condition. -/
import Derived.Test.YtoeendggmalcpaaGreatBz8
set_option linter.unusedVariables false
set_option linter.unusedSimpArgs false
open Go.Vm
open Psg
namespace Go.Proofs.YtoeendggmalcpaaGreat
set_option maxRecDepth 20000
set_option maxHeartbeats 4000000
def okU (N : Nt) (x : Hd) (R : Rw) (k : Nat) : Prop:=atR R x.p x.s ≤ x.d ∧ OkTo N.ws R k
def okK (N : Nt) (x : Hd) (R : Rw) (p s k : Nat) : Prop:=okU N x R (16 * p + s) ∧ ∀ w ∈ N.ws.take k,okW R p s w = true
theorem okK_step {N : Nt} {x : Hd} {R : Rw} {p s k : Nat} {w : Wy} (hw : N.ws[k]? = some w) : okK N x R p s (k + 1) ↔ okK N x R p s k ∧ okW R p s w = true:=by
  unfold okK
  rw [List.take_add_one,hw]
  constructor
  · rintro ⟨h1,h2⟩
    exact ⟨⟨h1,fun v hv=>h2 v (List.mem_append_left _ hv)⟩,h2 w (by simp)⟩
  · rintro ⟨⟨h1,h2⟩,h3⟩
    refine ⟨h1,fun v hv=>?_⟩
    rcases List.mem_append.1 hv with hv|hv
    · exact h2 v hv
    · have : v = w:=by simpa using hv
      rw [this];exact h3
theorem okK_end {N : Nt} {x : Hd} {R : Rw} {p s : Nat} (hs : s < 16) : okK N x R p s N.ws.length ↔ okU N x R (16 * p + (s + 1)):=by
  unfold okK okU
  rw [List.take_of_length_le (Nat.le_refl _)]
  constructor
  · rintro ⟨⟨h1,h2⟩,h3⟩;exact ⟨h1,h2.step hs h3⟩
  · rintro ⟨h1,h2⟩
    refine ⟨⟨h1,fun p' s' h h'=>h2 p' s' (by omega) h'⟩,fun w hw=>h2 p s (by omega) hs w hw⟩
theorem holds_okU {n : Nat} {N : Nt} {x : Hd} {R : Rw} : holds n N.ws x R = true ↔ okU N x R (16 * n):=by
  constructor
  · intro h
    have h':=h
    unfold holds at h'
    rw [Bool.and_eq_true,decide_eq_true_eq] at h'
    refine ⟨h'.1,fun p s h1 h2 w hw=>?_⟩
    cases hb : okW R p s w
    · have:=holds_no (x:=x) (n:=n) (p:=p) (by omega) h2 hw hb
      rw [this] at h;cases h
    · rfl
  · rintro ⟨h1,h2⟩;exact holds_yes h1 h2
theorem vc_rProves (N : Nt) (x : Hd) (R : Rw) (to : Int) (h : Hp) (hn : N.ws.length ≤ 4000000) (hR : R.length ≤ 4000000) (hR2 : ∀ r ∈ R,r.length ≤ 4000000) : VC Tryz.prog 30 [vN N,vHd x,intss R,I to] h (.tuple [I (prV N x R to),I (prE N x R to)]) h:=by
  obtain ⟨E,hE⟩ : ∃ E,E = prE N x R to:=⟨_,rfl⟩
  obtain ⟨Z,hZ⟩ : ∃ Z,Z = prV N x R to:=⟨_,rfl⟩
  rw [← hE,← hZ]
  unfold prV at hZ
  rw [← hE] at hZ
  unfold prE at hE
  have cH:=fun h=>vc_rherded N x h hn
  by_cases h0 : hrd N x = 0
  · obtain ⟨n,hN,hx⟩:=hrd_ok h0
    rw [h0] at cH
    rw [if_pos h0] at hE
    have hp:=hN.p
    have hn1:=hN.n1
    have hwl:=hN.len
    have hxp:=hx.p
    have hxs:=hx.s
    have hxd:=hx.d
    unfold Pp at hxs
    rw [show N.p.toNat = n by omega] at hE
    refine VC.bodyC 1 Tryz.func30 rfl Tryz.ntmps30 Tryz.call30 (h.grows_refl) rfl ?_;conv=>whnf
    refine VCut.at' (outer:=h.lift) (marks:=[]) 99 [(2,intss R),(3,I to),(4,.fp (encN N)),(5,.fp (encHd x))] [] ?_ ?_
    · conv=>whnf
      refine Retell.turn ⟨[],2,[(0,encN N),(1,encHd x)],[]⟩ (TurnOk.mk' _ _ [(0,encN N),(1,encHd x)] [] (OutOk.lift _) rfl (by decide) zb zf trivial rfl) zw zm
    by_cases hl : (R.length : Int) = N.p
    · -- the lengths of rows
      conv=>whnf
      repeat' (first|((first|refine zs1 ?_|refine zs2 ?_|refine zs3 ?_|refine zs4 ?_|refine zs5 ?_);conv=>whnf)|((first|apply zi1|apply zi2|apply zi3|apply zi4|apply zi5) <;> intro _ <;> conv=>whnf)|(refine VCall.intro (cH _) ?_;conv=>whnf))
      all_goals try contradiction
      all_goals try (exfalso;omega)
      refine VCode.lp (outer:=h.lift) (marks:=[]) (fun k : Nat=>[(2,intss R),(3,I to),(4,.fp (encN N)),(5,.fp (encHd x)),(11,I k)]) (fun _=>[]) (fun k=>k ≤ n ∧ ∀ j r,j < k → R[j]? = some r → r.length = 16) (fun k=>n - k) 0 ⟨Nat.zero_le _,fun j r hj=>absurd hj (by omega)⟩ ?_ ?_
      · conv=>whnf
        refine Retell.turn ⟨[],0,[],[]⟩ (TurnOk.mk' _ _ [] [] (OutOk.lift _) rfl (by decide) zb trivial trivial rfl) zw zm
      · rintro k ⟨k1,k2⟩
        rcases Nat.lt_or_ge k n with q1|q1
        · have hr : R[k]? = some R[k]:=List.getElem?_eq_getElem (by omega)
          have hrl:=hR2 _ (List.mem_of_getElem? hr)
          generalize R[k] = r at hr hrl
          by_cases h16 : r.length = 16
          · conv=>whnf
            repeat' (first|((first|refine zs1 ?_|refine zs2 ?_|refine zs3 ?_|refine zs4 ?_|refine zs5 ?_);conv=>whnf)|((first|apply zi1|apply zi2|apply zi3|apply zi4|apply zi5) <;> intro _ <;> conv=>whnf)|(refine VAny.ix encL_len k rfl rfl hr ?_;conv=>whnf))
            all_goals try contradiction
            all_goals try (exfalso;omega)
            refine LEnd.intro (k + 1) ⟨by omega,fun j r' hj hr'=>?_⟩ (by omega) ?_
            · rcases Nat.lt_or_ge j k with h9|h9
              · exact k2 j r' h9 hr'
              · have : j = k:=by omega
                subst this
                rw [hr] at hr';injection hr' with hr';subst hr';exact h16
            conv=>whnf
            refine Retell.turn ⟨[],0,[],[]⟩ (TurnOk.mk' _ _ [] [] (OutOk.lift _) rfl (by decide) zb trivial trivial rfl) zw zm
          · have hsz : ¬ szR N.p R = true:=fun h=>h16 ((szR_iff.1 h).2 r (List.mem_of_getElem? hr))
            rw [if_neg hsz] at hE
            subst hE
            rw [if_neg (by decide)] at hZ
            subst hZ
            conv=>whnf
            repeat' (first|((first|refine zs1 ?_|refine zs2 ?_|refine zs3 ?_|refine zs4 ?_|refine zs5 ?_);conv=>whnf)|((first|apply zi1|apply zi2|apply zi3|apply zi4|apply zi5) <;> intro _ <;> conv=>whnf)|(refine VAny.ix encL_len k rfl rfl hr ?_;conv=>whnf))
            all_goals try contradiction
            all_goals try (exfalso;omega)
            exact VOut.same rfl
        · obtain rfl : k = n:=by omega
          have hsz : szR N.p R = true:=szR_iff.2 ⟨hl,fun r hr=>by
            obtain ⟨j,hj⟩:=List.mem_iff_getElem?.1 hr
            have:=(List.getElem?_eq_some_iff.1 hj).1
            exact k2 j r (by omega) hj⟩
          have hS:=Sz.of hp hsz
          rw [if_pos hsz] at hE
          conv=>whnf
          repeat' (first|((first|refine zs1 ?_|refine zs2 ?_|refine zs3 ?_|refine zs4 ?_|refine zs5 ?_);conv=>whnf)|((first|apply zi1|apply zi2|apply zi3|apply zi4|apply zi5) <;> intro _ <;> conv=>whnf))
          all_goals try contradiction
          all_goals try (exfalso;omega)
          refine VCode.lp (outer:=h.lift) (marks:=[]) (fun p : Nat=>[(2,intss R),(3,I to),(4,.fp (encN N)),(5,.fp (encHd x)),(12,I p)]) (fun _=>[]) (fun p=>p ≤ k ∧ ∀ p' s' : Nat,p' < p → s' < 16 → 0 ≤ atR R p' s' ∧ atR R p' s' ≤ 1001) (fun p=>k - p) 0 ⟨Nat.zero_le _,fun j r hj=>absurd hj (by omega)⟩ ?_ ?_
          · conv=>whnf
            refine Retell.turn ⟨[],0,[],[]⟩ (TurnOk.mk' _ _ [] [] (OutOk.lift _) rfl (by decide) zb trivial trivial rfl) zw zm
          · rintro p ⟨p1,p2⟩
            rcases Nat.lt_or_ge p k with q1|q1
            · obtain ⟨r,r1,r2,_⟩:=atR_mem hS (p:=p) (s:=0) q1 (by omega)
              have hrs : ∀ s : Nat,s < 16 → r[s]? = some (atR R p s):=fun s hs=>by
                obtain ⟨r',g1,_,g3⟩:=atR_mem hS (p:=p) (s:=s) q1 hs
                rw [r1] at g1;injection g1 with g1;subst g1;exact g3
              conv=>whnf
              repeat' (first|((first|refine zs1 ?_|refine zs2 ?_|refine zs3 ?_|refine zs4 ?_|refine zs5 ?_);conv=>whnf)|((first|apply zi1|apply zi2|apply zi3|apply zi4|apply zi5) <;> intro _ <;> conv=>whnf))
              all_goals try (exfalso;omega)
              refine VCode.lp (outer:=h.lift) (marks:=[]) (fun s : Nat=>[(2,intss R),(3,I to),(4,.fp (encN N)),(5,.fp (encHd x)),(12,I p),(13,I s)]) (fun _=>[]) (fun s=>s ≤ 16 ∧ ∀ s' : Nat,s' < s → 0 ≤ atR R p s' ∧ atR R p s' ≤ 1001) (fun s=>16 - s) 0 ⟨Nat.zero_le _,fun j hj=>absurd hj (by omega)⟩ ?_ ?_
              · conv=>whnf
                refine Retell.turn ⟨[],0,[],[]⟩ (TurnOk.mk' _ _ [] [] (OutOk.lift _) rfl (by decide) zb trivial trivial rfl) zw zm
              · rintro s ⟨s1,s2⟩
                rcases Nat.lt_or_ge s 16 with q2|q2
                · have hd:=hrs s q2
                  by_cases hb : 0 ≤ atR R p s ∧ atR R p s ≤ 1001
                  · have cB:=fun h=>vc_beside (atR R p s) 0 1001 h
                    rw [decide_eq_false (by omega)] at cB
                    have hnx : ∀ s' : Nat,s' < s + 1 → 0 ≤ atR R p s' ∧ atR R p s' ≤ 1001:=fun s' h'=>by
                      rcases Nat.lt_or_ge s' s with h9|h9
                      · exact s2 s' h9
                      · have : s' = s:=by omega
                        subst this;exact hb
                    generalize atR R p s = d at hd cB
                    conv=>whnf
                    repeat' (first|((first|refine zs1 ?_|refine zs2 ?_|refine zs3 ?_|refine zs4 ?_|refine zs5 ?_);conv=>whnf)|((first|apply zi1|apply zi2|apply zi3|apply zi4|apply zi5) <;> intro _ <;> conv=>whnf)|(refine VAny.ix encL_len p rfl rfl r1 ?_;conv=>whnf)|(refine VAny.ix encI_len s rfl rfl hd ?_;conv=>whnf)|(refine VCall.intro (cB _) ?_;conv=>whnf))
                    all_goals try contradiction
                    all_goals try (exfalso;omega)
                    refine LEnd.intro (s + 1) ⟨by omega,hnx⟩ (by omega) ?_
                    conv=>whnf
                    refine Retell.turn ⟨[],0,[],[]⟩ (TurnOk.mk' _ _ [] [] (OutOk.lift _) rfl (by decide) zb trivial trivial rfl) zw zm
                  · have hv : ¬ valR R = true:=fun h=>hb (atR_bd hS h q1 q2)
                    rw [if_neg hv] at hE
                    subst hE
                    rw [if_neg (by decide)] at hZ
                    subst hZ
                    have cB:=fun h=>vc_beside (atR R p s) 0 1001 h
                    rw [decide_eq_true (by omega)] at cB
                    generalize atR R p s = d at hd cB
                    conv=>whnf
                    repeat' (first|((first|refine zs1 ?_|refine zs2 ?_|refine zs3 ?_|refine zs4 ?_|refine zs5 ?_);conv=>whnf)|((first|apply zi1|apply zi2|apply zi3|apply zi4|apply zi5) <;> intro _ <;> conv=>whnf)|(refine VAny.ix encL_len p rfl rfl r1 ?_;conv=>whnf)|(refine VAny.ix encI_len s rfl rfl hd ?_;conv=>whnf)|(refine VCall.intro (cB _) ?_;conv=>whnf))
                    all_goals try contradiction
                    all_goals try (exfalso;omega)
                    exact VOut.same rfl
                · obtain rfl : s = 16:=by omega
                  conv=>whnf
                  repeat' (first|((first|refine zs1 ?_|refine zs2 ?_|refine zs3 ?_|refine zs4 ?_|refine zs5 ?_);conv=>whnf)|((first|apply zi1|apply zi2|apply zi3|apply zi4|apply zi5) <;> intro _ <;> conv=>whnf))
                  all_goals try (exfalso;omega)
                  refine LEnd.intro (p + 1) ⟨by omega,fun p' s' h1 h2=>?_⟩ (by omega) ?_
                  · rcases Nat.lt_or_ge p' p with h9|h9
                    · exact p2 p' s' h9 h2
                    · have : p' = p:=by omega
                      subst this;exact s2 s' h2
                  conv=>whnf
                  refine Retell.turn ⟨[],0,[],[]⟩ (TurnOk.mk' _ _ [] [] (OutOk.lift _) rfl (by decide) zb trivial trivial rfl) zw zm
            · obtain rfl : p = k:=by omega
              have hv : valR R = true:=valR_iff.2 fun r hr d hd=>by
                obtain ⟨q,hq,rfl⟩:=mem_at hS hr hd
                have h1:=hq.1
                have h2:=hq.2
                unfold Pp at h2
                have:=p2 q.1.toNat q.2.toNat (by omega) (by omega)
                rw [Int.toNat_of_nonneg h1.1,Int.toNat_of_nonneg h2.1] at this
                exact this
              rw [if_pos hv] at hE
              have hbd:=fun (p' s' : Nat) h1 h2=>atR_bd hS hv (p:=p') (s:=s') h1 h2
              have hr0:=atR_mem hS (p:=x.p.toNat) (s:=x.s.toNat) (by omega) (by omega)
              obtain ⟨r0,u1,u2,u3⟩:=hr0
              rw [Int.toNat_of_nonneg hxp.1,Int.toNat_of_nonneg hxs.1] at u3
              have hst0 : decide (atR R x.p x.s ≤ x.d) = true ↔ okU N x R (16 * 0):=by
                rw [decide_eq_true_eq];exact ⟨fun h=>⟨h,OkTo.zero _ _⟩,fun h=>h.1⟩
              conv=>whnf
              repeat' (first|((first|refine zs1 ?_|refine zs2 ?_|refine zs3 ?_|refine zs4 ?_|refine zs5 ?_);conv=>whnf)|((first|apply zi1|apply zi2|apply zi3|apply zi4|apply zi5) <;> intro _ <;> conv=>whnf))
              all_goals try (exfalso;omega)
              refine zs6 [] ?_
              generalize hq0 : atR R x.p x.s = d0 at u3 hst0
              conv=>whnf
              repeat' (first|((first|refine zs1 ?_|refine zs2 ?_|refine zs3 ?_|refine zs4 ?_|refine zs5 ?_);conv=>whnf)|((first|apply zi1|apply zi2|apply zi3|apply zi4|apply zi5) <;> intro _ <;> conv=>whnf)|(refine VAny.ix encL_len x.p.toNat (by omega) rfl u1 ?_;conv=>whnf)|(refine VAny.ix encI_len x.s.toNat (by omega) (by omega) u3 ?_;conv=>whnf))
              all_goals try (exfalso;omega)
              refine VCode.lp (outer:=h.lift) (marks:=[]) (fun y : Nat × Bool=>[(2,intss R),(3,I to),(4,.fp (encN N)),(5,.fp (encHd x)),(14,B y.2),(15,I y.1)]) (fun _=>[]) (fun y=>y.1 ≤ p ∧ (y.2 = true ↔ okU N x R (16 * y.1))) (fun y=>p - y.1) (0,decide (d0 ≤ x.d)) ⟨Nat.zero_le _,hst0⟩ ?_ ?_
              · conv=>whnf
                refine Retell.turn ⟨[],0,[],[]⟩ (TurnOk.mk' _ _ [] [] (OutOk.lift _) rfl (by decide) zb trivial trivial rfl) zw zm
              · clear hst0 hq0 u1 u2 u3
                rintro ⟨a,b⟩ ⟨a1,a2⟩
                dsimp only at a1 a2
                rcases Nat.lt_or_ge a p with q2|q2
                · obtain ⟨r,r1,r2,_⟩:=atR_mem hS (p:=a) (s:=0) q2 (by omega)
                  have hrs : ∀ s : Nat,s < 16 → r[s]? = some (atR R a s):=fun s hs=>by
                    obtain ⟨r',g1,_,g3⟩:=atR_mem hS (p:=a) (s:=s) q2 hs
                    rw [r1] at g1;injection g1 with g1;subst g1;exact g3
                  conv=>whnf
                  repeat' (first|((first|refine zs1 ?_|refine zs2 ?_|refine zs3 ?_|refine zs4 ?_|refine zs5 ?_);conv=>whnf)|((first|apply zi1|apply zi2|apply zi3|apply zi4|apply zi5) <;> intro _ <;> conv=>whnf))
                  all_goals try (exfalso;omega)
                  refine VCode.lp (outer:=h.lift) (marks:=[]) (fun y : Nat × Bool=>[(2,intss R),(3,I to),(4,.fp (encN N)),(5,.fp (encHd x)),(14,B y.2),(15,I a),(16,I y.1)]) (fun _=>[]) (fun y=>y.1 ≤ 16 ∧ (y.2 = true ↔ okU N x R (16 * a + y.1))) (fun y=>16 - y.1) (0,b) ⟨Nat.zero_le _,a2⟩ ?_ ?_
                  · conv=>whnf
                    refine Retell.turn ⟨[],0,[],[]⟩ (TurnOk.mk' _ _ [] [] (OutOk.lift _) rfl (by decide) zb trivial trivial rfl) zw zm
                  · clear a2
                    rintro ⟨s,b2⟩ ⟨s1,s2⟩
                    dsimp only at s1 s2
                    rcases Nat.lt_or_ge s 16 with q3|q3
                    · have hd:=hrs s q3
                      have hdb:=hbd a s q2 q3
                      have hokg:=fun w=>okW_gn (R:=R) (p:=a) (s:=s) (w:=w)
                      have hk0 : b2 = true ↔ okK N x R a s 0:=by
                        rw [s2];unfold okK;rw [List.take_zero];simp
                      have hkE:=okK_end (N:=N) (x:=x) (R:=R) (p:=a) q3
                      have hkS:=fun {k : Nat} {w : Wy} (hw : N.ws[k]? = some w)=>okK_step (x:=x) (R:=R) (p:=a) (s:=s) hw
                      generalize atR R a s = d at hd hdb hokg
                      conv=>whnf
                      repeat' (first|((first|refine zs1 ?_|refine zs2 ?_|refine zs3 ?_|refine zs4 ?_|refine zs5 ?_);conv=>whnf)|((first|apply zi1|apply zi2|apply zi3|apply zi4|apply zi5) <;> intro _ <;> conv=>whnf))
                      all_goals try (exfalso;omega)
                      refine VCode.lp (outer:=h.lift) (marks:=[]) (fun y : Nat × Bool=>[(2,intss R),(3,I to),(4,.fp (encN N)),(5,.fp (encHd x)),(14,B y.2),(15,I a),(16,I s),(17,I y.1)]) (fun _=>[]) (fun y=>y.1 ≤ N.ws.length ∧ (y.2 = true ↔ okK N x R a s y.1)) (fun y=>N.ws.length - y.1) (0,b2) ⟨Nat.zero_le _,hk0⟩ ?_ ?_
                      · conv=>whnf
                        refine Retell.turn ⟨[],0,[],[]⟩ (TurnOk.mk' _ _ [] [] (OutOk.lift _) rfl (by decide) zb trivial trivial rfl) zw zm
                      · clear hk0 s2
                        rintro ⟨k,b3⟩ ⟨k1,k2⟩
                        dsimp only at k1 k2
                        rcases Nat.lt_or_ge k N.ws.length with q4|q4
                        · have hw : N.ws[k]? = some N.ws[k]:=List.getElem?_eq_getElem q4
                          have hwo:=hN.ws N.ws[k] (List.getElem_mem q4)
                          have hok:=hokg N.ws[k]
                          have hk2:=hkS hw
                          generalize N.ws[k] = w at *
                          rw [← k2] at hk2
                          have cG:=fun h=>vc_rgone w ⟨a,d,s⟩ h hwo (by dsimp only;omega) ⟨by dsimp only;omega,by dsimp only;omega⟩
                          have hgo : gnB w ⟨a,d,s⟩ = true → InR p ((gnV w ⟨a,d,s⟩).p,(gnV w ⟨a,d,s⟩).s):=fun hg=>by
                            have h1 : gone w ⟨a,d,s⟩ = some (gnV w ⟨a,d,s⟩):=by rw [gone_eq,hg];rfl
                            have h2:=gone_ok hwo ⟨by dsimp only;omega,by dsimp only;omega⟩ h1
                            exact ⟨h2.2.2.1,h2.2.2.2.2.2.2⟩
                          have hv0 : gnB w ⟨a,d,s⟩ = true → rgV w ⟨a,d,s⟩ = gnV w ⟨a,d,s⟩:=fun hg=>rgV_gn hg
                          cases hg : gnB w ⟨a,d,s⟩
                          · rw [hg] at cG hok
                            have hnx : b3 = true ↔ okK N x R a s (k + 1):=by rw [hk2,hok];simp
                            generalize rgV w ⟨a,d,s⟩ = y at cG
                            conv=>whnf
                            repeat' (first|((first|refine zs1 ?_|refine zs2 ?_|refine zs3 ?_|refine zs4 ?_|refine zs5 ?_);conv=>whnf)|((first|apply zi1|apply zi2|apply zi3|apply zi4|apply zi5) <;> intro _ <;> conv=>whnf))
                            all_goals try (exfalso;omega)
                            refine zs6 [] ?_
                            conv=>whnf
                            repeat' (first|((first|refine zs1 ?_|refine zs2 ?_|refine zs3 ?_|refine zs4 ?_|refine zs5 ?_);conv=>whnf)|((first|apply zi1|apply zi2|apply zi3|apply zi4|apply zi5) <;> intro _ <;> conv=>whnf)|(refine VAny.ix encWy_len k rfl rfl hw ?_;conv=>whnf)|(refine VAny.ix encL_len a rfl rfl r1 ?_;conv=>whnf)|(refine VAny.ix encI_len s rfl (by omega) hd ?_;conv=>whnf)|(refine VCall.intro (cG _) ?_;conv=>whnf))
                            refine zs6 [] ?_
                            conv=>whnf
                            repeat' (first|((first|refine zs1 ?_|refine zs2 ?_|refine zs3 ?_|refine zs4 ?_|refine zs5 ?_);conv=>whnf)|((first|apply zi1|apply zi2|apply zi3|apply zi4|apply zi5) <;> intro _ <;> conv=>whnf))
                            all_goals try contradiction
                            all_goals try (exfalso;omega)
                            refine LEnd.intro (k + 1,b3) ⟨by dsimp only;omega,hnx⟩ (by dsimp only;omega) ?_
                            conv=>whnf
                            refine Retell.turn ⟨[],1,[],[]⟩ (TurnOk.mk' _ _ [] [] (OutOk.lift _) rfl (by decide) zb trivial trivial rfl) zw zm
                          · have hy:=hgo hg
                            rw [hg,hv0 hg] at cG
                            rw [hg] at hok
                            clear hgo hv0
                            generalize gnV w ⟨a,d,s⟩ = y at cG hok hy
                            have hyp:=hy.1
                            have hys:=hy.2
                            unfold Pp at hys
                            dsimp only at hyp hys
                            obtain ⟨r3,g1,g2,g3⟩:=atR_mem hS (p:=y.p.toNat) (s:=y.s.toNat) (by omega) (by omega)
                            rw [Int.toNat_of_nonneg hyp.1,Int.toNat_of_nonneg hys.1] at g3
                            generalize atR R y.p y.s = e at g3 hok
                            by_cases hle : e ≤ y.d
                            · rw [decide_eq_true hle] at hok
                              have hnx : b3 = true ↔ okK N x R a s (k + 1):=by rw [hk2,hok];simp
                              conv=>whnf
                              repeat' (first|((first|refine zs1 ?_|refine zs2 ?_|refine zs3 ?_|refine zs4 ?_|refine zs5 ?_);conv=>whnf)|((first|apply zi1|apply zi2|apply zi3|apply zi4|apply zi5) <;> intro _ <;> conv=>whnf))
                              all_goals try (exfalso;omega)
                              refine zs6 [] ?_
                              conv=>whnf
                              repeat' (first|((first|refine zs1 ?_|refine zs2 ?_|refine zs3 ?_|refine zs4 ?_|refine zs5 ?_);conv=>whnf)|((first|apply zi1|apply zi2|apply zi3|apply zi4|apply zi5) <;> intro _ <;> conv=>whnf)|(refine VAny.ix encWy_len k rfl rfl hw ?_;conv=>whnf)|(refine VAny.ix encL_len a rfl rfl r1 ?_;conv=>whnf)|(refine VAny.ix encI_len s rfl (by omega) hd ?_;conv=>whnf)|(refine VCall.intro (cG _) ?_;conv=>whnf))
                              refine zs6 [] ?_
                              conv=>whnf
                              repeat' (first|((first|refine zs1 ?_|refine zs2 ?_|refine zs3 ?_|refine zs4 ?_|refine zs5 ?_);conv=>whnf)|((first|apply zi1|apply zi2|apply zi3|apply zi4|apply zi5) <;> intro _ <;> conv=>whnf)|(refine VAny.ix encL_len y.p.toNat (by omega) rfl g1 ?_;conv=>whnf)|(refine VAny.ix encI_len y.s.toNat (by omega) (by omega) g3 ?_;conv=>whnf))
                              all_goals try contradiction
                              all_goals try (exfalso;omega)
                              refine LEnd.intro (k + 1,b3) ⟨by dsimp only;omega,hnx⟩ (by dsimp only;omega) ?_
                              conv=>whnf
                              refine Retell.turn ⟨[],1,[],[]⟩ (TurnOk.mk' _ _ [] [] (OutOk.lift _) rfl (by decide) zb trivial trivial rfl) zw zm
                            · rw [decide_eq_false hle] at hok
                              have hnx : false = true ↔ okK N x R a s (k + 1):=by rw [hk2,hok];simp
                              conv=>whnf
                              repeat' (first|((first|refine zs1 ?_|refine zs2 ?_|refine zs3 ?_|refine zs4 ?_|refine zs5 ?_);conv=>whnf)|((first|apply zi1|apply zi2|apply zi3|apply zi4|apply zi5) <;> intro _ <;> conv=>whnf))
                              all_goals try (exfalso;omega)
                              refine zs6 [] ?_
                              conv=>whnf
                              repeat' (first|((first|refine zs1 ?_|refine zs2 ?_|refine zs3 ?_|refine zs4 ?_|refine zs5 ?_);conv=>whnf)|((first|apply zi1|apply zi2|apply zi3|apply zi4|apply zi5) <;> intro _ <;> conv=>whnf)|(refine VAny.ix encWy_len k rfl rfl hw ?_;conv=>whnf)|(refine VAny.ix encL_len a rfl rfl r1 ?_;conv=>whnf)|(refine VAny.ix encI_len s rfl (by omega) hd ?_;conv=>whnf)|(refine VCall.intro (cG _) ?_;conv=>whnf))
                              refine zs6 [] ?_
                              conv=>whnf
                              repeat' (first|((first|refine zs1 ?_|refine zs2 ?_|refine zs3 ?_|refine zs4 ?_|refine zs5 ?_);conv=>whnf)|((first|apply zi1|apply zi2|apply zi3|apply zi4|apply zi5) <;> intro _ <;> conv=>whnf)|(refine VAny.ix encL_len y.p.toNat (by omega) rfl g1 ?_;conv=>whnf)|(refine VAny.ix encI_len y.s.toNat (by omega) (by omega) g3 ?_;conv=>whnf))
                              all_goals try contradiction
                              all_goals try (exfalso;omega)
                              refine LEnd.intro (k + 1,false) ⟨by dsimp only;omega,hnx⟩ (by dsimp only;omega) ?_
                              conv=>whnf
                              refine Retell.turn ⟨[],1,[],[]⟩ (TurnOk.mk' _ _ [] [] (OutOk.lift _) rfl (by decide) zb trivial trivial rfl) zw zm
                        · obtain rfl : k = N.ws.length:=by omega
                          rw [hkE] at k2
                          conv=>whnf
                          repeat' (first|((first|refine zs1 ?_|refine zs2 ?_|refine zs3 ?_|refine zs4 ?_|refine zs5 ?_);conv=>whnf)|((first|apply zi1|apply zi2|apply zi3|apply zi4|apply zi5) <;> intro _ <;> conv=>whnf))
                          all_goals try (exfalso;omega)
                          refine LEnd.intro (s + 1,b3) ⟨by dsimp only;omega,k2⟩ (by dsimp only;omega) ?_
                          conv=>whnf
                          refine Retell.turn ⟨[],0,[],[]⟩ (TurnOk.mk' _ _ [] [] (OutOk.lift _) rfl (by decide) zb trivial trivial rfl) zw zm
                    · obtain rfl : s = 16:=by omega
                      conv=>whnf
                      repeat' (first|((first|refine zs1 ?_|refine zs2 ?_|refine zs3 ?_|refine zs4 ?_|refine zs5 ?_);conv=>whnf)|((first|apply zi1|apply zi2|apply zi3|apply zi4|apply zi5) <;> intro _ <;> conv=>whnf))
                      all_goals try (exfalso;omega)
                      refine LEnd.intro (a + 1,b2) ⟨by dsimp only;omega,by dsimp only;rw [s2,show 16 * (a + 1) = 16 * a + 16 by omega]⟩ (by dsimp only;omega) ?_
                      conv=>whnf
                      refine Retell.turn ⟨[],0,[],[]⟩ (TurnOk.mk' _ _ [] [] (OutOk.lift _) rfl (by decide) zb trivial trivial rfl) zw zm
                · obtain rfl : a = p:=by omega
                  rw [← holds_okU] at a2
                  cases b with
                  | false =>
                    have hno : ¬ holds a N.ws x R = true:=fun h=>by have:=a2.2 h;cases this
                    rw [if_neg hno] at hE
                    subst hE
                    rw [if_neg (by decide)] at hZ
                    subst hZ
                    conv=>whnf
                    repeat' (first|((first|refine zs1 ?_|refine zs2 ?_|refine zs3 ?_|refine zs4 ?_|refine zs5 ?_);conv=>whnf)|((first|apply zi1|apply zi2|apply zi3|apply zi4|apply zi5) <;> intro _ <;> conv=>whnf))
                    all_goals try (exfalso;omega)
                    exact VOut.same rfl
                  | true =>
                    rw [if_pos (a2.1 rfl)] at hE
                    have cB:=fun h=>vc_beside to 0 (N.p - 1) h
                    by_cases ht : 0 ≤ to ∧ to ≤ N.p - 1
                    · rw [if_pos ht] at hE
                      subst hE
                      rw [if_pos rfl] at hZ
                      rw [decide_eq_false (by omega)] at cB
                      obtain ⟨t,rfl⟩ : ∃ t : Nat,to = t:=⟨to.toNat,by omega⟩
                      obtain ⟨r,r1,r2,_⟩:=atR_mem hS (p:=t) (s:=0) (by omega) (by omega)
                      rw [dayOf_row r1] at hZ
                      have cM:=fun h=>vc_first r h (by omega) (by omega)
                      rw [show r.length - 1 = 15 by omega,← hZ] at cM
                      conv=>whnf
                      repeat' (first|((first|refine zs1 ?_|refine zs2 ?_|refine zs3 ?_|refine zs4 ?_|refine zs5 ?_);conv=>whnf)|((first|apply zi1|apply zi2|apply zi3|apply zi4|apply zi5) <;> intro _ <;> conv=>whnf)|(refine VCall.intro (cB _) ?_;conv=>whnf)|(refine VAny.ix encL_len t rfl rfl r1 ?_;conv=>whnf)|(refine VCall.intro (cM _) ?_;conv=>whnf))
                      all_goals try contradiction
                      all_goals try (exfalso;omega)
                      exact VOut.same rfl
                    · rw [if_neg ht] at hE
                      subst hE
                      rw [if_neg (by decide)] at hZ
                      subst hZ
                      rw [decide_eq_true (by omega)] at cB
                      conv=>whnf
                      repeat' (first|((first|refine zs1 ?_|refine zs2 ?_|refine zs3 ?_|refine zs4 ?_|refine zs5 ?_);conv=>whnf)|((first|apply zi1|apply zi2|apply zi3|apply zi4|apply zi5) <;> intro _ <;> conv=>whnf)|(refine VCall.intro (cB _) ?_;conv=>whnf))
                      all_goals try contradiction
                      all_goals try (exfalso;omega)
                      exact VOut.same rfl
    · have hsz : ¬ szR N.p R = true:=fun h=>hl (szR_iff.1 h).1
      rw [if_neg hsz] at hE
      subst hE
      rw [if_neg (by decide)] at hZ
      subst hZ
      conv=>whnf
      repeat' (first|((first|refine zs1 ?_|refine zs2 ?_|refine zs3 ?_|refine zs4 ?_|refine zs5 ?_);conv=>whnf)|((first|apply zi1|apply zi2|apply zi3|apply zi4|apply zi5) <;> intro _ <;> conv=>whnf)|(refine VCall.intro (cH _) ?_;conv=>whnf))
      all_goals try contradiction
      all_goals try (exfalso;omega)
      exact VOut.same rfl
  · rw [if_neg h0] at hE
    rw [← hE] at cH h0
    rw [if_neg h0] at hZ
    subst hZ
    refine VC.body Tryz.func30 rfl Tryz.ntmps30 Tryz.call30 (h.grows_refl) rfl ?_;conv=>whnf
    repeat' (first|((first|refine zs1 ?_|refine zs2 ?_|refine zs3 ?_|refine zs4 ?_|refine zs5 ?_|refine zs6 [] ?_);conv=>whnf)|((first|apply zi1|apply zi2|apply zi3|apply zi4|apply zi5) <;> intro _ <;> conv=>whnf)|(refine VCall.intro (cH _) ?_;conv=>whnf))
    · exact VOut.same rfl
    all_goals (rename_i hh;exact absurd (by omega) h0)
end Go.Proofs.YtoeendggmalcpaaGreat

open Go.Vm
open Psg
namespace Go.Proofs.YtoeendggmalcpaaGreat
set_option maxRecDepth 20000
set_option maxHeartbeats 4000000
theorem vc_longL (N : Nt) (T : List (List Int)) (h : Hp) (hT : T.length ≤ 9223372036854775807) : VC Tryz.prog 11 [vN N,intss T] h (B (lngB N T)) h:=by
  obtain ⟨E,hE⟩ : ∃ E,E = lngB N T:=⟨_,rfl⟩
  rw [← hE]
  unfold lngB at hE
  by_cases h1 : 28 < N.ws.length
  · rw [decide_eq_true h1,Bool.true_or] at hE
    rw [hE]
    refine VC.body Tryz.func11 rfl Tryz.ntmps11 Tryz.call11 (h.grows_refl) rfl ?_;conv=>whnf
    repeat' (first|((first|refine zs1 ?_|refine zs2 ?_|refine zs3 ?_|refine zs4 ?_|refine zs5 ?_);conv=>whnf)|((first|apply zi1|apply zi2|apply zi3|apply zi4|apply zi5) <;> intro _ <;> conv=>whnf))
    all_goals try (exfalso;omega)
    exact VOut.same rfl
  · rw [decide_eq_false h1,Bool.false_or] at hE
    refine VC.body Tryz.func11 rfl Tryz.ntmps11 Tryz.call11 (h.grows_refl) rfl ?_;conv=>whnf
    repeat' (first|((first|refine zs1 ?_|refine zs2 ?_|refine zs3 ?_|refine zs4 ?_|refine zs5 ?_);conv=>whnf)|((first|apply zi1|apply zi2|apply zi3|apply zi4|apply zi5) <;> intro _ <;> conv=>whnf))
    all_goals try (exfalso;omega)
    refine VCode.lp (outer:=h.lift) (marks:=[]) (fun k : Nat=>[(11,intss T),(12,I T.length),(13,I k)]) (fun _=>[]) (fun k=>k ≤ T.length ∧ E = (T.drop k).any fun l=>decide (30 < l.length)) (fun k=>T.length - k) 0 ⟨Nat.zero_le _,hE⟩ ?_ ?_
    · conv=>whnf
      refine Retell.turn ⟨[],1,[],[]⟩ (TurnOk.mk' _ _ [] [] (OutOk.lift _) rfl (by decide) zb trivial trivial rfl) zw zm
    · rintro k ⟨k1,k2⟩
      rcases Nat.lt_or_ge k T.length with h3|h3
      · have hw : T[k]? = some T[k]:=List.getElem?_eq_getElem h3
        rw [any_at _ hw] at k2
        generalize T[k] = w at hw k2
        by_cases h5 : 30 < w.length
        · rw [decide_eq_true h5,Bool.true_or] at k2
          rw [k2]
          conv=>whnf
          repeat' (first|((first|refine zs1 ?_|refine zs2 ?_|refine zs3 ?_|refine zs4 ?_|refine zs5 ?_);conv=>whnf)|((first|apply zi1|apply zi2|apply zi3|apply zi4|apply zi5) <;> intro _ <;> conv=>whnf)|(refine VAny.ix encL_len k rfl rfl hw ?_;conv=>whnf))
          all_goals try (exfalso;omega)
          exact VOut.same rfl
        · rw [decide_eq_false h5,Bool.false_or] at k2
          conv=>whnf
          repeat' (first|((first|refine zs1 ?_|refine zs2 ?_|refine zs3 ?_|refine zs4 ?_|refine zs5 ?_);conv=>whnf)|((first|apply zi1|apply zi2|apply zi3|apply zi4|apply zi5) <;> intro _ <;> conv=>whnf)|(refine VAny.ix encL_len k rfl rfl hw ?_;conv=>whnf))
          all_goals try (exfalso;omega)
          refine LEnd.intro (k + 1) ⟨by omega,k2⟩ (by omega) ?_
          conv=>whnf
          refine Retell.turn ⟨[],0,[],[]⟩ (TurnOk.mk' _ _ [] [] (OutOk.lift _) rfl (by decide) zb trivial trivial rfl) zw zm
      · rw [List.drop_of_length_le h3,List.any_nil] at k2
        rw [k2]
        conv=>whnf
        repeat' (first|((first|refine zs1 ?_|refine zs2 ?_|refine zs3 ?_|refine zs4 ?_|refine zs5 ?_);conv=>whnf)|((first|apply zi1|apply zi2|apply zi3|apply zi4|apply zi5) <;> intro _ <;> conv=>whnf))
        all_goals try (exfalso;omega)
        exact VOut.same rfl
/-! ### The calendar that is returned -/
structure ClO (n : Nat) (N : Nt) (x : Hd) : Prop where
  sz : Sz n (clV N x)
  val : valR (clV N x) = true
  hol : holds n N.ws x (clV N x) = true
  day : ∀ p : Nat,p < n → dayOf (atR (clV N x)) p = dayOf (atD (bgn N.ws x).D) p
theorem cl_ok {n : Nat} {N : Nt} {x : Hd} (hN : NOk n N) (hx : HOk n x) : ClO n N x:=by
  have hL:=bgn_lst hN.n1.2 hN.ws hx
  have hl:=bgn_len hN hx
  have e : clV N x = calR (bgn N.ws x).D n:=by unfold clV;rw [if_pos (hN.hrd hx),nok_nat hN]
  rw [show ClO n N x ↔ ClO n N x from Iff.rfl]
  have ha : ∀ p s : Int,(0 ≤ p ∧ p < n) → Pp s → atR (clV N x) p s = atD (bgn N.ws x).D p s:=fun p s hp hs=>by rw [e];exact cal_at hp hs
  refine ⟨by rw [e];exact cal_sz hl hN.n1.2,by rw [e];exact cal_val hl hN.n1.2 hL.cap,?_,fun p hp=>?_⟩
  · rw [holds_iff]
    exact hL.hol.congr hN.ws hx ha
  · exact dayOf_congr fun s hs=>ha p s ⟨by omega,by omega⟩ hs
theorem cl_prv {n : Nat} {N : Nt} {x : Hd} (hN : NOk n N) (hx : HOk n x) {p : Nat} (hp : p < n) : prE N x (clV N x) p = 0 ∧ prV N x (clV N x) p = dayOf (atD (bgn N.ws x).D) p:=by
  have h:=cl_ok hN hx
  have hpn:=hN.p
  have h1 : prE N x (clV N x) p = 0:=by
    unfold prE
    rw [if_pos (hN.hrd hx),if_pos (szR_iff.2 ⟨by rw [h.sz.len,hpn],h.sz.row⟩),if_pos h.val,nok_nat hN,if_pos h.hol,if_pos (by omega)]
  refine ⟨h1,?_⟩
  unfold prV
  rw [if_pos h1,h.day p hp]
def dyU (N : Nt) (x : Hd) (p : Nat) : Int:=if dyP N x p = -1 then 1001 else dyP N x p
theorem dyU_eq {n : Nat} {N : Nt} {x : Hd} (hN : NOk n N) (hx : HOk n x) {p : Nat} (hp : p < n) : dayOf (atD (bgn N.ws x).D) p = dyU N x p:=by
  have hc:=dayOf_cap (bgn_lst hN.n1.2 hN.ws hx) (p:=(p : Int)) (by omega)
  unfold dyU dyP tell
  split <;> split <;> omega
theorem vc_Calendars (N : Nt) (x : Hd) (T : List (List Int)) (hT : T.length ≤ 9223372036854775807) (to : Int) (h : Hp) : VC Tryz.prog 6 [vN N,vHd x,intss T,I to] h (B true) h:=by
  have cL:=fun h=>vc_longL N T h hT
  have hlg : lngB N T = false → N.ws.length ≤ 28 ∧ ∀ r ∈ T,r.length ≤ 30:=by
    unfold lngB
    rw [Bool.or_eq_false_iff,decide_eq_false_iff_not,List.any_eq_false]
    rintro ⟨h1,h2⟩
    refine ⟨by omega,fun r hr=>?_⟩
    have:=h2 r hr
    rw [decide_eq_true_eq] at this
    omega
  generalize lngB N T = lb at cL hlg
  refine VC.bodyC 1 Tryz.func6 rfl Tryz.ntmps6 Tryz.call6 (h.grows_refl) rfl ?_;conv=>whnf
  refine VCut.at' (outer:=h.lift) (marks:=[]) 1 [(2,intss T),(3,I to),(4,.fp (encN N)),(5,.fp (encHd x))] [] ?_ ?_
  · conv=>whnf
    refine Retell.turn ⟨[],2,[(0,encN N),(1,encHd x)],[]⟩ (TurnOk.mk' _ _ [(0,encN N),(1,encHd x)] [] (OutOk.lift _) rfl (by decide) zb zf trivial rfl) zw zm
  by_cases hb : lb = true ∨ 12 < T.length
  · cases lb with
    | true =>
      conv=>whnf
      repeat' (first|((first|refine zs1 ?_|refine zs2 ?_|refine zs3 ?_|refine zs4 ?_|refine zs5 ?_);conv=>whnf)|((first|apply zi1|apply zi2|apply zi3|apply zi4|apply zi5) <;> intro _ <;> conv=>whnf)|(refine VCall.intro (cL _) ?_;conv=>whnf)|(refine VCall.intro (vc_awake _) ?_;conv=>whnf))
      all_goals try (exfalso;omega)
      exact VOut.same rfl
    | false =>
      have hb2 : 12 < T.length:=by rcases hb with h|h;cases h;exact h
      conv=>whnf
      repeat' (first|((first|refine zs1 ?_|refine zs2 ?_|refine zs3 ?_|refine zs4 ?_|refine zs5 ?_);conv=>whnf)|((first|apply zi1|apply zi2|apply zi3|apply zi4|apply zi5) <;> intro _ <;> conv=>whnf)|(refine VCall.intro (cL _) ?_;conv=>whnf)|(refine VCall.intro (vc_awake _) ?_;conv=>whnf))
      all_goals try (exfalso;omega)
      exact VOut.same rfl
  · have hl14 : T.length ≤ 12:=by omega
    have hlb : lb = false:=by cases lb;rfl;exact absurd (.inl rfl) hb
    subst hlb
    obtain ⟨n28,r30⟩:=hlg rfl
    have r30' : ∀ r ∈ T,r.length ≤ 4000000:=fun r hr=>by have:=r30 r hr;omega
    have c1:=fun h=>vc_CloneNet N h (by omega)
    have c2:=fun h=>vc_kcloneA T h (by omega) r30'
    have c3:=fun h=>vc_Net N h (by omega)
    have c4:=fun h=>vc_Proves N x T to h (by omega) (by omega)
    have c5:=fun h=>vc_rProves N x T to h (by omega) (by omega) r30'
    have c6:=fun h=>vc_Calendar N x h (by omega)
    have c7:=fun h=>vc_rEarliest N x h (by omega)
    have c8:=fun h=>vc_equal N N h (by omega) (by omega)
    have c9:=fun h=>vc_kequalA T T h (by omega) (by omega) r30' r30'
    rw [decide_eq_true rfl] at c8 c9
    generalize prV N x T to = V1 at c4 c5
    generalize prE N x T to = E1 at c4 c5
    conv=>whnf
    repeat' (first|((first|refine zs1 ?_|refine zs2 ?_|refine zs3 ?_|refine zs4 ?_|refine zs5 ?_);conv=>whnf)|((first|apply zi1|apply zi2|apply zi3|apply zi4|apply zi5) <;> intro _ <;> conv=>whnf)|(refine VCall.intro (cL _) ?_;conv=>whnf))
    all_goals try (exfalso;omega)
    refine VCut.at' (outer:=h.lift) (marks:=[]) 1 [(2,intss T),(3,I to),(4,.fp (encN N)),(5,.fp (encHd x))] [] ?_ ?_
    · conv=>whnf
      refine Retell.turn ⟨[],0,[],[]⟩ (TurnOk.mk' _ _ [] [] (OutOk.lift _) rfl (by decide) zb trivial trivial rfl) zw zm
    conv=>whnf
    refine zs6 [(1,4),(3,4),(1,6),(3,6),(5,6),(6,10),(6,12)] ?_
    conv=>whnf
    repeat' (first|((first|refine zs1 ?_|refine zs2 ?_|refine zs3 ?_|refine zs4 ?_|refine zs5 ?_);conv=>whnf)|((first|apply zi1|apply zi2|apply zi3|apply zi4|apply zi5) <;> intro _ <;> conv=>whnf)|(refine VCall.intro (c1 _) ?_;conv=>whnf)|(refine VCall.intro (c2 _) ?_;conv=>whnf)|(refine VCall.intro (c3 _) ?_;conv=>whnf))
    refine VCut.at' (outer:=h.lift) (marks:=[]) 3 [(2,intss T),(3,I to),(4,.fp (encN N)),(5,.fp (encHd x)),(9,.fp (encN N)),(10,intss T),(11,.fp (encN N)),(12,.fp (encHd x))] [] ?_ ?_
    · conv=>whnf
      refine Retell.turn ⟨[],3,[(0,encN N),(1,encN N),(2,encHd x)],[]⟩ (TurnOk.mk' _ _ [(0,encN N),(1,encN N),(2,encHd x)] [] (OutOk.lift _) rfl (by decide) zb zf trivial rfl) zw zm
    conv=>whnf
    repeat' (first|((first|refine zs1 ?_|refine zs2 ?_|refine zs3 ?_|refine zs4 ?_|refine zs5 ?_);conv=>whnf)|((first|apply zi1|apply zi2|apply zi3|apply zi4|apply zi5) <;> intro _ <;> conv=>whnf)|(refine VCall.intro (c4 _) ?_;conv=>whnf)|(refine VCall.intro (c5 _) ?_;conv=>whnf))
    all_goals try contradiction
    all_goals try (exfalso;omega)
    refine VCut.at' (outer:=h.lift) (marks:=[]) 99 [(2,intss T),(3,I to),(4,.fp (encN N)),(5,.fp (encHd x)),(9,.fp (encN N)),(10,intss T),(11,.fp (encN N)),(12,.fp (encHd x))] [] ?_ ?_
    · conv=>whnf
      refine Retell.turn ⟨[],0,[],[]⟩ (TurnOk.mk' _ _ [] [] (OutOk.lift _) rfl (by decide) zb trivial trivial rfl) zw zm
    by_cases h0 : hrd N x = 0
    · obtain ⟨n,hN,hx⟩:=hrd_ok h0
      have hpn:=hN.p
      have hn1:=hN.n1
      have hcl:=cl_ok hN hx
      have hcs:=hcl.sz.len
      have hcr:=hcl.sz.row
      have hpr:=fun {p : Nat} (hp : p < n)=>cl_prv hN hx hp
      have hdy:=fun {p : Nat} (hp : p < n)=>dyU_eq hN hx hp
      have c10:=fun to h=>vc_rProves N x (clV N x) to h (by omega) (by omega) (fun r hr=>by have:=hcr r hr;omega)
      rw [h0] at c6 c7
      unfold eaL at c7
      rw [if_pos h0,nok_nat hN] at c7
      have hF : ∀ k,k < n → ((List.range n).map (dyP N x))[k]? = some (dyP N x k):=fun k hk=>by rw [List.getElem?_map,List.getElem?_range hk];rfl
      have hFl : ((List.range n).map (dyP N x)).length = n:=by simp
      generalize (List.range n).map (dyP N x) = L at c7 hF hFl
      clear hcl hcr
      conv=>whnf
      repeat' (first|((first|refine zs1 ?_|refine zs2 ?_|refine zs3 ?_|refine zs4 ?_|refine zs5 ?_);conv=>whnf)|((first|apply zi1|apply zi2|apply zi3|apply zi4|apply zi5) <;> intro _ <;> conv=>whnf)|(refine VCall.intro (c6 _) ?_;conv=>whnf)|(refine VCall.intro (c7 _) ?_;conv=>whnf))
      all_goals try contradiction
      all_goals try (exfalso;omega)
      refine VCode.lp (outer:=h.lift) (marks:=[]) (fun k : Nat=>[(2,intss T),(4,.fp (encN N)),(9,.fp (encN N)),(10,intss T),(11,.fp (encN N)),(12,.fp (encHd x)),(17,intss (clV N x)),(87,ints L),(88,I L.length),(89,I k)]) (fun _=>[]) (fun k=>k ≤ n) (fun k=>n - k) 0 (Nat.zero_le _) ?_ ?_
      · conv=>whnf
        refine Retell.turn ⟨[],0,[],[]⟩ (TurnOk.mk' _ _ [] [] (OutOk.lift _) rfl (by decide) zb trivial trivial rfl) zw zm
      · intro k hk
        rcases Nat.lt_or_ge k n with h3|h3
        · have hL:=hF k h3
          obtain ⟨e1,e2⟩:=hpr h3
          have e3:=hdy h3
          have c11:=fun h=>c10 k h
          rw [e1,e2,e3] at c11
          unfold dyU at c11
          clear e1 e2 e3 hdy hpr hF c10
          generalize dyP N x k = d at hL c11
          by_cases hd : d = -1
          · rw [if_pos hd] at c11
            conv=>whnf
            repeat' (first|((first|refine zs1 ?_|refine zs2 ?_|refine zs3 ?_|refine zs4 ?_|refine zs5 ?_);conv=>whnf)|((first|apply zi1|apply zi2|apply zi3|apply zi4|apply zi5) <;> intro _ <;> conv=>whnf)|(refine VAny.ix encI_len k rfl rfl hL ?_;conv=>whnf)|(refine VCall.intro (c11 _) ?_;conv=>whnf))
            all_goals try contradiction
            all_goals try (exfalso;omega)
            refine LEnd.intro (k + 1) (by omega) (by omega) ?_
            conv=>whnf
            refine Retell.turn ⟨[],0,[],[]⟩ (TurnOk.mk' _ _ [] [] (OutOk.lift _) rfl (by decide) zb trivial trivial rfl) zw zm
          · rw [if_neg hd] at c11
            conv=>whnf
            repeat' (first|((first|refine zs1 ?_|refine zs2 ?_|refine zs3 ?_|refine zs4 ?_|refine zs5 ?_);conv=>whnf)|((first|apply zi1|apply zi2|apply zi3|apply zi4|apply zi5) <;> intro _ <;> conv=>whnf)|(refine VAny.ix encI_len k rfl rfl hL ?_;conv=>whnf)|(refine VCall.intro (c11 _) ?_;conv=>whnf))
            all_goals try contradiction
            all_goals try (exfalso;omega)
            refine LEnd.intro (k + 1) (by omega) (by omega) ?_
            conv=>whnf
            refine Retell.turn ⟨[],0,[],[]⟩ (TurnOk.mk' _ _ [] [] (OutOk.lift _) rfl (by decide) zb trivial trivial rfl) zw zm
        · obtain rfl : k = n:=by omega
          conv=>whnf
          repeat' (first|((first|refine zs1 ?_|refine zs2 ?_|refine zs3 ?_|refine zs4 ?_|refine zs5 ?_);conv=>whnf)|((first|apply zi1|apply zi2|apply zi3|apply zi4|apply zi5) <;> intro _ <;> conv=>whnf)|(refine VCall.intro (c8 _) ?_;conv=>whnf)|(refine VCall.intro (c9 _) ?_;conv=>whnf)|(refine VCall.intro (vc_awake _) ?_;conv=>whnf))
          all_goals first|contradiction|(exfalso;omega)|exact VOut.same rfl
    · have hcv : clV N x = []:=by unfold clV;rw [if_neg h0]
      have hea : eaL N x = []:=by unfold eaL;rw [if_neg h0]
      rw [hcv] at c6
      rw [hea] at c7
      generalize hrd N x = E2 at c6 c7 h0
      conv=>whnf
      repeat' (first|((first|refine zs1 ?_|refine zs2 ?_|refine zs3 ?_|refine zs4 ?_|refine zs5 ?_);conv=>whnf)|((first|apply zi1|apply zi2|apply zi3|apply zi4|apply zi5) <;> intro _ <;> conv=>whnf)|(refine VCall.intro (c6 _) ?_;conv=>whnf)|(refine VCall.intro (c7 _) ?_;conv=>whnf))
      all_goals try contradiction
      all_goals try (exfalso;omega)
      refine VCode.lp (outer:=h.lift) (marks:=[]) (fun k : Nat=>[(2,intss T),(4,.fp (encN N)),(9,.fp (encN N)),(10,intss T),(87,ints []),(88,I 0),(89,I k)]) (fun _=>[]) (fun k=>k = 0) (fun k=>0 - k) 0 rfl ?_ ?_
      · conv=>whnf
        refine Retell.turn ⟨[],0,[],[]⟩ (TurnOk.mk' _ _ [] [] (OutOk.lift _) rfl (by decide) zb trivial trivial rfl) zw zm
      · intro k hk
        subst hk
        conv=>whnf
        repeat' (first|((first|refine zs1 ?_|refine zs2 ?_|refine zs3 ?_|refine zs4 ?_|refine zs5 ?_);conv=>whnf)|((first|apply zi1|apply zi2|apply zi3|apply zi4|apply zi5) <;> intro _ <;> conv=>whnf)|(refine VCall.intro (c8 _) ?_;conv=>whnf)|(refine VCall.intro (c9 _) ?_;conv=>whnf)|(refine VCall.intro (vc_awake _) ?_;conv=>whnf))
        all_goals first|contradiction|(exfalso;omega)|exact VOut.same rfl
end Go.Proofs.YtoeendggmalcpaaGreat

open Go.Vm
open Psg
namespace Go.Vm
theorem VTo.fsSlP {c : TCtx} {p o a b : Nat} {m : Option Nat} {ds cs : List D} (h : c.frz p ds) (hl : cs.length = b * a) (ho : o + b * a ≤ ds.length) (hc : cs = (ds.drop o).take (b * a)) : VTo c (.slice (.loc p) o a b m) (.fs a b cs):=by
  simp only [VTo,VToFs]
  exact ⟨trivial,trivial,hl,ds,h,ho,hc⟩
end Go.Vm
namespace Go.Proofs.YtoeendggmalcpaaGreat
set_option maxRecDepth 20000
set_option maxHeartbeats 4000000

theorem VOut.ownA {h : Hp} {loc : List Blk} {p : Int} {esz n : Nat} {ds : List Vm.D} (j L : Nat) (hL : Nat.ble loc.length L = true) (hj : loc[j]? = some (.flat true ds)) : VOut h ⟨h.lift,loc⟩ (.agg [I p,.gl (.loc j) esz n]) (.agg [I p,.gl h.fresh esz n]) (h.push (.flat true ds)):=by
  refine VOut.upd [] [.flat true ds] [j] L hL (by intro p hp;cases hp) (by simp) rfl ?_ ?_ rfl
  · intro k b hk
    cases k with
    | zero=>rw [List.getElem?_cons_zero,Option.some.injEq] at hk;subst hk;exact ⟨j,rfl,hj⟩
    | succ k=>simp at hk
  · intro σ x hx
    have : (V.agg [I p,.gl h.fresh esz n]).ren (backR h.loc.length [j] L) = .agg [I p,.gl (.loc j) esz n]:=by simp [V.ren,V.rens,backR,Hp.fresh]
    rw [this];exact hx
theorem vc_FourO (h : Hp) : VC Tryz.prog 4 [] h (.agg [I 4,.gl h.fresh 8 5]) (h.push (.flat true (fourN.ws.flatMap encWy))):=by
  have p1:=fun h=>vc_Led 0 1 2 50 0 0 0 100 h
  have p2:=fun h=>vc_Led 1 3 3 30 1 0 20 40 h
  have p3:=fun h=>vc_Led 1 2 1 40 0 1 0 100 h
  have p4:=fun h=>vc_Led 2 1 1 40 0 0 0 100 h
  have p5:=fun h=>vc_Led 2 3 9 10 0 0 0 100 h
  refine VC.body Tryz.func4 rfl Tryz.ntmps4 Tryz.call4 (h.grows_push _) rfl ?_;conv=>whnf
  repeat' (first|((first|refine zs1 ?_|refine zs2 ?_|refine zs3 ?_|refine zs4 ?_|refine zs5 ?_);conv=>whnf)|((first|apply zi1|apply zi2|apply zi3|apply zi4|apply zi5) <;> intro _ <;> conv=>whnf)|(refine VCall.intro (p1 _) ?_;conv=>whnf)|(refine VCall.intro (p2 _) ?_;conv=>whnf)|(refine VCall.intro (p3 _) ?_;conv=>whnf)|(refine VCall.intro (p4 _) ?_;conv=>whnf)|(refine VCall.intro (p5 _) ?_;conv=>whnf))
  exact VOut.ownA 1 2 rfl rfl
theorem tmod_b {a k : Int} (ha : 0 ≤ a) (hk : 0 < k) : 0 ≤ a.tmod k ∧ a.tmod k < k:=by
  rw [Int.tmod_eq_emod_of_nonneg ha]
  exact ⟨Int.emod_nonneg _ (by omega),Int.emod_lt_of_pos _ hk⟩
theorem tdiv_b {a k : Int} (ha : 0 ≤ a) (hk : 0 < k) : 0 ≤ a.tdiv k ∧ a.tdiv k ≤ a:=by
  rw [Int.tdiv_eq_ediv_of_nonneg ha]
  exact ⟨Int.ediv_nonneg ha (by omega),Int.ediv_le_self _ ha⟩
theorem wtd {a k : Int} {A : Int} (ha : 0 ≤ a) (hA : a ≤ A) (h : A ≤ 1000000) (hk : 0 < k) : ∃ K,IntKind.i64.wrap (a.tdiv k) = K ∧ 0 ≤ K ∧ K ≤ A:=by
  have:=tdiv_b ha hk
  exact ⟨_,rfl,by rw [wrap_i64 (by omega)];omega,by rw [wrap_i64 (by omega)];omega⟩
theorem wtm {a k : Int} (ha : 0 ≤ a) (hk : 0 < k) : ∃ K,a.tmod k = K ∧ 0 ≤ K ∧ K < k:=⟨_,rfl,tmod_b ha hk⟩
theorem wtn {a k : Int} (K : Nat) (ha : 0 ≤ a) (hk : k = K) (h0 : 0 < k) : ∃ m : Nat,a.tmod k = (m : Int) ∧ m < K:=by
  have:=tmod_b (a:=a) (k:=k) ha h0
  exact ⟨(a.tmod k).toNat,by omega,by omega⟩
def tlC : Code → Code
  | .seq _ c=>c
  | c=>c
/-! Lists of one's own that are lent to the laws. -/
def dNt (N : Nt) : Vm.D:=.agg [DI N.p,.sl 8 N.ws.length (N.ws.flatMap encWy)]
def dHd (x : Hd) : Vm.D:=.agg [DI x.p,DI x.d,DI x.s]
def dHs (l : List Hd) : Vm.D:=.sl 3 l.length (l.flatMap encHd)
def dLs (l : List (List Int)) : Vm.D:=.sl 1 l.length (l.flatMap encL)
section
variable {outer : Vm.Id → Option Blk} {loc : List Blk} {A B C E F : List Vm.D} {ws : List Wy} {rt ps a1 a2 a3 a4 : List Int} {l : List Hd} {p q r s t n1 n2 n3 n4 n5 : Nat} {P x y z to : Int}
theorem own5 (hA : loc[p]? = some (.flat true A)) (hB : loc[q]? = some (.flat true B)) (hC : loc[r]? = some (.flat true C)) (hE : loc[s]? = some (.flat true E)) (eA : A = ws.flatMap encWy) (eB : B = rt.flatMap Vm.encI) (eC : C = l.flatMap encHd) (eE : E = ps.flatMap Vm.encI)
    (l1 : ws.length = n1) (l2 : rt.length = n2) (l3 : l.length = n3) (l4 : ps.length = n4) (d1 : Nat.beq p q = false) (d2 : Nat.beq p r = false) (d3 : Nat.beq p s = false) (d4 : Nat.beq q r = false) (d5 : Nat.beq q s = false) (d6 : Nat.beq r s = false) :
    VC Tryz.prog 5 [.agg [I P,.gl (.loc p) 8 n1],.agg [I x,I y,I z],.gl (.loc q) 1 n2,I to,.gl (.loc r) 3 n3,.gl (.loc s) 1 n4] ⟨outer,loc⟩ (.s (.bool true)) ⟨outer,loc⟩:=by
  subst eA eB eC eE l1 l2 l3 l4
  have f1 : assoc [(p,ws.flatMap encWy),(q,rt.flatMap Vm.encI),(r,l.flatMap encHd),(s,ps.flatMap Vm.encI)] p = some (ws.flatMap encWy):=by simp [assoc]
  have f2 : assoc [(p,ws.flatMap encWy),(q,rt.flatMap Vm.encI),(r,l.flatMap encHd),(s,ps.flatMap Vm.encI)] q = some (rt.flatMap Vm.encI):=by simp [assoc,d1]
  have f3 : assoc [(p,ws.flatMap encWy),(q,rt.flatMap Vm.encI),(r,l.flatMap encHd),(s,ps.flatMap Vm.encI)] r = some (l.flatMap encHd):=by simp [assoc,d2,d4]
  have f4 : assoc [(p,ws.flatMap encWy),(q,rt.flatMap Vm.encI),(r,l.flatMap encHd),(s,ps.flatMap Vm.encI)] s = some (ps.flatMap Vm.encI):=by simp [assoc,d3,d5,d6]
  exact VC.lend1 [dNt ⟨P,ws⟩,dHd ⟨x,y,z⟩,dints rt,DI to,dHs l,dints ps] [(p,ws.flatMap encWy),(q,rt.flatMap Vm.encI),(r,l.flatMap encHd),(s,ps.flatMap Vm.encI)] [] (FzAll.flat hA (FzAll.flat hB (FzAll.flat hC (FzAll.flat hE FzAll.nil)))) trivial
    (VTos.cons (VTo.agg (VTos.cons (VTo.sc rfl) (VTos.cons (VTo.fsGl f1 (flat_len encWy_len _)) VTos.nil))) (VTos.cons (VTo.agg (VTos.cons (VTo.sc rfl) (VTos.cons (VTo.sc rfl) (VTos.cons (VTo.sc rfl) VTos.nil)))) (VTos.cons (VTo.fsGl f2 (flat_len Vm.encI_len _)) (VTos.cons (VTo.sc rfl) (VTos.cons (VTo.fsGl f3 (flat_len encHd_len _)) (VTos.cons (VTo.fsGl f4 (flat_len Vm.encI_len _)) VTos.nil)))))) (vc_Routes ⟨P,ws⟩ ⟨x,y,z⟩ rt to l ps Hp.bare)
theorem own7 (hA : loc[p]? = some (.flat true A)) (hB : loc[q]? = some (.flat true B)) (hC : loc[r]? = some (.flat true C)) (hE : loc[s]? = some (.flat true E)) (hF : loc[t]? = some (.flat true F)) (eA : A = ws.flatMap encWy) (eB : B = a1.flatMap Vm.encI) (eC : C = a2.flatMap Vm.encI) (eE : E = a3.flatMap Vm.encI) (eF : F = a4.flatMap Vm.encI)
    (l1 : ws.length = n1) (l2 : a1.length = n2) (l3 : a2.length = n3) (l4 : a3.length = n4) (l5 : a4.length = n5) (d1 : Nat.beq p q = false) (d2 : Nat.beq p r = false) (d3 : Nat.beq p s = false) (d4 : Nat.beq p t = false) (d5 : Nat.beq q r = false) (d6 : Nat.beq q s = false) (d7 : Nat.beq q t = false) (d8 : Nat.beq r s = false) (d9 : Nat.beq r t = false) (d10 : Nat.beq s t = false) :
    VC Tryz.prog 7 [.agg [I P,.gl (.loc p) 8 n1],.gl (.loc q) 1 n2,.gl (.loc r) 1 n3,.gl (.loc s) 1 n4,.gl (.loc t) 1 n5] ⟨outer,loc⟩ (.s (.bool true)) ⟨outer,loc⟩:=by
  subst eA eB eC eE eF l1 l2 l3 l4 l5
  have f1 : assoc [(p,ws.flatMap encWy),(q,a1.flatMap Vm.encI),(r,a2.flatMap Vm.encI),(s,a3.flatMap Vm.encI),(t,a4.flatMap Vm.encI)] p = some (ws.flatMap encWy):=by simp [assoc]
  have f2 : assoc [(p,ws.flatMap encWy),(q,a1.flatMap Vm.encI),(r,a2.flatMap Vm.encI),(s,a3.flatMap Vm.encI),(t,a4.flatMap Vm.encI)] q = some (a1.flatMap Vm.encI):=by simp [assoc,d1]
  have f3 : assoc [(p,ws.flatMap encWy),(q,a1.flatMap Vm.encI),(r,a2.flatMap Vm.encI),(s,a3.flatMap Vm.encI),(t,a4.flatMap Vm.encI)] r = some (a2.flatMap Vm.encI):=by simp [assoc,d2,d5]
  have f4 : assoc [(p,ws.flatMap encWy),(q,a1.flatMap Vm.encI),(r,a2.flatMap Vm.encI),(s,a3.flatMap Vm.encI),(t,a4.flatMap Vm.encI)] s = some (a3.flatMap Vm.encI):=by simp [assoc,d3,d6,d8]
  have f5 : assoc [(p,ws.flatMap encWy),(q,a1.flatMap Vm.encI),(r,a2.flatMap Vm.encI),(s,a3.flatMap Vm.encI),(t,a4.flatMap Vm.encI)] t = some (a4.flatMap Vm.encI):=by simp [assoc,d4,d7,d9,d10]
  exact VC.lend1 [dNt ⟨P,ws⟩,dints a1,dints a2,dints a3,dints a4] [(p,ws.flatMap encWy),(q,a1.flatMap Vm.encI),(r,a2.flatMap Vm.encI),(s,a3.flatMap Vm.encI),(t,a4.flatMap Vm.encI)] [] (FzAll.flat hA (FzAll.flat hB (FzAll.flat hC (FzAll.flat hE (FzAll.flat hF FzAll.nil))))) trivial
    (VTos.cons (VTo.agg (VTos.cons (VTo.sc rfl) (VTos.cons (VTo.fsGl f1 (flat_len encWy_len _)) VTos.nil))) (VTos.cons (VTo.fsGl f2 (flat_len Vm.encI_len _)) (VTos.cons (VTo.fsGl f3 (flat_len Vm.encI_len _)) (VTos.cons (VTo.fsGl f4 (flat_len Vm.encI_len _)) (VTos.cons (VTo.fsGl f5 (flat_len Vm.encI_len _)) VTos.nil))))) (vc_Drives ⟨P,ws⟩ a1 a2 a3 a4 Hp.bare)
theorem own6 {c r0 r1 r2 r3 : Nat} {R0 R1 R2 R3 : List Vm.D} (hA : loc[p]? = some (.flat true A)) (hC : loc[c]? = some (.cells true [.gl (.loc r0) 1 16,.gl (.loc r1) 1 16,.gl (.loc r2) 1 16,.gl (.loc r3) 1 16])) (h0 : loc[r0]? = some (.flat true R0)) (h1 : loc[r1]? = some (.flat true R1)) (h2 : loc[r2]? = some (.flat true R2)) (h3 : loc[r3]? = some (.flat true R3))
    (eA : A = ws.flatMap encWy) (e0 : R0 = a1.flatMap Vm.encI) (e1 : R1 = a2.flatMap Vm.encI) (e2 : R2 = a3.flatMap Vm.encI) (e3 : R3 = a4.flatMap Vm.encI) (l1 : ws.length = n1) (k0 : a1.length = 16) (k1 : a2.length = 16) (k2 : a3.length = 16) (k3 : a4.length = 16)
    (d : (Nat.beq p c || Nat.beq p r0 || Nat.beq p r1 || Nat.beq p r2 || Nat.beq p r3 || Nat.beq c r0 || Nat.beq c r1 || Nat.beq c r2 || Nat.beq c r3 || Nat.beq r0 r1 || Nat.beq r0 r2 || Nat.beq r0 r3 || Nat.beq r1 r2 || Nat.beq r1 r3 || Nat.beq r2 r3) = false) :
    VC Tryz.prog 6 [.agg [I P,.gl (.loc p) 8 n1],.agg [I x,I y,I z],.gl (.loc c) 1 4,I to] ⟨outer,loc⟩ (.s (.bool true)) ⟨outer,loc⟩:=by
  subst eA e0 e1 e2 e3 l1
  simp only [Bool.or_eq_false_iff] at d
  obtain ⟨⟨⟨⟨⟨⟨⟨⟨⟨⟨⟨⟨⟨⟨d1,d2⟩,d3⟩,d4⟩,d5⟩,d6⟩,d7⟩,d8⟩,d9⟩,d10⟩,d11⟩,d12⟩,d13⟩,d14⟩,d15⟩:=d
  obtain ⟨fz,hfz⟩ : ∃ fz,fz = [(p,ws.flatMap encWy),(c,[dints a1,dints a2,dints a3,dints a4]),(r0,a1.flatMap Vm.encI),(r1,a2.flatMap Vm.encI),(r2,a3.flatMap Vm.encI),(r3,a4.flatMap Vm.encI)]:=⟨_,rfl⟩
  have f1 : assoc fz p = some (ws.flatMap encWy):=by rw [hfz];simp [assoc]
  have f2 : assoc fz c = some [dints a1,dints a2,dints a3,dints a4]:=by rw [hfz];simp [assoc,d1]
  have f3 : assoc fz r0 = some (a1.flatMap Vm.encI):=by rw [hfz];simp [assoc,d2,d6]
  have f4 : assoc fz r1 = some (a2.flatMap Vm.encI):=by rw [hfz];simp [assoc,d3,d7,d10]
  have f5 : assoc fz r2 = some (a3.flatMap Vm.encI):=by rw [hfz];simp [assoc,d4,d8,d11,d13]
  have f6 : assoc fz r3 = some (a4.flatMap Vm.encI):=by rw [hfz];simp [assoc,d5,d9,d12,d14,d15]
  have row : ∀ {a : List Int} {r : Nat},a.length = 16 → assoc fz r = some (a.flatMap Vm.encI) → VTo ⟨[],loc.length,fz,[]⟩ (.gl (.loc r) 1 16) (ints a):=fun {a r} hl hr=>by
    unfold ints
    rw [hl]
    exact VTo.fsGl hr (by rw [flat_len Vm.encI_len,hl])
  refine VC.lend1 [dNt ⟨P,ws⟩,dHd ⟨x,y,z⟩,dLs [a1,a2,a3,a4],DI to] fz [] ?_ trivial
    (VTos.cons (VTo.agg (VTos.cons (VTo.sc rfl) (VTos.cons (VTo.fsGl f1 (flat_len encWy_len _)) VTos.nil))) (VTos.cons (VTo.agg (VTos.cons (VTo.sc rfl) (VTos.cons (VTo.sc rfl) (VTos.cons (VTo.sc rfl) VTos.nil)))) (VTos.cons (VTo.fsGl (ds:=[dints a1,dints a2,dints a3,dints a4]) f2 rfl) (VTos.cons (VTo.sc rfl) VTos.nil)))) (vc_Calendars ⟨P,ws⟩ ⟨x,y,z⟩ [a1,a2,a3,a4] (show 4 ≤ 9223372036854775807 by decide) to Hp.bare)
  have key : FzAll ⟨[],loc.length,fz,[]⟩ loc [(p,ws.flatMap encWy),(c,[dints a1,dints a2,dints a3,dints a4]),(r0,a1.flatMap Vm.encI),(r1,a2.flatMap Vm.encI),(r2,a3.flatMap Vm.encI),(r3,a4.flatMap Vm.encI)]:=by
    simp only [FzAll]
    refine ⟨⟨_,_,hA,rfl,RowTo.dv _ _⟩,⟨_,_,hC,rfl,RowTo.vtos (VTos.cons (row k0 f3) (VTos.cons (row k1 f4) (VTos.cons (row k2 f5) (VTos.cons (row k3 f6) VTos.nil))))⟩,⟨_,_,h0,rfl,RowTo.dv _ _⟩,⟨_,_,h1,rfl,RowTo.dv _ _⟩,⟨_,_,h2,rfl,RowTo.dv _ _⟩,⟨_,_,h3,rfl,RowTo.dv _ _⟩,trivial⟩
  rw [← hfz] at key
  exact key
theorem own5s {m : Nat} (hA : loc[p]? = some (.flat true A)) (hB : loc[q]? = some (.flat true B)) (hC : loc[r]? = some (.flat true C)) (hE : loc[s]? = some (.flat true E)) (eA : A = ws.flatMap encWy) (eB : (B.drop 0).take (m * 1) = rt.flatMap Vm.encI) (oB : 0 + m * 1 ≤ B.length) (eC : C = l.flatMap encHd) (eE : E = ps.flatMap Vm.encI)
    (l1 : ws.length = n1) (l2 : rt.length = m) (l3 : l.length = n3) (l4 : ps.length = n4) (d1 : Nat.beq p q = false) (d2 : Nat.beq p r = false) (d3 : Nat.beq p s = false) (d4 : Nat.beq q r = false) (d5 : Nat.beq q s = false) (d6 : Nat.beq r s = false) :
    VC Tryz.prog 5 [.agg [I P,.gl (.loc p) 8 n1],.agg [I x,I y,I z],.slice (.loc q) 0 1 m none,I to,.gl (.loc r) 3 n3,.gl (.loc s) 1 n4] ⟨outer,loc⟩ (.s (.bool true)) ⟨outer,loc⟩:=by
  subst eA eC eE l1 l2 l3 l4
  have f1 : assoc [(p,ws.flatMap encWy),(q,B),(r,l.flatMap encHd),(s,ps.flatMap Vm.encI)] p = some (ws.flatMap encWy):=by simp [assoc]
  have f2 : assoc [(p,ws.flatMap encWy),(q,B),(r,l.flatMap encHd),(s,ps.flatMap Vm.encI)] q = some B:=by simp [assoc,d1]
  have f3 : assoc [(p,ws.flatMap encWy),(q,B),(r,l.flatMap encHd),(s,ps.flatMap Vm.encI)] r = some (l.flatMap encHd):=by simp [assoc,d2,d4]
  have f4 : assoc [(p,ws.flatMap encWy),(q,B),(r,l.flatMap encHd),(s,ps.flatMap Vm.encI)] s = some (ps.flatMap Vm.encI):=by simp [assoc,d3,d5,d6]
  exact VC.lend1 [dNt ⟨P,ws⟩,dHd ⟨x,y,z⟩,dints rt,DI to,dHs l,dints ps] [(p,ws.flatMap encWy),(q,B),(r,l.flatMap encHd),(s,ps.flatMap Vm.encI)] [] (FzAll.flat hA (FzAll.flat hB (FzAll.flat hC (FzAll.flat hE FzAll.nil)))) trivial
    (VTos.cons (VTo.agg (VTos.cons (VTo.sc rfl) (VTos.cons (VTo.fsGl f1 (flat_len encWy_len _)) VTos.nil))) (VTos.cons (VTo.agg (VTos.cons (VTo.sc rfl) (VTos.cons (VTo.sc rfl) (VTos.cons (VTo.sc rfl) VTos.nil)))) (VTos.cons (VTo.fsSlP f2 (flat_len Vm.encI_len _) oB eB.symm) (VTos.cons (VTo.sc rfl) (VTos.cons (VTo.fsGl f3 (flat_len encHd_len _)) (VTos.cons (VTo.fsGl f4 (flat_len Vm.encI_len _)) VTos.nil)))))) (vc_Routes ⟨P,ws⟩ ⟨x,y,z⟩ rt to l ps Hp.bare)
theorem own7f (hA : loc[p]? = some (.flat true A)) (hE : loc[s]? = some (.flat true E)) (eA : A = ws.flatMap encWy) (eE : E = a3.flatMap Vm.encI) (l1 : ws.length = n1) (l4 : a3.length = n4) (d3 : Nat.beq p s = false) :
    VC Tryz.prog 7 [.agg [I P,.gl (.loc p) 8 n1],ints a1,ints a2,.gl (.loc s) 1 n4,ints a4] ⟨outer,loc⟩ (.s (.bool true)) ⟨outer,loc⟩:=by
  subst eA eE l1 l4
  have f1 : assoc [(p,ws.flatMap encWy),(s,a3.flatMap Vm.encI)] p = some (ws.flatMap encWy):=by simp [assoc]
  have f4 : assoc [(p,ws.flatMap encWy),(s,a3.flatMap Vm.encI)] s = some (a3.flatMap Vm.encI):=by simp [assoc,d3]
  exact VC.lend1 [dNt ⟨P,ws⟩,dints a1,dints a2,dints a3,dints a4] [(p,ws.flatMap encWy),(s,a3.flatMap Vm.encI)] [] (FzAll.flat hA (FzAll.flat hE FzAll.nil)) trivial
    (VTos.cons (VTo.agg (VTos.cons (VTo.sc rfl) (VTos.cons (VTo.fsGl f1 (flat_len encWy_len _)) VTos.nil))) (VTos.cons (VTo_dv _ (dints a1)) (VTos.cons (VTo_dv _ (dints a2)) (VTos.cons (VTo.fsGl f4 (flat_len Vm.encI_len _)) (VTos.cons (VTo_dv _ (dints a4)) VTos.nil))))) (vc_Drives ⟨P,ws⟩ a1 a2 a3 a4 Hp.bare)
theorem own6t {c r0 r1 r2 : Nat} {R0 R1 R2 : List Vm.D} (hA : loc[p]? = some (.flat true A)) (hC : loc[c]? = some (.cells true [.gl (.loc r0) 1 16,.gl (.loc r1) 1 16,.gl (.loc r2) 1 16])) (h0 : loc[r0]? = some (.flat true R0)) (h1 : loc[r1]? = some (.flat true R1)) (h2 : loc[r2]? = some (.flat true R2))
    (eA : A = ws.flatMap encWy) (e0 : R0 = a1.flatMap Vm.encI) (e1 : R1 = a2.flatMap Vm.encI) (e2 : R2 = a3.flatMap Vm.encI) (l1 : ws.length = n1) (k0 : a1.length = 16) (k1 : a2.length = 16) (k2 : a3.length = 16)
    (d : (Nat.beq p c || Nat.beq p r0 || Nat.beq p r1 || Nat.beq p r2 || Nat.beq c r0 || Nat.beq c r1 || Nat.beq c r2 || Nat.beq r0 r1 || Nat.beq r0 r2 || Nat.beq r1 r2) = false) :
    VC Tryz.prog 6 [.agg [I P,.gl (.loc p) 8 n1],.agg [I x,I y,I z],.gl (.loc c) 1 3,I to] ⟨outer,loc⟩ (.s (.bool true)) ⟨outer,loc⟩:=by
  subst eA e0 e1 e2 l1
  simp only [Bool.or_eq_false_iff] at d
  obtain ⟨⟨⟨⟨⟨⟨⟨⟨⟨d1,d2⟩,d3⟩,d4⟩,d5⟩,d6⟩,d7⟩,d8⟩,d9⟩,d10⟩:=d
  obtain ⟨fz,hfz⟩ : ∃ fz,fz = [(p,ws.flatMap encWy),(c,[dints a1,dints a2,dints a3]),(r0,a1.flatMap Vm.encI),(r1,a2.flatMap Vm.encI),(r2,a3.flatMap Vm.encI)]:=⟨_,rfl⟩
  have f1 : assoc fz p = some (ws.flatMap encWy):=by rw [hfz];simp [assoc]
  have f2 : assoc fz c = some [dints a1,dints a2,dints a3]:=by rw [hfz];simp [assoc,d1]
  have f3 : assoc fz r0 = some (a1.flatMap Vm.encI):=by rw [hfz];simp [assoc,d2,d5]
  have f4 : assoc fz r1 = some (a2.flatMap Vm.encI):=by rw [hfz];simp [assoc,d3,d6,d8]
  have f5 : assoc fz r2 = some (a3.flatMap Vm.encI):=by rw [hfz];simp [assoc,d4,d7,d9,d10]
  have row : ∀ {a : List Int} {r : Nat},a.length = 16 → assoc fz r = some (a.flatMap Vm.encI) → VTo ⟨[],loc.length,fz,[]⟩ (.gl (.loc r) 1 16) (ints a):=fun {a r} hl hr=>by
    unfold ints
    rw [hl]
    exact VTo.fsGl hr (by rw [flat_len Vm.encI_len,hl])
  refine VC.lend1 [dNt ⟨P,ws⟩,dHd ⟨x,y,z⟩,dLs [a1,a2,a3],DI to] fz [] ?_ trivial
    (VTos.cons (VTo.agg (VTos.cons (VTo.sc rfl) (VTos.cons (VTo.fsGl f1 (flat_len encWy_len _)) VTos.nil))) (VTos.cons (VTo.agg (VTos.cons (VTo.sc rfl) (VTos.cons (VTo.sc rfl) (VTos.cons (VTo.sc rfl) VTos.nil)))) (VTos.cons (VTo.fsGl (ds:=[dints a1,dints a2,dints a3]) f2 rfl) (VTos.cons (VTo.sc rfl) VTos.nil)))) (vc_Calendars ⟨P,ws⟩ ⟨x,y,z⟩ [a1,a2,a3] (show 3 ≤ 9223372036854775807 by decide) to Hp.bare)
  have key : FzAll ⟨[],loc.length,fz,[]⟩ loc [(p,ws.flatMap encWy),(c,[dints a1,dints a2,dints a3]),(r0,a1.flatMap Vm.encI),(r1,a2.flatMap Vm.encI),(r2,a3.flatMap Vm.encI)]:=by
    simp only [FzAll]
    refine ⟨⟨_,_,hA,rfl,RowTo.dv _ _⟩,⟨_,_,hC,rfl,RowTo.vtos (VTos.cons (row k0 f3) (VTos.cons (row k1 f4) (VTos.cons (row k2 f5) VTos.nil)))⟩,⟨_,_,h0,rfl,RowTo.dv _ _⟩,⟨_,_,h1,rfl,RowTo.dv _ _⟩,⟨_,_,h2,rfl,RowTo.dv _ _⟩,trivial⟩
  rw [← hfz] at key
  exact key
theorem own9 {e : Int} (hA : loc[p]? = some (.flat true A)) (eA : A = ws.flatMap encWy) (l1 : ws.length = n1) (hl : ws.length ≤ 4000000) (he : e = chk ⟨P,ws⟩) : VC Tryz.prog 9 [.agg [I P,.gl (.loc p) 8 n1]] ⟨outer,loc⟩ (.s (.int .i64 e)) ⟨outer,loc⟩:=by
  subst eA l1 he
  have f1 : assoc [(p,ws.flatMap encWy)] p = some (ws.flatMap encWy):=by simp [assoc]
  exact VC.lend1 [dNt ⟨P,ws⟩] [(p,ws.flatMap encWy)] [] (FzAll.flat hA FzAll.nil) trivial (VTos.cons (VTo.agg (VTos.cons (VTo.sc rfl) (VTos.cons (VTo.fsGl f1 (flat_len encWy_len _)) VTos.nil))) VTos.nil) (vc_check ⟨P,ws⟩ Hp.bare hl)
theorem own5n (hA : loc[p]? = some (.flat true A)) (eA : A = ws.flatMap encWy) (l1 : ws.length = n1) : VC Tryz.prog 5 [.agg [I P,.gl (.loc p) 8 n1],.agg [I x,I y,I z],.nilslice,I to,.nilslice,.nilslice] ⟨outer,loc⟩ (.s (.bool true)) ⟨outer,loc⟩:=by
  subst eA l1
  have f1 : assoc [(p,ws.flatMap encWy)] p = some (ws.flatMap encWy):=by simp [assoc]
  exact VC.lend1 [dNt ⟨P,ws⟩,dHd ⟨x,y,z⟩,dints [],DI to,dHs [],dints []] [(p,ws.flatMap encWy)] [] (FzAll.flat hA FzAll.nil) trivial
    (VTos.cons (VTo.agg (VTos.cons (VTo.sc rfl) (VTos.cons (VTo.fsGl f1 (flat_len encWy_len _)) VTos.nil))) zw) (vc_Routes ⟨P,ws⟩ ⟨x,y,z⟩ [] to [] [] Hp.bare)
theorem own5h {m : Nat} (hA : loc[p]? = some (.flat true A)) (hC : loc[r]? = some (.flat true C)) (hE : loc[s]? = some (.flat true E)) (eA : A = ws.flatMap encWy) (eC : (C.drop 0).take (m * 3) = l.flatMap encHd) (oC : 0 + m * 3 ≤ C.length) (eE : E = ps.flatMap Vm.encI)
    (l1 : ws.length = n1) (l3 : l.length = m) (l4 : ps.length = n4) (d2 : Nat.beq p r = false) (d3 : Nat.beq p s = false) (d6 : Nat.beq r s = false) :
    VC Tryz.prog 5 [.agg [I P,.gl (.loc p) 8 n1],.agg [I x,I y,I z],.nilslice,I to,.slice (.loc r) 0 3 m none,.gl (.loc s) 1 n4] ⟨outer,loc⟩ (.s (.bool true)) ⟨outer,loc⟩:=by
  subst eA eE l1 l3 l4
  have f1 : assoc [(p,ws.flatMap encWy),(r,C),(s,ps.flatMap Vm.encI)] p = some (ws.flatMap encWy):=by simp [assoc]
  have f3 : assoc [(p,ws.flatMap encWy),(r,C),(s,ps.flatMap Vm.encI)] r = some C:=by simp [assoc,d2]
  have f4 : assoc [(p,ws.flatMap encWy),(r,C),(s,ps.flatMap Vm.encI)] s = some (ps.flatMap Vm.encI):=by simp [assoc,d3,d6]
  have n0 : VTo ⟨[],loc.length,[(p,ws.flatMap encWy),(r,C),(s,ps.flatMap Vm.encI)],[]⟩ .nilslice (ints []):=zw
  exact VC.lend1 [dNt ⟨P,ws⟩,dHd ⟨x,y,z⟩,dints [],DI to,dHs l,dints ps] [(p,ws.flatMap encWy),(r,C),(s,ps.flatMap Vm.encI)] [] (FzAll.flat hA (FzAll.flat hC (FzAll.flat hE FzAll.nil))) trivial
    (VTos.cons (VTo.agg (VTos.cons (VTo.sc rfl) (VTos.cons (VTo.fsGl f1 (flat_len encWy_len _)) VTos.nil))) (VTos.cons (VTo.agg (VTos.cons (VTo.sc rfl) (VTos.cons (VTo.sc rfl) (VTos.cons (VTo.sc rfl) VTos.nil)))) (VTos.cons n0 (VTos.cons (VTo.sc rfl) (VTos.cons (VTo.fsSlP f3 (flat_len encHd_len _) oC eC.symm) (VTos.cons (VTo.fsGl f4 (flat_len Vm.encI_len _)) VTos.nil)))))) (vc_Routes ⟨P,ws⟩ ⟨x,y,z⟩ [] to l ps Hp.bare)
theorem own5g (hA : loc[p]? = some (.flat true A)) (hC : loc[r]? = some (.flat true C)) (hE : loc[s]? = some (.flat true E)) (eA : A = ws.flatMap encWy) (eC : C = l.flatMap encHd) (eE : E = ps.flatMap Vm.encI)
    (l1 : ws.length = n1) (l3 : l.length = n3) (l4 : ps.length = n4) (d2 : Nat.beq p r = false) (d3 : Nat.beq p s = false) (d6 : Nat.beq r s = false) :
    VC Tryz.prog 5 [.agg [I P,.gl (.loc p) 8 n1],.agg [I x,I y,I z],.nilslice,I to,.gl (.loc r) 3 n3,.gl (.loc s) 1 n4] ⟨outer,loc⟩ (.s (.bool true)) ⟨outer,loc⟩:=by
  subst eA eC eE l1 l3 l4
  have f1 : assoc [(p,ws.flatMap encWy),(r,l.flatMap encHd),(s,ps.flatMap Vm.encI)] p = some (ws.flatMap encWy):=by simp [assoc]
  have f3 : assoc [(p,ws.flatMap encWy),(r,l.flatMap encHd),(s,ps.flatMap Vm.encI)] r = some (l.flatMap encHd):=by simp [assoc,d2]
  have f4 : assoc [(p,ws.flatMap encWy),(r,l.flatMap encHd),(s,ps.flatMap Vm.encI)] s = some (ps.flatMap Vm.encI):=by simp [assoc,d3,d6]
  have n0 : VTo ⟨[],loc.length,[(p,ws.flatMap encWy),(r,l.flatMap encHd),(s,ps.flatMap Vm.encI)],[]⟩ .nilslice (ints []):=zw
  exact VC.lend1 [dNt ⟨P,ws⟩,dHd ⟨x,y,z⟩,dints [],DI to,dHs l,dints ps] [(p,ws.flatMap encWy),(r,l.flatMap encHd),(s,ps.flatMap Vm.encI)] [] (FzAll.flat hA (FzAll.flat hC (FzAll.flat hE FzAll.nil))) trivial
    (VTos.cons (VTo.agg (VTos.cons (VTo.sc rfl) (VTos.cons (VTo.fsGl f1 (flat_len encWy_len _)) VTos.nil))) (VTos.cons (VTo.agg (VTos.cons (VTo.sc rfl) (VTos.cons (VTo.sc rfl) (VTos.cons (VTo.sc rfl) VTos.nil)))) (VTos.cons n0 (VTos.cons (VTo.sc rfl) (VTos.cons (VTo.fsGl f3 (flat_len encHd_len _)) (VTos.cons (VTo.fsGl f4 (flat_len Vm.encI_len _)) VTos.nil)))))) (vc_Routes ⟨P,ws⟩ ⟨x,y,z⟩ [] to l ps Hp.bare)
theorem non5 : VC Tryz.prog 5 [.agg [I 0,.nilslice],.agg [I 0,I 0,I 0],.nilslice,I 0,.nilslice,.nilslice] ⟨outer,loc⟩ (.s (.bool true)) ⟨outer,loc⟩ :=
  VC.lend1 [dNt ⟨0,[]⟩,dHd ⟨0,0,0⟩,dints [],DI 0,dHs [],dints []] [] [] trivial trivial zw (vc_Routes ⟨0,[]⟩ ⟨0,0,0⟩ [] 0 [] [] Hp.bare)
theorem non6 : VC Tryz.prog 6 [.agg [I 0,.nilslice],.agg [I 0,I 0,I 0],.nilslice,I 0] ⟨outer,loc⟩ (.s (.bool true)) ⟨outer,loc⟩ :=
  VC.lend1 [dNt ⟨0,[]⟩,dHd ⟨0,0,0⟩,dLs [],DI 0] [] [] trivial trivial zw (vc_Calendars ⟨0,[]⟩ ⟨0,0,0⟩ [] (by decide) 0 Hp.bare)
theorem non7 : VC Tryz.prog 7 [.agg [I 0,.nilslice],.nilslice,.nilslice,.nilslice,.nilslice] ⟨outer,loc⟩ (.s (.bool true)) ⟨outer,loc⟩ :=
  VC.lend1 [dNt ⟨0,[]⟩,dints [],dints [],dints [],dints []] [] [] trivial trivial zw (vc_Drives ⟨0,[]⟩ [] [] [] [] Hp.bare)
end
/-! Told from their cells. -/
def iOf : Vm.D → Int
  | .s (.int _ n)=>n
  | _=>0
def unI (l : List Vm.D) : List Int:=l.map iOf
def unW : List Vm.D → List Wy
  | a :: b :: c :: d :: e :: f :: g :: i :: r=>⟨iOf a,iOf b,iOf c,iOf d,iOf e,iOf f,iOf g,iOf i⟩ :: unW r
  | _=>[]
def unH : List Vm.D → List Hd
  | a :: b :: c :: r=>⟨iOf a,iOf b,iOf c⟩ :: unH r
  | _=>[]
section
variable {outer : Vm.Id → Option Blk} {loc : List Blk} {A B C E F : List Vm.D} {p q r s t n1 n2 n3 n4 n5 : Nat} {P x y z to : Int}
theorem own5u (hA : loc[p]? = some (.flat true A)) (hB : loc[q]? = some (.flat true B)) (hC : loc[r]? = some (.flat true C)) (hE : loc[s]? = some (.flat true E)) (eA : A = (unW A).flatMap encWy) (eB : B = (unI B).flatMap Vm.encI) (eC : C = (unH C).flatMap encHd) (eE : E = (unI E).flatMap Vm.encI)
    (l1 : (unW A).length = n1) (l2 : (unI B).length = n2) (l3 : (unH C).length = n3) (l4 : (unI E).length = n4) (d1 : Nat.beq p q = false) (d2 : Nat.beq p r = false) (d3 : Nat.beq p s = false) (d4 : Nat.beq q r = false) (d5 : Nat.beq q s = false) (d6 : Nat.beq r s = false) :
    VC Tryz.prog 5 [.agg [I P,.gl (.loc p) 8 n1],.agg [I x,I y,I z],.gl (.loc q) 1 n2,I to,.gl (.loc r) 3 n3,.gl (.loc s) 1 n4] ⟨outer,loc⟩ (.s (.bool true)) ⟨outer,loc⟩:=own5 hA hB hC hE eA eB eC eE l1 l2 l3 l4 d1 d2 d3 d4 d5 d6
theorem own7u (hA : loc[p]? = some (.flat true A)) (hB : loc[q]? = some (.flat true B)) (hC : loc[r]? = some (.flat true C)) (hE : loc[s]? = some (.flat true E)) (hF : loc[t]? = some (.flat true F)) (eA : A = (unW A).flatMap encWy) (eB : B = (unI B).flatMap Vm.encI) (eC : C = (unI C).flatMap Vm.encI) (eE : E = (unI E).flatMap Vm.encI) (eF : F = (unI F).flatMap Vm.encI)
    (l1 : (unW A).length = n1) (l2 : (unI B).length = n2) (l3 : (unI C).length = n3) (l4 : (unI E).length = n4) (l5 : (unI F).length = n5) (d1 : Nat.beq p q = false) (d2 : Nat.beq p r = false) (d3 : Nat.beq p s = false) (d4 : Nat.beq p t = false) (d5 : Nat.beq q r = false) (d6 : Nat.beq q s = false) (d7 : Nat.beq q t = false) (d8 : Nat.beq r s = false) (d9 : Nat.beq r t = false) (d10 : Nat.beq s t = false) :
    VC Tryz.prog 7 [.agg [I P,.gl (.loc p) 8 n1],.gl (.loc q) 1 n2,.gl (.loc r) 1 n3,.gl (.loc s) 1 n4,.gl (.loc t) 1 n5] ⟨outer,loc⟩ (.s (.bool true)) ⟨outer,loc⟩:=own7 hA hB hC hE hF eA eB eC eE eF l1 l2 l3 l4 l5 d1 d2 d3 d4 d5 d6 d7 d8 d9 d10
theorem own6u {c r0 r1 r2 r3 : Nat} {R0 R1 R2 R3 : List Vm.D} (hA : loc[p]? = some (.flat true A)) (hC : loc[c]? = some (.cells true [.gl (.loc r0) 1 16,.gl (.loc r1) 1 16,.gl (.loc r2) 1 16,.gl (.loc r3) 1 16])) (h0 : loc[r0]? = some (.flat true R0)) (h1 : loc[r1]? = some (.flat true R1)) (h2 : loc[r2]? = some (.flat true R2)) (h3 : loc[r3]? = some (.flat true R3))
    (eA : A = (unW A).flatMap encWy) (e0 : R0 = (unI R0).flatMap Vm.encI) (e1 : R1 = (unI R1).flatMap Vm.encI) (e2 : R2 = (unI R2).flatMap Vm.encI) (e3 : R3 = (unI R3).flatMap Vm.encI) (l1 : (unW A).length = n1) (k0 : (unI R0).length = 16) (k1 : (unI R1).length = 16) (k2 : (unI R2).length = 16) (k3 : (unI R3).length = 16)
    (d : (Nat.beq p c || Nat.beq p r0 || Nat.beq p r1 || Nat.beq p r2 || Nat.beq p r3 || Nat.beq c r0 || Nat.beq c r1 || Nat.beq c r2 || Nat.beq c r3 || Nat.beq r0 r1 || Nat.beq r0 r2 || Nat.beq r0 r3 || Nat.beq r1 r2 || Nat.beq r1 r3 || Nat.beq r2 r3) = false) :
    VC Tryz.prog 6 [.agg [I P,.gl (.loc p) 8 n1],.agg [I x,I y,I z],.gl (.loc c) 1 4,I to] ⟨outer,loc⟩ (.s (.bool true)) ⟨outer,loc⟩:=own6 hA hC h0 h1 h2 h3 eA e0 e1 e2 e3 l1 k0 k1 k2 k3 d
end
end Go.Proofs.YtoeendggmalcpaaGreat

open Go.Vm
open Psg
namespace Go.Proofs.YtoeendggmalcpaaGreat
set_option maxRecDepth 100000
set_option maxHeartbeats 16000000

def smV : List Int:=[-2,-1,0,1,2,3,4,5,9,10,11,15,16,39,40,41,100,101,999,1000,1001,1002,9223372036854775807,-9223372036854775808]
def calV (p : Nat) : List V:=[bif Nat.blt 0 p then .gl (.loc 8) 1 16 else .nilslice,bif Nat.blt 1 p then .gl (.loc 9) 1 16 else .nilslice,bif Nat.blt 2 p then .gl (.loc 10) 1 16 else .nilslice,bif Nat.blt 3 p then .gl (.loc 11) 1 16 else .nilslice]
def calB (p : Nat) : List Blk:=([5,7,8,17].take p).map fun c=>.flat true ((List.replicate 16 (c : Int)).flatMap Vm.encI)
theorem rep_set (c : Int) (s m : Nat) (h : s < m) : (List.replicate s c ++ List.replicate (m - s) 0).set s c = List.replicate (s + 1) c ++ List.replicate (m - (s + 1)) 0:=by
  rw [List.set_append_right _ _ (by simp),List.length_replicate,Nat.sub_self,show m - s = (m - (s + 1)) + 1 by omega,List.replicate_succ,List.set_cons_zero,List.replicate_succ',List.append_assoc]
  rfl
theorem rep_at (c : Int) (s m : Nat) (h : s < m) : (List.replicate s c ++ List.replicate (m - s) 0)[s]? = some 0:=by
  rw [List.getElem?_append_right (by simp),List.length_replicate,Nat.sub_self,List.getElem?_replicate,if_pos (by omega)]
structure Hold' (R : Prop) : Prop where
  out : R
theorem sp1 (h : Hp) (rest : Hold' (VCut Tryz.prog none isOut (tlC (tlC (Tryz.f3.body.getD .skip))) ⟨484,.leaf,⟨h.lift,[]⟩,[]⟩ (vfin (tiOf Tryz.prog) Tryz.f3.results.toList h (B true) h))) : VCut Tryz.prog none isOut (tlC (Tryz.f3.body.getD .skip)) ⟨484,.leaf,⟨h.lift,[]⟩,[]⟩ (vfin (tiOf Tryz.prog) Tryz.f3.results.toList h (B true) h):=by
  have c4:=vc_FourO
  refine VCut.at' (outer:=h.lift) (marks:=[]) 1 [] [] ?_ ?_
  · conv=>whnf
    refine Retell.turn ⟨[],9,[],[]⟩ (TurnOk.mk' _ _ [] [] (OutOk.lift _) rfl (by decide) zb trivial trivial rfl) zw zm
  conv=>whnf
  repeat' (first|((first|refine zs1 ?_|refine zs2 ?_|refine zs3 ?_|refine zs4 ?_|refine zs5 ?_);conv=>whnf)|((first|apply zi1|apply zi2|apply zi3|apply zi4|apply zi5) <;> intro _ <;> first|(exfalso;omega)|contradiction|(conv=>whnf)))
  refine VCode.lpC (outer:=h.lift) (marks:=[]) 99 (fun k : Nat=>[(32,ints smV),(33,I 24),(34,I k)]) (fun _=>[]) (fun k=>k ≤ 24) (fun k=>24 - k) 0 (Nat.zero_le _) ?_ ?_
  · conv=>whnf
    refine Retell.turn ⟨[],9,[(0,smV.flatMap Vm.encI)],[]⟩ (TurnOk.mk' _ _ [(0,smV.flatMap Vm.encI)] [] (OutOk.lift _) rfl (by decide) zb zf trivial rfl) zw zm
  rintro k hk
  rcases Nat.lt_or_ge k 24 with h3|h3
  · have hv : smV[k]? = some smV[k]:=List.getElem?_eq_getElem (show k < smV.length from h3)
    generalize smV[k] = v at hv
    conv=>whnf
    repeat' (first|((first|refine zs1 ?_|refine zs2 ?_|refine zs3 ?_|refine zs4 ?_|refine zs5 ?_);conv=>whnf)|((first|apply zi1|apply zi2|apply zi3|apply zi4|apply zi5) <;> intro _ <;> first|(exfalso;omega)|contradiction|(conv=>whnf))|(refine VAny.ix Vm.encI_len k rfl rfl hv ?_;conv=>whnf))
    refine VCode.lpC (outer:=h.lift) (marks:=[]) 2 (fun i : Nat=>[(32,ints smV),(33,I 24),(34,I k),(2,I v),(38,I i)]) (fun _=>[]) (fun i=>i ≤ 24) (fun i=>24 - i) 0 (Nat.zero_le _) ?_ ?_
    · conv=>whnf
      refine Retell.turn ⟨[],9,[],[]⟩ (TurnOk.mk' _ _ [] [] (OutOk.lift _) rfl (by decide) zb trivial trivial rfl) zw zm
    rintro i hi
    rcases Nat.lt_or_ge i 24 with h4|h4
    · conv=>whnf
      repeat' (first|((first|refine zs1 ?_|refine zs2 ?_|refine zs3 ?_|refine zs4 ?_|refine zs5 ?_);conv=>whnf)|((first|apply zi1|apply zi2|apply zi3|apply zi4|apply zi5) <;> intro _ <;> first|(exfalso;omega)|contradiction|(conv=>whnf)))
      refine VCut.block 2 ?_
      conv=>whnf
      repeat' (first|((first|refine zs1 ?_|refine zs2 ?_|refine zs3 ?_|refine zs4 ?_|refine zs5 ?_);conv=>whnf)|((first|apply zi1|apply zi2|apply zi3|apply zi4|apply zi5) <;> intro _ <;> first|(exfalso;omega)|contradiction|(conv=>whnf))|(refine VCall.intro (c4 _) ?_;conv=>whnf))
      refine VCut.at' (outer:=h.lift) (marks:=[]) 1 [(32,ints smV),(33,I 24),(34,I k),(2,I v),(38,I i),(3,I i),(4,.ptr (.loc 0) 0),(5,.ptr (.loc 2) 0),(6,.gl (.loc 3) 1 4),(7,.ptr (.loc 4) 0),(8,.gl (.loc 5) 3 3),(9,.gl (.loc 6) 1 3)] [.cells true [I 4,.gl (.loc 1) 8 5],.flat true (fourN.ws.flatMap encWy),.flat true [DI 0,DI 5,DI 0],.flat true [DI 0,DI 2,DI 3,DI 1],.flat true [DI 3],.flat true [DI 0,DI 99,DI 0,DI 0,DI 60,DI 0,DI 3,DI 0,DI 0],.flat true [DI 3,DI 3,DI 0]] ?_ ?_
      · conv=>whnf
        refine Retell.turn ⟨[4,0,5,1,6,2,3],9,[],[]⟩ (TurnOk.mk' _ _ [] [] (OutOk.lift _) rfl (by decide) zb trivial trivial rfl) zw zm
      conv=>whnf
      repeat' (first|((first|refine zs1 ?_|refine zs2 ?_|refine zs3 ?_|refine zs4 ?_|refine zs5 ?_);conv=>whnf)|((first|apply zi1|apply zi2|apply zi3|apply zi4|apply zi5) <;> intro _ <;> first|(exfalso;omega)|contradiction|(conv=>whnf)))
      refine VMem.make (α:=Unit) (enc:=fun _=>[.nilslice]) () (fun _=>rfl) rfl rfl rfl rfl rfl rfl (by decide) ?_
      conv=>whnf
      repeat' (first|((first|refine zs1 ?_|refine zs2 ?_|refine zs3 ?_|refine zs4 ?_|refine zs5 ?_);conv=>whnf)|((first|apply zi1|apply zi2|apply zi3|apply zi4|apply zi5) <;> intro _ <;> first|(exfalso;omega)|contradiction|(conv=>whnf)))
      refine VCut.at' (outer:=h.lift) (marks:=[]) 1 [(32,ints smV),(33,I 24),(34,I k),(2,I v),(38,I i),(3,I i),(4,.ptr (.loc 0) 0),(5,.ptr (.loc 2) 0),(6,.gl (.loc 3) 1 4),(7,.ptr (.loc 4) 0),(8,.gl (.loc 5) 3 3),(9,.gl (.loc 6) 1 3),(10,.gl (.loc 7) 1 4)] [.cells true [I 4,.gl (.loc 1) 8 5],.flat true (fourN.ws.flatMap encWy),.flat true [DI 0,DI 5,DI 0],.flat true [DI 0,DI 2,DI 3,DI 1],.flat true [DI 3],.flat true [DI 0,DI 99,DI 0,DI 0,DI 60,DI 0,DI 3,DI 0,DI 0],.flat true [DI 3,DI 3,DI 0],.cells true [.nilslice,.nilslice,.nilslice,.nilslice]] ?_ ?_
      · conv=>whnf
        refine Retell.turn ⟨[0,1,2,3,4,5,6,7],19,[],[]⟩ (TurnOk.mk' _ _ [] [] (OutOk.lift _) rfl (by decide) zb trivial trivial rfl) zw zm
      conv=>whnf
      repeat' (first|((first|refine zs1 ?_|refine zs2 ?_|refine zs3 ?_|refine zs4 ?_|refine zs5 ?_);conv=>whnf)|((first|apply zi1|apply zi2|apply zi3|apply zi4|apply zi5) <;> intro _ <;> first|(exfalso;omega)|contradiction|(conv=>whnf)))
      refine VCode.lpC (outer:=h.lift) (marks:=[]) 2 (fun p : Nat=>[(32,ints smV),(33,I 24),(34,I k),(2,I v),(38,I i),(3,I i),(4,.ptr (.loc 0) 0),(5,.ptr (.loc 2) 0),(6,.gl (.loc 3) 1 4),(7,.ptr (.loc 4) 0),(8,.gl (.loc 5) 3 3),(9,.gl (.loc 6) 1 3),(10,.gl (.loc 7) 1 4),(51,I 4),(52,I p)]) (fun p=>[.cells true [I 4,.gl (.loc 1) 8 5],.flat true (fourN.ws.flatMap encWy),.flat true [DI 0,DI 5,DI 0],.flat true [DI 0,DI 2,DI 3,DI 1],.flat true [DI 3],.flat true [DI 0,DI 99,DI 0,DI 0,DI 60,DI 0,DI 3,DI 0,DI 0],.flat true [DI 3,DI 3,DI 0],.cells true (calV p)] ++ calB p) (fun p=>p ≤ 4) (fun p=>4 - p) 0 (Nat.zero_le _) ?_ ?_
      · conv=>whnf
        refine Retell.turn ⟨[0,1,2,3,4,5,6,7],19,[],[]⟩ (TurnOk.mk' _ _ [] [] (OutOk.lift _) rfl (by decide) zb trivial trivial rfl) zw zm
      rintro p hp
      have h5 : p = 0 ∨ p = 1 ∨ p = 2 ∨ p = 3 ∨ p = 4:=by omega
      rcases h5 with rfl|rfl|rfl|rfl|rfl
      · conv=>whnf
        repeat' (first|((first|refine zs1 ?_|refine zs2 ?_|refine zs3 ?_|refine zs4 ?_|refine zs5 ?_);conv=>whnf)|((first|apply zi1|apply zi2|apply zi3|apply zi4|apply zi5) <;> intro _ <;> first|(exfalso;omega)|contradiction|(conv=>whnf)))
        refine VCut.block 2 ?_
        conv=>whnf
        repeat' (first|((first|refine zs1 ?_|refine zs2 ?_|refine zs3 ?_|refine zs4 ?_|refine zs5 ?_);conv=>whnf)|((first|apply zi1|apply zi2|apply zi3|apply zi4|apply zi5) <;> intro _ <;> first|(exfalso;omega)|contradiction|(conv=>whnf))|(refine VMem.make (α:=Int) (enc:=Vm.encI) 0 Vm.encI_len rfl rfl rfl rfl rfl rfl (by decide) ?_;conv=>whnf))
        refine VCut.at' (outer:=h.lift) (marks:=[]) 99 [(32,ints smV),(33,I 24),(34,I k),(2,I v),(38,I i),(3,I i),(4,.ptr (.loc 0) 0),(5,.ptr (.loc 2) 0),(6,.gl (.loc 3) 1 4),(7,.ptr (.loc 4) 0),(8,.gl (.loc 5) 3 3),(9,.gl (.loc 6) 1 3),(10,.gl (.loc 7) 1 4),(51,I 4),(52,I (0 : Nat)),(11,I (0 : Nat))] [.cells true [I 4,.gl (.loc 1) 8 5],.flat true (fourN.ws.flatMap encWy),.flat true [DI 0,DI 5,DI 0],.flat true [DI 0,DI 2,DI 3,DI 1],.flat true [DI 3],.flat true [DI 0,DI 99,DI 0,DI 0,DI 60,DI 0,DI 3,DI 0,DI 0],.flat true [DI 3,DI 3,DI 0],.cells true [.gl (.loc 8) 1 16,.nilslice,.nilslice,.nilslice],.flat true ((List.replicate 0 (5 : Int) ++ List.replicate (16 - 0) 0).flatMap Vm.encI)] ?_ ?_
        · conv=>whnf
          refine Retell.turn ⟨[0,1,2,3,4,5,6,7,8],29,[],[]⟩ (TurnOk.mk' _ _ [] [] (OutOk.lift _) rfl (by decide) zb trivial trivial rfl) zw zm
        conv=>whnf
        repeat' (first|((first|refine zs1 ?_|refine zs2 ?_|refine zs3 ?_|refine zs4 ?_|refine zs5 ?_);conv=>whnf)|((first|apply zi1|apply zi2|apply zi3|apply zi4|apply zi5) <;> intro _ <;> first|(exfalso;omega)|contradiction|(conv=>whnf)))
        refine VCode.lpC (outer:=h.lift) (marks:=[]) 2 (fun s : Nat=>[(32,ints smV),(33,I 24),(34,I k),(2,I v),(38,I i),(3,I i),(4,.ptr (.loc 0) 0),(5,.ptr (.loc 2) 0),(6,.gl (.loc 3) 1 4),(7,.ptr (.loc 4) 0),(8,.gl (.loc 5) 3 3),(9,.gl (.loc 6) 1 3),(10,.gl (.loc 7) 1 4),(51,I 4),(52,I (0 : Nat)),(11,I (0 : Nat)),(63,I 16),(64,I s)]) (fun s=>[.cells true [I 4,.gl (.loc 1) 8 5],.flat true (fourN.ws.flatMap encWy),.flat true [DI 0,DI 5,DI 0],.flat true [DI 0,DI 2,DI 3,DI 1],.flat true [DI 3],.flat true [DI 0,DI 99,DI 0,DI 0,DI 60,DI 0,DI 3,DI 0,DI 0],.flat true [DI 3,DI 3,DI 0],.cells true [.gl (.loc 8) 1 16,.nilslice,.nilslice,.nilslice],.flat true ((List.replicate s (5 : Int) ++ List.replicate (16 - s) 0).flatMap Vm.encI)]) (fun s=>s ≤ 16) (fun s=>16 - s) 0 (Nat.zero_le _) ?_ ?_
        · conv=>whnf
          refine Retell.turn ⟨[0,1,2,3,4,5,6,7,8],29,[],[]⟩ (TurnOk.mk' _ _ [] [] (OutOk.lift _) rfl (by decide) zb trivial trivial rfl) zw zm
        rintro s hs
        rcases Nat.lt_or_ge s 16 with h6|h6
        · have ra:=rep_at 5 s 16 h6
          have rs:=rep_set 5 s 16 h6
          generalize hR1 : List.replicate (s + 1) (5 : Int) ++ List.replicate (16 - (s + 1)) 0 = R1 at *
          generalize hR0 : List.replicate s (5 : Int) ++ List.replicate (16 - s) 0 = R0 at *
          conv=>whnf
          repeat' (first|((first|refine zs1 ?_|refine zs2 ?_|refine zs3 ?_|refine zs4 ?_|refine zs5 ?_);conv=>whnf)|((first|apply zi1|apply zi2|apply zi3|apply zi4|apply zi5) <;> intro _ <;> first|(exfalso;omega)|contradiction|(conv=>whnf)))
          refine VCut.block 99 ?_
          conv=>whnf
          repeat' (first|((first|refine zs1 ?_|refine zs2 ?_|refine zs3 ?_|refine zs4 ?_|refine zs5 ?_);conv=>whnf)|((first|apply zi1|apply zi2|apply zi3|apply zi4|apply zi5) <;> intro _ <;> first|(exfalso;omega)|contradiction|(conv=>whnf))|(refine zs6 [] ?_;conv=>whnf)|(refine VMem.setRec Vm.encI_len s 0 5 rfl rfl rfl ra (by decide) rfl (by show (s : Int).toNat * (0 + 1) = s * 1 + 0;omega) ?_;conv=>whnf))
          refine LEnd.intro (s + 1) (by omega) (by omega) ?_
          rw [hR1,← rs]
          conv=>whnf
          refine Retell.turn ⟨[0,1,2,3,4,5,6,7,8],29,[],[]⟩ (TurnOk.mk' _ _ [] [] (OutOk.lift _) rfl (by decide) zb trivial trivial rfl) zw zm
        · obtain rfl : s = 16:=by omega
          conv=>whnf
          repeat' (first|((first|refine zs1 ?_|refine zs2 ?_|refine zs3 ?_|refine zs4 ?_|refine zs5 ?_);conv=>whnf)|((first|apply zi1|apply zi2|apply zi3|apply zi4|apply zi5) <;> intro _ <;> first|(exfalso;omega)|contradiction|(conv=>whnf)))
          refine LEnd.intro 1 (by omega) (by omega) ?_
          rw [show List.replicate 16 (5 : Int) ++ List.replicate (16 - 16) 0 = List.replicate 16 5 from rfl]
          conv=>whnf
          refine Retell.turn ⟨[0,1,2,3,4,5,6,7,8],29,[],[]⟩ (TurnOk.mk' _ _ [] [] (OutOk.lift _) rfl (by decide) zb trivial trivial rfl) zw zm
      · conv=>whnf
        repeat' (first|((first|refine zs1 ?_|refine zs2 ?_|refine zs3 ?_|refine zs4 ?_|refine zs5 ?_);conv=>whnf)|((first|apply zi1|apply zi2|apply zi3|apply zi4|apply zi5) <;> intro _ <;> first|(exfalso;omega)|contradiction|(conv=>whnf)))
        refine VCut.block 2 ?_
        conv=>whnf
        repeat' (first|((first|refine zs1 ?_|refine zs2 ?_|refine zs3 ?_|refine zs4 ?_|refine zs5 ?_);conv=>whnf)|((first|apply zi1|apply zi2|apply zi3|apply zi4|apply zi5) <;> intro _ <;> first|(exfalso;omega)|contradiction|(conv=>whnf))|(refine VMem.make (α:=Int) (enc:=Vm.encI) 0 Vm.encI_len rfl rfl rfl rfl rfl rfl (by decide) ?_;conv=>whnf))
        refine VCut.at' (outer:=h.lift) (marks:=[]) 99 [(32,ints smV),(33,I 24),(34,I k),(2,I v),(38,I i),(3,I i),(4,.ptr (.loc 0) 0),(5,.ptr (.loc 2) 0),(6,.gl (.loc 3) 1 4),(7,.ptr (.loc 4) 0),(8,.gl (.loc 5) 3 3),(9,.gl (.loc 6) 1 3),(10,.gl (.loc 7) 1 4),(51,I 4),(52,I (1 : Nat)),(11,I (1 : Nat))] [.cells true [I 4,.gl (.loc 1) 8 5],.flat true (fourN.ws.flatMap encWy),.flat true [DI 0,DI 5,DI 0],.flat true [DI 0,DI 2,DI 3,DI 1],.flat true [DI 3],.flat true [DI 0,DI 99,DI 0,DI 0,DI 60,DI 0,DI 3,DI 0,DI 0],.flat true [DI 3,DI 3,DI 0],.cells true [.gl (.loc 8) 1 16,.gl (.loc 9) 1 16,.nilslice,.nilslice],.flat true ((List.replicate 16 (5 : Int)).flatMap Vm.encI),.flat true ((List.replicate 0 (7 : Int) ++ List.replicate (16 - 0) 0).flatMap Vm.encI)] ?_ ?_
        · conv=>whnf
          refine Retell.turn ⟨[0,1,2,3,4,5,6,7,8,9],29,[],[]⟩ (TurnOk.mk' _ _ [] [] (OutOk.lift _) rfl (by decide) zb trivial trivial rfl) zw zm
        conv=>whnf
        repeat' (first|((first|refine zs1 ?_|refine zs2 ?_|refine zs3 ?_|refine zs4 ?_|refine zs5 ?_);conv=>whnf)|((first|apply zi1|apply zi2|apply zi3|apply zi4|apply zi5) <;> intro _ <;> first|(exfalso;omega)|contradiction|(conv=>whnf)))
        refine VCode.lpC (outer:=h.lift) (marks:=[]) 2 (fun s : Nat=>[(32,ints smV),(33,I 24),(34,I k),(2,I v),(38,I i),(3,I i),(4,.ptr (.loc 0) 0),(5,.ptr (.loc 2) 0),(6,.gl (.loc 3) 1 4),(7,.ptr (.loc 4) 0),(8,.gl (.loc 5) 3 3),(9,.gl (.loc 6) 1 3),(10,.gl (.loc 7) 1 4),(51,I 4),(52,I (1 : Nat)),(11,I (1 : Nat)),(63,I 16),(64,I s)]) (fun s=>[.cells true [I 4,.gl (.loc 1) 8 5],.flat true (fourN.ws.flatMap encWy),.flat true [DI 0,DI 5,DI 0],.flat true [DI 0,DI 2,DI 3,DI 1],.flat true [DI 3],.flat true [DI 0,DI 99,DI 0,DI 0,DI 60,DI 0,DI 3,DI 0,DI 0],.flat true [DI 3,DI 3,DI 0],.cells true [.gl (.loc 8) 1 16,.gl (.loc 9) 1 16,.nilslice,.nilslice],.flat true ((List.replicate 16 (5 : Int)).flatMap Vm.encI),.flat true ((List.replicate s (7 : Int) ++ List.replicate (16 - s) 0).flatMap Vm.encI)]) (fun s=>s ≤ 16) (fun s=>16 - s) 0 (Nat.zero_le _) ?_ ?_
        · conv=>whnf
          refine Retell.turn ⟨[0,1,2,3,4,5,6,7,8,9],29,[],[]⟩ (TurnOk.mk' _ _ [] [] (OutOk.lift _) rfl (by decide) zb trivial trivial rfl) zw zm
        rintro s hs
        rcases Nat.lt_or_ge s 16 with h6|h6
        · have ra:=rep_at 7 s 16 h6
          have rs:=rep_set 7 s 16 h6
          generalize hR1 : List.replicate (s + 1) (7 : Int) ++ List.replicate (16 - (s + 1)) 0 = R1 at *
          generalize hR0 : List.replicate s (7 : Int) ++ List.replicate (16 - s) 0 = R0 at *
          conv=>whnf
          repeat' (first|((first|refine zs1 ?_|refine zs2 ?_|refine zs3 ?_|refine zs4 ?_|refine zs5 ?_);conv=>whnf)|((first|apply zi1|apply zi2|apply zi3|apply zi4|apply zi5) <;> intro _ <;> first|(exfalso;omega)|contradiction|(conv=>whnf)))
          refine VCut.block 99 ?_
          conv=>whnf
          repeat' (first|((first|refine zs1 ?_|refine zs2 ?_|refine zs3 ?_|refine zs4 ?_|refine zs5 ?_);conv=>whnf)|((first|apply zi1|apply zi2|apply zi3|apply zi4|apply zi5) <;> intro _ <;> first|(exfalso;omega)|contradiction|(conv=>whnf))|(refine zs6 [] ?_;conv=>whnf)|(refine VMem.setRec Vm.encI_len s 0 7 rfl rfl rfl ra (by decide) rfl (by show (s : Int).toNat * (0 + 1) = s * 1 + 0;omega) ?_;conv=>whnf))
          refine LEnd.intro (s + 1) (by omega) (by omega) ?_
          rw [hR1,← rs]
          conv=>whnf
          refine Retell.turn ⟨[0,1,2,3,4,5,6,7,8,9],29,[],[]⟩ (TurnOk.mk' _ _ [] [] (OutOk.lift _) rfl (by decide) zb trivial trivial rfl) zw zm
        · obtain rfl : s = 16:=by omega
          conv=>whnf
          repeat' (first|((first|refine zs1 ?_|refine zs2 ?_|refine zs3 ?_|refine zs4 ?_|refine zs5 ?_);conv=>whnf)|((first|apply zi1|apply zi2|apply zi3|apply zi4|apply zi5) <;> intro _ <;> first|(exfalso;omega)|contradiction|(conv=>whnf)))
          refine LEnd.intro 2 (by omega) (by omega) ?_
          rw [show List.replicate 16 (7 : Int) ++ List.replicate (16 - 16) 0 = List.replicate 16 7 from rfl]
          conv=>whnf
          refine Retell.turn ⟨[0,1,2,3,4,5,6,7,8,9],29,[],[]⟩ (TurnOk.mk' _ _ [] [] (OutOk.lift _) rfl (by decide) zb trivial trivial rfl) zw zm
      · conv=>whnf
        repeat' (first|((first|refine zs1 ?_|refine zs2 ?_|refine zs3 ?_|refine zs4 ?_|refine zs5 ?_);conv=>whnf)|((first|apply zi1|apply zi2|apply zi3|apply zi4|apply zi5) <;> intro _ <;> first|(exfalso;omega)|contradiction|(conv=>whnf)))
        refine VCut.block 2 ?_
        conv=>whnf
        repeat' (first|((first|refine zs1 ?_|refine zs2 ?_|refine zs3 ?_|refine zs4 ?_|refine zs5 ?_);conv=>whnf)|((first|apply zi1|apply zi2|apply zi3|apply zi4|apply zi5) <;> intro _ <;> first|(exfalso;omega)|contradiction|(conv=>whnf))|(refine VMem.make (α:=Int) (enc:=Vm.encI) 0 Vm.encI_len rfl rfl rfl rfl rfl rfl (by decide) ?_;conv=>whnf))
        refine VCut.at' (outer:=h.lift) (marks:=[]) 99 [(32,ints smV),(33,I 24),(34,I k),(2,I v),(38,I i),(3,I i),(4,.ptr (.loc 0) 0),(5,.ptr (.loc 2) 0),(6,.gl (.loc 3) 1 4),(7,.ptr (.loc 4) 0),(8,.gl (.loc 5) 3 3),(9,.gl (.loc 6) 1 3),(10,.gl (.loc 7) 1 4),(51,I 4),(52,I (2 : Nat)),(11,I (2 : Nat))] [.cells true [I 4,.gl (.loc 1) 8 5],.flat true (fourN.ws.flatMap encWy),.flat true [DI 0,DI 5,DI 0],.flat true [DI 0,DI 2,DI 3,DI 1],.flat true [DI 3],.flat true [DI 0,DI 99,DI 0,DI 0,DI 60,DI 0,DI 3,DI 0,DI 0],.flat true [DI 3,DI 3,DI 0],.cells true [.gl (.loc 8) 1 16,.gl (.loc 9) 1 16,.gl (.loc 10) 1 16,.nilslice],.flat true ((List.replicate 16 (5 : Int)).flatMap Vm.encI),.flat true ((List.replicate 16 (7 : Int)).flatMap Vm.encI),.flat true ((List.replicate 0 (8 : Int) ++ List.replicate (16 - 0) 0).flatMap Vm.encI)] ?_ ?_
        · conv=>whnf
          refine Retell.turn ⟨[0,1,2,3,4,5,6,7,8,9,10],29,[],[]⟩ (TurnOk.mk' _ _ [] [] (OutOk.lift _) rfl (by decide) zb trivial trivial rfl) zw zm
        conv=>whnf
        repeat' (first|((first|refine zs1 ?_|refine zs2 ?_|refine zs3 ?_|refine zs4 ?_|refine zs5 ?_);conv=>whnf)|((first|apply zi1|apply zi2|apply zi3|apply zi4|apply zi5) <;> intro _ <;> first|(exfalso;omega)|contradiction|(conv=>whnf)))
        refine VCode.lpC (outer:=h.lift) (marks:=[]) 2 (fun s : Nat=>[(32,ints smV),(33,I 24),(34,I k),(2,I v),(38,I i),(3,I i),(4,.ptr (.loc 0) 0),(5,.ptr (.loc 2) 0),(6,.gl (.loc 3) 1 4),(7,.ptr (.loc 4) 0),(8,.gl (.loc 5) 3 3),(9,.gl (.loc 6) 1 3),(10,.gl (.loc 7) 1 4),(51,I 4),(52,I (2 : Nat)),(11,I (2 : Nat)),(63,I 16),(64,I s)]) (fun s=>[.cells true [I 4,.gl (.loc 1) 8 5],.flat true (fourN.ws.flatMap encWy),.flat true [DI 0,DI 5,DI 0],.flat true [DI 0,DI 2,DI 3,DI 1],.flat true [DI 3],.flat true [DI 0,DI 99,DI 0,DI 0,DI 60,DI 0,DI 3,DI 0,DI 0],.flat true [DI 3,DI 3,DI 0],.cells true [.gl (.loc 8) 1 16,.gl (.loc 9) 1 16,.gl (.loc 10) 1 16,.nilslice],.flat true ((List.replicate 16 (5 : Int)).flatMap Vm.encI),.flat true ((List.replicate 16 (7 : Int)).flatMap Vm.encI),.flat true ((List.replicate s (8 : Int) ++ List.replicate (16 - s) 0).flatMap Vm.encI)]) (fun s=>s ≤ 16) (fun s=>16 - s) 0 (Nat.zero_le _) ?_ ?_
        · conv=>whnf
          refine Retell.turn ⟨[0,1,2,3,4,5,6,7,8,9,10],29,[],[]⟩ (TurnOk.mk' _ _ [] [] (OutOk.lift _) rfl (by decide) zb trivial trivial rfl) zw zm
        rintro s hs
        rcases Nat.lt_or_ge s 16 with h6|h6
        · have ra:=rep_at 8 s 16 h6
          have rs:=rep_set 8 s 16 h6
          generalize hR1 : List.replicate (s + 1) (8 : Int) ++ List.replicate (16 - (s + 1)) 0 = R1 at *
          generalize hR0 : List.replicate s (8 : Int) ++ List.replicate (16 - s) 0 = R0 at *
          conv=>whnf
          repeat' (first|((first|refine zs1 ?_|refine zs2 ?_|refine zs3 ?_|refine zs4 ?_|refine zs5 ?_);conv=>whnf)|((first|apply zi1|apply zi2|apply zi3|apply zi4|apply zi5) <;> intro _ <;> first|(exfalso;omega)|contradiction|(conv=>whnf)))
          refine VCut.block 99 ?_
          conv=>whnf
          repeat' (first|((first|refine zs1 ?_|refine zs2 ?_|refine zs3 ?_|refine zs4 ?_|refine zs5 ?_);conv=>whnf)|((first|apply zi1|apply zi2|apply zi3|apply zi4|apply zi5) <;> intro _ <;> first|(exfalso;omega)|contradiction|(conv=>whnf))|(refine zs6 [] ?_;conv=>whnf)|(refine VMem.setRec Vm.encI_len s 0 8 rfl rfl rfl ra (by decide) rfl (by show (s : Int).toNat * (0 + 1) = s * 1 + 0;omega) ?_;conv=>whnf))
          refine LEnd.intro (s + 1) (by omega) (by omega) ?_
          rw [hR1,← rs]
          conv=>whnf
          refine Retell.turn ⟨[0,1,2,3,4,5,6,7,8,9,10],29,[],[]⟩ (TurnOk.mk' _ _ [] [] (OutOk.lift _) rfl (by decide) zb trivial trivial rfl) zw zm
        · obtain rfl : s = 16:=by omega
          conv=>whnf
          repeat' (first|((first|refine zs1 ?_|refine zs2 ?_|refine zs3 ?_|refine zs4 ?_|refine zs5 ?_);conv=>whnf)|((first|apply zi1|apply zi2|apply zi3|apply zi4|apply zi5) <;> intro _ <;> first|(exfalso;omega)|contradiction|(conv=>whnf)))
          refine LEnd.intro 3 (by omega) (by omega) ?_
          rw [show List.replicate 16 (8 : Int) ++ List.replicate (16 - 16) 0 = List.replicate 16 8 from rfl]
          conv=>whnf
          refine Retell.turn ⟨[0,1,2,3,4,5,6,7,8,9,10],29,[],[]⟩ (TurnOk.mk' _ _ [] [] (OutOk.lift _) rfl (by decide) zb trivial trivial rfl) zw zm
      · conv=>whnf
        repeat' (first|((first|refine zs1 ?_|refine zs2 ?_|refine zs3 ?_|refine zs4 ?_|refine zs5 ?_);conv=>whnf)|((first|apply zi1|apply zi2|apply zi3|apply zi4|apply zi5) <;> intro _ <;> first|(exfalso;omega)|contradiction|(conv=>whnf)))
        refine VCut.block 2 ?_
        conv=>whnf
        repeat' (first|((first|refine zs1 ?_|refine zs2 ?_|refine zs3 ?_|refine zs4 ?_|refine zs5 ?_);conv=>whnf)|((first|apply zi1|apply zi2|apply zi3|apply zi4|apply zi5) <;> intro _ <;> first|(exfalso;omega)|contradiction|(conv=>whnf))|(refine VMem.make (α:=Int) (enc:=Vm.encI) 0 Vm.encI_len rfl rfl rfl rfl rfl rfl (by decide) ?_;conv=>whnf))
        refine VCut.at' (outer:=h.lift) (marks:=[]) 99 [(32,ints smV),(33,I 24),(34,I k),(2,I v),(38,I i),(3,I i),(4,.ptr (.loc 0) 0),(5,.ptr (.loc 2) 0),(6,.gl (.loc 3) 1 4),(7,.ptr (.loc 4) 0),(8,.gl (.loc 5) 3 3),(9,.gl (.loc 6) 1 3),(10,.gl (.loc 7) 1 4),(51,I 4),(52,I (3 : Nat)),(11,I (3 : Nat))] [.cells true [I 4,.gl (.loc 1) 8 5],.flat true (fourN.ws.flatMap encWy),.flat true [DI 0,DI 5,DI 0],.flat true [DI 0,DI 2,DI 3,DI 1],.flat true [DI 3],.flat true [DI 0,DI 99,DI 0,DI 0,DI 60,DI 0,DI 3,DI 0,DI 0],.flat true [DI 3,DI 3,DI 0],.cells true [.gl (.loc 8) 1 16,.gl (.loc 9) 1 16,.gl (.loc 10) 1 16,.gl (.loc 11) 1 16],.flat true ((List.replicate 16 (5 : Int)).flatMap Vm.encI),.flat true ((List.replicate 16 (7 : Int)).flatMap Vm.encI),.flat true ((List.replicate 16 (8 : Int)).flatMap Vm.encI),.flat true ((List.replicate 0 (17 : Int) ++ List.replicate (16 - 0) 0).flatMap Vm.encI)] ?_ ?_
        · conv=>whnf
          refine Retell.turn ⟨[0,1,2,3,4,5,6,7,8,9,10,11],29,[],[]⟩ (TurnOk.mk' _ _ [] [] (OutOk.lift _) rfl (by decide) zb trivial trivial rfl) zw zm
        conv=>whnf
        repeat' (first|((first|refine zs1 ?_|refine zs2 ?_|refine zs3 ?_|refine zs4 ?_|refine zs5 ?_);conv=>whnf)|((first|apply zi1|apply zi2|apply zi3|apply zi4|apply zi5) <;> intro _ <;> first|(exfalso;omega)|contradiction|(conv=>whnf)))
        refine VCode.lpC (outer:=h.lift) (marks:=[]) 2 (fun s : Nat=>[(32,ints smV),(33,I 24),(34,I k),(2,I v),(38,I i),(3,I i),(4,.ptr (.loc 0) 0),(5,.ptr (.loc 2) 0),(6,.gl (.loc 3) 1 4),(7,.ptr (.loc 4) 0),(8,.gl (.loc 5) 3 3),(9,.gl (.loc 6) 1 3),(10,.gl (.loc 7) 1 4),(51,I 4),(52,I (3 : Nat)),(11,I (3 : Nat)),(63,I 16),(64,I s)]) (fun s=>[.cells true [I 4,.gl (.loc 1) 8 5],.flat true (fourN.ws.flatMap encWy),.flat true [DI 0,DI 5,DI 0],.flat true [DI 0,DI 2,DI 3,DI 1],.flat true [DI 3],.flat true [DI 0,DI 99,DI 0,DI 0,DI 60,DI 0,DI 3,DI 0,DI 0],.flat true [DI 3,DI 3,DI 0],.cells true [.gl (.loc 8) 1 16,.gl (.loc 9) 1 16,.gl (.loc 10) 1 16,.gl (.loc 11) 1 16],.flat true ((List.replicate 16 (5 : Int)).flatMap Vm.encI),.flat true ((List.replicate 16 (7 : Int)).flatMap Vm.encI),.flat true ((List.replicate 16 (8 : Int)).flatMap Vm.encI),.flat true ((List.replicate s (17 : Int) ++ List.replicate (16 - s) 0).flatMap Vm.encI)]) (fun s=>s ≤ 16) (fun s=>16 - s) 0 (Nat.zero_le _) ?_ ?_
        · conv=>whnf
          refine Retell.turn ⟨[0,1,2,3,4,5,6,7,8,9,10,11],29,[],[]⟩ (TurnOk.mk' _ _ [] [] (OutOk.lift _) rfl (by decide) zb trivial trivial rfl) zw zm
        rintro s hs
        rcases Nat.lt_or_ge s 16 with h6|h6
        · have ra:=rep_at 17 s 16 h6
          have rs:=rep_set 17 s 16 h6
          generalize hR1 : List.replicate (s + 1) (17 : Int) ++ List.replicate (16 - (s + 1)) 0 = R1 at *
          generalize hR0 : List.replicate s (17 : Int) ++ List.replicate (16 - s) 0 = R0 at *
          conv=>whnf
          repeat' (first|((first|refine zs1 ?_|refine zs2 ?_|refine zs3 ?_|refine zs4 ?_|refine zs5 ?_);conv=>whnf)|((first|apply zi1|apply zi2|apply zi3|apply zi4|apply zi5) <;> intro _ <;> first|(exfalso;omega)|contradiction|(conv=>whnf)))
          refine VCut.block 99 ?_
          conv=>whnf
          repeat' (first|((first|refine zs1 ?_|refine zs2 ?_|refine zs3 ?_|refine zs4 ?_|refine zs5 ?_);conv=>whnf)|((first|apply zi1|apply zi2|apply zi3|apply zi4|apply zi5) <;> intro _ <;> first|(exfalso;omega)|contradiction|(conv=>whnf))|(refine zs6 [] ?_;conv=>whnf)|(refine VMem.setRec Vm.encI_len s 0 17 rfl rfl rfl ra (by decide) rfl (by show (s : Int).toNat * (0 + 1) = s * 1 + 0;omega) ?_;conv=>whnf))
          refine LEnd.intro (s + 1) (by omega) (by omega) ?_
          rw [hR1,← rs]
          conv=>whnf
          refine Retell.turn ⟨[0,1,2,3,4,5,6,7,8,9,10,11],29,[],[]⟩ (TurnOk.mk' _ _ [] [] (OutOk.lift _) rfl (by decide) zb trivial trivial rfl) zw zm
        · obtain rfl : s = 16:=by omega
          conv=>whnf
          repeat' (first|((first|refine zs1 ?_|refine zs2 ?_|refine zs3 ?_|refine zs4 ?_|refine zs5 ?_);conv=>whnf)|((first|apply zi1|apply zi2|apply zi3|apply zi4|apply zi5) <;> intro _ <;> first|(exfalso;omega)|contradiction|(conv=>whnf)))
          refine LEnd.intro 4 (by omega) (by omega) ?_
          rw [show List.replicate 16 (17 : Int) ++ List.replicate (16 - 16) 0 = List.replicate 16 17 from rfl]
          conv=>whnf
          refine Retell.turn ⟨[0,1,2,3,4,5,6,7,8,9,10,11],29,[],[]⟩ (TurnOk.mk' _ _ [] [] (OutOk.lift _) rfl (by decide) zb trivial trivial rfl) zw zm
      · conv=>whnf
        repeat' (first|((first|refine zs1 ?_|refine zs2 ?_|refine zs3 ?_|refine zs4 ?_|refine zs5 ?_);conv=>whnf)|((first|apply zi1|apply zi2|apply zi3|apply zi4|apply zi5) <;> intro _ <;> first|(exfalso;omega)|contradiction|(conv=>whnf)))
        refine VCut.at' (outer:=h.lift) (marks:=[]) 1 [(32,ints smV),(33,I 24),(34,I k),(2,I v),(38,I i),(3,I i),(4,.ptr (.loc 0) 0),(5,.ptr (.loc 2) 0),(6,.gl (.loc 3) 1 4),(7,.ptr (.loc 4) 0),(8,.gl (.loc 5) 3 3),(9,.gl (.loc 6) 1 3),(10,.gl (.loc 7) 1 4)] [.cells true [I 4,.gl (.loc 1) 8 5],.flat true (fourN.ws.flatMap encWy),.flat true [DI 0,DI 5,DI 0],.flat true [DI 0,DI 2,DI 3,DI 1],.flat true [DI 3],.flat true [DI 0,DI 99,DI 0,DI 0,DI 60,DI 0,DI 3,DI 0,DI 0],.flat true [DI 3,DI 3,DI 0],.cells true [.gl (.loc 8) 1 16,.gl (.loc 9) 1 16,.gl (.loc 10) 1 16,.gl (.loc 11) 1 16],.flat true ((List.replicate 16 (5 : Int)).flatMap Vm.encI),.flat true ((List.replicate 16 (7 : Int)).flatMap Vm.encI),.flat true ((List.replicate 16 (8 : Int)).flatMap Vm.encI),.flat true ((List.replicate 16 (17 : Int)).flatMap Vm.encI)] ?_ ?_
        · conv=>whnf
          refine Retell.turn ⟨[0,1,2,3,4,5,6,7,8,9,10,11],19,[],[]⟩ (TurnOk.mk' _ _ [] [] (OutOk.lift _) rfl (by decide) zb trivial trivial rfl) zw zm
        conv=>whnf
        repeat' (first|((first|refine zs1 ?_|refine zs2 ?_|refine zs3 ?_|refine zs4 ?_|refine zs5 ?_);conv=>whnf)|((first|apply zi1|apply zi2|apply zi3|apply zi4|apply zi5) <;> intro _ <;> first|(exfalso;omega)|contradiction|(conv=>whnf)))
        refine VCut.at' (outer:=h.lift) (marks:=[]) 1 [(32,ints smV),(33,I 24),(34,I k),(2,I v),(38,I i),(3,I i),(4,.ptr (.loc 0) 0),(5,.ptr (.loc 2) 0),(6,.gl (.loc 3) 1 4),(7,.ptr (.loc 4) 0),(8,.gl (.loc 5) 3 3),(9,.gl (.loc 6) 1 3),(10,.gl (.loc 7) 1 4),(13,.gl (.loc 12) 1 1),(14,.gl (.loc 13) 1 1),(15,.gl (.loc 14) 1 5),(16,.gl (.loc 15) 1 3)] [.cells true [I 4,.gl (.loc 1) 8 5],.flat true (fourN.ws.flatMap encWy),.flat true [DI 0,DI 5,DI 0],.flat true [DI 0,DI 2,DI 3,DI 1],.flat true [DI 3],.flat true [DI 0,DI 99,DI 0,DI 0,DI 60,DI 0,DI 3,DI 0,DI 0],.flat true [DI 3,DI 3,DI 0],.cells true [.gl (.loc 8) 1 16,.gl (.loc 9) 1 16,.gl (.loc 10) 1 16,.gl (.loc 11) 1 16],.flat true ((List.replicate 16 (5 : Int)).flatMap Vm.encI),.flat true ((List.replicate 16 (7 : Int)).flatMap Vm.encI),.flat true ((List.replicate 16 (8 : Int)).flatMap Vm.encI),.flat true ((List.replicate 16 (17 : Int)).flatMap Vm.encI),.flat true [DI 0],.flat true [DI 3],.flat true [DI 40,DI 30,DI 10,DI 0,DI 10],.flat true [DI 0,DI 1,DI 2]] ?_ ?_
        · conv=>whnf
          refine Retell.turn ⟨[0,1,2,3,4,5,6,7,8,9,10,11,12,13,14,15],19,[],[]⟩ (TurnOk.mk' _ _ [] [] (OutOk.lift _) rfl (by decide) zb trivial trivial rfl) zw zm
        conv=>whnf
        refine VDraw.cut 66 (by kernel_rfl) (by kernel_rfl) ?_
        conv=>whnf
        repeat' (first|((first|refine zs1 ?_|refine zs2 ?_|refine zs3 ?_|refine zs4 ?_|refine zs5 ?_);conv=>whnf)|((first|apply zi1|apply zi2|apply zi3|apply zi4|apply zi5) <;> intro _ <;> conv=>whnf))
        refine Later.alloc (.sl 1 24) [.ptr (.loc 0) 0,.ptr (.loc 1) 0,.ptr (.loc 1) 9,.ptr (.loc 1) 18,.ptr (.loc 1) 3,.ptr (.loc 1) 12,.ptr (.loc 1) 21,.ptr (.loc 1) 14,.ptr (.loc 1) 15,.ptr (.loc 2) 0,.ptr (.loc 2) 1,.ptr (.loc 2) 2,.ptr (.loc 3) 0,.ptr (.loc 3) 3,.ptr (.loc 4) 0,.ptr (.loc 5) 1,.ptr (.loc 5) 6,.ptr (.loc 6) 1,.ptr (.loc 9) 0,.ptr (.loc 11) 1,.ptr (.loc 12) 0,.ptr (.loc 13) 0,.ptr (.loc 14) 2,.ptr (.loc 15) 1] rfl rfl (by kernel_rfl) rfl ?_
        conv=>whnf
        repeat' (first|((first|refine zs1 ?_|refine zs2 ?_|refine zs3 ?_|refine zs4 ?_|refine zs5 ?_);conv=>whnf)|((first|apply zi1|apply zi2|apply zi3|apply zi4|apply zi5) <;> intro _ <;> conv=>whnf))
        refine VCut.at' (outer:=h.lift) (marks:=[]) 99 [(32,ints smV),(33,I 24),(34,I k),(2,I v),(38,I i),(3,I i),(4,.ptr (.loc 0) 0),(5,.ptr (.loc 2) 0),(6,.gl (.loc 3) 1 4),(7,.ptr (.loc 4) 0),(8,.gl (.loc 5) 3 3),(9,.gl (.loc 6) 1 3),(10,.gl (.loc 7) 1 4),(13,.gl (.loc 12) 1 1),(14,.gl (.loc 13) 1 1),(15,.gl (.loc 14) 1 5),(16,.gl (.loc 15) 1 3),(17,.gl (.loc 16) 1 24)] [.cells true [I 4,.gl (.loc 1) 8 5],.flat true (fourN.ws.flatMap encWy),.flat true [DI 0,DI 5,DI 0],.flat true [DI 0,DI 2,DI 3,DI 1],.flat true [DI 3],.flat true [DI 0,DI 99,DI 0,DI 0,DI 60,DI 0,DI 3,DI 0,DI 0],.flat true [DI 3,DI 3,DI 0],.cells true [.gl (.loc 8) 1 16,.gl (.loc 9) 1 16,.gl (.loc 10) 1 16,.gl (.loc 11) 1 16],.flat true ((List.replicate 16 (5 : Int)).flatMap Vm.encI),.flat true ((List.replicate 16 (7 : Int)).flatMap Vm.encI),.flat true ((List.replicate 16 (8 : Int)).flatMap Vm.encI),.flat true ((List.replicate 16 (17 : Int)).flatMap Vm.encI),.flat true [DI 0],.flat true [DI 3],.flat true [DI 40,DI 30,DI 10,DI 0,DI 10],.flat true [DI 0,DI 1,DI 2],.cells true [.ptr (.loc 0) 0,.ptr (.loc 1) 0,.ptr (.loc 1) 9,.ptr (.loc 1) 18,.ptr (.loc 1) 3,.ptr (.loc 1) 12,.ptr (.loc 1) 21,.ptr (.loc 1) 14,.ptr (.loc 1) 15,.ptr (.loc 2) 0,.ptr (.loc 2) 1,.ptr (.loc 2) 2,.ptr (.loc 3) 0,.ptr (.loc 3) 3,.ptr (.loc 4) 0,.ptr (.loc 5) 1,.ptr (.loc 5) 6,.ptr (.loc 6) 1,.ptr (.loc 9) 0,.ptr (.loc 11) 1,.ptr (.loc 12) 0,.ptr (.loc 13) 0,.ptr (.loc 14) 2,.ptr (.loc 15) 1]] ?_ ?_
        · conv=>whnf
          refine Retell.turn ⟨[0,1,2,3,4,5,6,7,8,9,10,11,12,13,14,15,16],29,[],[]⟩ (TurnOk.mk' _ _ [] [] (OutOk.lift _) rfl (by decide) zb trivial trivial rfl) zw zm
        obtain ⟨j,hj⟩ : ∃ j,j = i + 1:=⟨_,rfl⟩
        have h24 : i = 0 ∨ i = 1 ∨ i = 2 ∨ i = 3 ∨ i = 4 ∨ i = 5 ∨ i = 6 ∨ i = 7 ∨ i = 8 ∨ i = 9 ∨ i = 10 ∨ i = 11 ∨ i = 12 ∨ i = 13 ∨ i = 14 ∨ i = 15 ∨ i = 16 ∨ i = 17 ∨ i = 18 ∨ i = 19 ∨ i = 20 ∨ i = 21 ∨ i = 22 ∨ i = 23:=by omega
        rcases h24 with rfl|rfl|rfl|rfl|rfl|rfl|rfl|rfl|rfl|rfl|rfl|rfl|rfl|rfl|rfl|rfl|rfl|rfl|rfl|rfl|rfl|rfl|rfl|rfl
        all_goals (
          conv=>whnf
          repeat' (first|((first|refine zs1 ?_|refine zs2 ?_|refine zs3 ?_|refine zs4 ?_|refine zs5 ?_);conv=>whnf)|((first|apply zi1|apply zi2|apply zi3|apply zi4|apply zi5) <;> intro _ <;> conv=>whnf)|(refine VCall.intro (own5u rfl rfl rfl rfl rfl rfl rfl rfl rfl rfl rfl rfl rfl rfl rfl rfl rfl rfl) ?_;conv=>whnf)|(refine VCall.intro (own6u rfl rfl rfl rfl rfl rfl rfl rfl rfl rfl rfl rfl rfl rfl rfl rfl rfl) ?_;conv=>whnf)|(refine VCall.intro (own7u rfl rfl rfl rfl rfl rfl rfl rfl rfl rfl rfl rfl rfl rfl rfl rfl rfl rfl rfl rfl rfl rfl rfl rfl rfl) ?_;conv=>whnf))
          refine LEnd.intro j (by omega) (by omega) ?_
          conv=>whnf
          refine Retell.turn ⟨[],29,[],[]⟩ (TurnOk.mk' _ _ [] [] (OutOk.lift _) rfl (by decide) zb trivial trivial rfl) zw zm)
    · obtain rfl : i = 24:=by omega
      conv=>whnf
      repeat' (first|((first|refine zs1 ?_|refine zs2 ?_|refine zs3 ?_|refine zs4 ?_|refine zs5 ?_);conv=>whnf)|((first|apply zi1|apply zi2|apply zi3|apply zi4|apply zi5) <;> intro _ <;> first|(exfalso;omega)|contradiction|(conv=>whnf)))
      refine LEnd.intro (k + 1) (by omega) (by omega) ?_
      conv=>whnf
      refine Retell.turn ⟨[],9,[],[]⟩ (TurnOk.mk' _ _ [] [] (OutOk.lift _) rfl (by decide) zb trivial trivial rfl) zw zm
  · obtain rfl : k = 24:=by omega
    conv=>whnf
    repeat' (first|((first|refine zs1 ?_|refine zs2 ?_|refine zs3 ?_|refine zs4 ?_|refine zs5 ?_);conv=>whnf)|((first|apply zi1|apply zi2|apply zi3|apply zi4|apply zi5) <;> intro _ <;> first|(exfalso;omega)|contradiction|(conv=>whnf)))
    refine VCut.at' (outer:=h.lift) (marks:=[]) 0 [] [] ?_ ?_
    · conv=>whnf
      refine Retell.turn ⟨[],9,[],[]⟩ (TurnOk.mk' _ _ [] [] (OutOk.lift _) rfl (by decide) zb trivial trivial rfl) zw zm
    exact rest.out
end Go.Proofs.YtoeendggmalcpaaGreat

open Go.Vm
open Psg
namespace Go.Proofs.YtoeendggmalcpaaGreat
set_option maxRecDepth 100000
set_option maxHeartbeats 16000000

def wdW (i : Nat) : Wy:=⟨(i : Int) - 1,i,1,10 * (i : Int),0,0,0,1000⟩
def wdC : Nat → List Wy
  | 0=>[]
  | i + 1=>if 0 < i ∧ i < 12 then wdC i ++ [wdW i] else wdC i
def mnW (i : Nat) : Wy:=⟨(i : Int).tmod 4,((i : Int) + 1).tmod 4,i,i,0,0,3 * (i : Int),900 + (i : Int)⟩
def mnC : Nat → List Wy
  | 0=>[]
  | i + 1=>mnC i ++ [mnW i]
def hdC : Nat → List Hd
  | 0=>[]
  | i + 1=>hdC i ++ [⟨0,i,0⟩]
theorem mnC_len : ∀ i,(mnC i).length = i
  | 0=>rfl
  | i + 1=>by rw [mnC,List.length_append,mnC_len i];rfl
theorem hdC_len : ∀ i,(hdC i).length = i
  | 0=>rfl
  | i + 1=>by rw [hdC,List.length_append,hdC_len i];rfl
theorem wdC_len : ∀ i,(wdC i).length ≤ i
  | 0=>Nat.le_refl _
  | i + 1=>by
    have:=wdC_len i
    rw [wdC]
    split
    · rw [List.length_append,List.length_singleton];omega
    · omega
theorem chkW : ∀ n : Nat,n < 26 → (chk ⟨(n : Int),wdC n⟩ = 0 ↔ 0 < n ∧ n < 11):=by decide +kernel
theorem chkM : ∀ n : Nat,n < 26 → (chk ⟨4,mnC n⟩ = 0 ↔ n < 25):=by decide +kernel
theorem sp4 (h : Hp) : VCut Tryz.prog none isOut (tlC (tlC (tlC (tlC (tlC (Tryz.f3.body.getD .skip)))))) ⟨484,.leaf,⟨h.lift,[]⟩,[]⟩ (vfin (tiOf Tryz.prog) Tryz.f3.results.toList h (B true) h):=by
  refine VCut.at' (outer:=h.lift) (marks:=[]) 99 [] [] ?_ ?_
  · conv=>whnf
    refine Retell.turn ⟨[],9,[],[]⟩ (TurnOk.mk' _ _ [] [] (OutOk.lift _) rfl (by decide) zb trivial trivial rfl) zw zm
  conv=>whnf
  repeat' (first|((first|refine zs1 ?_|refine zs2 ?_|refine zs3 ?_|refine zs4 ?_|refine zs5 ?_);conv=>whnf)|((first|apply zi1|apply zi2|apply zi3|apply zi4|apply zi5) <;> intro _ <;> first|(exfalso;omega)|contradiction|(conv=>whnf))|(refine VCall.intro (non5) ?_;conv=>whnf)|(refine VCall.intro (non6) ?_;conv=>whnf)|(refine VCall.intro (non7) ?_;conv=>whnf)|(refine VCall.intro (vc_awake _) ?_;conv=>whnf))
  all_goals first|contradiction|exact VOut.same rfl
theorem sp3 (h : Hp) : VCut Tryz.prog none isOut (tlC (tlC (tlC (tlC (Tryz.f3.body.getD .skip))))) ⟨484,.leaf,⟨h.lift,[]⟩,[]⟩ (vfin (tiOf Tryz.prog) Tryz.f3.results.toList h (B true) h):=by
  have c4:=vc_FourO
  refine VCut.at' (outer:=h.lift) (marks:=[]) 1 [] [] ?_ ?_
  · conv=>whnf
    refine Retell.turn ⟨[],9,[],[]⟩ (TurnOk.mk' _ _ [] [] (OutOk.lift _) rfl (by decide) zb trivial trivial rfl) zw zm
  conv=>whnf
  repeat' (first|((first|refine zs1 ?_|refine zs2 ?_|refine zs3 ?_|refine zs4 ?_|refine zs5 ?_);conv=>whnf)|((first|apply zi1|apply zi2|apply zi3|apply zi4|apply zi5) <;> intro _ <;> first|(exfalso;omega)|contradiction|(conv=>whnf)))
  refine VCode.lpC (outer:=h.lift) (marks:=[]) 2 (fun n : Nat=>[(370,I n)]) (fun _=>[]) (fun n=>n ≤ 26) (fun n=>26 - n) 0 (Nat.zero_le _) ?_ ?_
  · conv=>whnf
    refine Retell.turn ⟨[],9,[],[]⟩ (TurnOk.mk' _ _ [] [] (OutOk.lift _) rfl (by decide) zb trivial trivial rfl) zw zm
  rintro n hn
  rcases Nat.lt_or_ge n 26 with h3|h3
  · conv=>whnf
    repeat' (first|((first|refine zs1 ?_|refine zs2 ?_|refine zs3 ?_|refine zs4 ?_|refine zs5 ?_);conv=>whnf)|((first|apply zi1|apply zi2|apply zi3|apply zi4|apply zi5) <;> intro _ <;> first|(exfalso;omega)|contradiction|(conv=>whnf)))
    refine VCut.block 4 ?_
    conv=>whnf
    repeat' (first|((first|refine zs1 ?_|refine zs2 ?_|refine zs3 ?_|refine zs4 ?_|refine zs5 ?_);conv=>whnf)|((first|apply zi1|apply zi2|apply zi3|apply zi4|apply zi5) <;> intro _ <;> first|(exfalso;omega)|contradiction|(conv=>whnf))|(refine VCall.intro (c4 _) ?_;conv=>whnf))
    refine VCut.at' (outer:=h.lift) (marks:=[]) 1 [(370,I n),(27,I n),(28,.ptr (.loc 0) 0),(29,.ptr (.loc 1) 0),(30,.gl (.loc 4) 3 0)] [.cells true [I n,.gl (.loc 2) 8 0],.cells true [I 4,.gl (.loc 3) 8 0],.flat true [],.flat true [],.flat true []] ?_ ?_
    · conv=>whnf
      refine Retell.turn ⟨[1,2,3,4,5],3,[],[]⟩ (TurnOk.mk' _ _ [] [] (OutOk.lift _) rfl (by decide) zb trivial trivial rfl) zw zm
    conv=>whnf
    repeat' (first|((first|refine zs1 ?_|refine zs2 ?_|refine zs3 ?_|refine zs4 ?_|refine zs5 ?_);conv=>whnf)|((first|apply zi1|apply zi2|apply zi3|apply zi4|apply zi5) <;> intro _ <;> first|(exfalso;omega)|contradiction|(conv=>whnf)))
    refine VCode.lpC (outer:=h.lift) (marks:=[]) 2 (fun i : Nat=>[(370,I n),(27,I n),(28,.ptr (.loc 0) 0),(29,.ptr (.loc 1) 0),(30,.gl (.loc 4) 3 (hdC i).length),(377,I n),(378,I i)]) (fun i=>[.cells true [I n,.gl (.loc 2) 8 (wdC i).length],.cells true [I 4,.gl (.loc 3) 8 (mnC i).length],.flat true ((wdC i).flatMap encWy),.flat true ((mnC i).flatMap encWy),.flat true ((hdC i).flatMap encHd)]) (fun i=>i ≤ n) (fun i=>n - i) 0 (Nat.zero_le _) ?_ ?_
    · conv=>whnf
      refine Retell.turn ⟨[0,1,2,3,4],9,[],[]⟩ (TurnOk.mk' _ _ [] [] (OutOk.lift _) rfl (by decide) zb trivial trivial rfl) zw zm
    rintro i hi
    rcases Nat.lt_or_ge i n with h4|h4
    · have hw : wdC (i + 1) = if 0 < i ∧ i < 12 then wdC i ++ [wdW i] else wdC i:=rfl
      have hm : mnC (i + 1) = mnC i ++ [mnW i]:=rfl
      have hh : hdC (i + 1) = hdC i ++ [⟨0,i,0⟩]:=rfl
      have lw:=wdC_len i
      have lm:=mnC_len i
      have lh:=hdC_len i
      have cw:=fun h=>vc_Led ((i : Int) - 1) i 1 (10 * (i : Int)) 0 0 0 1000 h
      have cm:=fun h=>vc_Led ((i : Int).tmod 4) (((i : Int) + 1).tmod 4) i i 0 0 (3 * (i : Int)) (900 + (i : Int)) h
      generalize hW1 : wdC (i + 1) = W1 at hw
      generalize hM1 : mnC (i + 1) = M1 at hm
      generalize hH1 : hdC (i + 1) = H1 at hh
      generalize wdC i = W0 at *
      generalize mnC i = M0 at *
      generalize hdC i = H0 at *
      by_cases hc : 0 < i ∧ i < 12
      · rw [if_pos hc] at hw
        conv=>whnf
        repeat' (first|((first|refine zs1 ?_|refine zs2 ?_|refine zs3 ?_|refine zs4 ?_|refine zs5 ?_);conv=>whnf)|((first|apply zi1|apply zi2|apply zi3|apply zi4|apply zi5) <;> intro _ <;> first|(exfalso;omega)|contradiction|(conv=>whnf)))
        refine VCut.block 99 ?_
        conv=>whnf
        repeat' (first|((first|refine zs1 ?_|refine zs2 ?_|refine zs3 ?_|refine zs4 ?_|refine zs5 ?_);conv=>whnf)|((first|apply zi1|apply zi2|apply zi3|apply zi4|apply zi5) <;> intro _ <;> first|(exfalso;omega)|contradiction|(conv=>whnf)))
        refine zs6 [(1,7)] ?_
        conv=>whnf
        repeat' (first|((first|refine zs1 ?_|refine zs2 ?_|refine zs3 ?_|refine zs4 ?_|refine zs5 ?_);conv=>whnf)|((first|apply zi1|apply zi2|apply zi3|apply zi4|apply zi5) <;> intro _ <;> first|(exfalso;omega)|contradiction|(conv=>whnf))|(refine VCall.intro (cw _) ?_;conv=>whnf)|(refine VMem.app1 (l:=W0) (wdW i) encWy_len rfl rfl rfl rfl rfl (by omega) ?_;conv=>whnf))
        refine zs6 [(1,13)] ?_
        conv=>whnf
        repeat' (first|((first|refine zs1 ?_|refine zs2 ?_|refine zs3 ?_|refine zs4 ?_|refine zs5 ?_);conv=>whnf)|((first|apply zi1|apply zi2|apply zi3|apply zi4|apply zi5) <;> intro _ <;> first|(exfalso;omega)|contradiction|(conv=>whnf))|(refine VCall.intro (cm _) ?_;conv=>whnf)|(refine VMem.app1 (l:=M0) (mnW i) encWy_len rfl rfl rfl rfl rfl (by omega) ?_;conv=>whnf)|(refine VMem.app1 (l:=H0) (⟨0,i,0⟩ : Hd) encHd_len rfl rfl rfl rfl rfl (by omega) ?_;conv=>whnf))
        refine LEnd.intro (i + 1) (by omega) (by omega) ?_
        rw [hW1,hM1,hH1,hw,hm,hh,List.length_append,List.length_append,List.length_append]
        conv=>whnf
        refine Retell.turn ⟨[0,1,6,8,10],19,[],[]⟩ (TurnOk.mk' _ _ [] [] (OutOk.lift _) rfl (by decide) zb trivial trivial rfl) zw zm
      · rw [if_neg hc] at hw
        conv=>whnf
        repeat' (first|((first|refine zs1 ?_|refine zs2 ?_|refine zs3 ?_|refine zs4 ?_|refine zs5 ?_);conv=>whnf)|((first|apply zi1|apply zi2|apply zi3|apply zi4|apply zi5) <;> intro _ <;> first|(exfalso;omega)|contradiction|(conv=>whnf)))
        refine VCut.block 99 ?_
        conv=>whnf
        repeat' (first|((first|refine zs1 ?_|refine zs2 ?_|refine zs3 ?_|refine zs4 ?_|refine zs5 ?_);conv=>whnf)|((first|apply zi1|apply zi2|apply zi3|apply zi4|apply zi5) <;> intro _ <;> first|(exfalso;omega)|contradiction|(conv=>whnf))|(refine zs6 [(1,13)] ?_;conv=>whnf)|(refine VCall.intro (cm _) ?_;conv=>whnf)|(refine VMem.app1 (l:=M0) (mnW i) encWy_len rfl rfl rfl rfl rfl (by omega) ?_;conv=>whnf)|(refine VMem.app1 (l:=H0) (⟨0,i,0⟩ : Hd) encHd_len rfl rfl rfl rfl rfl (by omega) ?_;conv=>whnf))
        all_goals (
          refine LEnd.intro (i + 1) (by omega) (by omega) ?_
          rw [hW1,hM1,hH1,hw,hm,hh,List.length_append,List.length_append]
          conv=>whnf
          refine Retell.turn ⟨[0,1,2,6,8],19,[],[]⟩ (TurnOk.mk' _ _ [] [] (OutOk.lift _) rfl (by decide) zb trivial trivial rfl) zw zm)
    · obtain rfl : i = n:=by omega
      have eW:=chkW i h3
      have eM:=chkM i h3
      have lw:=wdC_len i
      have lm:=mnC_len i
      have lh:=hdC_len i
      generalize wdC i = W0 at *
      generalize mnC i = M0 at *
      generalize hdC i = H0 at *
      obtain ⟨e1,he1⟩ : ∃ e,e = chk ⟨(i : Int),W0⟩:=⟨_,rfl⟩
      obtain ⟨e2,he2⟩ : ∃ e,e = chk ⟨4,M0⟩:=⟨_,rfl⟩
      rw [← he1] at eW
      rw [← he2] at eM
      obtain ⟨m,hm⟩ : ∃ m,min i 14 = m:=⟨_,rfl⟩
      have hm' : min (i : Int) 14 = (m : Int):=by omega
      have hmi : m ≤ i:=by omega
      apply suffices_
      intro hrest
      by_cases h14 : i ≤ 14
      · have c6:=fun (outer : Vm.Id → Option Blk) (B0 B1 B2 : Blk)=>own5g (outer:=outer) (loc:=[B0,B1,B2,.flat true (M0.flatMap encWy),.flat true (H0.flatMap encHd),.flat true ((List.replicate m (0 : Int)).flatMap Vm.encI)]) (p:=3) (r:=4) (s:=5) (ws:=M0) (l:=H0) (ps:=List.replicate m 0) (n1:=M0.length) (n3:=H0.length) (n4:=m) (P:=4) (x:=0) (y:=0) (z:=0) (to:=3) rfl rfl rfl rfl rfl rfl rfl rfl (by simp) rfl rfl rfl
        conv=>whnf
        repeat' (first|((first|refine zs1 ?_|refine zs2 ?_|refine zs3 ?_|refine zs4 ?_|refine zs5 ?_);conv=>whnf)|((first|apply zi1|apply zi2|apply zi3|apply zi4|apply zi5) <;> intro _ <;> first|(exfalso;omega)|contradiction|(conv=>whnf)))
        refine VCut.at' (outer:=h.lift) (marks:=[]) 1 [(370,I i),(27,I i),(28,.ptr (.loc 0) 0),(29,.ptr (.loc 1) 0),(30,.gl (.loc 4) 3 H0.length)] [.cells true [I i,.gl (.loc 2) 8 W0.length],.cells true [I 4,.gl (.loc 3) 8 M0.length],.flat true (W0.flatMap encWy),.flat true (M0.flatMap encWy),.flat true (H0.flatMap encHd)] ?_ ?_
        · conv=>whnf
          refine Retell.turn ⟨[0,1,2,3,4],9,[],[]⟩ (TurnOk.mk' _ _ [] [] (OutOk.lift _) rfl (by decide) zb trivial trivial rfl) zw zm
        conv=>whnf
        refine zs6 [] ?_
        conv=>whnf
        repeat' (first|((first|refine zs1 ?_|refine zs2 ?_|refine zs3 ?_|refine zs4 ?_|refine zs5 ?_);conv=>whnf)|((first|apply zi1|apply zi2|apply zi3|apply zi4|apply zi5) <;> intro _ <;> first|(exfalso;omega)|contradiction|(conv=>whnf))|(refine VCall.intro (own5n rfl rfl rfl) ?_;conv=>whnf)|(simp only [hm'];conv=>whnf)|(refine VAny.intro (v:=.gl (.loc 4) 3 H0.length) ⟨by omega,H0.length,by omega,.inl ⟨rfl,rfl⟩⟩ ?_;conv=>whnf)|(refine VMkD.makeI m rfl rfl rfl rfl rfl (by decide) (by omega) ?_;conv=>whnf)|(refine VCall.intro (c6 _ _ _ _) ?_;conv=>whnf)|(refine VMkD.makeI i rfl rfl rfl rfl rfl (by decide) (by omega) ?_;conv=>whnf)|(refine VCall.intro (own7 (ws:=M0) (a1:=[0]) (a2:=[2]) (a3:=List.replicate i 0) (a4:=[0,1]) rfl rfl rfl rfl rfl rfl rfl rfl rfl rfl rfl rfl rfl (by simp) rfl rfl rfl rfl rfl rfl rfl rfl rfl rfl rfl) ?_;conv=>whnf))
        refine VCut.at' (outer:=h.lift) (marks:=[]) 99 [(370,I i),(27,I i),(28,.ptr (.loc 0) 0),(29,.ptr (.loc 1) 0)] [.cells true [I i,.gl (.loc 2) 8 W0.length],.cells true [I 4,.gl (.loc 3) 8 M0.length],.flat true (W0.flatMap encWy),.flat true (M0.flatMap encWy)] ?_ hrest.out
        conv=>whnf
        refine Retell.turn ⟨[0,1,2,3],29,[],[]⟩ (TurnOk.mk' _ _ [] [] (OutOk.lift _) rfl (by decide) zb trivial trivial rfl) zw zm
      · have c5:=fun (outer : Vm.Id → Option Blk) (B0 B1 B2 : Blk)=>own5h (outer:=outer) (loc:=[B0,B1,B2,.flat true (M0.flatMap encWy),.flat true (H0.flatMap encHd),.flat true ((List.replicate m (0 : Int)).flatMap Vm.encI)]) (p:=3) (r:=4) (s:=5) (ws:=M0) (l:=H0.take m) (ps:=List.replicate m 0) (n1:=M0.length) (m:=m) (n4:=m) (P:=4) (x:=0) (y:=0) (z:=0) (to:=3) rfl rfl rfl rfl (by rw [List.drop_zero,flat_takeD encHd_len]) (by rw [flat_len encHd_len];omega) rfl rfl (by rw [List.length_take];omega) (by simp) rfl rfl rfl
        conv=>whnf
        repeat' (first|((first|refine zs1 ?_|refine zs2 ?_|refine zs3 ?_|refine zs4 ?_|refine zs5 ?_);conv=>whnf)|((first|apply zi1|apply zi2|apply zi3|apply zi4|apply zi5) <;> intro _ <;> first|(exfalso;omega)|contradiction|(conv=>whnf)))
        refine VCut.at' (outer:=h.lift) (marks:=[]) 1 [(370,I i),(27,I i),(28,.ptr (.loc 0) 0),(29,.ptr (.loc 1) 0),(30,.gl (.loc 4) 3 H0.length)] [.cells true [I i,.gl (.loc 2) 8 W0.length],.cells true [I 4,.gl (.loc 3) 8 M0.length],.flat true (W0.flatMap encWy),.flat true (M0.flatMap encWy),.flat true (H0.flatMap encHd)] ?_ ?_
        · conv=>whnf
          refine Retell.turn ⟨[0,1,2,3,4],9,[],[]⟩ (TurnOk.mk' _ _ [] [] (OutOk.lift _) rfl (by decide) zb trivial trivial rfl) zw zm
        conv=>whnf
        refine zs6 [] ?_
        conv=>whnf
        repeat' (first|((first|refine zs1 ?_|refine zs2 ?_|refine zs3 ?_|refine zs4 ?_|refine zs5 ?_);conv=>whnf)|((first|apply zi1|apply zi2|apply zi3|apply zi4|apply zi5) <;> intro _ <;> first|(exfalso;omega)|contradiction|(conv=>whnf))|(refine VCall.intro (own5n rfl rfl rfl) ?_;conv=>whnf)|(simp only [hm'];conv=>whnf)|(refine VAny.intro (v:=.slice (.loc 4) 0 3 m none) ⟨by omega,m,by omega,.inr ⟨by omega,rfl⟩⟩ ?_;conv=>whnf)|(refine VMkD.makeI m rfl rfl rfl rfl rfl (by decide) (by omega) ?_;conv=>whnf)|(refine VCall.intro (c5 _ _ _ _) ?_;conv=>whnf)|(refine VMkD.makeI i rfl rfl rfl rfl rfl (by decide) (by omega) ?_;conv=>whnf)|(refine VCall.intro (own7 (ws:=M0) (a1:=[0]) (a2:=[2]) (a3:=List.replicate i 0) (a4:=[0,1]) rfl rfl rfl rfl rfl rfl rfl rfl rfl rfl rfl rfl rfl (by simp) rfl rfl rfl rfl rfl rfl rfl rfl rfl rfl rfl) ?_;conv=>whnf))
        refine VCut.at' (outer:=h.lift) (marks:=[]) 99 [(370,I i),(27,I i),(28,.ptr (.loc 0) 0),(29,.ptr (.loc 1) 0)] [.cells true [I i,.gl (.loc 2) 8 W0.length],.cells true [I 4,.gl (.loc 3) 8 M0.length],.flat true (W0.flatMap encWy),.flat true (M0.flatMap encWy)] ?_ hrest.out
        conv=>whnf
        refine Retell.turn ⟨[0,1,2,3],29,[],[]⟩ (TurnOk.mk' _ _ [] [] (OutOk.lift _) rfl (by decide) zb trivial trivial rfl) zw zm
      conv=>whnf
      repeat' (first|((first|refine zs1 ?_|refine zs2 ?_|refine zs3 ?_|refine zs4 ?_|refine zs5 ?_);conv=>whnf)|((first|apply zi1|apply zi2|apply zi3|apply zi4|apply zi5) <;> intro _ <;> first|(exfalso;omega)|contradiction|(conv=>whnf))|(refine VCall.intro (own9 (p:=2) (ws:=W0) rfl rfl rfl (by omega) he1) ?_;conv=>whnf)|(refine VCall.intro (own9 (p:=3) (ws:=M0) rfl rfl rfl (by omega) he2) ?_;conv=>whnf))
      all_goals first
        | (refine LEnd.intro (i + 1) (by omega) (by omega) ?_
           conv=>whnf
           refine Retell.turn ⟨[],9,[],[]⟩ (TurnOk.mk' _ _ [] [] (OutOk.lift _) rfl (by decide) zb trivial trivial rfl) zw zm)
        | (exfalso
           rename_i hh
           apply hh
           rw [Bool.eq_iff_iff]
           simp
           omega)
  · obtain rfl : n = 26:=by omega
    conv=>whnf
    repeat' (first|((first|refine zs1 ?_|refine zs2 ?_|refine zs3 ?_|refine zs4 ?_|refine zs5 ?_);conv=>whnf)|((first|apply zi1|apply zi2|apply zi3|apply zi4|apply zi5) <;> intro _ <;> first|(exfalso;omega)|contradiction|(conv=>whnf)))
    refine VCut.at' (outer:=h.lift) (marks:=[]) 0 [] [] ?_ (sp4 h)
    conv=>whnf
    refine Retell.turn ⟨[],9,[],[]⟩ (TurnOk.mk' _ _ [] [] (OutOk.lift _) rfl (by decide) zb trivial trivial rfl) zw zm
end Go.Proofs.YtoeendggmalcpaaGreat

open Go.Vm
open Psg
namespace Go.Proofs.YtoeendggmalcpaaGreat
set_option maxRecDepth 100000
set_option maxHeartbeats 16000000

def lsL : List (List Int):=[[0],[1],[2],[0,1],[1,2],[0,2],[],[2,1]]
theorem ls_at {u : Nat} (h : u < 8) : ∃ p,lsL[u]? = some p:=⟨_,List.getElem?_eq_getElem (show u < lsL.length from h)⟩
theorem sp2 (h : Hp) : VCut Tryz.prog none isOut (tlC (tlC (Tryz.f3.body.getD .skip))) ⟨484,.leaf,⟨h.lift,[]⟩,[]⟩ (vfin (tiOf Tryz.prog) Tryz.f3.results.toList h (B true) h):=by
  refine VCut.at' (outer:=h.lift) (marks:=[]) 1 [] [] ?_ ?_
  · conv=>whnf
    refine Retell.turn ⟨[],9,[],[]⟩ (TurnOk.mk' _ _ [] [] (OutOk.lift _) rfl (by decide) zb trivial trivial rfl) zw zm
  conv=>whnf
  repeat' (first|((first|refine zs1 ?_|refine zs2 ?_|refine zs3 ?_|refine zs4 ?_|refine zs5 ?_);conv=>whnf)|((first|apply zi1|apply zi2|apply zi3|apply zi4|apply zi5) <;> intro _ <;> first|(exfalso;omega)|contradiction|(conv=>whnf)))
  refine VCut.at' (outer:=h.lift) (marks:=[]) 1 [(18,intss lsL)] [] ?_ ?_
  · conv=>whnf
    refine Retell.turn ⟨[],19,[(0,[DI 0]),(1,[DI 1]),(2,[DI 2]),(3,[DI 0,DI 1]),(4,[DI 1,DI 2]),(5,[DI 0,DI 2]),(6,[DI 2,DI 1]),(7,lsL.flatMap encL)],[]⟩ (TurnOk.mk' _ _ [(0,[DI 0]),(1,[DI 1]),(2,[DI 2]),(3,[DI 0,DI 1]),(4,[DI 1,DI 2]),(5,[DI 0,DI 2]),(6,[DI 2,DI 1]),(7,lsL.flatMap encL)] [] (OutOk.lift _) rfl (by decide) zb zr trivial rfl) zw zm
  conv=>whnf
  repeat' (first|((first|refine zs1 ?_|refine zs2 ?_|refine zs3 ?_|refine zs4 ?_|refine zs5 ?_);conv=>whnf)|((first|apply zi1|apply zi2|apply zi3|apply zi4|apply zi5) <;> intro _ <;> first|(exfalso;omega)|contradiction|(conv=>whnf)))
  refine VCode.lpC (outer:=h.lift) (marks:=[]) 2 (fun k : Nat=>[(18,intss lsL),(219,I k)]) (fun _=>[]) (fun k=>k ≤ 2500) (fun k=>2500 - k) 0 (Nat.zero_le _) ?_ ?_
  · conv=>whnf
    refine Retell.turn ⟨[],9,[],[]⟩ (TurnOk.mk' _ _ [] [] (OutOk.lift _) rfl (by decide) zb trivial trivial rfl) zw zm
  rintro k hk
  rcases Nat.lt_or_ge k 2500 with h3|h3
  · have hk0 : (0 : Int) ≤ k:=by omega
    have hk1 : (k : Int) ≤ 2500:=by omega
    obtain ⟨M,hM,bM⟩:=wtn (a:=(k : Int)) (k:=6) 6 hk0 rfl (by omega)
    conv=>whnf
    repeat' (first|((first|refine zs1 ?_|refine zs2 ?_|refine zs3 ?_|refine zs4 ?_|refine zs5 ?_);conv=>whnf)|((first|apply zi1|apply zi2|apply zi3|apply zi4|apply zi5) <;> intro _ <;> first|(exfalso;omega)|contradiction|(conv=>whnf)))
    refine VCut.block 2 ?_
    conv=>whnf
    repeat' (first|((first|refine zs1 ?_|refine zs2 ?_|refine zs3 ?_|refine zs4 ?_|refine zs5 ?_);conv=>whnf)|((first|apply zi1|apply zi2|apply zi3|apply zi4|apply zi5) <;> intro _ <;> first|(exfalso;omega)|contradiction|(conv=>whnf)))
    refine VCut.at' (outer:=h.lift) (marks:=[]) 1 [(18,intss lsL),(219,I k),(19,I k),(20,.ptr (.loc 0) 0)] [.cells true [I 3,.gl (.loc 1) 8 0],.flat true []] ?_ ?_
    · conv=>whnf
      refine Retell.turn ⟨[0,1],1,[],[]⟩ (TurnOk.mk' _ _ [] [] (OutOk.lift _) rfl (by decide) zb trivial trivial rfl) zw zm
    conv=>whnf
    repeat' (first|((first|refine zs1 ?_|refine zs2 ?_|refine zs3 ?_|refine zs4 ?_|refine zs5 ?_);conv=>whnf)|((first|apply zi1|apply zi2|apply zi3|apply zi4|apply zi5) <;> intro _ <;> first|(exfalso;omega)|contradiction|(conv=>whnf))|(rw [hM];conv=>whnf))
    refine VCode.lpC (outer:=h.lift) (marks:=[]) 2 (fun y : Nat × List Wy=>[(18,intss lsL),(219,I k),(19,I k),(20,.ptr (.loc 0) 0),(224,I M),(225,I y.1)]) (fun y=>[.cells true [I 3,.gl (.loc 1) 8 y.2.length],.flat true (y.2.flatMap encWy)]) (fun y=>y.1 ≤ M ∧ y.2.length = y.1) (fun y=>M - y.1) (0,[]) ⟨Nat.zero_le _,rfl⟩ ?_ ?_
    · conv=>whnf
      refine Retell.turn ⟨[0,1],9,[],[]⟩ (TurnOk.mk' _ _ [] [] (OutOk.lift _) rfl (by decide) zb trivial trivial rfl) zw zm
    · rintro ⟨i,ws⟩ ⟨hi,hs⟩
      dsimp only at hi hs ⊢
      rcases Nat.lt_or_ge i M with h5|h5
      · have z1 : (((i : Int) + 2) != 0) = true:=by rw [bne_iff_ne];omega
        have z2 : decide (((i : Int) + 2) ≠ 0) = true:=by rw [decide_eq_true_eq];omega
        obtain ⟨K1,hK1,bK1⟩:=wtd (a:=(k : Int)) (k:=(i : Int) + 2) hk0 hk1 (by omega) (by omega)
        obtain ⟨x,hx,bx⟩ : ∃ x : Int,K1 + 3 * (i : Int) = x ∧ 0 ≤ x ∧ x ≤ 3000:=⟨_,rfl,by omega,by omega⟩
        obtain ⟨a1,ha1,ba1⟩:=wtm (a:=x) (k:=3) bx.1 (by omega)
        obtain ⟨d3,hd3,bd3⟩:=wtd (a:=x) (k:=3) bx.1 bx.2 (by omega) (by omega)
        obtain ⟨e2,he2,be2⟩:=wtm (a:=d3) (k:=2) bd3.1 (by omega)
        obtain ⟨a2,ha2,ba2⟩:=wtm (a:=x + 1 + e2) (k:=3) (by omega) (by omega)
        obtain ⟨d5,hd5,bd5⟩:=wtd (a:=x) (k:=5) bx.1 bx.2 (by omega) (by omega)
        obtain ⟨a3,ha3,ba3⟩:=wtm (a:=d5) (k:=3) bd5.1 (by omega)
        obtain ⟨d4,hd4,bd4⟩:=wtd (a:=x) (k:=4) bx.1 bx.2 (by omega) (by omega)
        obtain ⟨a4,ha4,ba4⟩:=wtm (a:=d4) (k:=4) bd4.1 (by omega)
        obtain ⟨d7,hd7,bd7⟩:=wtd (a:=x) (k:=7) bx.1 bx.2 (by omega) (by omega)
        obtain ⟨a5,ha5,ba5⟩:=wtm (a:=d7) (k:=4) bd7.1 (by omega)
        obtain ⟨a6,ha6,ba6⟩:=wtm (a:=d3) (k:=4) bd3.1 (by omega)
        obtain ⟨d6,hd6,bd6⟩:=wtd (a:=x) (k:=6) bx.1 bx.2 (by omega) (by omega)
        obtain ⟨a7,ha7,ba7⟩:=wtm (a:=d6) (k:=5) bd6.1 (by omega)
        obtain ⟨d8,hd8,bd8⟩:=wtd (a:=x) (k:=8) bx.1 bx.2 (by omega) (by omega)
        obtain ⟨a8,ha8,ba8⟩:=wtm (a:=d8) (k:=4) bd8.1 (by omega)
        have cl:=fun h=>vc_Led a1 a2 a3 a4 a5 a6 a7 (a7 + a8) h
        conv=>whnf
        repeat' (first|((first|refine zs1 ?_|refine zs2 ?_|refine zs3 ?_|refine zs4 ?_|refine zs5 ?_);conv=>whnf)|((first|apply zi1|apply zi2|apply zi3|apply zi4|apply zi5) <;> intro _ <;> first|(exfalso;omega)|contradiction|(conv=>whnf)))
        refine VCut.block 2 ?_
        conv=>whnf
        repeat' (first|((first|refine zs1 ?_|refine zs2 ?_|refine zs3 ?_|refine zs4 ?_|refine zs5 ?_);conv=>whnf)|((first|apply zi1|apply zi2|apply zi3|apply zi4|apply zi5) <;> intro _ <;> first|(exfalso;omega)|contradiction|(conv=>whnf))|(rw [hK1];conv=>whnf))
        rw [hx]
        refine VCut.at' (outer:=h.lift) (marks:=[]) 99 [(18,intss lsL),(219,I k),(19,I k),(20,.ptr (.loc 0) 0),(224,I M),(225,I i),(21,I i),(22,I x)] [.cells true [I 3,.gl (.loc 1) 8 ws.length],.flat true (ws.flatMap encWy)] ?_ ?_
        · conv=>whnf
          refine Retell.turn ⟨[0,1],9,[],[]⟩ (TurnOk.mk' _ _ [] [] (OutOk.lift _) rfl (by decide) zb trivial trivial rfl) zw zm
        conv=>whnf
        refine zs6 [(1,33)] ?_
        conv=>whnf
        repeat' (first|((first|refine zs1 ?_|refine zs2 ?_|refine zs3 ?_|refine zs4 ?_|refine zs5 ?_);conv=>whnf)|((first|apply zi1|apply zi2|apply zi3|apply zi4|apply zi5) <;> intro _ <;> first|(exfalso;omega)|contradiction|(conv=>whnf))|(simp only [ha1,hd3,he2,ha2,hd5,ha3,hd4,ha4,hd7,ha5,ha6,hd6,ha7,hd8,ha8];conv=>whnf)|(refine VCall.intro (cl _) ?_;conv=>whnf)|(refine VMem.app1 (l:=ws) ⟨a1,a2,a3,a4,a5,a6,a7,a7 + a8⟩ encWy_len rfl rfl rfl rfl rfl (by omega) ?_;conv=>whnf))
        refine LEnd.intro (i + 1,ws ++ [⟨a1,a2,a3,a4,a5,a6,a7,a7 + a8⟩]) ⟨by dsimp only;omega,by dsimp only;rw [List.length_append,hs];rfl⟩ (by dsimp only;omega) ?_
        rw [List.length_append,List.length_singleton]
        conv=>whnf
        refine Retell.turn ⟨[0,3],9,[],[]⟩ (TurnOk.mk' _ _ [] [] (OutOk.lift _) rfl (by decide) zb trivial trivial rfl) zw zm
      · obtain rfl : i = M:=by omega
        obtain ⟨b1,hb1,bb1⟩:=wtm (a:=(k : Int)) (k:=3) hk0 (by omega)
        obtain ⟨d3,hd3,bd3⟩:=wtd (a:=(k : Int)) (k:=3) hk0 hk1 (by omega) (by omega)
        obtain ⟨b2,hb2,bb2⟩:=wtm (a:=d3) (k:=5) bd3.1 (by omega)
        obtain ⟨d7,hd7,bd7⟩:=wtd (a:=(k : Int)) (k:=7) hk0 hk1 (by omega) (by omega)
        obtain ⟨b3,hb3,bb3⟩:=wtm (a:=d7) (k:=4) bd7.1 (by omega)
        conv=>whnf
        repeat' (first|((first|refine zs1 ?_|refine zs2 ?_|refine zs3 ?_|refine zs4 ?_|refine zs5 ?_);conv=>whnf)|((first|apply zi1|apply zi2|apply zi3|apply zi4|apply zi5) <;> intro _ <;> first|(exfalso;omega)|contradiction|(conv=>whnf)))
        refine VCut.at' (outer:=h.lift) (marks:=[]) 2 [(18,intss lsL),(219,I k),(19,I k),(20,.ptr (.loc 0) 0)] [.cells true [I 3,.gl (.loc 1) 8 ws.length],.flat true (ws.flatMap encWy)] ?_ ?_
        · conv=>whnf
          refine Retell.turn ⟨[0,1],9,[],[]⟩ (TurnOk.mk' _ _ [] [] (OutOk.lift _) rfl (by decide) zb trivial trivial rfl) zw zm
        conv=>whnf
        repeat' (first|((first|refine zs1 ?_|refine zs2 ?_|refine zs3 ?_|refine zs4 ?_|refine zs5 ?_);conv=>whnf)|((first|apply zi1|apply zi2|apply zi3|apply zi4|apply zi5) <;> intro _ <;> first|(exfalso;omega)|contradiction|(conv=>whnf))|(simp only [hb1,hd3,hb2,hd7,hb3];conv=>whnf))
        refine VCut.at' (outer:=h.lift) (marks:=[]) 1 [(18,intss lsL),(219,I k),(19,I k),(20,.ptr (.loc 0) 0),(23,.ptr (.loc 2) 0),(24,.gl (.loc 3) 1 0)] [.cells true [I 3,.gl (.loc 1) 8 ws.length],.flat true (ws.flatMap encWy),.flat true [DI b1,DI b2,DI b3],.flat true []] ?_ ?_
        · conv=>whnf
          refine Retell.turn ⟨[0,1,2,3],3,[],[]⟩ (TurnOk.mk' _ _ [] [] (OutOk.lift _) rfl (by decide) zb trivial trivial rfl) zw zm
        conv=>whnf
        repeat' (first|((first|refine zs1 ?_|refine zs2 ?_|refine zs3 ?_|refine zs4 ?_|refine zs5 ?_);conv=>whnf)|((first|apply zi1|apply zi2|apply zi3|apply zi4|apply zi5) <;> intro _ <;> first|(exfalso;omega)|contradiction|(conv=>whnf)))
        refine VCode.lpC (outer:=h.lift) (marks:=[]) 2 (fun y : Nat × List Int=>[(18,intss lsL),(219,I k),(19,I k),(20,.ptr (.loc 0) 0),(23,.ptr (.loc 2) 0),(24,.gl (.loc 3) 1 y.2.length),(283,.gl (.loc 1) 8 ws.length),(284,I ws.length),(285,I y.1)]) (fun y=>[.cells true [I 3,.gl (.loc 1) 8 ws.length],.flat true (ws.flatMap encWy),.flat true [DI b1,DI b2,DI b3],.flat true (y.2.flatMap Vm.encI)]) (fun y=>y.1 ≤ ws.length ∧ y.2.length = y.1) (fun y=>ws.length - y.1) (0,[]) ⟨Nat.zero_le _,rfl⟩ ?_ ?_
        · conv=>whnf
          refine Retell.turn ⟨[0,1,2,3],9,[],[]⟩ (TurnOk.mk' _ _ [] [] (OutOk.lift _) rfl (by decide) zb trivial trivial rfl) zw zm
        · rintro ⟨e,hd⟩ ⟨he,hdl⟩
          dsimp only at he hdl ⊢
          rcases Nat.lt_or_ge e ws.length with h6|h6
          · have hw:=List.getElem?_eq_getElem h6
            generalize ws[e] = w at hw
            have z1 : (((e : Int) + 1) != 0) = true:=by rw [bne_iff_ne];omega
            obtain ⟨K2,hK2,bK2⟩:=wtd (a:=(k : Int)) (k:=(e : Int) + 1) hk0 hk1 (by omega) (by omega)
            obtain ⟨g3,hg3,bg3⟩:=wtm (a:=K2) (k:=3) bK2.1 (by omega)
            conv=>whnf
            repeat' (first|((first|refine zs1 ?_|refine zs2 ?_|refine zs3 ?_|refine zs4 ?_|refine zs5 ?_);conv=>whnf)|((first|apply zi1|apply zi2|apply zi3|apply zi4|apply zi5) <;> intro _ <;> first|(exfalso;omega)|contradiction|(conv=>whnf)))
            refine VCut.block 99 ?_
            conv=>whnf
            repeat' (first|((first|refine zs1 ?_|refine zs2 ?_|refine zs3 ?_|refine zs4 ?_|refine zs5 ?_);conv=>whnf)|((first|apply zi1|apply zi2|apply zi3|apply zi4|apply zi5) <;> intro _ <;> first|(exfalso;omega)|contradiction|(conv=>whnf))|(refine VLd.recd encWy_len e rfl rfl rfl rfl hw (by simp) ?_;conv=>whnf)|(refine zs6 [] ?_;conv=>whnf)|(simp only [hK2,hg3];conv=>whnf)|(refine VMem.app1 (l:=hd) (min w.h g3) Vm.encI_len rfl rfl rfl rfl rfl (by omega) ?_;conv=>whnf))
            refine LEnd.intro (e + 1,hd ++ [min w.h g3]) ⟨by dsimp only;omega,by dsimp only;rw [List.length_append,hdl];rfl⟩ (by dsimp only;omega) ?_
            rw [List.length_append,List.length_singleton]
            conv=>whnf
            refine Retell.turn ⟨[0,1,2,6],9,[],[]⟩ (TurnOk.mk' _ _ [] [] (OutOk.lift _) rfl (by decide) zb trivial trivial rfl) zw zm
          · obtain rfl : e = ws.length:=by omega
            obtain ⟨r1,hr1,_⟩:=wtm (a:=(k : Int)) (k:=5) hk0 (by omega)
            obtain ⟨d5,hd5,bd5⟩:=wtd (a:=(k : Int)) (k:=5) hk0 hk1 (by omega) (by omega)
            obtain ⟨r2,hr2,_⟩:=wtm (a:=d5) (k:=5) bd5.1 (by omega)
            obtain ⟨d9,hd9,bd9⟩:=wtd (a:=(k : Int)) (k:=9) hk0 hk1 (by omega) (by omega)
            obtain ⟨r3,hr3,_⟩:=wtm (a:=d9) (k:=3) bd9.1 (by omega)
            obtain ⟨m,hm,bm⟩:=wtn (a:=(k : Int)) (k:=4) 4 hk0 rfl (by omega)
            obtain ⟨p2,hp2,_⟩:=wtm (a:=(k : Int)) (k:=2) hk0 (by omega)
            obtain ⟨d2,hd2,bd2⟩:=wtd (a:=(k : Int)) (k:=2) hk0 hk1 (by omega) (by omega)
            obtain ⟨c2,hc2,_⟩:=wtm (a:=d2) (k:=3) bd2.1 (by omega)
            obtain ⟨u1,hu1,bu1⟩:=wtn (a:=(k : Int)) (k:=8) 8 hk0 rfl (by omega)
            obtain ⟨d8,hd8,bd8⟩:=wtd (a:=(k : Int)) (k:=8) hk0 hk1 (by omega) (by omega)
            obtain ⟨u2,hu2,bu2⟩:=wtn (a:=d8) (k:=8) 8 bd8.1 rfl (by omega)
            obtain ⟨d64,hd64,bd64⟩:=wtd (a:=(k : Int)) (k:=64) hk0 hk1 (by omega) (by omega)
            obtain ⟨u3,hu3,bu3⟩:=wtn (a:=d64) (k:=8) 8 bd64.1 rfl (by omega)
            obtain ⟨t10,ht10,_⟩:=wtm (a:=(k : Int)) (k:=10) hk0 (by omega)
            obtain ⟨L1,hL1⟩:=ls_at bu1
            obtain ⟨L2,hL2⟩:=ls_at bu2
            obtain ⟨L3,hL3⟩:=ls_at bu3
            conv=>whnf
            repeat' (first|((first|refine zs1 ?_|refine zs2 ?_|refine zs3 ?_|refine zs4 ?_|refine zs5 ?_);conv=>whnf)|((first|apply zi1|apply zi2|apply zi3|apply zi4|apply zi5) <;> intro _ <;> first|(exfalso;omega)|contradiction|(conv=>whnf)))
            refine VCut.at' (outer:=h.lift) (marks:=[]) 99 [(18,intss lsL),(219,I k),(19,I k),(20,.ptr (.loc 0) 0),(23,.ptr (.loc 2) 0),(24,.gl (.loc 3) 1 hd.length)] [.cells true [I 3,.gl (.loc 1) 8 ws.length],.flat true (ws.flatMap encWy),.flat true [DI b1,DI b2,DI b3],.flat true (hd.flatMap Vm.encI)] ?_ ?_
            · conv=>whnf
              refine Retell.turn ⟨[0,1,2,3],9,[],[]⟩ (TurnOk.mk' _ _ [] [] (OutOk.lift _) rfl (by decide) zb trivial trivial rfl) zw zm
            have c5:=fun (outer : Vm.Id → Option Blk) (B0 B2 B3 : Blk)=>own5s (outer:=outer) (loc:=[B0,.flat true (ws.flatMap encWy),B2,B3,.flat true ([r1,r2,r3].flatMap Vm.encI),.flat true (([⟨b1,b2,b3⟩,⟨p2,0,0⟩] : List Hd).flatMap encHd),.flat true ([c2,2].flatMap Vm.encI)]) (p:=1) (q:=4) (r:=5) (s:=6) (ws:=ws) (rt:=[r1,r2,r3].take m) (l:=[⟨b1,b2,b3⟩,⟨p2,0,0⟩]) (ps:=[c2,2]) (n1:=ws.length) (m:=m) (n3:=2) (n4:=2) (P:=3) (x:=b1) (y:=b2) (z:=b3) (to:=b1) rfl rfl rfl rfl rfl (by rw [List.drop_zero,flat_takeD Vm.encI_len]) (show 0 + m * 1 ≤ 3 by omega) rfl rfl rfl (by rw [List.length_take];exact Nat.min_eq_left (show m ≤ 3 by omega)) rfl rfl rfl rfl rfl rfl rfl rfl
            conv=>whnf
            refine zs6 [] ?_
            conv=>whnf
            repeat' (first|((first|refine zs1 ?_|refine zs2 ?_|refine zs3 ?_|refine zs4 ?_|refine zs5 ?_);conv=>whnf)|((first|apply zi1|apply zi2|apply zi3|apply zi4|apply zi5) <;> intro _ <;> first|(exfalso;omega)|contradiction|(conv=>whnf))|(simp only [hr1,hd5,hr2,hd9,hr3,hm,hb1,hp2,hd2,hc2,hu1,hd8,hu2,hd64,hu3,ht10];conv=>whnf)|(refine VAny.intro (v:=.slice (.loc 4) 0 1 m none) ⟨by omega,m,by omega,.inr ⟨by decide,rfl⟩⟩ ?_;conv=>whnf)|(refine VCall.intro (c5 _ _ _ _) ?_;conv=>whnf)|(refine VAny.ix encL_len u1 rfl rfl hL1 ?_;conv=>whnf)|(refine VAny.ix encL_len u2 rfl rfl hL2 ?_;conv=>whnf)|(refine VAny.ix encL_len u3 rfl rfl hL3 ?_;conv=>whnf)|(refine VCall.intro (own7f rfl rfl rfl rfl rfl rfl rfl) ?_;conv=>whnf)|(refine VMkD.makeI 16 rfl rfl rfl rfl rfl (by decide) (by omega) ?_;conv=>whnf)|(refine VCall.intro (own6t rfl rfl rfl rfl rfl rfl rfl rfl rfl rfl rfl rfl rfl rfl) ?_;conv=>whnf))
            all_goals (
              refine LEnd.intro (k + 1) (by omega) (by omega) ?_
              conv=>whnf
              refine Retell.turn ⟨[],29,[],[]⟩ (TurnOk.mk' _ _ [] [] (OutOk.lift _) rfl (by decide) zb trivial trivial rfl) zw zm)
  · obtain rfl : k = 2500:=by omega
    conv=>whnf
    repeat' (first|((first|refine zs1 ?_|refine zs2 ?_|refine zs3 ?_|refine zs4 ?_|refine zs5 ?_);conv=>whnf)|((first|apply zi1|apply zi2|apply zi3|apply zi4|apply zi5) <;> intro _ <;> first|(exfalso;omega)|contradiction|(conv=>whnf)))
    refine VCut.at' (outer:=h.lift) (marks:=[]) 0 [] [] ?_ (sp3 h)
    conv=>whnf
    refine Retell.turn ⟨[],9,[],[]⟩ (TurnOk.mk' _ _ [] [] (OutOk.lift _) rfl (by decide) zb trivial trivial rfl) zw zm
end Go.Proofs.YtoeendggmalcpaaGreat

open Go.Vm
open Psg
namespace Go.Proofs.YtoeendggmalcpaaGreat
set_option maxRecDepth 100000
set_option maxHeartbeats 4000000

theorem vc_PassageSmall (h : Hp) : VC Tryz.prog 3 [] h (B true) h:=by
  refine VC.bodyC 1 Tryz.func3 rfl Tryz.ntmps3 Tryz.call3 (h.grows_refl) rfl ?_
  conv=>whnf
  repeat' (first|((first|refine zs1 ?_|refine zs2 ?_|refine zs3 ?_|refine zs4 ?_|refine zs5 ?_);conv=>whnf)|((first|apply zi1|apply zi2|apply zi3|apply zi4|apply zi5) <;> intro _ <;> first|(exfalso;omega)|contradiction|(conv=>whnf)))
  refine VCut.at' 0 [] [] ?_ (sp1 h ⟨sp2 h⟩)
  conv=>whnf
  refine Retell.turn ⟨[],9,[],[]⟩ (TurnOk.mk' _ _ [] [] (OutOk.lift _) rfl (by decide) zb trivial trivial rfl) zw zm
end Go.Proofs.YtoeendggmalcpaaGreat

/- Part 8 of the proof that small nets are as the given statement says. No condition. -/
import Derived.Test.YtoeendggmalcpaaGreatBz7
set_option linter.unusedVariables false
set_option linter.unusedSimpArgs false
open Go.Vm
open Psg
namespace Go.Proofs.YtoeendggmalcpaaGreat
set_option maxRecDepth 20000
set_option maxHeartbeats 4000000
theorem top30 : eqTop Tryz.prog 28 = some (Sh.cons 0 1 false Sh.int (Sh.cons 1 1 false Sh.int (Sh.cons 2 1 false Sh.int (Sh.nil)))):=by kernel_rfl
theorem vneqH (x y : Hd) : vaggeq Tryz.prog .neq 28 (vHd x) (vHd y) = some (B (decide (¬ x = y))):=by
  have : (!((x.p == y.p) && ((x.d == y.d) && ((x.s == y.s) && true)))) = decide (¬ x = y):=by
    obtain ⟨a0,a1,a2⟩:=x;obtain ⟨b0,b1,b2⟩:=y
    rw [Bool.eq_iff_iff,decide_eq_true_eq];simp [-not_and,and_assoc];omega
  rw [← this]
  unfold vaggeq
  rw [top30]
  rfl
theorem top40 : eqTop Tryz.prog 35 = some (Sh.cons 0 1 false Sh.int (Sh.cons 1 1 false Sh.int (Sh.cons 2 1 false Sh.int (Sh.cons 3 1 false Sh.int (Sh.cons 4 1 false Sh.int (Sh.cons 5 1 false Sh.int (Sh.cons 6 2 true (Sh.cons 0 1 false Sh.int (Sh.cons 1 1 false Sh.int Sh.nil)) Sh.nil))))))):=by kernel_rfl
theorem vneqW (x y : Wy) : vaggeq Tryz.prog .neq 35 (vWy x) (vWy y) = some (B (decide (¬ x = y))):=by
  have : (!((x.f == y.f) && ((x.t == y.t) && ((x.d == y.d) && ((x.h == y.h) && ((x.n == y.n) && ((x.g == y.g) && (((x.lo == y.lo) && ((x.hi == y.hi) && true)) && true)))))))) = decide (¬ x = y):=by
    obtain ⟨a0,a1,a2,a3,a4,a5,a6,a7⟩:=x;obtain ⟨b0,b1,b2,b3,b4,b5,b6,b7⟩:=y
    rw [Bool.eq_iff_iff,decide_eq_true_eq];simp [-not_and,and_assoc];omega
  rw [← this]
  unfold vaggeq
  rw [top40]
  rfl
theorem vc_kequalH (a b : List Hd) (h : Hp) (ha : a.length ≤ 4000000) (hb : b.length ≤ 4000000) : VC Tryz.prog 27 [hds a,hds b] h (B (decide (a = b))) h:=by
  obtain ⟨E,hE⟩ : ∃ E,E = decide (a = b):=⟨_,rfl⟩
  rw [← hE]
  refine VC.body Tryz.func27 rfl Tryz.ntmps27 Tryz.call27 (h.grows_refl) rfl ?_;conv=>whnf
  refine VCode.lp (fun k : Nat=>[(0,hds a),(1,hds b),(4,B false),(7,I a.length),(8,I k)]) (fun _=>[]) (fun k=>k ≤ a.length ∧ k ≤ b.length ∧ E = decide (a.drop k = b.drop k)) (fun k=>a.length - k) 0 ⟨Nat.zero_le _,Nat.zero_le _,hE⟩ ?_ ?_
  · conv=>whnf
    refine Retell.turn ⟨[],0,[],[]⟩ (TurnOk.mk' _ _ [] [] (OutOk.lift _) rfl (by decide) zb trivial trivial rfl) zw zm
  · rintro k ⟨h1,h2,h3⟩
    conv=>whnf
    refine VIte.dec (fun h4=>?_) (fun h4=>?_)
    · have hx : a[k]? = some a[k]:=List.getElem?_eq_getElem (by omega)
      rcases Nat.eq_or_lt_of_le h2 with h5|h5
      · have hF : E = false:=by
          rw [h3,decide_eq_false_iff_not]
          intro hh
          have:=congrArg List.length hh
          simp at this;omega
        rw [hF]
        conv=>whnf
        repeat' (first|((first|refine zs1 ?_|refine zs2 ?_|refine zs3 ?_|refine zs4 ?_|refine zs5 ?_|refine zs6 [] ?_);conv=>whnf)|((first|apply zi1|apply zi2|apply zi3|apply zi4|apply zi5) <;> intro _ <;> conv=>whnf))
        · exact VOut.same rfl
        all_goals omega
      · have hy : b[k]? = some b[k]:=List.getElem?_eq_getElem h5
        rw [drop_eq_dec hx hy] at h3
        generalize a[k] = x at hx h3
        generalize b[k] = y at hy h3
        conv=>whnf
        repeat' (first|((first|refine zs1 ?_|refine zs2 ?_|refine zs3 ?_|refine zs4 ?_|refine zs5 ?_|refine zs6 [] ?_);conv=>whnf)|((first|apply zi1|apply zi2|apply zi3|apply zi4|apply zi5) <;> intro _ <;> conv=>whnf)|(refine VAny.ix encHd_len k rfl rfl hx ?_;conv=>whnf)|(refine VAny.ix encHd_len k rfl rfl hy ?_;conv=>whnf)|(refine VAgg.intro (vneqH _ _) ?_;conv=>whnf))
        all_goals (try omega)
        all_goals first
          | (rw [decide_eq_false (ne_X (by first|assumption|omega)),Bool.false_and] at h3;rw [h3];exact VOut.same rfl)
          | (rw [decide_eq_true (eq_X (by first|assumption|omega)),Bool.true_and] at h3
             refine LEnd.intro (k + 1) ⟨by omega,by omega,h3⟩ (by omega) ?_
             conv=>whnf
             refine Retell.turn ⟨[],0,[],[]⟩ (TurnOk.mk' _ _ [] [] (OutOk.lift _) rfl (by decide) zb trivial trivial rfl) zw zm)
    · have hk : k = a.length:=by omega
      rw [h3,hk,List.drop_length]
      conv=>whnf
      repeat' (first|((first|refine zs1 ?_|refine zs2 ?_|refine zs3 ?_|refine zs4 ?_|refine zs5 ?_|refine zs6 [] ?_);conv=>whnf)|((first|apply zi1|apply zi2|apply zi3|apply zi4|apply zi5) <;> intro _ <;> conv=>whnf))
      refine VOut.same ?_
      have : ((a.length : Int) == b.length) = decide ([] = b.drop a.length):=by
        rw [Bool.eq_iff_iff,decide_eq_true_eq,beq_iff_eq]
        constructor
        · intro hh;rw [List.drop_of_length_le (by omega)]
        · intro hh
          have:=congrArg List.length hh
          simp at this;omega
      simp only [V.ren,this]
theorem vc_kequalW (a b : List Wy) (h : Hp) (ha : a.length ≤ 4000000) (hb : b.length ≤ 4000000) : VC Tryz.prog 59 [wys a,wys b] h (B (decide (a = b))) h:=by
  obtain ⟨E,hE⟩ : ∃ E,E = decide (a = b):=⟨_,rfl⟩
  rw [← hE]
  refine VC.body Tryz.func59 rfl Tryz.ntmps59 Tryz.call59 (h.grows_refl) rfl ?_;conv=>whnf
  refine VCode.lp (fun k : Nat=>[(0,wys a),(1,wys b),(4,B false),(7,I a.length),(8,I k)]) (fun _=>[]) (fun k=>k ≤ a.length ∧ k ≤ b.length ∧ E = decide (a.drop k = b.drop k)) (fun k=>a.length - k) 0 ⟨Nat.zero_le _,Nat.zero_le _,hE⟩ ?_ ?_
  · conv=>whnf
    refine Retell.turn ⟨[],0,[],[]⟩ (TurnOk.mk' _ _ [] [] (OutOk.lift _) rfl (by decide) zb trivial trivial rfl) zw zm
  · rintro k ⟨h1,h2,h3⟩
    conv=>whnf
    refine VIte.dec (fun h4=>?_) (fun h4=>?_)
    · have hx : a[k]? = some a[k]:=List.getElem?_eq_getElem (by omega)
      rcases Nat.eq_or_lt_of_le h2 with h5|h5
      · have hF : E = false:=by
          rw [h3,decide_eq_false_iff_not]
          intro hh
          have:=congrArg List.length hh
          simp at this;omega
        rw [hF]
        conv=>whnf
        repeat' (first|((first|refine zs1 ?_|refine zs2 ?_|refine zs3 ?_|refine zs4 ?_|refine zs5 ?_|refine zs6 [] ?_);conv=>whnf)|((first|apply zi1|apply zi2|apply zi3|apply zi4|apply zi5) <;> intro _ <;> conv=>whnf))
        · exact VOut.same rfl
        all_goals omega
      · have hy : b[k]? = some b[k]:=List.getElem?_eq_getElem h5
        rw [drop_eq_dec hx hy] at h3
        generalize a[k] = x at hx h3
        generalize b[k] = y at hy h3
        conv=>whnf
        repeat' (first|((first|refine zs1 ?_|refine zs2 ?_|refine zs3 ?_|refine zs4 ?_|refine zs5 ?_|refine zs6 [] ?_);conv=>whnf)|((first|apply zi1|apply zi2|apply zi3|apply zi4|apply zi5) <;> intro _ <;> conv=>whnf)|(refine VAny.ix encWy_len k rfl rfl hx ?_;conv=>whnf)|(refine VAny.ix encWy_len k rfl rfl hy ?_;conv=>whnf)|(refine VAgg.intro (vneqW _ _) ?_;conv=>whnf))
        all_goals (try omega)
        all_goals first
          | (rw [decide_eq_false (ne_X (by first|assumption|omega)),Bool.false_and] at h3;rw [h3];exact VOut.same rfl)
          | (rw [decide_eq_true (eq_X (by first|assumption|omega)),Bool.true_and] at h3
             refine LEnd.intro (k + 1) ⟨by omega,by omega,h3⟩ (by omega) ?_
             conv=>whnf
             refine Retell.turn ⟨[],0,[],[]⟩ (TurnOk.mk' _ _ [] [] (OutOk.lift _) rfl (by decide) zb trivial trivial rfl) zw zm)
    · have hk : k = a.length:=by omega
      rw [h3,hk,List.drop_length]
      conv=>whnf
      repeat' (first|((first|refine zs1 ?_|refine zs2 ?_|refine zs3 ?_|refine zs4 ?_|refine zs5 ?_|refine zs6 [] ?_);conv=>whnf)|((first|apply zi1|apply zi2|apply zi3|apply zi4|apply zi5) <;> intro _ <;> conv=>whnf))
      refine VOut.same ?_
      have : ((a.length : Int) == b.length) = decide ([] = b.drop a.length):=by
        rw [Bool.eq_iff_iff,decide_eq_true_eq,beq_iff_eq]
        constructor
        · intro hh;rw [List.drop_of_length_le (by omega)]
        · intro hh
          have:=congrArg List.length hh
          simp at this;omega
      simp only [V.ren,this]
end Go.Proofs.YtoeendggmalcpaaGreat

open Go.Vm
open Psg
namespace Go.Proofs.YtoeendggmalcpaaGreat
set_option maxRecDepth 20000
set_option maxHeartbeats 4000000
theorem nt_eq (a b : Nt) : decide (a = b) = (decide (a.p = b.p) && decide (a.ws = b.ws)):=by
  rw [Bool.eq_iff_iff,Bool.and_eq_true,decide_eq_true_eq,decide_eq_true_eq,decide_eq_true_eq]
  cases a;cases b;simp
theorem vc_equal (a b : Nt) (h : Hp) (h1 : a.ws.length ≤ 4000000) (h2 : b.ws.length ≤ 4000000) : VC Tryz.prog 26 [vN a,vN b] h (B (decide (a = b))) h:=by
  have c:=fun h=>vc_kequalW a.ws b.ws h h1 h2
  rw [nt_eq]
  generalize decide (a.ws = b.ws) = y at *
  by_cases hp : a.p = b.p
  · rw [decide_eq_true hp,Bool.true_and]
    refine VC.body Tryz.func26 rfl Tryz.ntmps26 Tryz.call26 (h.grows_refl) rfl ?_;conv=>whnf
    repeat' (first|((first|refine zs1 ?_|refine zs2 ?_|refine zs3 ?_|refine zs4 ?_|refine zs5 ?_);conv=>whnf)|((first|apply zi1|apply zi2|apply zi3|apply zi4|apply zi5) <;> intro _ <;> conv=>whnf)|(refine VCall.intro (c _) ?_;conv=>whnf))
    all_goals first|contradiction|(exfalso;omega)|skip
    exact VOut.same rfl
  · rw [decide_eq_false hp,Bool.false_and]
    refine VC.body Tryz.func26 rfl Tryz.ntmps26 Tryz.call26 (h.grows_refl) rfl ?_;conv=>whnf
    repeat' (first|((first|refine zs1 ?_|refine zs2 ?_|refine zs3 ?_|refine zs4 ?_|refine zs5 ?_);conv=>whnf)|((first|apply zi1|apply zi2|apply zi3|apply zi4|apply zi5) <;> intro _ <;> conv=>whnf))
    all_goals first|contradiction|(exfalso;omega)|skip
    exact VOut.same rfl
end Go.Proofs.YtoeendggmalcpaaGreat

open Go.Vm
open Psg
namespace Go.Proofs.YtoeendggmalcpaaGreat
set_option maxRecDepth 20000
set_option maxHeartbeats 4000000
theorem vc_Led (a b c d e f g i : Int) (h : Hp) : VC Tryz.prog 8 [I a,I b,I c,I d,I e,I f,I g,I i] h (vWy ⟨a,b,c,d,e,f,g,i⟩) h:=by
  refine VC.body Tryz.func8 rfl Tryz.ntmps8 Tryz.call8 (h.grows_refl) rfl ?_;conv=>whnf
  repeat' (first|((first|refine zs1 ?_|refine zs2 ?_|refine zs3 ?_|refine zs4 ?_|refine zs5 ?_);conv=>whnf)|((first|apply zi1|apply zi2|apply zi3|apply zi4|apply zi5) <;> intro _ <;> conv=>whnf))
  exact VOut.same rfl
theorem vc_Net (N : Nt) (h : Hp) (hn : N.ws.length ≤ 4000000) : VC Tryz.prog 15 [vN N] h (vN N) h:=by
  refine VC.body Tryz.func15 rfl Tryz.ntmps15 Tryz.call15 (h.grows_refl) rfl ?_;conv=>whnf
  repeat' (first|((first|refine zs1 ?_|refine zs2 ?_|refine zs3 ?_|refine zs4 ?_|refine zs5 ?_);conv=>whnf)|((first|apply zi1|apply zi2|apply zi3|apply zi4|apply zi5) <;> intro _ <;> conv=>whnf))
  refine VCode.lp (outer:=h.lift) (marks:=[]) (fun k : Nat=>[(2,.ptr (.loc 0) 0),(3,.ptr (.loc 1) 0),(10,wys N.ws),(11,I N.ws.length),(12,I k)]) (fun k=>[.flat true [DI 0,.nilslice],.cells true [I N.p,.gl (.loc 2) 8 (N.ws.take k).length],.flat true ((N.ws.take k).flatMap encWy)]) (fun k=>k ≤ N.ws.length) (fun k=>N.ws.length - k) 0 (Nat.zero_le _) ?_ ?_
  · conv=>whnf
    refine Retell.turn ⟨[1,2,3],3,[],[]⟩ (TurnOk.mk' _ _ [] [] (OutOk.lift _) rfl (by decide) zb trivial trivial rfl) zw zm
  · intro k hk
    rcases Nat.lt_or_ge k N.ws.length with h3|h3
    · have hw : N.ws[k]? = some N.ws[k]:=List.getElem?_eq_getElem h3
      have ht : N.ws.take (k + 1) = N.ws.take k ++ [N.ws[k]]:=by rw [List.take_add_one,hw];rfl
      have hl : (N.ws.take k).length ≤ 4000000:=by rw [List.length_take];omega
      generalize N.ws[k] = w at hw ht
      generalize N.ws.take k = W at ht hl ⊢
      conv=>whnf
      repeat' (first|((first|refine zs1 ?_|refine zs2 ?_|refine zs3 ?_|refine zs4 ?_|refine zs5 ?_);conv=>whnf)|((first|apply zi1|apply zi2|apply zi3|apply zi4|apply zi5) <;> intro _ <;> conv=>whnf)|(refine VAny.ix encWy_len k rfl rfl hw ?_;conv=>whnf)|(refine VMem.app1 (l:=W) w encWy_len rfl rfl rfl rfl rfl (by omega) ?_;conv=>whnf))
      all_goals try (exfalso;omega)
      refine LEnd.intro (k + 1) (by omega) (by omega) ?_
      rw [ht,List.length_append]
      conv=>whnf
      refine Retell.turn ⟨[0,1,5],6,[],[]⟩ (TurnOk.mk' _ _ [] [] (OutOk.lift _) rfl (by decide) zb trivial trivial rfl) zw zm
    · rw [List.take_of_length_le h3]
      have hfl : (N.ws.flatMap encWy).length = N.ws.length * 8:=flat_len encWy_len _
      conv=>whnf
      repeat' (first|((first|refine zs1 ?_|refine zs2 ?_|refine zs3 ?_|refine zs4 ?_|refine zs5 ?_);conv=>whnf)|((first|apply zi1|apply zi2|apply zi3|apply zi4|apply zi5) <;> intro _ <;> conv=>whnf))
      all_goals try (exfalso;omega)
      refine VOut.data 3 [(2,N.ws.flatMap encWy)] [] rfl zf (by exact FmAll.nil) zw
end Go.Proofs.YtoeendggmalcpaaGreat

open Go.Vm
open Psg
namespace Go.Proofs.YtoeendggmalcpaaGreat
set_option maxRecDepth 20000
set_option maxHeartbeats 4000000
theorem vc_kequalA (a b : List (List Int)) (h : Hp) (ha : a.length ≤ 4000000) (hb : b.length ≤ 4000000) (ha2 : ∀ x ∈ a,x.length ≤ 4000000) (hb2 : ∀ x ∈ b,x.length ≤ 4000000) : VC Tryz.prog 32 [intss a,intss b] h (B (decide (a = b))) h:=by
  obtain ⟨E,hE⟩ : ∃ E,E = decide (a = b):=⟨_,rfl⟩
  rw [← hE]
  refine VC.body Tryz.func32 rfl Tryz.ntmps32 Tryz.call32 (h.grows_refl) rfl ?_;conv=>whnf
  refine VCode.lp (fun k : Nat=>[(0,intss a),(1,intss b),(4,B false),(7,I a.length),(8,I k)]) (fun _=>[]) (fun k=>k ≤ a.length ∧ k ≤ b.length ∧ E = decide (a.drop k = b.drop k)) (fun k=>a.length - k) 0 ⟨Nat.zero_le _,Nat.zero_le _,hE⟩ ?_ ?_
  · conv=>whnf
    refine Retell.turn ⟨[],0,[],[]⟩ (TurnOk.mk' _ _ [] [] (OutOk.lift _) rfl (by decide) zb trivial trivial rfl) zw zm
  · rintro k ⟨h1,h2,h3⟩
    conv=>whnf
    refine VIte.dec (fun h4=>?_) (fun h4=>?_)
    · have hx : a[k]? = some a[k]:=List.getElem?_eq_getElem (by omega)
      rcases Nat.eq_or_lt_of_le h2 with h5|h5
      · have hF : E = false:=by
          rw [h3,decide_eq_false_iff_not]
          intro hh
          have:=congrArg List.length hh
          simp at this;omega
        rw [hF]
        conv=>whnf
        repeat' (first|((first|refine zs1 ?_|refine zs2 ?_|refine zs3 ?_|refine zs4 ?_|refine zs5 ?_|refine zs6 [] ?_);conv=>whnf)|((first|apply zi1|apply zi2|apply zi3|apply zi4|apply zi5) <;> intro _ <;> conv=>whnf))
        · exact VOut.same rfl
        all_goals omega
      · have hy : b[k]? = some b[k]:=List.getElem?_eq_getElem h5
        rw [drop_eq_dec hx hy] at h3
        have hxl:=ha2 _ (List.mem_of_getElem? hx)
        have hyl:=hb2 _ (List.mem_of_getElem? hy)
        generalize a[k] = x at hx h3 hxl
        generalize b[k] = y at hy h3 hyl
        have cE:=fun h=>vc_kequalI x y h hxl hyl
        by_cases hxy : x = y
        · rw [decide_eq_true hxy] at cE h3
          rw [Bool.true_and] at h3
          conv=>whnf
          repeat' (first|((first|refine zs1 ?_|refine zs2 ?_|refine zs3 ?_|refine zs4 ?_|refine zs5 ?_|refine zs6 [] ?_);conv=>whnf)|((first|apply zi1|apply zi2|apply zi3|apply zi4|apply zi5) <;> intro _ <;> conv=>whnf)|(refine VAny.ix encL_len k rfl rfl hx ?_;conv=>whnf)|(refine VAny.ix encL_len k rfl rfl hy ?_;conv=>whnf)|(refine VCall.intro (cE _) ?_;conv=>whnf))
          all_goals try (exfalso;omega)
          refine LEnd.intro (k + 1) ⟨by omega,by omega,h3⟩ (by omega) ?_
          conv=>whnf
          refine Retell.turn ⟨[],0,[],[]⟩ (TurnOk.mk' _ _ [] [] (OutOk.lift _) rfl (by decide) zb trivial trivial rfl) zw zm
        · rw [decide_eq_false hxy] at cE h3
          rw [Bool.false_and] at h3
          rw [h3]
          conv=>whnf
          repeat' (first|((first|refine zs1 ?_|refine zs2 ?_|refine zs3 ?_|refine zs4 ?_|refine zs5 ?_|refine zs6 [] ?_);conv=>whnf)|((first|apply zi1|apply zi2|apply zi3|apply zi4|apply zi5) <;> intro _ <;> conv=>whnf)|(refine VAny.ix encL_len k rfl rfl hx ?_;conv=>whnf)|(refine VAny.ix encL_len k rfl rfl hy ?_;conv=>whnf)|(refine VCall.intro (cE _) ?_;conv=>whnf))
          all_goals try (exfalso;omega)
          exact VOut.same rfl
    · have hk : k = a.length:=by omega
      rw [h3,hk,List.drop_length]
      conv=>whnf
      repeat' (first|((first|refine zs1 ?_|refine zs2 ?_|refine zs3 ?_|refine zs4 ?_|refine zs5 ?_|refine zs6 [] ?_);conv=>whnf)|((first|apply zi1|apply zi2|apply zi3|apply zi4|apply zi5) <;> intro _ <;> conv=>whnf))
      refine VOut.same ?_
      have : ((a.length : Int) == b.length) = decide ([] = b.drop a.length):=by
        rw [Bool.eq_iff_iff,decide_eq_true_eq,beq_iff_eq]
        constructor
        · intro hh;rw [List.drop_of_length_le (by omega)]
        · intro hh
          have:=congrArg List.length hh
          simp at this;omega
      simp only [V.ren,this]
theorem vc_kcloneA (T : List (List Int)) (h : Hp) (hT : T.length ≤ 4000000) (h2 : ∀ x ∈ T,x.length ≤ 4000000) : VC Tryz.prog 28 [intss T] h (intss T) h:=by
  refine VC.body Tryz.func28 rfl Tryz.ntmps28 Tryz.call28 (h.grows_refl) rfl ?_;conv=>whnf
  repeat' (first|((first|refine zs1 ?_|refine zs2 ?_|refine zs3 ?_|refine zs4 ?_|refine zs5 ?_);conv=>whnf)|((first|apply zi1|apply zi2|apply zi3|apply zi4|apply zi5) <;> intro _ <;> conv=>whnf))
  refine VCode.lp (outer:=h.lift) (marks:=[]) (fun k : Nat=>[(3,.gl (.loc 0) 1 (T.take k).length),(6,intss T),(7,I T.length),(8,I k)]) (fun k=>[.flat true ((T.take k).flatMap encL)]) (fun k=>k ≤ T.length) (fun k=>T.length - k) 0 (Nat.zero_le _) ?_ ?_
  · conv=>whnf
    refine Retell.turn ⟨[0],0,[],[]⟩ (TurnOk.mk' _ _ [] [] (OutOk.lift _) rfl (by decide) zb trivial trivial rfl) zw zm
  · intro k hk
    rcases Nat.lt_or_ge k T.length with h3|h3
    · have hw : T[k]? = some T[k]:=List.getElem?_eq_getElem h3
      have ht : T.take (k + 1) = T.take k ++ [T[k]]:=by rw [List.take_add_one,hw];rfl
      have hl : (T.take k).length ≤ 4000000:=by rw [List.length_take];omega
      have hwl:=h2 _ (List.mem_of_getElem? hw)
      generalize T[k] = w at hw ht hwl
      generalize T.take k = W at ht hl ⊢
      have c:=fun h=>vc_kcloneI w h hwl
      conv=>whnf
      repeat' (first|((first|refine zs1 ?_|refine zs2 ?_|refine zs3 ?_|refine zs4 ?_|refine zs5 ?_);conv=>whnf)|((first|apply zi1|apply zi2|apply zi3|apply zi4|apply zi5) <;> intro _ <;> conv=>whnf)|(refine VAny.ix encL_len k rfl rfl hw ?_;conv=>whnf)|(refine VCall.intro (c _) ?_;conv=>whnf)|(refine VMem.app1 (l:=W) w encL_len rfl rfl rfl rfl rfl (by omega) ?_;conv=>whnf))
      all_goals try (exfalso;omega)
      refine LEnd.intro (k + 1) (by omega) (by omega) ?_
      rw [ht,List.length_append]
      conv=>whnf
      refine Retell.turn ⟨[2],3,[],[]⟩ (TurnOk.mk' _ _ [] [] (OutOk.lift _) rfl (by decide) zb trivial trivial rfl) zw zm
    · rw [List.take_of_length_le h3]
      conv=>whnf
      repeat' (first|((first|refine zs1 ?_|refine zs2 ?_|refine zs3 ?_|refine zs4 ?_|refine zs5 ?_);conv=>whnf)|((first|apply zi1|apply zi2|apply zi3|apply zi4|apply zi5) <;> intro _ <;> conv=>whnf))
      all_goals try (exfalso;omega)
      refine VOut.data 1 [(0,T.flatMap encL)] [] rfl zf (by exact FmAll.nil) zw
end Go.Proofs.YtoeendggmalcpaaGreat

open Go.Vm
open Psg
namespace Go.Proofs.YtoeendggmalcpaaGreat
set_option maxRecDepth 20000
set_option maxHeartbeats 4000000
def lngB (N : Nt) (T : List (List Int)) : Bool:=decide (28 < N.ws.length) || T.any fun l=>decide (30 < l.length)
theorem any_at {T : List (List Int)} {k : Nat} {x : List Int} (q : List Int → Bool) (h : T[k]? = some x) : (T.drop k).any q = (q x || (T.drop (k + 1)).any q):=by
  obtain ⟨h1,rfl⟩:=List.getElem?_eq_some_iff.1 h
  rw [List.drop_eq_getElem_cons h1,List.any_cons]
theorem vc_long (N : Nt) (T : List (List Int)) (h : Hp) (hT : T.length ≤ 4000000) : VC Tryz.prog 11 [vN N,intss T] h (B (lngB N T)) h:=by
  obtain ⟨E,hE⟩ : ∃ E,E = lngB N T:=⟨_,rfl⟩
  rw [← hE]
  unfold lngB at hE
  by_cases h1 : 28 < N.ws.length
  · rw [decide_eq_true h1,Bool.true_or] at hE
    rw [hE]
    refine VC.body Tryz.func11 rfl Tryz.ntmps11 Tryz.call11 (h.grows_refl) rfl ?_;conv=>whnf
    repeat' (first|((first|refine zs1 ?_|refine zs2 ?_|refine zs3 ?_|refine zs4 ?_|refine zs5 ?_);conv=>whnf)|((first|apply zi1|apply zi2|apply zi3|apply zi4|apply zi5) <;> intro _ <;> conv=>whnf))
    all_goals try (exfalso;omega)
    exact VOut.same rfl
  · rw [decide_eq_false h1,Bool.false_or] at hE
    refine VC.body Tryz.func11 rfl Tryz.ntmps11 Tryz.call11 (h.grows_refl) rfl ?_;conv=>whnf
    repeat' (first|((first|refine zs1 ?_|refine zs2 ?_|refine zs3 ?_|refine zs4 ?_|refine zs5 ?_);conv=>whnf)|((first|apply zi1|apply zi2|apply zi3|apply zi4|apply zi5) <;> intro _ <;> conv=>whnf))
    all_goals try (exfalso;omega)
    refine VCode.lp (outer:=h.lift) (marks:=[]) (fun k : Nat=>[(11,intss T),(12,I T.length),(13,I k)]) (fun _=>[]) (fun k=>k ≤ T.length ∧ E = (T.drop k).any fun l=>decide (30 < l.length)) (fun k=>T.length - k) 0 ⟨Nat.zero_le _,hE⟩ ?_ ?_
    · conv=>whnf
      refine Retell.turn ⟨[],1,[],[]⟩ (TurnOk.mk' _ _ [] [] (OutOk.lift _) rfl (by decide) zb trivial trivial rfl) zw zm
    · rintro k ⟨k1,k2⟩
      rcases Nat.lt_or_ge k T.length with h3|h3
      · have hw : T[k]? = some T[k]:=List.getElem?_eq_getElem h3
        rw [any_at _ hw] at k2
        generalize T[k] = w at hw k2
        by_cases h5 : 30 < w.length
        · rw [decide_eq_true h5,Bool.true_or] at k2
          rw [k2]
          conv=>whnf
          repeat' (first|((first|refine zs1 ?_|refine zs2 ?_|refine zs3 ?_|refine zs4 ?_|refine zs5 ?_);conv=>whnf)|((first|apply zi1|apply zi2|apply zi3|apply zi4|apply zi5) <;> intro _ <;> conv=>whnf)|(refine VAny.ix encL_len k rfl rfl hw ?_;conv=>whnf))
          all_goals try (exfalso;omega)
          exact VOut.same rfl
        · rw [decide_eq_false h5,Bool.false_or] at k2
          conv=>whnf
          repeat' (first|((first|refine zs1 ?_|refine zs2 ?_|refine zs3 ?_|refine zs4 ?_|refine zs5 ?_);conv=>whnf)|((first|apply zi1|apply zi2|apply zi3|apply zi4|apply zi5) <;> intro _ <;> conv=>whnf)|(refine VAny.ix encL_len k rfl rfl hw ?_;conv=>whnf))
          all_goals try (exfalso;omega)
          refine LEnd.intro (k + 1) ⟨by omega,k2⟩ (by omega) ?_
          conv=>whnf
          refine Retell.turn ⟨[],0,[],[]⟩ (TurnOk.mk' _ _ [] [] (OutOk.lift _) rfl (by decide) zb trivial trivial rfl) zw zm
      · rw [List.drop_of_length_le h3,List.any_nil] at k2
        rw [k2]
        conv=>whnf
        repeat' (first|((first|refine zs1 ?_|refine zs2 ?_|refine zs3 ?_|refine zs4 ?_|refine zs5 ?_);conv=>whnf)|((first|apply zi1|apply zi2|apply zi3|apply zi4|apply zi5) <;> intro _ <;> conv=>whnf))
        all_goals try (exfalso;omega)
        exact VOut.same rfl
end Go.Proofs.YtoeendggmalcpaaGreat

open Go.Vm
namespace Go.Proofs.YtoeendggmalcpaaGreat
set_option maxRecDepth 20000
set_option maxHeartbeats 4000000
def dRd (bs : List Int) (N : Nat) : Int:=IntKind.u32.wrap (IntKind.i64.wrap ((N : Int).tdiv (bs.length : Int)))
def dkS (bs : List Int) (N : Nat) (s c : Int) : Int:=(IntKind.u32.wrap (IntKind.u32.wrap (IntKind.u32.wrap (s * 37) + IntKind.u32.wrap c) + IntKind.u32.wrap (101 * dRd bs N))).tmod 65521
def dR (bs : List Int) (N : Nat) (s k c : Int) : Int:=if k ≤ 256 ∧ dRd bs N = 0 then (IntKind.i64.wrap (IntKind.u32.wrap c)).tmod k else (IntKind.i64.wrap (IntKind.u32.wrap (IntKind.u32.wrap (dkS bs N s c * 256) + IntKind.u32.wrap c))).tmod k
def dNx (bs : List Int) (d : Nat × Int) (k : Int) : Int × (Nat × Int) :=
  if k ≤ 1 ∨ bs = [] then (0,d) else (dR bs d.1 d.2 k (bs.getD (d.1 % bs.length) 0),(d.1 + 1,dkS bs d.1 d.2 (bs.getD (d.1 % bs.length) 0)))
end Go.Proofs.YtoeendggmalcpaaGreat

open Go.Vm
namespace Go.Vm
end Go.Vm
namespace Go.Vm
end Go.Vm
namespace Go.Proofs.YtoeendggmalcpaaGreat
set_option maxRecDepth 20000
set_option maxHeartbeats 4000000

/-! A deck that is shuffled. -/
abbrev DS:=Nat × Int
structure Prm (n : Nat) (l : List Int) : Prop where
  perm : l.Perm ((List.range n).map (fun i : Nat=>(i : Int)))
theorem Prm.len {n : Nat} {l : List Int} (h : Prm n l) : l.length = n:=by
  rw [h.perm.length_eq];simp
end Go.Proofs.YtoeendggmalcpaaGreat

open Go.Vm
open Psg
namespace Go.Proofs.YtoeendggmalcpaaGreat
set_option maxRecDepth 20000
set_option maxHeartbeats 4000000
/-! ### A herd that is dealt -/
def hr1 (bs : List Int) (d : DS) (p : Int) : Int × DS:=dNx bs d p
def hr2 (bs : List Int) (d : DS) (p : Int) : Int × DS:=dNx bs (hr1 bs d p).2 20
def hr3 (bs : List Int) (d : DS) (p : Int) : Int × DS:=dNx bs (hr2 bs d p).2 16
end Go.Proofs.YtoeendggmalcpaaGreat

open Go.Vm
open Psg
namespace Go.Proofs.YtoeendggmalcpaaGreat
set_option maxRecDepth 20000
set_option maxHeartbeats 4000000
def fourN : Nt:=⟨4,[⟨0,1,2,50,0,0,0,100⟩,⟨1,3,3,30,1,0,20,40⟩,⟨1,2,1,40,0,1,0,100⟩,⟨2,1,1,40,0,0,0,100⟩,⟨2,3,9,10,0,0,0,100⟩]⟩
theorem b01 : hrd fourN ⟨0,5,0⟩ = 0:=by kernel_rfl
theorem b02 : eaL fourN ⟨0,5,0⟩ = [5,7,8,17]:=by kernel_rfl
theorem b03 : flw fourN ⟨0,5,0⟩ [0,2,3,1] = (⟨3,23,1⟩,0):=by kernel_rfl
theorem b04 : hrd fourN ⟨0,99,0⟩ = 0:=by kernel_rfl
theorem b05 : eaL fourN ⟨0,99,0⟩ = [99,101,-1,-1]:=by kernel_rfl
theorem b06 : rtE fourN ⟨0,60,0⟩ 3 = 0:=by kernel_rfl
theorem b07 : lsG (fun s : Nat=>atD (bgn fourN.ws ⟨0,60,0⟩).D 3 s) 16 = 1:=by kernel_rfl
theorem b08 : Psg.look (bgn fourN.ws ⟨0,60,0⟩).c (3,1) = some (2,1,4):=by kernel_rfl
theorem b09 : Psg.look (bgn fourN.ws ⟨0,60,0⟩).c (2,1) = some (1,0,2):=by kernel_rfl
theorem b10 : Psg.look (bgn fourN.ws ⟨0,60,0⟩).c (1,0) = some (0,0,0):=by kernel_rfl
theorem b11 : Path (bgn fourN.ws ⟨0,60,0⟩).c (0,0) (3,1) [4,2,0] :=
  Path.step b08 (by decide) (Path.step b09 (by decide) (Path.step b10 (by decide) Path.base))
theorem b12 {L : List Int} (h : RtR fourN ⟨0,60,0⟩ 3 L) : L = [0,2,4]:=by
  have:=h.uni [4,2,0] (by rw [b07];exact b11)
  rw [this];rfl
theorem b13 : pas fourN [0] [3] = 0:=by kernel_rfl
theorem b14 : (dvP fourN [0] [3]).2.1 = 40:=by kernel_rfl
theorem b15 : brsN fourN [0] [3] [0,1,2] = (40,0):=by kernel_rfl
theorem b16 : narL fourN [0] [3] 5 = [1,4]:=by kernel_rfl
end Go.Proofs.YtoeendggmalcpaaGreat

open Go.Vm
open Psg
namespace Go.Proofs.YtoeendggmalcpaaGreat
set_option maxRecDepth 20000
set_option maxHeartbeats 4000000
/-! ### What a drive and a cut are -/
theorem dvP_ok {n : Nat} {N : Nt} {a b : List Int} (hN : NOk n N) (hP : Ps n N.ws a b) : DvR n N.ws a b (dvP N a b):=by
  have hh : ∀ w ∈ N.ws,0 ≤ w.h ∧ w.h ≤ 1000:=fun w hw=>(hN.ws w hw).h
  unfold dvP dvN
  rw [nok_nat hN]
  exact drv_ok hP hh hN.len 24001 _ 0 (dr0 hh) val0 (Int.le_refl _) (by omega)
theorem brg_of {n : Nat} {N : Nt} {a b hs : List Int} (hN : NOk n N) (hp : pas N a b = 0) (hd : Dr n N.ws a b hs) : brgN N a b hs = (val n N.ws a hs,0):=by
  unfold brgN
  rw [if_pos hp,if_pos hd.bnd.len,if_pos ((bndA_iff hd.bnd.len).2 hd.bnd),nok_nat hN,if_pos]
  rw [conB_iff]
  intro j hj
  by_cases h1 : (j : Int) ∈ a
  · exact .inl h1
  · by_cases h2 : (j : Int) ∈ b
    · exact .inr (.inl h2)
    · exact .inr (.inr (hd.con j hj h1 h2))
theorem brs_of {n : Nat} {N : Nt} {a b S : List Int} (hN : NOk n N) (hp : pas N a b = 0) (hl : S.Pairwise (· < ·)) (hin : ∀ q ∈ S,0 ≤ q ∧ q < n) (hc : Cu a b (fun q=>decide (q ∈ S))) : brsN N a b S = (bar (fun q=>decide (q ∈ S)) N.ws,0):=by
  have hpn:=hN.p
  have e1 : S.all (pstB N) = true:=by
    rw [List.all_eq_true];intro x hx;have:=hin x hx;exact decide_eq_true (by omega)
  have e2 : (a.all fun p=>decide (p ∈ S)) = true:=by
    rw [List.all_eq_true];intro x hx;exact hc.src x hx
  have e3 : (b.all fun p=>!decide (p ∈ S)) = true:=by
    rw [List.all_eq_true];intro x hx;rw [hc.gls x hx];rfl
  unfold brsN
  rw [if_pos hp,if_pos e1,if_pos (risB_pw.2 hl),if_pos ⟨e2,e3⟩]
theorem drv_both {n : Nat} {N : Nt} {a b : List Int} (hN : NOk n N) (hp : pas N a b = 0) (hP : Ps n N.ws a b) : brgN N a b (dvP N a b).1 = ((dvP N a b).2.1,0) ∧ brsN N a b (dvP N a b).2.2 = ((dvP N a b).2.1,0):=by
  have hD:=dvP_ok hN hP
  exact ⟨by rw [brg_of hN hp hD.dr,hD.vl],by rw [brs_of hN hp hD.lt hD.mt.inN hD.cut,hD.br]⟩
end Go.Proofs.YtoeendggmalcpaaGreat

open Go.Vm
open Psg
namespace Go.Proofs.YtoeendggmalcpaaGreat
set_option maxRecDepth 20000
set_option maxHeartbeats 4000000
theorem vc_Four (h : Hp) : VC Tryz.prog 4 [] h (vN fourN) h:=by
  have p1:=fun h=>vc_Led 0 1 2 50 0 0 0 100 h
  have p2:=fun h=>vc_Led 1 3 3 30 1 0 20 40 h
  have p3:=fun h=>vc_Led 1 2 1 40 0 1 0 100 h
  have p4:=fun h=>vc_Led 2 1 1 40 0 0 0 100 h
  have p5:=fun h=>vc_Led 2 3 9 10 0 0 0 100 h
  refine VC.body Tryz.func4 rfl Tryz.ntmps4 Tryz.call4 (h.grows_refl) rfl ?_;conv=>whnf
  repeat' (first|((first|refine zs1 ?_|refine zs2 ?_|refine zs3 ?_|refine zs4 ?_|refine zs5 ?_|refine zs6 [] ?_);conv=>whnf)|((first|apply zi1|apply zi2|apply zi3|apply zi4|apply zi5) <;> intro _ <;> conv=>whnf)|(refine VCall.intro (p1 _) ?_;conv=>whnf)|(refine VCall.intro (p2 _) ?_;conv=>whnf)|(refine VCall.intro (p3 _) ?_;conv=>whnf)|(refine VCall.intro (p4 _) ?_;conv=>whnf)|(refine VCall.intro (p5 _) ?_;conv=>whnf))
  refine VOut.data 2 [(1,fourN.ws.flatMap encWy)] [] rfl zf (by exact FmAll.nil) zw
theorem vc_awake (h : Hp) : VC Tryz.prog 10 [] h (B true) h:=by
  have c1:=fun h=>vc_Earliest fourN ⟨0,5,0⟩ h (by decide)
  have c2:=fun h=>vc_Follow fourN ⟨0,5,0⟩ [0,2,3,1] h (by decide) (by decide)
  have c3:=fun h=>vc_Earliest fourN ⟨0,99,0⟩ h (by decide)
  obtain ⟨L,hL,_,c4⟩:=vc_Route fourN ⟨0,60,0⟩ 3 (by decide)
  have hL2:=b12 (hL b06)
  subst hL2
  rw [b06] at c4
  have c5:=fun h=>vc_Drive fourN [0] [3] h (by decide) (by decide) (by decide)
  have c6:=fun h=>vc_Bars fourN [0] [3] [0,1,2] h (by decide) (by decide) (by decide) (by decide)
  have c7:=fun h=>vc_Narrow fourN [0] [3] h (by decide) (by decide) (by decide)
  rw [b02,b01] at c1
  rw [b03] at c2
  rw [b05,b04] at c3
  unfold drvV at c5
  rw [if_pos b13,b14] at c5
  rw [b15] at c6
  unfold narV at c7
  rw [if_pos b13,show fourN.ws.length = 5 from rfl,b16] at c7
  generalize (dvP fourN [0] [3]).1 = X at c5
  have q1:=fun h=>vc_kequalI [5,7,8,17] [5,7,8,17] h (by decide) (by decide)
  have q2:=fun h=>vc_kequalI [99,101,-1,-1] [99,101,-1,-1] h (by decide) (by decide)
  have q3:=fun h=>vc_kequalI [0,2,4] [0,2,4] h (by decide) (by decide)
  have q4:=fun h=>vc_kequalI [1,4] [1,4] h (by decide) (by decide)
  rw [decide_eq_true rfl] at q1 q2 q3 q4
  refine VC.bodyC 2 Tryz.func10 rfl Tryz.ntmps10 Tryz.call10 (h.grows_refl) rfl ?_;conv=>whnf
  repeat' (first|((first|refine zs1 ?_|refine zs2 ?_|refine zs3 ?_|refine zs4 ?_|refine zs5 ?_);conv=>whnf)|((first|apply zi1|apply zi2|apply zi3|apply zi4|apply zi5) <;> intro _ <;> conv=>whnf)|(refine VCall.intro (vc_Four _) ?_;conv=>whnf)|(refine VCall.intro (c1 _) ?_;conv=>whnf))
  refine VCut.at' (outer:=h.lift) (marks:=[]) 1 [(1,ints [5,7,8,17]),(2,I 0)] [] ?_ ?_
  · conv=>whnf
    refine Retell.turn ⟨[],0,[],[]⟩ (TurnOk.mk' _ _ [] [] (OutOk.lift _) rfl (by decide) zb trivial trivial rfl) zw zm
  conv=>whnf
  repeat' (first|((first|refine zs1 ?_|refine zs2 ?_|refine zs3 ?_|refine zs4 ?_|refine zs5 ?_);conv=>whnf)|((first|apply zi1|apply zi2|apply zi3|apply zi4|apply zi5) <;> intro _ <;> conv=>whnf)|(refine VCall.intro (vc_Four _) ?_;conv=>whnf))
  refine VCall.intro (VC.give (args':=[vN fourN,vHd ⟨0,5,0⟩,ints [0,2,3,1]]) (loc':=[.dead]) [(0,[DI 0,DI 2,DI 3,DI 1])] [] (OutOk.lift _) zb zf (by exact FmAll.nil) rfl zv (c2 _)) ?_
  conv=>whnf
  repeat' (first|((first|refine zs1 ?_|refine zs2 ?_|refine zs3 ?_|refine zs4 ?_|refine zs5 ?_);conv=>whnf)|((first|apply zi1|apply zi2|apply zi3|apply zi4|apply zi5) <;> intro _ <;> conv=>whnf))
  refine VCut.at' (outer:=h.lift) (marks:=[]) 1 [(1,ints [5,7,8,17]),(2,I 0),(3,.fp (encHd ⟨3,23,1⟩)),(4,I 0)] [] ?_ ?_
  · conv=>whnf
    refine Retell.turn ⟨[],2,[(1,encHd ⟨3,23,1⟩)],[]⟩ (TurnOk.mk' _ _ [(1,encHd ⟨3,23,1⟩)] [] (OutOk.lift _) rfl (by decide) zb zf trivial rfl) zw zm
  conv=>whnf
  repeat' (first|((first|refine zs1 ?_|refine zs2 ?_|refine zs3 ?_|refine zs4 ?_|refine zs5 ?_);conv=>whnf)|((first|apply zi1|apply zi2|apply zi3|apply zi4|apply zi5) <;> intro _ <;> conv=>whnf)|(refine VCall.intro (vc_Four _) ?_;conv=>whnf)|(refine VCall.intro (c3 _) ?_;conv=>whnf))
  refine VCut.at' (outer:=h.lift) (marks:=[]) 1 [(1,ints [5,7,8,17]),(2,I 0),(3,.fp (encHd ⟨3,23,1⟩)),(4,I 0),(5,ints [99,101,-1,-1]),(6,I 0)] [] ?_ ?_
  · conv=>whnf
    refine Retell.turn ⟨[],0,[],[]⟩ (TurnOk.mk' _ _ [] [] (OutOk.lift _) rfl (by decide) zb trivial trivial rfl) zw zm
  conv=>whnf
  repeat' (first|((first|refine zs1 ?_|refine zs2 ?_|refine zs3 ?_|refine zs4 ?_|refine zs5 ?_);conv=>whnf)|((first|apply zi1|apply zi2|apply zi3|apply zi4|apply zi5) <;> intro _ <;> conv=>whnf)|(refine VCall.intro (vc_Four _) ?_;conv=>whnf)|(refine VCall.intro (c4 _) ?_;conv=>whnf))
  refine VCut.at' (outer:=h.lift) (marks:=[]) 1 [(1,ints [5,7,8,17]),(2,I 0),(3,.fp (encHd ⟨3,23,1⟩)),(4,I 0),(5,ints [99,101,-1,-1]),(6,I 0),(7,ints [0,2,4]),(8,I 0)] [] ?_ ?_
  · conv=>whnf
    refine Retell.turn ⟨[],0,[],[]⟩ (TurnOk.mk' _ _ [] [] (OutOk.lift _) rfl (by decide) zb trivial trivial rfl) zw zm
  conv=>whnf
  repeat' (first|((first|refine zs1 ?_|refine zs2 ?_|refine zs3 ?_|refine zs4 ?_|refine zs5 ?_);conv=>whnf)|((first|apply zi1|apply zi2|apply zi3|apply zi4|apply zi5) <;> intro _ <;> conv=>whnf))
  refine VCall.intro (VC.give (args':=[ints [5,7,8,17],ints [5,7,8,17]]) (loc':=[.dead]) [(0,[DI 5,DI 7,DI 8,DI 17])] [] (OutOk.lift _) zb zf (by exact FmAll.nil) rfl zv (q1 _)) ?_
  conv=>whnf
  repeat' (first|((first|refine zs1 ?_|refine zs2 ?_|refine zs3 ?_|refine zs4 ?_|refine zs5 ?_);conv=>whnf)|((first|apply zi1|apply zi2|apply zi3|apply zi4|apply zi5) <;> intro _ <;> conv=>whnf)|(refine VAgg.intro (vneqH ⟨3,23,1⟩ ⟨3,23,1⟩) ?_;conv=>whnf))
  refine VCall.intro (VC.give (args':=[ints [99,101,-1,-1],ints [99,101,-1,-1]]) (loc':=[.dead,.dead]) [(1,[DI 99,DI 101,DI (-1),DI (-1)])] [] (OutOk.lift _) zb zf (by exact FmAll.nil) rfl zv (q2 _)) ?_
  conv=>whnf
  repeat' (first|((first|refine zs1 ?_|refine zs2 ?_|refine zs3 ?_|refine zs4 ?_|refine zs5 ?_);conv=>whnf)|((first|apply zi1|apply zi2|apply zi3|apply zi4|apply zi5) <;> intro _ <;> conv=>whnf))
  refine VCall.intro (VC.give (args':=[ints [0,2,4],ints [0,2,4]]) (loc':=[.dead,.dead,.dead]) [(2,[DI 0,DI 2,DI 4])] [] (OutOk.lift _) zb zf (by exact FmAll.nil) rfl zv (q3 _)) ?_
  conv=>whnf
  repeat' (first|((first|refine zs1 ?_|refine zs2 ?_|refine zs3 ?_|refine zs4 ?_|refine zs5 ?_);conv=>whnf)|((first|apply zi1|apply zi2|apply zi3|apply zi4|apply zi5) <;> intro _ <;> conv=>whnf))
  refine VCut.at' (outer:=h.lift) (marks:=[]) 1 [] [] ?_ ?_
  · conv=>whnf
    refine Retell.turn ⟨[],3,[],[]⟩ (TurnOk.mk' _ _ [] [] (OutOk.lift _) rfl (by decide) zb trivial trivial rfl) zw zm
  conv=>whnf
  repeat' (first|((first|refine zs1 ?_|refine zs2 ?_|refine zs3 ?_|refine zs4 ?_|refine zs5 ?_);conv=>whnf)|((first|apply zi1|apply zi2|apply zi3|apply zi4|apply zi5) <;> intro _ <;> conv=>whnf)|(refine VCall.intro (vc_Four _) ?_;conv=>whnf))
  refine VCall.intro (VC.give (args':=[vN fourN,ints [0],ints [3]]) (loc':=[.dead,.dead]) [(0,[DI 0]),(1,[DI 3])] [] (OutOk.lift _) zb zf (by exact FmAll.nil) rfl zv (c5 _)) ?_
  conv=>whnf
  repeat' (first|((first|refine zs1 ?_|refine zs2 ?_|refine zs3 ?_|refine zs4 ?_|refine zs5 ?_);conv=>whnf)|((first|apply zi1|apply zi2|apply zi3|apply zi4|apply zi5) <;> intro _ <;> conv=>whnf))
  refine VCut.at' (outer:=h.lift) (marks:=[]) 1 [(2,I 0),(10,I 40)] [] ?_ ?_
  · conv=>whnf
    refine Retell.turn ⟨[],2,[],[]⟩ (TurnOk.mk' _ _ [] [] (OutOk.lift _) rfl (by decide) zb trivial trivial rfl) zw zm
  conv=>whnf
  repeat' (first|((first|refine zs1 ?_|refine zs2 ?_|refine zs3 ?_|refine zs4 ?_|refine zs5 ?_);conv=>whnf)|((first|apply zi1|apply zi2|apply zi3|apply zi4|apply zi5) <;> intro _ <;> conv=>whnf)|(refine VCall.intro (vc_Four _) ?_;conv=>whnf))
  refine VCall.intro (VC.give (args':=[vN fourN,ints [0],ints [3],ints [0,1,2]]) (loc':=[.dead,.dead,.dead]) [(0,[DI 0]),(1,[DI 3]),(2,[DI 0,DI 1,DI 2])] [] (OutOk.lift _) zb zf (by exact FmAll.nil) rfl zv (c6 _)) ?_
  conv=>whnf
  repeat' (first|((first|refine zs1 ?_|refine zs2 ?_|refine zs3 ?_|refine zs4 ?_|refine zs5 ?_);conv=>whnf)|((first|apply zi1|apply zi2|apply zi3|apply zi4|apply zi5) <;> intro _ <;> conv=>whnf))
  refine VCut.at' (outer:=h.lift) (marks:=[]) 1 [(2,I 0),(4,I 0),(10,I 40),(11,I 40)] [] ?_ ?_
  · conv=>whnf
    refine Retell.turn ⟨[],3,[],[]⟩ (TurnOk.mk' _ _ [] [] (OutOk.lift _) rfl (by decide) zb trivial trivial rfl) zw zm
  conv=>whnf
  repeat' (first|((first|refine zs1 ?_|refine zs2 ?_|refine zs3 ?_|refine zs4 ?_|refine zs5 ?_);conv=>whnf)|((first|apply zi1|apply zi2|apply zi3|apply zi4|apply zi5) <;> intro _ <;> conv=>whnf)|(refine VCall.intro (vc_Four _) ?_;conv=>whnf))
  refine VCall.intro (VC.give (args':=[vN fourN,ints [0],ints [3]]) (loc':=[.dead,.dead]) [(0,[DI 0]),(1,[DI 3])] [] (OutOk.lift _) zb zf (by exact FmAll.nil) rfl zv (c7 _)) ?_
  conv=>whnf
  repeat' (first|((first|refine zs1 ?_|refine zs2 ?_|refine zs3 ?_|refine zs4 ?_|refine zs5 ?_);conv=>whnf)|((first|apply zi1|apply zi2|apply zi3|apply zi4|apply zi5) <;> intro _ <;> conv=>whnf))
  refine VCut.at' (outer:=h.lift) (marks:=[]) 99 [(2,I 0),(4,I 0),(6,I 0),(10,I 40),(11,I 40),(12,ints [1,4])] [] ?_ ?_
  · conv=>whnf
    refine Retell.turn ⟨[],2,[],[]⟩ (TurnOk.mk' _ _ [] [] (OutOk.lift _) rfl (by decide) zb trivial trivial rfl) zw zm
  conv=>whnf
  repeat' (first|((first|refine zs1 ?_|refine zs2 ?_|refine zs3 ?_|refine zs4 ?_|refine zs5 ?_);conv=>whnf)|((first|apply zi1|apply zi2|apply zi3|apply zi4|apply zi5) <;> intro _ <;> conv=>whnf))
  refine VCall.intro (VC.give (args':=[ints [1,4],ints [1,4]]) (loc':=[.dead]) [(0,[DI 1,DI 4])] [] (OutOk.lift _) zb zf (by exact FmAll.nil) rfl zv (q4 _)) ?_
  conv=>whnf
  repeat' (first|((first|refine zs1 ?_|refine zs2 ?_|refine zs3 ?_|refine zs4 ?_|refine zs5 ?_);conv=>whnf)|((first|apply zi1|apply zi2|apply zi3|apply zi4|apply zi5) <;> intro _ <;> conv=>whnf))
  exact VOut.same rfl
end Go.Proofs.YtoeendggmalcpaaGreat

open Go.Vm
open Psg
namespace Go.Proofs.YtoeendggmalcpaaGreat
set_option maxRecDepth 20000
set_option maxHeartbeats 4000000
/-! ### Herds that are barred -/
def hrdL (N : Nt) : List Hd → Int
  | []=>0
  | x :: r=>if hrd N x = 0 then hrdL N r else hrd N x
theorem hrdL_at {N : Nt} {l : List Hd} {k : Nat} {x : Hd} (h : l[k]? = some x) : hrdL N (l.drop k) = if hrd N x = 0 then hrdL N (l.drop (k + 1)) else hrd N x:=by
  obtain ⟨hlt,rfl⟩:=List.getElem?_eq_some_iff.1 h
  rw [List.drop_eq_getElem_cons hlt,hrdL]
theorem hrdL_ok {N : Nt} : ∀ {l : List Hd},hrdL N l = 0 → ∀ x ∈ l,hrd N x = 0
  | y :: l,h,x,hx=>by
    rw [hrdL] at h
    by_cases h1 : hrd N y = 0
    · rw [if_pos h1] at h
      rcases List.mem_cons.1 hx with rfl|hx
      · exact h1
      · exact hrdL_ok h x hx
    · rw [if_neg h1] at h;exact absurd h h1
def bdE (N : Nt) (l : List Hd) (to : List Int) : Int:=if chk N = 0 then (if l.length ≤ 12 ∧ l.length = to.length then (if hrdL N l = 0 then (if to.all (pstB N) = true then 0 else 2) else hrdL N l) else 3) else chk N
def bdB (N : Nt) (l : List Hd) (to : List Int) (i : Nat) : Bool:=decide (dyP N (l.getD i zHd) (to.getD i 0).toNat = -1)
def bdL (N : Nt) (l : List Hd) (to : List Int) : Nat → List Int
  | 0=>[]
  | k + 1=>if bdB N l to k = true then bdL N l to k ++ [(k : Int)] else bdL N l to k
theorem bdL_len (N : Nt) (l : List Hd) (to : List Int) : ∀ k,(bdL N l to k).length ≤ k
  | 0=>Nat.le_refl _
  | k + 1=>by
    have:=bdL_len N l to k
    rw [bdL]
    split
    · rw [List.length_append];simp;omega
    · omega
def bdR (N : Nt) (l : List Hd) (to : List Int) : List Int:=if bdE N l to = 0 then bdL N l to l.length else []
theorem vc_Barred (N : Nt) (l : List Hd) (to : List Int) (h : Hp) (hn : N.ws.length ≤ 4000000) (hl : l.length ≤ 4000000) (ht : to.length ≤ 4000000) : VC Tryz.prog 24 [vN N,hds l,ints to] h (.tuple [ints (bdR N l to),I (bdE N l to)]) h:=by
  obtain ⟨E,hE⟩ : ∃ E,E = bdE N l to:=⟨_,rfl⟩
  obtain ⟨L,hL⟩ : ∃ L,L = bdR N l to:=⟨_,rfl⟩
  rw [← hE,← hL]
  unfold bdR at hL
  rw [← hE] at hL
  unfold bdE at hE
  have cC:=fun h=>vc_check N h hn
  by_cases h0 : chk N = 0
  · obtain ⟨n,hN⟩:=chk_ok h0
    have hp:=hN.p
    have hn1:=hN.n1
    rw [h0] at cC
    rw [if_pos h0] at hE
    refine VC.bodyC 1 Tryz.func24 rfl Tryz.ntmps24 Tryz.call24 (h.grows_refl) rfl ?_;conv=>whnf
    refine VCut.at' (outer:=h.lift) (marks:=[]) 99 [(1,hds l),(2,ints to),(3,.fp (encN N))] [] ?_ ?_
    · conv=>whnf
      refine Retell.turn ⟨[],1,[(0,encN N)],[]⟩ (TurnOk.mk' _ _ [(0,encN N)] [] (OutOk.lift _) rfl (by decide) zb zf trivial rfl) zw zm
    by_cases h1 : l.length ≤ 12 ∧ l.length = to.length
    · rw [if_pos h1] at hE
      by_cases h2 : hrdL N l = 0
      · rw [if_pos h2] at hE
        have hall:=hrdL_ok h2
        have cA:=fun h=>vc_allA to (pstB N) 43 N ht (fun e _ h=>vc_posted N e h (by omega)) h
        have hA : to.all (pstB N) = true → ∀ p ∈ to,0 ≤ p ∧ p ≤ N.p - 1:=fun h p hp=>by
          have:=List.all_eq_true.1 h p hp
          exact of_decide_eq_true this
        generalize to.all (pstB N) = A at cA hE hA
        conv=>whnf
        repeat' (first|((first|refine zs1 ?_|refine zs2 ?_|refine zs3 ?_|refine zs4 ?_|refine zs5 ?_);conv=>whnf)|((first|apply zi1|apply zi2|apply zi3|apply zi4|apply zi5) <;> intro _ <;> conv=>whnf)|(refine VCall.intro (cC _) ?_;conv=>whnf))
        all_goals try (exfalso;omega)
        refine VCode.lp (outer:=h.lift) (marks:=[]) (fun k : Nat=>[(1,hds l),(2,ints to),(3,.fp (encN N)),(30,hds l),(31,I l.length),(32,I k)]) (fun _=>[]) (fun k=>k ≤ l.length) (fun k=>l.length - k) 0 (Nat.zero_le _) ?_ ?_
        · conv=>whnf
          refine Retell.turn ⟨[],0,[],[]⟩ (TurnOk.mk' _ _ [] [] (OutOk.lift _) rfl (by decide) zb trivial trivial rfl) zw zm
        · intro k k1
          rcases Nat.lt_or_ge k l.length with h3|h3
          · have hx : l[k]? = some l[k]:=List.getElem?_eq_getElem h3
            have hr:=hall _ (List.mem_of_getElem? hx)
            have cH:=fun h=>vc_herded N l[k] h hn
            rw [hr] at cH
            generalize l[k] = x at hx cH
            conv=>whnf
            repeat' (first|((first|refine zs1 ?_|refine zs2 ?_|refine zs3 ?_|refine zs4 ?_|refine zs5 ?_);conv=>whnf)|((first|apply zi1|apply zi2|apply zi3|apply zi4|apply zi5) <;> intro _ <;> conv=>whnf)|(refine VAny.ix encHd_len k rfl rfl hx ?_;conv=>whnf)|(refine VCall.intro (cH _) ?_;conv=>whnf))
            all_goals try (exfalso;omega)
            refine LEnd.intro (k + 1) (by omega) (by omega) ?_
            conv=>whnf
            refine Retell.turn ⟨[],1,[],[]⟩ (TurnOk.mk' _ _ [] [] (OutOk.lift _) rfl (by decide) zb trivial trivial rfl) zw zm
          · cases A with
            | false =>
              rw [if_neg (by decide)] at hE
              subst hE
              rw [if_neg (by decide)] at hL
              subst hL
              conv=>whnf
              repeat' (first|((first|refine zs1 ?_|refine zs2 ?_|refine zs3 ?_|refine zs4 ?_|refine zs5 ?_);conv=>whnf)|((first|apply zi1|apply zi2|apply zi3|apply zi4|apply zi5) <;> intro _ <;> conv=>whnf)|(refine VCall.intro (cA _) ?_;conv=>whnf))
              all_goals try (exfalso;omega)
              refine VOut.data 1 [] [] rfl zf (by exact FmAll.nil) zw
            | true =>
              rw [if_pos rfl] at hE
              subst hE
              rw [if_pos rfl] at hL
              have hA:=hA rfl
              conv=>whnf
              repeat' (first|((first|refine zs1 ?_|refine zs2 ?_|refine zs3 ?_|refine zs4 ?_|refine zs5 ?_);conv=>whnf)|((first|apply zi1|apply zi2|apply zi3|apply zi4|apply zi5) <;> intro _ <;> conv=>whnf)|(refine VCall.intro (cA _) ?_;conv=>whnf))
              all_goals try (exfalso;omega)
              refine VCode.lp (outer:=h.lift) (marks:=[]) (fun k : Nat=>[(2,ints to),(3,.fp (encN N)),(12,.gl (.loc 0) 1 (bdL N l to k).length),(48,hds l),(49,I l.length),(50,I k)]) (fun k=>[.flat true ((bdL N l to k).flatMap Vm.encI)]) (fun k=>k ≤ l.length) (fun k=>l.length - k) 0 (Nat.zero_le _) ?_ ?_
              · rw [show bdL N l to 0 = [] from rfl]
                conv=>whnf
                refine Retell.turn ⟨[0],0,[],[]⟩ (TurnOk.mk' _ _ [] [] (OutOk.lift _) rfl (by decide) zb trivial trivial rfl) zw zm
              · intro k k1
                have hbl:=bdL_len N l to k
                rcases Nat.lt_or_ge k l.length with h3|h3
                · have hx : l[k]? = some l[k]:=List.getElem?_eq_getElem h3
                  have hq : to[k]? = some to[k]:=List.getElem?_eq_getElem (by omega)
                  have hp1:=hA _ (List.mem_of_getElem? hq)
                  have hr:=hall _ (List.mem_of_getElem? hx)
                  have hst : bdL N l to (k + 1) = if bdB N l to k = true then bdL N l to k ++ [(k : Int)] else bdL N l to k:=rfl
                  have hbb : bdB N l to k = decide (dyP N l[k] to[k].toNat = -1):=by
                    unfold bdB
                    rw [List.getD_eq_getElem?_getD,List.getD_eq_getElem?_getD,hx,hq];rfl
                  rw [hbb] at hst
                  clear hbb
                  generalize l[k] = x at hx hr hst
                  generalize to[k] = p at hq hp1 hst
                  obtain ⟨p,rfl⟩ : ∃ q : Nat,p = q:=⟨p.toNat,by omega⟩
                  rw [Int.toNat_natCast] at hst
                  obtain ⟨n',hN',hxo⟩:=hrd_ok hr
                  have : n' = n:=by have:=hN'.p;omega
                  subst this
                  have cB:=fun h=>vc_begun0 N x h hN hxo
                  have hbl2:=bgn_len hN hxo
                  have hdy : dyP N x p = tell (dayOf (atD (bgn N.ws x).D) p):=rfl
                  rw [hdy] at hst
                  clear hdy
                  generalize bgn N.ws x = b at *
                  obtain ⟨D,c,q⟩:=b
                  dsimp only at *
                  have cD:=fun h hb=>vc_day N x D (.loc 2) (.loc 3) p h hb hbl2 (by omega)
                  generalize bdL N l to k = W at hst hbl ⊢
                  generalize tell (dayOf (atD D) p) = d at cD hst
                  by_cases hd : d = -1
                  · rw [decide_eq_true hd,if_pos rfl] at hst
                    conv=>whnf
                    repeat' (first|((first|refine zs1 ?_|refine zs2 ?_|refine zs3 ?_|refine zs4 ?_|refine zs5 ?_);conv=>whnf)|((first|apply zi1|apply zi2|apply zi3|apply zi4|apply zi5) <;> intro _ <;> conv=>whnf)|(refine VAny.ix encHd_len k rfl rfl hx ?_;conv=>whnf))
                    all_goals try (exfalso;omega)
                    refine zs6 [(2,6)] ?_
                    conv=>whnf
                    repeat' (first|((first|refine zs1 ?_|refine zs2 ?_|refine zs3 ?_|refine zs4 ?_|refine zs5 ?_);conv=>whnf)|((first|apply zi1|apply zi2|apply zi3|apply zi4|apply zi5) <;> intro _ <;> conv=>whnf)|(refine VCall.intro (cB _) ?_;conv=>whnf)|(refine VAny.ix encI_len k rfl rfl hq ?_;conv=>whnf)|(refine VCall.intro (cD _ rfl) ?_;conv=>whnf)|(refine VMem.app1 (l:=W) (k : Int) encI_len rfl rfl rfl rfl rfl (by omega) ?_;conv=>whnf))
                    all_goals try (exfalso;omega)
                    refine LEnd.intro (k + 1) (by omega) (by omega) ?_
                    rw [hst,List.length_append]
                    conv=>whnf
                    refine Retell.turn ⟨[5],6,[],[]⟩ (TurnOk.mk' _ _ [] [] (OutOk.lift _) rfl (by decide) zb trivial trivial rfl) zw zm
                  · rw [decide_eq_false hd,if_neg (by decide)] at hst
                    conv=>whnf
                    repeat' (first|((first|refine zs1 ?_|refine zs2 ?_|refine zs3 ?_|refine zs4 ?_|refine zs5 ?_);conv=>whnf)|((first|apply zi1|apply zi2|apply zi3|apply zi4|apply zi5) <;> intro _ <;> conv=>whnf)|(refine VAny.ix encHd_len k rfl rfl hx ?_;conv=>whnf))
                    all_goals try (exfalso;omega)
                    refine zs6 [(2,6)] ?_
                    conv=>whnf
                    repeat' (first|((first|refine zs1 ?_|refine zs2 ?_|refine zs3 ?_|refine zs4 ?_|refine zs5 ?_);conv=>whnf)|((first|apply zi1|apply zi2|apply zi3|apply zi4|apply zi5) <;> intro _ <;> conv=>whnf)|(refine VCall.intro (cB _) ?_;conv=>whnf)|(refine VAny.ix encI_len k rfl rfl hq ?_;conv=>whnf)|(refine VCall.intro (cD _ rfl) ?_;conv=>whnf))
                    all_goals try (exfalso;omega)
                    refine LEnd.intro (k + 1) (by omega) (by omega) ?_
                    rw [hst]
                    conv=>whnf
                    refine Retell.turn ⟨[0],4,[],[]⟩ (TurnOk.mk' _ _ [] [] (OutOk.lift _) rfl (by decide) zb trivial trivial rfl) zw zm
                · obtain rfl : k = l.length:=by omega
                  rw [← hL]
                  conv=>whnf
                  repeat' (first|((first|refine zs1 ?_|refine zs2 ?_|refine zs3 ?_|refine zs4 ?_|refine zs5 ?_);conv=>whnf)|((first|apply zi1|apply zi2|apply zi3|apply zi4|apply zi5) <;> intro _ <;> conv=>whnf))
                  all_goals try (exfalso;omega)
                  refine VOut.data 1 [(0,L.flatMap Vm.encI)] [] rfl zf (by exact FmAll.nil) zw
      · rw [if_neg h2] at hE
        rw [if_neg (by omega)] at hL
        subst hL
        conv=>whnf
        repeat' (first|((first|refine zs1 ?_|refine zs2 ?_|refine zs3 ?_|refine zs4 ?_|refine zs5 ?_);conv=>whnf)|((first|apply zi1|apply zi2|apply zi3|apply zi4|apply zi5) <;> intro _ <;> conv=>whnf)|(refine VCall.intro (cC _) ?_;conv=>whnf))
        all_goals try (exfalso;omega)
        refine VCode.lp (outer:=h.lift) (marks:=[]) (fun k : Nat=>[(1,hds l),(2,ints to),(3,.fp (encN N)),(30,hds l),(31,I l.length),(32,I k)]) (fun _=>[]) (fun k=>k ≤ l.length ∧ E = hrdL N (l.drop k)) (fun k=>l.length - k) 0 ⟨Nat.zero_le _,hE⟩ ?_ ?_
        · conv=>whnf
          refine Retell.turn ⟨[],0,[],[]⟩ (TurnOk.mk' _ _ [] [] (OutOk.lift _) rfl (by decide) zb trivial trivial rfl) zw zm
        · rintro k ⟨k1,k2⟩
          rcases Nat.lt_or_ge k l.length with h3|h3
          · have hx : l[k]? = some l[k]:=List.getElem?_eq_getElem h3
            rw [hrdL_at hx] at k2
            have cH:=fun h=>vc_herded N l[k] h hn
            generalize l[k] = x at hx cH k2
            by_cases hr : hrd N x = 0
            · rw [if_pos hr] at k2
              rw [hr] at cH
              conv=>whnf
              repeat' (first|((first|refine zs1 ?_|refine zs2 ?_|refine zs3 ?_|refine zs4 ?_|refine zs5 ?_);conv=>whnf)|((first|apply zi1|apply zi2|apply zi3|apply zi4|apply zi5) <;> intro _ <;> conv=>whnf)|(refine VAny.ix encHd_len k rfl rfl hx ?_;conv=>whnf)|(refine VCall.intro (cH _) ?_;conv=>whnf))
              all_goals try (exfalso;omega)
              refine LEnd.intro (k + 1) ⟨by omega,k2⟩ (by omega) ?_
              conv=>whnf
              refine Retell.turn ⟨[],1,[],[]⟩ (TurnOk.mk' _ _ [] [] (OutOk.lift _) rfl (by decide) zb trivial trivial rfl) zw zm
            · rw [if_neg hr] at k2
              rw [← k2] at cH hr
              conv=>whnf
              repeat' (first|((first|refine zs1 ?_|refine zs2 ?_|refine zs3 ?_|refine zs4 ?_|refine zs5 ?_);conv=>whnf)|((first|apply zi1|apply zi2|apply zi3|apply zi4|apply zi5) <;> intro _ <;> conv=>whnf)|(refine VAny.ix encHd_len k rfl rfl hx ?_;conv=>whnf)|(refine VCall.intro (cH _) ?_;conv=>whnf))
              all_goals try (exfalso;omega)
              all_goals try (rename_i hh;exact absurd (by omega) hr)
              refine VOut.data 1 [] [] rfl zf (by exact FmAll.nil) zw
          · exfalso
            rw [List.drop_of_length_le h3,hrdL] at k2
            exact h2 (by rw [← hE];exact k2)
    · rw [if_neg h1] at hE
      subst hE
      rw [if_neg (by decide)] at hL
      subst hL
      conv=>whnf
      repeat' (first|((first|refine zs1 ?_|refine zs2 ?_|refine zs3 ?_|refine zs4 ?_|refine zs5 ?_);conv=>whnf)|((first|apply zi1|apply zi2|apply zi3|apply zi4|apply zi5) <;> intro _ <;> conv=>whnf)|(refine VCall.intro (cC _) ?_;conv=>whnf))
      all_goals try (exfalso;omega)
      all_goals refine VOut.data 0 [] [] rfl zf (by exact FmAll.nil) zw
  · rw [if_neg h0] at hE
    rw [← hE] at cC h0
    rw [if_neg h0] at hL
    subst hL
    refine VC.body Tryz.func24 rfl Tryz.ntmps24 Tryz.call24 (h.grows_refl) rfl ?_;conv=>whnf
    repeat' (first|((first|refine zs1 ?_|refine zs2 ?_|refine zs3 ?_|refine zs4 ?_|refine zs5 ?_|refine zs6 [] ?_);conv=>whnf)|((first|apply zi1|apply zi2|apply zi3|apply zi4|apply zi5) <;> intro _ <;> conv=>whnf)|(refine VCall.intro (cC _) ?_;conv=>whnf))
    · refine VOut.data 1 [] [] rfl zf (by exact FmAll.nil) zw
    all_goals (rename_i hh;exact absurd (by omega) h0)
end Go.Proofs.YtoeendggmalcpaaGreat

open Go.Vm
open Psg
namespace Go.Proofs.YtoeendggmalcpaaGreat
set_option maxRecDepth 20000
set_option maxHeartbeats 4000000
theorem day_no {n : Nat} {N : Nt} {x : Hd} (hN : NOk n N) (hx : HOk n x) {p : Nat} (hp : p < n) : (dayOf (atD (bgn N.ws x).D) p = 1001 ↔ dyP N x p = -1):=by
  have hc:=dayOf_cap (bgn_lst hN.n1.2 hN.ws hx) (p:=(p : Int)) (by omega)
  unfold dyP tell
  split <;> omega
theorem vc_rBarred (N : Nt) (l : List Hd) (to : List Int) (h : Hp) (hn : N.ws.length ≤ 4000000) (hl : l.length ≤ 4000000) (ht : to.length ≤ 4000000) : VC Tryz.prog 25 [vN N,hds l,ints to] h (.tuple [ints (bdR N l to),I (bdE N l to)]) h:=by
  obtain ⟨E,hE⟩ : ∃ E,E = bdE N l to:=⟨_,rfl⟩
  obtain ⟨L,hL⟩ : ∃ L,L = bdR N l to:=⟨_,rfl⟩
  rw [← hE,← hL]
  unfold bdR at hL
  rw [← hE] at hL
  unfold bdE at hE
  have cC:=fun h=>vc_rcheck N h hn
  by_cases h0 : chk N = 0
  · obtain ⟨n,hN⟩:=chk_ok h0
    have hp:=hN.p
    have hn1:=hN.n1
    rw [h0] at cC
    rw [if_pos h0] at hE
    refine VC.bodyC 1 Tryz.func25 rfl Tryz.ntmps25 Tryz.call25 (h.grows_refl) rfl ?_;conv=>whnf
    refine VCut.at' (outer:=h.lift) (marks:=[]) 99 [(1,hds l),(2,ints to),(3,.fp (encN N))] [] ?_ ?_
    · conv=>whnf
      refine Retell.turn ⟨[],1,[(0,encN N)],[]⟩ (TurnOk.mk' _ _ [(0,encN N)] [] (OutOk.lift _) rfl (by decide) zb zf trivial rfl) zw zm
    by_cases h1 : l.length ≤ 12 ∧ l.length = to.length
    · rw [if_pos h1] at hE
      by_cases h2 : hrdL N l = 0
      · rw [if_pos h2] at hE
        have hall:=hrdL_ok h2
        conv=>whnf
        repeat' (first|((first|refine zs1 ?_|refine zs2 ?_|refine zs3 ?_|refine zs4 ?_|refine zs5 ?_);conv=>whnf)|((first|apply zi1|apply zi2|apply zi3|apply zi4|apply zi5) <;> intro _ <;> conv=>whnf)|(refine VCall.intro (cC _) ?_;conv=>whnf))
        all_goals try (exfalso;omega)
        refine VCode.lp (outer:=h.lift) (marks:=[]) (fun k : Nat=>[(1,hds l),(2,ints to),(3,.fp (encN N)),(9,I k)]) (fun _=>[]) (fun k=>k ≤ l.length) (fun k=>l.length - k) 0 (Nat.zero_le _) ?_ ?_
        · conv=>whnf
          refine Retell.turn ⟨[],0,[],[]⟩ (TurnOk.mk' _ _ [] [] (OutOk.lift _) rfl (by decide) zb trivial trivial rfl) zw zm
        · intro k k1
          rcases Nat.lt_or_ge k l.length with h3|h3
          · have hx : l[k]? = some l[k]:=List.getElem?_eq_getElem h3
            have hr:=hall _ (List.mem_of_getElem? hx)
            have cH:=fun h=>vc_rherded N l[k] h hn
            rw [hr] at cH
            generalize l[k] = x at hx cH
            conv=>whnf
            repeat' (first|((first|refine zs1 ?_|refine zs2 ?_|refine zs3 ?_|refine zs4 ?_|refine zs5 ?_);conv=>whnf)|((first|apply zi1|apply zi2|apply zi3|apply zi4|apply zi5) <;> intro _ <;> conv=>whnf))
            all_goals try (exfalso;omega)
            refine zs6 [] ?_
            conv=>whnf
            repeat' (first|((first|refine zs1 ?_|refine zs2 ?_|refine zs3 ?_|refine zs4 ?_|refine zs5 ?_);conv=>whnf)|((first|apply zi1|apply zi2|apply zi3|apply zi4|apply zi5) <;> intro _ <;> conv=>whnf)|(refine VAny.ix encHd_len k rfl rfl hx ?_;conv=>whnf)|(refine VCall.intro (cH _) ?_;conv=>whnf))
            all_goals try (exfalso;omega)
            refine LEnd.intro (k + 1) (by omega) (by omega) ?_
            conv=>whnf
            refine Retell.turn ⟨[],0,[],[]⟩ (TurnOk.mk' _ _ [] [] (OutOk.lift _) rfl (by decide) zb trivial trivial rfl) zw zm
          · conv=>whnf
            repeat' (first|((first|refine zs1 ?_|refine zs2 ?_|refine zs3 ?_|refine zs4 ?_|refine zs5 ?_);conv=>whnf)|((first|apply zi1|apply zi2|apply zi3|apply zi4|apply zi5) <;> intro _ <;> conv=>whnf))
            all_goals try (exfalso;omega)
            refine VCode.lp (outer:=h.lift) (marks:=[]) (fun k : Nat=>[(1,hds l),(2,ints to),(3,.fp (encN N)),(11,I k)]) (fun _=>[]) (fun k=>k ≤ to.length ∧ to.all (pstB N) = (to.drop k).all (pstB N)) (fun k=>to.length - k) 0 ⟨Nat.zero_le _,rfl⟩ ?_ ?_
            · conv=>whnf
              refine Retell.turn ⟨[],0,[],[]⟩ (TurnOk.mk' _ _ [] [] (OutOk.lift _) rfl (by decide) zb trivial trivial rfl) zw zm
            · rintro k ⟨k1,k2⟩
              rcases Nat.lt_or_ge k to.length with h3|h3
              · have hx : to[k]? = some to[k]:=List.getElem?_eq_getElem h3
                have hdr : (to.drop k).all (pstB N) = (pstB N to[k] && (to.drop (k + 1)).all (pstB N)):=by rw [List.drop_eq_getElem_cons h3,List.all_cons]
                rw [hdr] at k2
                clear hdr
                generalize to[k] = p at hx k2
                by_cases hq : 0 ≤ p ∧ p ≤ N.p - 1
                · rw [show pstB N p = true from decide_eq_true hq,Bool.true_and] at k2
                  have cB:=fun h=>vc_beside p 0 (N.p - 1) h
                  rw [decide_eq_false (by omega)] at cB
                  conv=>whnf
                  repeat' (first|((first|refine zs1 ?_|refine zs2 ?_|refine zs3 ?_|refine zs4 ?_|refine zs5 ?_);conv=>whnf)|((first|apply zi1|apply zi2|apply zi3|apply zi4|apply zi5) <;> intro _ <;> conv=>whnf))
                  all_goals try (exfalso;omega)
                  refine zs6 [] ?_
                  conv=>whnf
                  repeat' (first|((first|refine zs1 ?_|refine zs2 ?_|refine zs3 ?_|refine zs4 ?_|refine zs5 ?_);conv=>whnf)|((first|apply zi1|apply zi2|apply zi3|apply zi4|apply zi5) <;> intro _ <;> conv=>whnf)|(refine VAny.ix encI_len k rfl rfl hx ?_;conv=>whnf)|(refine VCall.intro (cB _) ?_;conv=>whnf))
                  all_goals try (exfalso;omega)
                  refine LEnd.intro (k + 1) ⟨by omega,k2⟩ (by omega) ?_
                  conv=>whnf
                  refine Retell.turn ⟨[],0,[],[]⟩ (TurnOk.mk' _ _ [] [] (OutOk.lift _) rfl (by decide) zb trivial trivial rfl) zw zm
                · rw [show pstB N p = false from decide_eq_false hq,Bool.false_and] at k2
                  rw [k2,if_neg (by decide)] at hE
                  subst hE
                  rw [if_neg (by decide)] at hL
                  subst hL
                  have cB:=fun h=>vc_beside p 0 (N.p - 1) h
                  rw [decide_eq_true (by omega)] at cB
                  conv=>whnf
                  repeat' (first|((first|refine zs1 ?_|refine zs2 ?_|refine zs3 ?_|refine zs4 ?_|refine zs5 ?_);conv=>whnf)|((first|apply zi1|apply zi2|apply zi3|apply zi4|apply zi5) <;> intro _ <;> conv=>whnf))
                  all_goals try (exfalso;omega)
                  refine zs6 [] ?_
                  conv=>whnf
                  repeat' (first|((first|refine zs1 ?_|refine zs2 ?_|refine zs3 ?_|refine zs4 ?_|refine zs5 ?_);conv=>whnf)|((first|apply zi1|apply zi2|apply zi3|apply zi4|apply zi5) <;> intro _ <;> conv=>whnf)|(refine VAny.ix encI_len k rfl rfl hx ?_;conv=>whnf)|(refine VCall.intro (cB _) ?_;conv=>whnf))
                  all_goals try (exfalso;omega)
                  refine VOut.data 0 [] [] rfl zf (by exact FmAll.nil) zw
              · rw [List.drop_of_length_le h3,List.all_nil] at k2
                rw [if_pos k2] at hE
                subst hE
                rw [if_pos rfl] at hL
                have hA : ∀ p ∈ to,0 ≤ p ∧ p ≤ N.p - 1:=fun p hp=>of_decide_eq_true (List.all_eq_true.1 k2 p hp)
                conv=>whnf
                repeat' (first|((first|refine zs1 ?_|refine zs2 ?_|refine zs3 ?_|refine zs4 ?_|refine zs5 ?_);conv=>whnf)|((first|apply zi1|apply zi2|apply zi3|apply zi4|apply zi5) <;> intro _ <;> conv=>whnf))
                all_goals try (exfalso;omega)
                refine VCode.lp (outer:=h.lift) (marks:=[]) (fun k : Nat=>[(1,hds l),(2,ints to),(3,.fp (encN N)),(12,.gl (.loc 0) 1 (bdL N l to k).length),(13,I k)]) (fun k=>[.flat true ((bdL N l to k).flatMap Vm.encI)]) (fun k=>k ≤ l.length) (fun k=>l.length - k) 0 (Nat.zero_le _) ?_ ?_
                · rw [show bdL N l to 0 = [] from rfl]
                  conv=>whnf
                  refine Retell.turn ⟨[0],0,[],[]⟩ (TurnOk.mk' _ _ [] [] (OutOk.lift _) rfl (by decide) zb trivial trivial rfl) zw zm
                · intro k k1
                  have hbl:=bdL_len N l to k
                  rcases Nat.lt_or_ge k l.length with h3|h3
                  · have hx : l[k]? = some l[k]:=List.getElem?_eq_getElem h3
                    have hq : to[k]? = some to[k]:=List.getElem?_eq_getElem (by omega)
                    have hp1:=hA _ (List.mem_of_getElem? hq)
                    have hr:=hall _ (List.mem_of_getElem? hx)
                    have hst : bdL N l to (k + 1) = if bdB N l to k = true then bdL N l to k ++ [(k : Int)] else bdL N l to k:=rfl
                    have hbb : bdB N l to k = decide (dyP N l[k] to[k].toNat = -1):=by
                      unfold bdB
                      rw [List.getD_eq_getElem?_getD,List.getD_eq_getElem?_getD,hx,hq];rfl
                    rw [hbb] at hst
                    clear hbb
                    generalize l[k] = x at hx hr hst
                    generalize to[k] = p at hq hp1 hst
                    obtain ⟨p,rfl⟩ : ∃ q : Nat,p = q:=⟨p.toNat,by omega⟩
                    rw [Int.toNat_natCast] at hst
                    obtain ⟨n',hN',hxo⟩:=hrd_ok hr
                    have : n' = n:=by have:=hN'.p;omega
                    subst this
                    have cT:=fun h=>vc_rtab N x h hN hxo
                    obtain ⟨r,hr1,hr2,hr3⟩:=rtab_row hN hxo (p:=p) (by omega)
                    have hdy:=day_no hN hxo (p:=p) (by omega)
                    rw [← hr3] at hdy
                    have cF:=fun h=>vc_first r h (by omega) (by omega)
                    rw [show r.length - 1 = 15 by omega] at cF
                    generalize bdL N l to k = W at hst hbl ⊢
                    generalize mn (fun s=>r.getD s 1001) 15 = d at cF hdy
                    generalize dyP N x p = e at hdy hst
                    generalize rtab n' N.ws x = T at cT hr1
                    by_cases hd : d = 1001
                    · rw [decide_eq_true (hdy.1 hd),if_pos rfl] at hst
                      conv=>whnf
                      repeat' (first|((first|refine zs1 ?_|refine zs2 ?_|refine zs3 ?_|refine zs4 ?_|refine zs5 ?_);conv=>whnf)|((first|apply zi1|apply zi2|apply zi3|apply zi4|apply zi5) <;> intro _ <;> conv=>whnf))
                      all_goals try (exfalso;omega)
                      refine zs6 [(5,9)] ?_
                      conv=>whnf
                      repeat' (first|((first|refine zs1 ?_|refine zs2 ?_|refine zs3 ?_|refine zs4 ?_|refine zs5 ?_);conv=>whnf)|((first|apply zi1|apply zi2|apply zi3|apply zi4|apply zi5) <;> intro _ <;> conv=>whnf)|(refine VAny.ix encHd_len k rfl rfl hx ?_;conv=>whnf)|(refine VCall.intro (cT _) ?_;conv=>whnf)|(refine VAny.ix encI_len k rfl rfl hq ?_;conv=>whnf)|(refine VAny.ix encL_len p rfl rfl hr1 ?_;conv=>whnf)|(refine VCall.intro (cF _) ?_;conv=>whnf)|(refine VMem.app1 (l:=W) (k : Int) encI_len rfl rfl rfl rfl rfl (by omega) ?_;conv=>whnf))
                      all_goals try (exfalso;omega)
                      refine LEnd.intro (k + 1) (by omega) (by omega) ?_
                      rw [hst,List.length_append]
                      conv=>whnf
                      refine Retell.turn ⟨[2],3,[],[]⟩ (TurnOk.mk' _ _ [] [] (OutOk.lift _) rfl (by decide) zb trivial trivial rfl) zw zm
                    · rw [decide_eq_false (fun h=>hd (hdy.2 h)),if_neg (by decide)] at hst
                      conv=>whnf
                      repeat' (first|((first|refine zs1 ?_|refine zs2 ?_|refine zs3 ?_|refine zs4 ?_|refine zs5 ?_);conv=>whnf)|((first|apply zi1|apply zi2|apply zi3|apply zi4|apply zi5) <;> intro _ <;> conv=>whnf))
                      all_goals try (exfalso;omega)
                      refine zs6 [(5,9)] ?_
                      conv=>whnf
                      repeat' (first|((first|refine zs1 ?_|refine zs2 ?_|refine zs3 ?_|refine zs4 ?_|refine zs5 ?_);conv=>whnf)|((first|apply zi1|apply zi2|apply zi3|apply zi4|apply zi5) <;> intro _ <;> conv=>whnf)|(refine VAny.ix encHd_len k rfl rfl hx ?_;conv=>whnf)|(refine VCall.intro (cT _) ?_;conv=>whnf)|(refine VAny.ix encI_len k rfl rfl hq ?_;conv=>whnf)|(refine VAny.ix encL_len p rfl rfl hr1 ?_;conv=>whnf)|(refine VCall.intro (cF _) ?_;conv=>whnf))
                      all_goals try (exfalso;omega)
                      refine LEnd.intro (k + 1) (by omega) (by omega) ?_
                      rw [hst]
                      conv=>whnf
                      refine Retell.turn ⟨[0],1,[],[]⟩ (TurnOk.mk' _ _ [] [] (OutOk.lift _) rfl (by decide) zb trivial trivial rfl) zw zm
                  · obtain rfl : k = l.length:=by omega
                    rw [← hL]
                    conv=>whnf
                    repeat' (first|((first|refine zs1 ?_|refine zs2 ?_|refine zs3 ?_|refine zs4 ?_|refine zs5 ?_);conv=>whnf)|((first|apply zi1|apply zi2|apply zi3|apply zi4|apply zi5) <;> intro _ <;> conv=>whnf))
                    all_goals try (exfalso;omega)
                    refine VOut.data 1 [(0,L.flatMap Vm.encI)] [] rfl zf (by exact FmAll.nil) zw
      · rw [if_neg h2] at hE
        rw [if_neg (by omega)] at hL
        subst hL
        conv=>whnf
        repeat' (first|((first|refine zs1 ?_|refine zs2 ?_|refine zs3 ?_|refine zs4 ?_|refine zs5 ?_);conv=>whnf)|((first|apply zi1|apply zi2|apply zi3|apply zi4|apply zi5) <;> intro _ <;> conv=>whnf)|(refine VCall.intro (cC _) ?_;conv=>whnf))
        all_goals try (exfalso;omega)
        refine VCode.lp (outer:=h.lift) (marks:=[]) (fun k : Nat=>[(1,hds l),(2,ints to),(3,.fp (encN N)),(9,I k)]) (fun _=>[]) (fun k=>k ≤ l.length ∧ E = hrdL N (l.drop k)) (fun k=>l.length - k) 0 ⟨Nat.zero_le _,hE⟩ ?_ ?_
        · conv=>whnf
          refine Retell.turn ⟨[],0,[],[]⟩ (TurnOk.mk' _ _ [] [] (OutOk.lift _) rfl (by decide) zb trivial trivial rfl) zw zm
        · rintro k ⟨k1,k2⟩
          rcases Nat.lt_or_ge k l.length with h3|h3
          · have hx : l[k]? = some l[k]:=List.getElem?_eq_getElem h3
            rw [hrdL_at hx] at k2
            have cH:=fun h=>vc_rherded N l[k] h hn
            generalize l[k] = x at hx cH k2
            by_cases hr : hrd N x = 0
            · rw [if_pos hr] at k2
              rw [hr] at cH
              conv=>whnf
              repeat' (first|((first|refine zs1 ?_|refine zs2 ?_|refine zs3 ?_|refine zs4 ?_|refine zs5 ?_);conv=>whnf)|((first|apply zi1|apply zi2|apply zi3|apply zi4|apply zi5) <;> intro _ <;> conv=>whnf))
              all_goals try (exfalso;omega)
              refine zs6 [] ?_
              conv=>whnf
              repeat' (first|((first|refine zs1 ?_|refine zs2 ?_|refine zs3 ?_|refine zs4 ?_|refine zs5 ?_);conv=>whnf)|((first|apply zi1|apply zi2|apply zi3|apply zi4|apply zi5) <;> intro _ <;> conv=>whnf)|(refine VAny.ix encHd_len k rfl rfl hx ?_;conv=>whnf)|(refine VCall.intro (cH _) ?_;conv=>whnf))
              all_goals try (exfalso;omega)
              refine LEnd.intro (k + 1) ⟨by omega,k2⟩ (by omega) ?_
              conv=>whnf
              refine Retell.turn ⟨[],0,[],[]⟩ (TurnOk.mk' _ _ [] [] (OutOk.lift _) rfl (by decide) zb trivial trivial rfl) zw zm
            · rw [if_neg hr] at k2
              rw [← k2] at cH hr
              conv=>whnf
              repeat' (first|((first|refine zs1 ?_|refine zs2 ?_|refine zs3 ?_|refine zs4 ?_|refine zs5 ?_);conv=>whnf)|((first|apply zi1|apply zi2|apply zi3|apply zi4|apply zi5) <;> intro _ <;> conv=>whnf))
              all_goals try (exfalso;omega)
              refine zs6 [] ?_
              conv=>whnf
              repeat' (first|((first|refine zs1 ?_|refine zs2 ?_|refine zs3 ?_|refine zs4 ?_|refine zs5 ?_);conv=>whnf)|((first|apply zi1|apply zi2|apply zi3|apply zi4|apply zi5) <;> intro _ <;> conv=>whnf)|(refine VAny.ix encHd_len k rfl rfl hx ?_;conv=>whnf)|(refine VCall.intro (cH _) ?_;conv=>whnf))
              all_goals try (exfalso;omega)
              all_goals try (rename_i hh;exact absurd (by omega) hr)
              refine VOut.data 0 [] [] rfl zf (by exact FmAll.nil) zw
          · exfalso
            rw [List.drop_of_length_le h3,hrdL] at k2
            exact h2 (by rw [← hE];exact k2)
    · rw [if_neg h1] at hE
      subst hE
      rw [if_neg (by decide)] at hL
      subst hL
      conv=>whnf
      repeat' (first|((first|refine zs1 ?_|refine zs2 ?_|refine zs3 ?_|refine zs4 ?_|refine zs5 ?_);conv=>whnf)|((first|apply zi1|apply zi2|apply zi3|apply zi4|apply zi5) <;> intro _ <;> conv=>whnf)|(refine VCall.intro (cC _) ?_;conv=>whnf))
      all_goals try (exfalso;omega)
      all_goals refine VOut.data 0 [] [] rfl zf (by exact FmAll.nil) zw
  · rw [if_neg h0] at hE
    rw [← hE] at cC h0
    rw [if_neg h0] at hL
    subst hL
    refine VC.body Tryz.func25 rfl Tryz.ntmps25 Tryz.call25 (h.grows_refl) rfl ?_;conv=>whnf
    repeat' (first|((first|refine zs1 ?_|refine zs2 ?_|refine zs3 ?_|refine zs4 ?_|refine zs5 ?_|refine zs6 [] ?_);conv=>whnf)|((first|apply zi1|apply zi2|apply zi3|apply zi4|apply zi5) <;> intro _ <;> conv=>whnf)|(refine VCall.intro (cC _) ?_;conv=>whnf))
    · refine VOut.data 1 [] [] rfl zf (by exact FmAll.nil) zw
    all_goals (rename_i hh;exact absurd (by omega) h0)
end Go.Proofs.YtoeendggmalcpaaGreat

open Go.Vm
open Psg
namespace Go.Proofs.YtoeendggmalcpaaGreat
set_option maxRecDepth 20000
set_option maxHeartbeats 4000000
theorem top61 : eqTop Tryz.prog 52 = some (Sh.cons 0 1 false Sh.int (Sh.cons 1 1 false Sh.int (Sh.cons 2 1 false Sh.int (Sh.nil)))):=by kernel_rfl
theorem vneqR (x y : Hd) : vaggeq Tryz.prog .neq 52 (vHd x) (vHd y) = some (B (decide (¬ x = y))):=by
  have:=vneqH x y
  unfold vaggeq at this ⊢
  rw [top30] at this
  rw [top61]
  exact this
theorem rt_dy {N : Nt} {x : Hd} {to : Int} (h : rtE N x to = 0) : rdD N x to = dyP N x to.toNat:=by unfold rdD;rw [if_pos h]
theorem rt_flw {N : Nt} {x : Hd} {to : Int} {L : List Int} (h : rtE N x to = 0) (hL : RtR N x to L) : ∃ s,Pp s ∧ flw N x L = (⟨to,rdD N x to,s⟩,0):=by
  obtain ⟨s,hs,hf⟩:=hL.fol
  have h0 : hrd N x = 0:=by
    unfold rtE at h
    by_cases h1 : hrd N x = 0
    · exact h1
    · rw [if_neg h1] at h;exact absurd h h1
  refine ⟨s,hs,?_⟩
  unfold flw
  rw [if_pos h0,if_pos hL.ok,hf,rt_dy h]
  rfl
theorem bdR_len (N : Nt) (l : List Hd) (to : List Int) : (bdR N l to).length ≤ l.length:=by
  unfold bdR
  split
  · exact bdL_len _ _ _ _
  · simp
theorem eaL_len (N : Nt) (x : Hd) : (eaL N x).length ≤ 10:=by
  unfold eaL
  split
  · rename_i h
    obtain ⟨n,hN,_⟩:=hrd_ok h
    have:=hN.p;have:=hN.n1
    rw [List.length_map,List.length_range];omega
  · simp
theorem vc_Routes (N : Nt) (x : Hd) (rt : List Int) (to : Int) (l : List Hd) (ps : List Int) (h : Hp) : VC Tryz.prog 5 [vN N,vHd x,ints rt,I to,hds l,ints ps] h (B true) h:=by
  have cL:=fun h=>vc_long N [rt,ps] h (by simp)
  have hlg : lngB N [rt,ps] = false → N.ws.length ≤ 28 ∧ rt.length ≤ 30 ∧ ps.length ≤ 30:=by
    unfold lngB
    simp only [List.any_cons,List.any_nil,Bool.or_false,Bool.or_eq_false_iff,decide_eq_false_iff_not]
    omega
  generalize lngB N [rt,ps] = lb at cL hlg
  refine VC.bodyC 1 Tryz.func5 rfl Tryz.ntmps5 Tryz.call5 (h.grows_refl) rfl ?_;conv=>whnf
  refine VCut.at' (outer:=h.lift) (marks:=[]) 1 [(2,ints rt),(3,I to),(4,hds l),(5,ints ps),(6,.fp (encN N)),(7,.fp (encHd x))] [] ?_ ?_
  · conv=>whnf
    refine Retell.turn ⟨[],2,[(0,encN N),(1,encHd x)],[]⟩ (TurnOk.mk' _ _ [(0,encN N),(1,encHd x)] [] (OutOk.lift _) rfl (by decide) zb zf trivial rfl) zw zm
  by_cases hb : lb = true ∨ 14 < l.length
  · cases lb with
    | true =>
      conv=>whnf
      repeat' (first|((first|refine zs1 ?_|refine zs2 ?_|refine zs3 ?_|refine zs4 ?_|refine zs5 ?_);conv=>whnf)|((first|apply zi1|apply zi2|apply zi3|apply zi4|apply zi5) <;> intro _ <;> conv=>whnf))
      refine VCall.intro (VC.give (args':=[vN N,intss [rt,ps]]) (loc':=[.dead]) [(0,[rt,ps].flatMap encL)] [] (OutOk.lift _) zb zf (by exact FmAll.nil) rfl zv (cL _)) ?_
      conv=>whnf
      repeat' (first|((first|refine zs1 ?_|refine zs2 ?_|refine zs3 ?_|refine zs4 ?_|refine zs5 ?_);conv=>whnf)|((first|apply zi1|apply zi2|apply zi3|apply zi4|apply zi5) <;> intro _ <;> conv=>whnf)|(refine VCall.intro (vc_awake _) ?_;conv=>whnf))
      all_goals try (exfalso;omega)
      exact VOut.same rfl
    | false =>
      have hb2 : 14 < l.length:=by rcases hb with h|h;cases h;exact h
      conv=>whnf
      repeat' (first|((first|refine zs1 ?_|refine zs2 ?_|refine zs3 ?_|refine zs4 ?_|refine zs5 ?_);conv=>whnf)|((first|apply zi1|apply zi2|apply zi3|apply zi4|apply zi5) <;> intro _ <;> conv=>whnf))
      refine VCall.intro (VC.give (args':=[vN N,intss [rt,ps]]) (loc':=[.dead]) [(0,[rt,ps].flatMap encL)] [] (OutOk.lift _) zb zf (by exact FmAll.nil) rfl zv (cL _)) ?_
      conv=>whnf
      repeat' (first|((first|refine zs1 ?_|refine zs2 ?_|refine zs3 ?_|refine zs4 ?_|refine zs5 ?_);conv=>whnf)|((first|apply zi1|apply zi2|apply zi3|apply zi4|apply zi5) <;> intro _ <;> conv=>whnf)|(refine VCall.intro (vc_awake _) ?_;conv=>whnf))
      all_goals try (exfalso;omega)
      exact VOut.same rfl
  · have hl14 : l.length ≤ 14:=by omega
    have hlb : lb = false:=by cases lb;rfl;exact absurd (.inl rfl) hb
    subst hlb
    obtain ⟨n28,n30,p30⟩:=hlg rfl
    have c1:=fun h=>vc_CloneNet N h (by omega)
    have c2:=fun h=>vc_kcloneI rt h (by omega)
    have c3:=fun h=>vc_kcloneI ps h (by omega)
    have c4:=fun h=>vc_kcloneH l h (by omega)
    have c5:=fun h=>vc_Net N h (by omega)
    have c6:=fun h=>vc_check N h (by omega)
    have c7:=fun h=>vc_rcheck N h (by omega)
    have c8:=fun h=>vc_Follow N x rt h (by omega) (by omega)
    have c9:=fun h=>vc_rFollow N x rt h (by omega) (by omega)
    have c10:=fun h=>vc_Earliest N x h (by omega)
    have c11:=fun h=>vc_rEarliest N x h (by omega)
    have c12:=fun h=>vc_kequalI (eaL N x) (eaL N x) h (by have:=eaL_len N x;omega) (by have:=eaL_len N x;omega)
    obtain ⟨L,hL1,hL2,c13⟩:=vc_Route N x to (by omega)
    have c14:=fun h=>vc_Routed N x to h (by omega)
    have c15:=fun h=>vc_Barred N l ps h (by omega) (by omega) (by omega)
    have c16:=fun h=>vc_rBarred N l ps h (by omega) (by omega) (by omega)
    have c17:=fun h=>vc_kequalI (bdR N l ps) (bdR N l ps) h (by have:=bdR_len N l ps;omega) (by have:=bdR_len N l ps;omega)
    have c18:=fun h=>vc_equal N N h (by omega) (by omega)
    have c19:=fun h=>vc_kequalI rt rt h (by omega) (by omega)
    have c20:=fun h=>vc_kequalI ps ps h (by omega) (by omega)
    have c21:=fun h=>vc_kequalH l l h (by omega) (by omega)
    rw [decide_eq_true rfl] at c12 c17 c18 c19 c20 c21
    generalize flw N x rt = F at c8 c9
    generalize eaL N x = A at c10 c11 c12
    generalize bdR N l ps = Bd at c15 c16 c17
    generalize bdE N l ps = E3 at c15 c16
    generalize chk N = E1 at c6 c7
    generalize hrd N x = E2 at c10 c11
    conv=>whnf
    repeat' (first|((first|refine zs1 ?_|refine zs2 ?_|refine zs3 ?_|refine zs4 ?_|refine zs5 ?_);conv=>whnf)|((first|apply zi1|apply zi2|apply zi3|apply zi4|apply zi5) <;> intro _ <;> conv=>whnf))
    refine VCall.intro (VC.give (args':=[vN N,intss [rt,ps]]) (loc':=[.dead]) [(0,[rt,ps].flatMap encL)] [] (OutOk.lift _) zb zf (by exact FmAll.nil) rfl zv (cL _)) ?_
    conv=>whnf
    repeat' (first|((first|refine zs1 ?_|refine zs2 ?_|refine zs3 ?_|refine zs4 ?_|refine zs5 ?_);conv=>whnf)|((first|apply zi1|apply zi2|apply zi3|apply zi4|apply zi5) <;> intro _ <;> conv=>whnf))
    all_goals try (exfalso;omega)
    refine VCut.at' (outer:=h.lift) (marks:=[]) 2 [(2,ints rt),(3,I to),(4,hds l),(5,ints ps),(6,.fp (encN N)),(7,.fp (encHd x))] [] ?_ ?_
    · conv=>whnf
      refine Retell.turn ⟨[],1,[],[]⟩ (TurnOk.mk' _ _ [] [] (OutOk.lift _) rfl (by decide) zb trivial trivial rfl) zw zm
    conv=>whnf
    refine zs6 [(1,8),(3,8),(5,8),(7,8)] ?_
    conv=>whnf
    repeat' (first|((first|refine zs1 ?_|refine zs2 ?_|refine zs3 ?_|refine zs4 ?_|refine zs5 ?_);conv=>whnf)|((first|apply zi1|apply zi2|apply zi3|apply zi4|apply zi5) <;> intro _ <;> conv=>whnf)|(refine VCall.intro (c1 _) ?_;conv=>whnf)|(refine VCall.intro (c2 _) ?_;conv=>whnf)|(refine VCall.intro (c3 _) ?_;conv=>whnf)|(refine VCall.intro (c4 _) ?_;conv=>whnf)|(refine VCall.intro (c5 _) ?_;conv=>whnf))
    refine VCut.at' (outer:=h.lift) (marks:=[]) 1 [(2,ints rt),(3,I to),(4,hds l),(5,ints ps),(6,.fp (encN N)),(7,.fp (encHd x)),(13,.fp (encN N)),(14,ints rt),(15,ints ps),(16,hds l),(17,.fp (encN N)),(18,.fp (encHd x))] [] ?_ ?_
    · conv=>whnf
      refine Retell.turn ⟨[],3,[(0,encN N),(1,encN N),(2,encHd x)],[]⟩ (TurnOk.mk' _ _ [(0,encN N),(1,encN N),(2,encHd x)] [] (OutOk.lift _) rfl (by decide) zb zf trivial rfl) zw zm
    conv=>whnf
    refine zs6 [(1,2)] ?_
    conv=>whnf
    repeat' (first|((first|refine zs1 ?_|refine zs2 ?_|refine zs3 ?_|refine zs4 ?_|refine zs5 ?_);conv=>whnf)|((first|apply zi1|apply zi2|apply zi3|apply zi4|apply zi5) <;> intro _ <;> conv=>whnf)|(refine VCall.intro (c6 _) ?_;conv=>whnf)|(refine VCall.intro (c7 _) ?_;conv=>whnf))
    all_goals try contradiction
    all_goals try (exfalso;omega)
    refine VCut.at' (outer:=h.lift) (marks:=[]) 3 [(2,ints rt),(3,I to),(4,hds l),(5,ints ps),(6,.fp (encN N)),(7,.fp (encHd x)),(13,.fp (encN N)),(14,ints rt),(15,ints ps),(16,hds l),(17,.fp (encN N)),(18,.fp (encHd x))] [] ?_ ?_
    · conv=>whnf
      refine Retell.turn ⟨[],0,[],[]⟩ (TurnOk.mk' _ _ [] [] (OutOk.lift _) rfl (by decide) zb trivial trivial rfl) zw zm
    conv=>whnf
    repeat' (first|((first|refine zs1 ?_|refine zs2 ?_|refine zs3 ?_|refine zs4 ?_|refine zs5 ?_);conv=>whnf)|((first|apply zi1|apply zi2|apply zi3|apply zi4|apply zi5) <;> intro _ <;> conv=>whnf)|(refine VCall.intro (c8 _) ?_;conv=>whnf)|(refine VCall.intro (c9 _) ?_;conv=>whnf)|(refine VAgg.intro (vneqR F.1 F.1) ?_;conv=>whnf))
    all_goals try contradiction
    all_goals try (exfalso;omega)
    refine VCut.at' (outer:=h.lift) (marks:=[]) 3 [(2,ints rt),(3,I to),(4,hds l),(5,ints ps),(6,.fp (encN N)),(7,.fp (encHd x)),(13,.fp (encN N)),(14,ints rt),(15,ints ps),(16,hds l),(17,.fp (encN N)),(18,.fp (encHd x))] [] ?_ ?_
    · conv=>whnf
      refine Retell.turn ⟨[],2,[],[]⟩ (TurnOk.mk' _ _ [] [] (OutOk.lift _) rfl (by decide) zb trivial trivial rfl) zw zm
    conv=>whnf
    repeat' (first|((first|refine zs1 ?_|refine zs2 ?_|refine zs3 ?_|refine zs4 ?_|refine zs5 ?_);conv=>whnf)|((first|apply zi1|apply zi2|apply zi3|apply zi4|apply zi5) <;> intro _ <;> conv=>whnf)|(refine VCall.intro (c10 _) ?_;conv=>whnf)|(refine VCall.intro (c11 _) ?_;conv=>whnf)|(refine VCall.intro (c12 _) ?_;conv=>whnf))
    all_goals try contradiction
    all_goals try (exfalso;omega)
    refine VCut.at' (outer:=h.lift) (marks:=[]) 3 [(2,ints rt),(3,I to),(4,hds l),(5,ints ps),(6,.fp (encN N)),(7,.fp (encHd x)),(13,.fp (encN N)),(14,ints rt),(15,ints ps),(16,hds l),(17,.fp (encN N)),(18,.fp (encHd x))] [] ?_ ?_
    · conv=>whnf
      refine Retell.turn ⟨[],0,[],[]⟩ (TurnOk.mk' _ _ [] [] (OutOk.lift _) rfl (by decide) zb trivial trivial rfl) zw zm
    apply suffices_
    · intro hrest
      by_cases hr : rtE N x to = 0
      · have hL:=hL1 hr
        obtain ⟨s,hs,hfl⟩:=rt_flw hr hL
        have hll:=hL.len
        have c22:=fun h=>vc_rFollow N x L h (by omega) (by omega)
        rw [hfl] at c22
        rw [hr] at c13 c14
        generalize rdD N x to = dd at c14 c22
        conv=>whnf
        repeat' (first|((first|refine zs1 ?_|refine zs2 ?_|refine zs3 ?_|refine zs4 ?_|refine zs5 ?_);conv=>whnf)|((first|apply zi1|apply zi2|apply zi3|apply zi4|apply zi5) <;> intro _ <;> conv=>whnf)|(refine VCall.intro (c13 _) ?_;conv=>whnf)|(refine VCall.intro (c14 _) ?_;conv=>whnf))
        all_goals try contradiction
        all_goals try (exfalso;omega)
        refine VCut.at' (outer:=h.lift) (marks:=[]) 1 [(2,ints rt),(3,I to),(4,hds l),(5,ints ps),(6,.fp (encN N)),(7,.fp (encHd x)),(13,.fp (encN N)),(14,ints rt),(15,ints ps),(16,hds l),(17,.fp (encN N)),(18,.fp (encHd x)),(20,I 0),(23,ints L),(25,I dd)] [] ?_ ?_
        · conv=>whnf
          refine Retell.turn ⟨[],0,[],[]⟩ (TurnOk.mk' _ _ [] [] (OutOk.lift _) rfl (by decide) zb trivial trivial rfl) zw zm
        conv=>whnf
        repeat' (first|((first|refine zs1 ?_|refine zs2 ?_|refine zs3 ?_|refine zs4 ?_|refine zs5 ?_);conv=>whnf)|((first|apply zi1|apply zi2|apply zi3|apply zi4|apply zi5) <;> intro _ <;> conv=>whnf)|(refine VCall.intro (c22 _) ?_;conv=>whnf))
        all_goals try contradiction
        all_goals try (exfalso;omega)
        refine VCut.at' (outer:=h.lift) (marks:=[]) 99 [(2,ints rt),(3,I to),(4,hds l),(5,ints ps),(6,.fp (encN N)),(7,.fp (encHd x)),(13,.fp (encN N)),(14,ints rt),(15,ints ps),(16,hds l),(17,.fp (encN N)),(18,.fp (encHd x))] [] ?_ hrest.out
        · conv=>whnf
          refine Retell.turn ⟨[],1,[],[]⟩ (TurnOk.mk' _ _ [] [] (OutOk.lift _) rfl (by decide) zb trivial trivial rfl) zw zm
      · have hL:=hL2 hr
        subst hL
        generalize rtE N x to = e at c13 c14 hr
        generalize rdD N x to = dd at c14
        conv=>whnf
        repeat' (first|((first|refine zs1 ?_|refine zs2 ?_|refine zs3 ?_|refine zs4 ?_|refine zs5 ?_);conv=>whnf)|((first|apply zi1|apply zi2|apply zi3|apply zi4|apply zi5) <;> intro _ <;> conv=>whnf)|(refine VCall.intro (c13 _) ?_;conv=>whnf)|(refine VCall.intro (c14 _) ?_;conv=>whnf))
        all_goals try contradiction
        all_goals try (exfalso;omega)
        refine VCut.at' (outer:=h.lift) (marks:=[]) 1 [(2,ints rt),(3,I to),(4,hds l),(5,ints ps),(6,.fp (encN N)),(7,.fp (encHd x)),(13,.fp (encN N)),(14,ints rt),(15,ints ps),(16,hds l),(17,.fp (encN N)),(18,.fp (encHd x)),(20,I e),(23,ints []),(25,I dd)] [] ?_ ?_
        · conv=>whnf
          refine Retell.turn ⟨[],0,[],[]⟩ (TurnOk.mk' _ _ [] [] (OutOk.lift _) rfl (by decide) zb trivial trivial rfl) zw zm
        conv=>whnf
        repeat' (first|((first|refine zs1 ?_|refine zs2 ?_|refine zs3 ?_|refine zs4 ?_|refine zs5 ?_);conv=>whnf)|((first|apply zi1|apply zi2|apply zi3|apply zi4|apply zi5) <;> intro _ <;> conv=>whnf))
        all_goals try contradiction
        all_goals try (exfalso;omega)
        refine VCut.at' (outer:=h.lift) (marks:=[]) 99 [(2,ints rt),(3,I to),(4,hds l),(5,ints ps),(6,.fp (encN N)),(7,.fp (encHd x)),(13,.fp (encN N)),(14,ints rt),(15,ints ps),(16,hds l),(17,.fp (encN N)),(18,.fp (encHd x))] [] ?_ hrest.out
        · conv=>whnf
          refine Retell.turn ⟨[],0,[],[]⟩ (TurnOk.mk' _ _ [] [] (OutOk.lift _) rfl (by decide) zb trivial trivial rfl) zw zm
    · conv=>whnf
      repeat' (first|((first|refine zs1 ?_|refine zs2 ?_|refine zs3 ?_|refine zs4 ?_|refine zs5 ?_);conv=>whnf)|((first|apply zi1|apply zi2|apply zi3|apply zi4|apply zi5) <;> intro _ <;> conv=>whnf))
      refine VCode.lp (outer:=h.lift) (marks:=[]) (fun k : Nat=>[(2,ints rt),(3,I to),(4,hds l),(5,ints ps),(6,.fp (encN N)),(13,.fp (encN N)),(14,ints rt),(15,ints ps),(16,hds l),(17,.fp (encN N)),(28,.gl (.loc 0) 3 (l.take k).length),(150,hds l),(151,I l.length),(152,I k)]) (fun k=>[.flat true ((l.take k).flatMap encHd)]) (fun k=>k ≤ l.length) (fun k=>l.length - k) 0 (Nat.zero_le _) ?_ ?_
      · conv=>whnf
        refine Retell.turn ⟨[0],0,[],[]⟩ (TurnOk.mk' _ _ [] [] (OutOk.lift _) rfl (by decide) zb trivial trivial rfl) zw zm
      · intro k hk
        rcases Nat.lt_or_ge k l.length with h3|h3
        · have hw : l[k]? = some l[k]:=List.getElem?_eq_getElem h3
          have ht : l.take (k + 1) = l.take k ++ [l[k]]:=by rw [List.take_add_one,hw];rfl
          have hl2 : (l.take k).length ≤ 14:=by rw [List.length_take];omega
          generalize l[k] = w at hw ht
          generalize l.take k = W at ht hl2 ⊢
          conv=>whnf
          repeat' (first|((first|refine zs1 ?_|refine zs2 ?_|refine zs3 ?_|refine zs4 ?_|refine zs5 ?_);conv=>whnf)|((first|apply zi1|apply zi2|apply zi3|apply zi4|apply zi5) <;> intro _ <;> conv=>whnf)|(refine VAny.ix encHd_len k rfl rfl hw ?_;conv=>whnf)|(refine VMem.app1 (l:=W) w encHd_len rfl rfl rfl rfl rfl (by omega) ?_;conv=>whnf))
          all_goals try (exfalso;omega)
          refine LEnd.intro (k + 1) (by omega) (by omega) ?_
          rw [ht,List.length_append]
          conv=>whnf
          refine Retell.turn ⟨[3],4,[],[]⟩ (TurnOk.mk' _ _ [] [] (OutOk.lift _) rfl (by decide) zb trivial trivial rfl) zw zm
        · rw [List.take_of_length_le h3]
          have hfl : (l.flatMap encHd).length = l.length * 3:=flat_len encHd_len _
          conv=>whnf
          repeat' (first|((first|refine zs1 ?_|refine zs2 ?_|refine zs3 ?_|refine zs4 ?_|refine zs5 ?_);conv=>whnf)|((first|apply zi1|apply zi2|apply zi3|apply zi4|apply zi5) <;> intro _ <;> conv=>whnf))
          all_goals try (exfalso;omega)
          refine VCall.intro (c15 _) ?_
          conv=>whnf
          repeat' (first|((first|refine zs1 ?_|refine zs2 ?_|refine zs3 ?_|refine zs4 ?_|refine zs5 ?_);conv=>whnf)|((first|apply zi1|apply zi2|apply zi3|apply zi4|apply zi5) <;> intro _ <;> conv=>whnf))
          refine VCall.intro (VC.give (args':=[vN N,hds l,ints ps]) (loc':=[.dead]) [(0,l.flatMap encHd)] [] (OutOk.lift _) zb zf (by exact FmAll.nil) rfl zv (c16 _)) ?_
          conv=>whnf
          repeat' (first|((first|refine zs1 ?_|refine zs2 ?_|refine zs3 ?_|refine zs4 ?_|refine zs5 ?_);conv=>whnf)|((first|apply zi1|apply zi2|apply zi3|apply zi4|apply zi5) <;> intro _ <;> conv=>whnf)|(refine VCall.intro (c17 _) ?_;conv=>whnf)|(refine VCall.intro (c18 _) ?_;conv=>whnf)|(refine VCall.intro (c19 _) ?_;conv=>whnf)|(refine VCall.intro (c20 _) ?_;conv=>whnf)|(refine VCall.intro (c21 _) ?_;conv=>whnf)|(refine VCall.intro (vc_awake _) ?_;conv=>whnf))
          all_goals first|contradiction|(exfalso;omega)|exact VOut.same rfl
end Go.Proofs.YtoeendggmalcpaaGreat

open Go.Vm
open Psg
namespace Go.Proofs.YtoeendggmalcpaaGreat
set_option maxRecDepth 20000
set_option maxHeartbeats 4000000
theorem vc_Drives (N : Nt) (a b hs ps : List Int) (h : Hp) : VC Tryz.prog 7 [vN N,ints a,ints b,ints hs,ints ps] h (B true) h:=by
  have cL:=fun h=>vc_long N [a,b,hs,ps] h (by simp)
  have hlg : lngB N [a,b,hs,ps] = false → N.ws.length ≤ 28 ∧ a.length ≤ 30 ∧ b.length ≤ 30 ∧ hs.length ≤ 30 ∧ ps.length ≤ 30:=by
    unfold lngB
    simp only [List.any_cons,List.any_nil,Bool.or_false,Bool.or_eq_false_iff,decide_eq_false_iff_not]
    omega
  generalize lngB N [a,b,hs,ps] = lb at cL hlg
  refine VC.bodyC 1 Tryz.func7 rfl Tryz.ntmps7 Tryz.call7 (h.grows_refl) rfl ?_;conv=>whnf
  refine VCut.at' (outer:=h.lift) (marks:=[]) 1 [(1,ints a),(2,ints b),(3,ints hs),(4,ints ps),(5,.fp (encN N))] [] ?_ ?_
  · conv=>whnf
    refine Retell.turn ⟨[],1,[(0,encN N)],[]⟩ (TurnOk.mk' _ _ [(0,encN N)] [] (OutOk.lift _) rfl (by decide) zb zf trivial rfl) zw zm
  cases lb with
  | true =>
    conv=>whnf
    repeat' (first|((first|refine zs1 ?_|refine zs2 ?_|refine zs3 ?_|refine zs4 ?_|refine zs5 ?_);conv=>whnf)|((first|apply zi1|apply zi2|apply zi3|apply zi4|apply zi5) <;> intro _ <;> conv=>whnf))
    refine VCall.intro (VC.give (args':=[vN N,intss [a,b,hs,ps]]) (loc':=[.dead]) [(0,[a,b,hs,ps].flatMap encL)] [] (OutOk.lift _) zb zf (by exact FmAll.nil) rfl zv (cL _)) ?_
    conv=>whnf
    repeat' (first|((first|refine zs1 ?_|refine zs2 ?_|refine zs3 ?_|refine zs4 ?_|refine zs5 ?_);conv=>whnf)|((first|apply zi1|apply zi2|apply zi3|apply zi4|apply zi5) <;> intro _ <;> conv=>whnf)|(refine VCall.intro (vc_awake _) ?_;conv=>whnf))
    all_goals try (exfalso;omega)
    exact VOut.same rfl
  | false =>
    obtain ⟨n28,l1,l2,l3,l4⟩:=hlg rfl
    apply suffices_
    · intro hrest
      by_cases q1 : 7 < N.p
      · by_cases q2 : N.p ≤ 10
        · conv=>whnf
          repeat' (first|((first|refine zs1 ?_|refine zs2 ?_|refine zs3 ?_|refine zs4 ?_|refine zs5 ?_);conv=>whnf)|((first|apply zi1|apply zi2|apply zi3|apply zi4|apply zi5) <;> intro _ <;> conv=>whnf))
          refine VCall.intro (VC.give (args':=[vN N,intss [a,b,hs,ps]]) (loc':=[.dead]) [(0,[a,b,hs,ps].flatMap encL)] [] (OutOk.lift _) zb zf (by exact FmAll.nil) rfl zv (cL _)) ?_
          conv=>whnf
          repeat' (first|((first|refine zs1 ?_|refine zs2 ?_|refine zs3 ?_|refine zs4 ?_|refine zs5 ?_);conv=>whnf)|((first|apply zi1|apply zi2|apply zi3|apply zi4|apply zi5) <;> intro _ <;> conv=>whnf)|(refine VCall.intro (vc_awake _) ?_;conv=>whnf))
          all_goals try (exfalso;omega)
          exact VOut.same rfl
        · conv=>whnf
          repeat' (first|((first|refine zs1 ?_|refine zs2 ?_|refine zs3 ?_|refine zs4 ?_|refine zs5 ?_);conv=>whnf)|((first|apply zi1|apply zi2|apply zi3|apply zi4|apply zi5) <;> intro _ <;> conv=>whnf))
          refine VCall.intro (VC.give (args':=[vN N,intss [a,b,hs,ps]]) (loc':=[.dead]) [(0,[a,b,hs,ps].flatMap encL)] [] (OutOk.lift _) zb zf (by exact FmAll.nil) rfl zv (cL _)) ?_
          conv=>whnf
          repeat' (first|((first|refine zs1 ?_|refine zs2 ?_|refine zs3 ?_|refine zs4 ?_|refine zs5 ?_);conv=>whnf)|((first|apply zi1|apply zi2|apply zi3|apply zi4|apply zi5) <;> intro _ <;> conv=>whnf))
          all_goals try (exfalso;omega)
          refine VCut.at' (outer:=h.lift) (marks:=[]) 1 [(1,ints a),(2,ints b),(3,ints hs),(4,ints ps),(5,.fp (encN N))] [] ?_ hrest.out
          conv=>whnf
          refine Retell.turn ⟨[],1,[],[]⟩ (TurnOk.mk' _ _ [] [] (OutOk.lift _) rfl (by decide) zb trivial trivial rfl) zw zm
      · conv=>whnf
        repeat' (first|((first|refine zs1 ?_|refine zs2 ?_|refine zs3 ?_|refine zs4 ?_|refine zs5 ?_);conv=>whnf)|((first|apply zi1|apply zi2|apply zi3|apply zi4|apply zi5) <;> intro _ <;> conv=>whnf))
        refine VCall.intro (VC.give (args':=[vN N,intss [a,b,hs,ps]]) (loc':=[.dead]) [(0,[a,b,hs,ps].flatMap encL)] [] (OutOk.lift _) zb zf (by exact FmAll.nil) rfl zv (cL _)) ?_
        conv=>whnf
        repeat' (first|((first|refine zs1 ?_|refine zs2 ?_|refine zs3 ?_|refine zs4 ?_|refine zs5 ?_);conv=>whnf)|((first|apply zi1|apply zi2|apply zi3|apply zi4|apply zi5) <;> intro _ <;> conv=>whnf))
        all_goals try (exfalso;omega)
        refine VCut.at' (outer:=h.lift) (marks:=[]) 1 [(1,ints a),(2,ints b),(3,ints hs),(4,ints ps),(5,.fp (encN N))] [] ?_ hrest.out
        conv=>whnf
        refine Retell.turn ⟨[],1,[],[]⟩ (TurnOk.mk' _ _ [] [] (OutOk.lift _) rfl (by decide) zb trivial trivial rfl) zw zm
    · have c1:=fun h=>vc_CloneNet N h (by omega)
      have c2:=fun h=>vc_kcloneI a h (by omega)
      have c3:=fun h=>vc_kcloneI b h (by omega)
      have c4:=fun h=>vc_kcloneI hs h (by omega)
      have c5:=fun h=>vc_kcloneI ps h (by omega)
      have c6:=fun h=>vc_Net N h (by omega)
      have c7:=fun h=>vc_Brings N a b hs h (by omega) (by omega) (by omega) (by omega)
      have c8:=fun h=>vc_rBrings N a b hs h (by omega) (by omega) (by omega) (by omega)
      have c9:=fun h=>vc_Bars N a b ps h (by omega) (by omega) (by omega) (by omega)
      have c10:=fun h=>vc_rBars N a b ps h (by omega) (by omega) (by omega) (by omega)
      have c11:=fun h=>vc_rMost N a b h (by omega) (by omega) (by omega)
      have c12:=fun h=>vc_Drive N a b h (by omega) (by omega) (by omega)
      have c13:=fun h=>vc_Cut N a b h (by omega) (by omega) (by omega)
      have c14:=fun h=>vc_Narrow N a b h (by omega) (by omega) (by omega)
      have c15:=fun h=>vc_rNarrow N a b h (by omega) (by omega) (by omega)
      have c18:=fun h=>vc_equal N N h (by omega) (by omega)
      have c19:=fun h=>vc_kequalI a a h (by omega) (by omega)
      have c20:=fun h=>vc_kequalI b b h (by omega) (by omega)
      have c21:=fun h=>vc_kequalI hs hs h (by omega) (by omega)
      have c22:=fun h=>vc_kequalI ps ps h (by omega) (by omega)
      rw [decide_eq_true rfl] at c18 c19 c20 c21 c22
      generalize brgN N a b hs = R1 at c7 c8
      generalize brsN N a b ps = R2 at c9 c10
      conv=>whnf
      refine zs6 [(1,10),(3,10),(5,10),(7,10),(9,10)] ?_
      conv=>whnf
      repeat' (first|((first|refine zs1 ?_|refine zs2 ?_|refine zs3 ?_|refine zs4 ?_|refine zs5 ?_);conv=>whnf)|((first|apply zi1|apply zi2|apply zi3|apply zi4|apply zi5) <;> intro _ <;> conv=>whnf)|(refine VCall.intro (c1 _) ?_;conv=>whnf)|(refine VCall.intro (c2 _) ?_;conv=>whnf)|(refine VCall.intro (c3 _) ?_;conv=>whnf)|(refine VCall.intro (c4 _) ?_;conv=>whnf)|(refine VCall.intro (c5 _) ?_;conv=>whnf)|(refine VCall.intro (c6 _) ?_;conv=>whnf))
      refine VCut.at' (outer:=h.lift) (marks:=[]) 3 [(1,ints a),(2,ints b),(3,ints hs),(4,ints ps),(5,.fp (encN N)),(11,.fp (encN N)),(12,ints a),(13,ints b),(14,ints hs),(15,ints ps),(16,.fp (encN N))] [] ?_ ?_
      · conv=>whnf
        refine Retell.turn ⟨[],2,[(0,encN N),(1,encN N)],[]⟩ (TurnOk.mk' _ _ [(0,encN N),(1,encN N)] [] (OutOk.lift _) rfl (by decide) zb zf trivial rfl) zw zm
      conv=>whnf
      repeat' (first|((first|refine zs1 ?_|refine zs2 ?_|refine zs3 ?_|refine zs4 ?_|refine zs5 ?_);conv=>whnf)|((first|apply zi1|apply zi2|apply zi3|apply zi4|apply zi5) <;> intro _ <;> conv=>whnf)|(refine VCall.intro (c7 _) ?_;conv=>whnf)|(refine VCall.intro (c8 _) ?_;conv=>whnf))
      all_goals try contradiction
      all_goals try (exfalso;omega)
      refine VCut.at' (outer:=h.lift) (marks:=[]) 3 [(1,ints a),(2,ints b),(3,ints hs),(4,ints ps),(5,.fp (encN N)),(11,.fp (encN N)),(12,ints a),(13,ints b),(14,ints hs),(15,ints ps),(16,.fp (encN N))] [] ?_ ?_
      · conv=>whnf
        refine Retell.turn ⟨[],0,[],[]⟩ (TurnOk.mk' _ _ [] [] (OutOk.lift _) rfl (by decide) zb trivial trivial rfl) zw zm
      conv=>whnf
      repeat' (first|((first|refine zs1 ?_|refine zs2 ?_|refine zs3 ?_|refine zs4 ?_|refine zs5 ?_);conv=>whnf)|((first|apply zi1|apply zi2|apply zi3|apply zi4|apply zi5) <;> intro _ <;> conv=>whnf)|(refine VCall.intro (c9 _) ?_;conv=>whnf)|(refine VCall.intro (c10 _) ?_;conv=>whnf))
      all_goals try contradiction
      all_goals try (exfalso;omega)
      refine VCut.at' (outer:=h.lift) (marks:=[]) 4 [(1,ints a),(2,ints b),(3,ints hs),(4,ints ps),(5,.fp (encN N)),(11,.fp (encN N)),(12,ints a),(13,ints b),(14,ints hs),(15,ints ps),(16,.fp (encN N))] [] ?_ ?_
      · conv=>whnf
        refine Retell.turn ⟨[],0,[],[]⟩ (TurnOk.mk' _ _ [] [] (OutOk.lift _) rfl (by decide) zb trivial trivial rfl) zw zm
      unfold mosN at c11
      unfold drvV at c12
      unfold cutV at c13
      unfold narV at c14 c15
      by_cases h0 : pas N a b = 0
      · obtain ⟨n,hN,hP,_,_,_,_⟩:=pas_ok h0
        have hn1:=hN.n1
        have hms:=most_same h0
        have hbo:=drv_both hN h0 hP
        have hD:=dvP_ok hN hP
        have hl1:=hD.dr.bnd.len
        have hl2:=hD.mt.len
        have hl3:=narL_len N a b N.ws.length
        rw [if_pos h0] at c11 c12 c13 c14 c15
        rw [← hms] at c11
        have c16:=fun h=>vc_rBrings N a b (dvP N a b).1 h (by omega) (by omega) (by omega) (by omega)
        have c17:=fun h=>vc_rBars N a b (dvP N a b).2.2 h (by omega) (by omega) (by omega) (by omega)
        rw [hbo.1] at c16
        rw [hbo.2] at c17
        have c23:=fun h=>vc_kequalI (narL N a b N.ws.length) (narL N a b N.ws.length) h (by omega) (by omega)
        rw [decide_eq_true rfl] at c23
        generalize narL N a b N.ws.length = Q at c14 c15 c23
        generalize dvP N a b = W at c11 c12 c13 c16 c17
        conv=>whnf
        repeat' (first|((first|refine zs1 ?_|refine zs2 ?_|refine zs3 ?_|refine zs4 ?_|refine zs5 ?_);conv=>whnf)|((first|apply zi1|apply zi2|apply zi3|apply zi4|apply zi5) <;> intro _ <;> conv=>whnf)|(refine VCall.intro (c11 _) ?_;conv=>whnf)|(refine VCall.intro (c12 _) ?_;conv=>whnf)|(refine VCall.intro (c13 _) ?_;conv=>whnf))
        all_goals try contradiction
        all_goals try (exfalso;omega)
        refine VCut.at' (outer:=h.lift) (marks:=[]) 1 [(1,ints a),(2,ints b),(3,ints hs),(4,ints ps),(5,.fp (encN N)),(11,.fp (encN N)),(12,ints a),(13,ints b),(14,ints hs),(15,ints ps),(16,.fp (encN N)),(18,I 0),(21,I W.2.1),(22,ints W.1),(23,ints W.2.2)] [] ?_ ?_
        · conv=>whnf
          refine Retell.turn ⟨[],0,[],[]⟩ (TurnOk.mk' _ _ [] [] (OutOk.lift _) rfl (by decide) zb trivial trivial rfl) zw zm
        conv=>whnf
        repeat' (first|((first|refine zs1 ?_|refine zs2 ?_|refine zs3 ?_|refine zs4 ?_|refine zs5 ?_);conv=>whnf)|((first|apply zi1|apply zi2|apply zi3|apply zi4|apply zi5) <;> intro _ <;> conv=>whnf)|(refine VCall.intro (c16 _) ?_;conv=>whnf)|(refine VCall.intro (c17 _) ?_;conv=>whnf))
        all_goals try contradiction
        all_goals try (exfalso;omega)
        refine VCut.at' (outer:=h.lift) (marks:=[]) 99 [(1,ints a),(2,ints b),(3,ints hs),(4,ints ps),(5,.fp (encN N)),(11,.fp (encN N)),(12,ints a),(13,ints b),(14,ints hs),(15,ints ps),(16,.fp (encN N))] [] ?_ ?_
        · conv=>whnf
          refine Retell.turn ⟨[],0,[],[]⟩ (TurnOk.mk' _ _ [] [] (OutOk.lift _) rfl (by decide) zb trivial trivial rfl) zw zm
        conv=>whnf
        repeat' (first|((first|refine zs1 ?_|refine zs2 ?_|refine zs3 ?_|refine zs4 ?_|refine zs5 ?_);conv=>whnf)|((first|apply zi1|apply zi2|apply zi3|apply zi4|apply zi5) <;> intro _ <;> conv=>whnf)|(refine VCall.intro (c14 _) ?_;conv=>whnf)|(refine VCall.intro (c15 _) ?_;conv=>whnf)|(refine VCall.intro (c18 _) ?_;conv=>whnf)|(refine VCall.intro (c19 _) ?_;conv=>whnf)|(refine VCall.intro (c20 _) ?_;conv=>whnf)|(refine VCall.intro (c21 _) ?_;conv=>whnf)|(refine VCall.intro (c22 _) ?_;conv=>whnf)|(refine VCall.intro (c23 _) ?_;conv=>whnf)|(refine VCall.intro (vc_awake _) ?_;conv=>whnf))
        all_goals first|contradiction|(exfalso;omega)|exact VOut.same rfl
      · rw [if_neg h0] at c11 c12 c13 c14 c15
        have c23:=fun h=>vc_kequalI [] [] h (by decide) (by decide)
        rw [decide_eq_true rfl] at c23
        generalize pas N a b = E at c11 c12 c13 c14 c15 h0
        conv=>whnf
        repeat' (first|((first|refine zs1 ?_|refine zs2 ?_|refine zs3 ?_|refine zs4 ?_|refine zs5 ?_);conv=>whnf)|((first|apply zi1|apply zi2|apply zi3|apply zi4|apply zi5) <;> intro _ <;> conv=>whnf)|(refine VCall.intro (c11 _) ?_;conv=>whnf)|(refine VCall.intro (c12 _) ?_;conv=>whnf)|(refine VCall.intro (c13 _) ?_;conv=>whnf))
        all_goals try contradiction
        all_goals try (exfalso;omega)
        refine VCut.at' (outer:=h.lift) (marks:=[]) 1 [(1,ints a),(2,ints b),(3,ints hs),(4,ints ps),(5,.fp (encN N)),(11,.fp (encN N)),(12,ints a),(13,ints b),(14,ints hs),(15,ints ps),(16,.fp (encN N)),(18,I E),(21,I 0),(22,.nilslice),(23,.nilslice)] [] ?_ ?_
        · conv=>whnf
          refine Retell.turn ⟨[],0,[],[]⟩ (TurnOk.mk' _ _ [] [] (OutOk.lift _) rfl (by decide) zb trivial trivial rfl) zw zm
        conv=>whnf
        repeat' (first|((first|refine zs1 ?_|refine zs2 ?_|refine zs3 ?_|refine zs4 ?_|refine zs5 ?_);conv=>whnf)|((first|apply zi1|apply zi2|apply zi3|apply zi4|apply zi5) <;> intro _ <;> conv=>whnf))
        all_goals try contradiction
        all_goals try (exfalso;omega)
        refine VCut.at' (outer:=h.lift) (marks:=[]) 2 [(1,ints a),(2,ints b),(3,ints hs),(4,ints ps),(5,.fp (encN N)),(11,.fp (encN N)),(12,ints a),(13,ints b),(14,ints hs),(15,ints ps),(16,.fp (encN N))] [] ?_ ?_
        · conv=>whnf
          refine Retell.turn ⟨[],0,[],[]⟩ (TurnOk.mk' _ _ [] [] (OutOk.lift _) rfl (by decide) zb trivial trivial rfl) zw zm
        conv=>whnf
        repeat' (first|((first|refine zs1 ?_|refine zs2 ?_|refine zs3 ?_|refine zs4 ?_|refine zs5 ?_);conv=>whnf)|((first|apply zi1|apply zi2|apply zi3|apply zi4|apply zi5) <;> intro _ <;> conv=>whnf)|(refine VCall.intro (c14 _) ?_;conv=>whnf)|(refine VCall.intro (c15 _) ?_;conv=>whnf))
        refine VCut.at' (outer:=h.lift) (marks:=[]) 99 [(1,ints a),(2,ints b),(3,ints hs),(4,ints ps),(5,.fp (encN N)),(11,.fp (encN N)),(12,ints a),(13,ints b),(14,ints hs),(15,ints ps),(16,.fp (encN N)),(18,I E),(20,I E),(22,ints []),(23,ints [])] [] ?_ ?_
        · conv=>whnf
          refine Retell.turn ⟨[],0,[],[]⟩ (TurnOk.mk' _ _ [] [] (OutOk.lift _) rfl (by decide) zb trivial trivial rfl) zw zm
        conv=>whnf
        repeat' (first|((first|refine zs1 ?_|refine zs2 ?_|refine zs3 ?_|refine zs4 ?_|refine zs5 ?_);conv=>whnf)|((first|apply zi1|apply zi2|apply zi3|apply zi4|apply zi5) <;> intro _ <;> conv=>whnf)|(refine VCall.intro (c14 _) ?_;conv=>whnf)|(refine VCall.intro (c15 _) ?_;conv=>whnf)|(refine VCall.intro (c18 _) ?_;conv=>whnf)|(refine VCall.intro (c19 _) ?_;conv=>whnf)|(refine VCall.intro (c20 _) ?_;conv=>whnf)|(refine VCall.intro (c21 _) ?_;conv=>whnf)|(refine VCall.intro (c22 _) ?_;conv=>whnf)|(refine VCall.intro (c23 _) ?_;conv=>whnf)|(refine VCall.intro (vc_awake _) ?_;conv=>whnf))
        all_goals first|contradiction|(exfalso;omega)|exact VOut.same rfl
end Go.Proofs.YtoeendggmalcpaaGreat

open Go.Vm
open Psg
namespace Go.Joins
open Go.ChangeShapes Go.WideShapes Go.RowKit Go.Deep Go.WideElems Go.Maps
end Go.Joins
namespace Go.Vm
structure Seg (W : World) (a : List D) (cs : List Value) (o m : Nat) : Prop where
  dr : DRs (fzW W) a ((cs.drop o).take m)
  one : ∀ v ∈ (cs.drop o).take m,v.oneCell' = true
theorem Seg.app {W : World} {a b : List D} {cs : List Value} {o m k : Nat} (h : Seg W a cs o m) (g : Seg W b cs (o + m) k) : Seg W (a ++ b) cs o (m + k):=by
  have e : (cs.drop o).take (m + k) = (cs.drop o).take m ++ (cs.drop (o + m)).take k:=by rw [List.take_add,List.drop_drop]
  refine ⟨by rw [e];exact DRs.append h.dr g.dr,fun v hv=>?_⟩
  rw [e] at hv
  rcases List.mem_append.1 hv with hv|hv
  · exact h.one v hv
  · exact g.one v hv
theorem Seg.all {W : World} {a : List D} {cs : List Value} {m : Nat} (h : Seg W a cs 0 m) (hl : cs.length = m) : DRs (fzW W) a cs ∧ ∀ v ∈ cs,v.oneCell' = true:=by
  have e : (cs.drop 0).take m = cs:=by rw [List.drop_zero,List.take_of_length_le (by omega)]
  have h1:=h.dr
  have h2:=h.one
  rw [e] at h1 h2
  exact ⟨h1,h2⟩
end Go.Vm
namespace Go.Proofs.YtoeendggmalcpaaGreat
open Go.ChangeShapes Go.WideShapes Go.ChangeAt Go.RowKit
theorem ownKn : ownKnob Tryz.prog.godebug = none:=by kernel_rfl
theorem laidOut : laidOutB Tryz.prog = true:=by kernel_rfl
end Go.Proofs.YtoeendggmalcpaaGreat

open Go.Vm
open Psg
namespace Go.Proofs.YtoeendggmalcpaaGreat
set_option maxRecDepth 20000
set_option maxHeartbeats 4000000
/-! ### A calendar -/
def calR (D : List Int) (n : Nat) : Rw:=(List.range n).map (rowD D)
theorem rowD_len {D : List Int} (hl : D.length = 160) {p : Nat} (hp : p < 10) : (rowD D p).length = 16:=by
  unfold rowD
  rw [List.length_take,List.length_drop];omega
theorem cal_sz {D : List Int} (hl : D.length = 160) {n : Nat} (hn : n ≤ 10) : Sz n (calR D n):=by
  refine ⟨by unfold calR;rw [List.length_map,List.length_range],fun r hr=>?_⟩
  obtain ⟨p,hp,rfl⟩:=List.mem_map.1 hr
  exact rowD_len hl (by have:=List.mem_range.1 hp;omega)
theorem cal_at {D : List Int} {n : Nat} {p s : Int} (hp : 0 ≤ p ∧ p < n) (hs : Pp s) : atR (calR D n) p s = atD D p s:=by
  unfold Pp at hs
  unfold atR calR atD rowD ix
  rw [List.getD_eq_getElem?_getD (l:=List.map _ _),List.getElem?_map,List.getElem?_range (by omega)]
  show (List.take 16 (List.drop (16 * p.toNat) D)).getD s.toNat 1001 = _
  rw [List.getD_eq_getElem?_getD,List.getElem?_take_of_lt (by omega),List.getElem?_drop,← List.getD_eq_getElem?_getD]
  congr 1
  omega
theorem cal_val {D : List Int} (hl : D.length = 160) {n : Nat} (hn : n ≤ 10) (hc : ∀ p s : Int,(0 ≤ p ∧ p < n) → Pp s → 0 ≤ atD D p s ∧ atD D p s ≤ 1001) : valR (calR D n) = true:=by
  rw [valR_iff]
  intro r hr d hd
  obtain ⟨k,hk,rfl⟩:=mem_at (cal_sz hl hn) hr hd
  rw [cal_at hk.1 hk.2]
  exact hc _ _ hk.1 hk.2
theorem vc_cloneF (l : List Int) (h : Hp) (h0 : 0 < l.length) (hl : l.length ≤ 4000000) : VC Tryz.prog 66 [ints l] h (ints l) h:=by
  refine VC.body Tryz.func66 rfl Tryz.ntmps66 Tryz.call66 (h.grows_refl) rfl ?_;conv=>whnf
  repeat' (first|((first|refine zs1 ?_|refine zs2 ?_|refine zs3 ?_|refine zs4 ?_|refine zs5 ?_);conv=>whnf)|((first|apply zi1|apply zi2|apply zi3|apply zi4|apply zi5) <;> intro _ <;> conv=>whnf))
  refine VMem.appN (l:=([] : List Int)) encI_len rfl rfl rfl rfl rfl (by show 0 + l.length ≤ _;omega) ?_
  conv=>whnf
  repeat' (first|((first|refine zs1 ?_|refine zs2 ?_|refine zs3 ?_|refine zs4 ?_|refine zs5 ?_);conv=>whnf)|((first|apply zi1|apply zi2|apply zi3|apply zi4|apply zi5) <;> intro _ <;> conv=>whnf))
  show VOut h _ (.gl (.loc 1) 1 (0 + l.length)) _ _
  rw [Nat.zero_add]
  refine VOut.data 2 [(1,l.flatMap Vm.encI)] [] rfl zf (by exact FmAll.nil) zw
def ksC (c : Cm) : List Vm.D:=c.map fun e=>dKy e.1
def vsC (c : Cm) : List Vm.D:=c.map fun e=>dSt e.2
def encTr (N : Nt) (x : Hd) (D : List Int) (c : Cm) : List Vm.D:=DI N.p :: .sl 8 N.ws.length (N.ws.flatMap encWy) :: DI x.p :: DI x.d :: DI x.s :: (D.map DI ++ [.mp (ksC c) (vsC c)])
theorem fz_trip {t : TCtx} {loc : List Blk} {j : Nat} {i : Vm.Id} {N : Nt} {x : Hd} {D : List Int} {c : Cm} (hl : loc[j]? = some (trB N x D i)) (hm : VTo t (.map i) (.fm (ksC c) (vsC c))) : ∃ b l,loc[j]? = some b ∧ b.row = some (true,l) ∧ RowTo t l ((encTr N x D c).map Vm.D.v):=by
  refine ⟨_,_,hl,rfl,RowTo.vtos ?_⟩
  have e : (encTr N x D c).map Vm.D.v = preT N x ++ D.map I ++ [.fm (ksC c) (vsC c)]:=by
    unfold encTr preT
    simp only [List.map_cons,List.map_append,List.map_map,List.map_nil,List.cons_append,List.nil_append]
    rfl
  rw [e,List.append_assoc,List.append_assoc]
  exact VTos.app (VTos.app (VTos.cons hm VTos.nil) (VTos.ints t D)) (VTos.pre t N x)
theorem fm_trip {t : TCtx} {loc : List Blk} {j : Nat} {c : Cm} (hl : loc[j]? = some (.map (cmE c))) : ∃ es,loc[j]? = some (.map es) ∧ EsTo t es (ksC c) (vsC c) :=
  ⟨_,hl,by rw [cmE_fst];exact RowTo.dv _ _,by rw [cmE_snd];exact RowTo.dv _ _⟩
theorem tr_drop {D : List Int} {post : List Vm.D} {k : Nat} (hl : D.length = 160) (hk : k < 10) : (D.map DI ++ post).drop ((k : Int).toNat * 16) = (rowD D k).flatMap Vm.encI ++ ((D.drop (16 * k + 16)).map DI ++ post):=by
  have e : ∀ l : List Int,l.flatMap Vm.encI = l.map DI:=fun l=>by rw [List.map_eq_flatMap];rfl
  rw [e,Int.toNat_natCast,List.drop_append_of_le_length (by rw [List.length_map];omega),← List.map_drop,← List.append_assoc,← List.map_append]
  unfold rowD
  rw [Nat.mul_comm k 16,← List.drop_drop,List.take_append_drop]
def clV (N : Nt) (x : Hd) : Rw:=if hrd N x = 0 then calR (bgn N.ws x).D N.p.toNat else []
theorem vc_Calendar (N : Nt) (x : Hd) (h : Hp) (hn : N.ws.length ≤ 4000000) : VC Tryz.prog 31 [vN N,vHd x] h (.tuple [intss (clV N x),I (hrd N x)]) h:=by
  obtain ⟨L,hL⟩ : ∃ L,L = clV N x:=⟨_,rfl⟩
  rw [← hL]
  unfold clV at hL
  have cH:=fun h=>vc_herded N x h hn
  by_cases h0 : hrd N x = 0
  · obtain ⟨n,hN,hx⟩:=hrd_ok h0
    rw [h0] at cH ⊢
    rw [if_pos h0] at hL
    have hp:=hN.p
    have hn1:=hN.n1
    have cB:=fun h=>vc_begun0 N x h hN hx
    have hbl:=bgn_len hN hx
    rw [show N.p.toNat = n by omega] at hL
    generalize bgn N.ws x = b at *
    obtain ⟨D,c,q⟩:=b
    dsimp only at *
    refine VC.body Tryz.func31 rfl Tryz.ntmps31 Tryz.call31 (h.grows_refl) rfl ?_;conv=>whnf
    repeat' (first|((first|refine zs1 ?_|refine zs2 ?_|refine zs3 ?_|refine zs4 ?_|refine zs5 ?_);conv=>whnf)|((first|apply zi1|apply zi2|apply zi3|apply zi4|apply zi5) <;> intro _ <;> conv=>whnf)|(refine VCall.intro (cH _) ?_;conv=>whnf)|(refine VCall.intro (cB _) ?_;conv=>whnf))
    refine VCode.lp (outer:=h.lift) (marks:=[]) (fun k : Nat=>[(7,.fp (encTr N x D c)),(8,.gl (.loc 0) 1 (calR D k).length),(20,I N.p),(21,I k)]) (fun k=>[.flat true ((calR D k).flatMap encL)]) (fun k=>k ≤ n) (fun k=>n - k) 0 (Nat.zero_le _) ?_ ?_
    · rw [show calR D 0 = [] from rfl]
      conv=>whnf
      refine Retell.turn ⟨[4],4,[(2,encTr N x D c)],[(3,ksC c,vsC c)]⟩ (TurnOk.mk' _ _ [(2,encTr N x D c)] [(3,ksC c,vsC c)] (OutOk.lift _) rfl (by decide) zb ⟨fz_trip rfl (VTo.fmMap rfl),trivial⟩ ⟨fm_trip rfl,trivial⟩ rfl) zw zm
    · intro k hk
      have hcl : (calR D k).length = k:=by unfold calR;rw [List.length_map,List.length_range]
      rcases Nat.lt_or_ge k n with h1|h1
      · have hst : calR D (k + 1) = calR D k ++ [rowD D k]:=by unfold calR;rw [List.range_succ,List.map_append];rfl
        have hr16:=rowD_len (D:=D) hbl (p:=k) (by omega)
        have hdr:=fun post=>tr_drop (post:=post) hbl (k:=k) (by omega)
        have e16 : V.fs 1 16 ((rowD D k).flatMap Vm.encI) = ints (rowD D k):=by unfold ints;rw [hr16]
        have cF:=fun h=>vc_cloneF (rowD D k) h (by omega) (by omega)
        generalize calR D k = W at hst hcl ⊢
        generalize rowD D k = r at hst hr16 hdr e16 cF
        conv=>whnf
        repeat' (first|((first|refine zs1 ?_|refine zs2 ?_|refine zs3 ?_|refine zs4 ?_|refine zs5 ?_);conv=>whnf)|((first|apply zi1|apply zi2|apply zi3|apply zi4|apply zi5) <;> intro _ <;> conv=>whnf))
        all_goals try (exfalso;omega)
        refine VAny.intro (v:=.fp (r.flatMap Vm.encI)) ⟨by omega,r.flatMap Vm.encI,(D.drop (16 * k + 16)).map DI ++ [.mp (ksC c) (vsC c)],(by show (D.map DI ++ [Vm.D.mp (ksC c) (vsC c)]).drop ((k : Int).toNat * 16) = _;exact hdr _),rfl⟩ ?_
        conv=>whnf
        repeat' (first|((first|refine zs1 ?_|refine zs2 ?_|refine zs3 ?_|refine zs4 ?_|refine zs5 ?_);conv=>whnf)|((first|apply zi1|apply zi2|apply zi3|apply zi4|apply zi5) <;> intro _ <;> conv=>whnf))
        refine VMem.sliceFp (n:=16) (esz:=1) rfl rfl rfl (by rw [flat_len encI_len,hr16]) ?_
        rw [e16]
        conv=>whnf
        repeat' (first|((first|refine zs1 ?_|refine zs2 ?_|refine zs3 ?_|refine zs4 ?_|refine zs5 ?_);conv=>whnf)|((first|apply zi1|apply zi2|apply zi3|apply zi4|apply zi5) <;> intro _ <;> conv=>whnf)|(refine VCall.intro (cF _) ?_;conv=>whnf)|(refine VMem.app1 (l:=W) r encL_len rfl rfl rfl rfl rfl (by omega) ?_;conv=>whnf))
        refine LEnd.intro (k + 1) (by omega) (by omega) ?_
        rw [hst,List.length_append]
        conv=>whnf
        refine Retell.turn ⟨[2],3,[],[]⟩ (TurnOk.mk' _ _ [] [] (OutOk.lift _) rfl (by decide) zb trivial trivial rfl) zw zm
      · obtain rfl : k = n:=by omega
        rw [← hL]
        conv=>whnf
        repeat' (first|((first|refine zs1 ?_|refine zs2 ?_|refine zs3 ?_|refine zs4 ?_|refine zs5 ?_);conv=>whnf)|((first|apply zi1|apply zi2|apply zi3|apply zi4|apply zi5) <;> intro _ <;> conv=>whnf))
        all_goals try (exfalso;omega)
        refine VOut.data 1 [(0,L.flatMap encL)] [] rfl zf (by exact FmAll.nil) zw
  · rw [if_neg h0] at hL
    rw [hL]
    generalize hrd N x = e at cH h0
    refine VC.body Tryz.func31 rfl Tryz.ntmps31 Tryz.call31 (h.grows_refl) rfl ?_;conv=>whnf
    repeat' (first|((first|refine zs1 ?_|refine zs2 ?_|refine zs3 ?_|refine zs4 ?_|refine zs5 ?_|refine zs6 [] ?_);conv=>whnf)|((first|apply zi1|apply zi2|apply zi3|apply zi4|apply zi5) <;> intro _ <;> conv=>whnf)|(refine VCall.intro (cH _) ?_;conv=>whnf))
    · refine VOut.data 2 [] [] rfl zf (by exact FmAll.nil) zw
    all_goals (rename_i hh;exact absurd (by omega) h0)
theorem mn_min (f : Nat → Int) (k : Nat) : mn f (k + 1) = min (mn f k) (f (k + 1)):=by
  rw [mn];split <;> omega
theorem vc_Min (l : List Int) (h : Hp) (hl : l.length ≤ 4000000) (h0 : 0 < l.length) : VC Tryz.prog 65 [ints l] h (I (mn (fun s=>l.getD s 1001) (l.length - 1))) h:=by
  have hg : ∀ k,k < l.length → l[k]? = some (l.getD k 1001):=fun k hk=>by
    rw [List.getD_eq_getElem?_getD,List.getElem?_eq_getElem hk];rfl
  generalize hf : (fun s=>l.getD s 1001) = f
  have hg : ∀ k,k < l.length → l[k]? = some (f k):=fun k hk=>by rw [← hf];exact hg k hk
  clear hf
  refine VC.body Tryz.func65 rfl Tryz.ntmps65 Tryz.call65 (h.grows_refl) rfl ?_;conv=>whnf
  repeat' (first|((first|refine zs1 ?_|refine zs2 ?_|refine zs3 ?_|refine zs4 ?_|refine zs5 ?_|refine zs6 [] ?_);conv=>whnf)|((first|apply zi1|apply zi2|apply zi3|apply zi4|apply zi5) <;> intro _ <;> conv=>whnf)|(refine VAny.ix encI_len 0 rfl rfl (hg 0 h0) ?_;conv=>whnf))
  all_goals try (exfalso;omega)
  refine VCode.lp (fun k : Nat=>[(0,ints l),(3,I (mn f k)),(4,I ((k + 1 : Nat) : Int))]) (fun _=>[]) (fun k=>k < l.length) (fun k=>l.length - k) 0 h0 ?_ ?_
  · rw [show mn f 0 = f 0 from rfl]
    conv=>whnf
    refine Retell.turn ⟨[],0,[],[]⟩ (TurnOk.mk' _ _ [] [] (OutOk.lift _) rfl (by decide) zb trivial trivial rfl) zw zm
  · rintro k hk
    conv=>whnf
    refine VIte.dec (fun h1=>?_) (fun h1=>?_)
    · have hx:=hg (k + 1) (by omega)
      have hst:=mn_min f k
      generalize hq : mn f (k + 1) = q at hst
      generalize mn f k = m at hst
      generalize f (k + 1) = y at hx hst
      conv=>whnf
      repeat' (first|((first|refine zs1 ?_|refine zs2 ?_|refine zs3 ?_|refine zs4 ?_|refine zs5 ?_|refine zs6 [] ?_);conv=>whnf)|((first|apply zi1|apply zi2|apply zi3|apply zi4|apply zi5) <;> intro _ <;> conv=>whnf)|(refine VAny.ix encI_len (k + 1) rfl rfl hx ?_;conv=>whnf))
      refine LEnd.intro (k + 1) (by omega) (by omega) ?_
      rw [hq,hst]
      conv=>whnf
      refine Retell.turn ⟨[],0,[],[]⟩ (TurnOk.mk' _ _ [] [] (OutOk.lift _) rfl (by decide) zb trivial trivial rfl) zw zm
    · obtain rfl : k = l.length - 1:=by omega
      conv=>whnf
      repeat' (first|((first|refine zs1 ?_|refine zs2 ?_|refine zs3 ?_|refine zs4 ?_|refine zs5 ?_|refine zs6 [] ?_);conv=>whnf)|((first|apply zi1|apply zi2|apply zi3|apply zi4|apply zi5) <;> intro _ <;> conv=>whnf))
      exact VOut.same rfl
end Go.Proofs.YtoeendggmalcpaaGreat

open Go.Vm
open Psg
namespace Go.Proofs.YtoeendggmalcpaaGreat
set_option maxRecDepth 20000
set_option maxHeartbeats 4000000
theorem vc_IndexFL (T : List (List Int)) (q : List Int → Bool) (g : FuncId) (f caps : List D) (hl : T.length ≤ 4000000) (hso : ∀ e ∈ T,∀ h : Hp,VC Tryz.prog g (D.vs f ++ [ints e] ++ D.vs caps) h (B (q e)) h) (h : Hp) :
    VC Tryz.prog 82 [intss T,.func (.func g) (D.vs f) (D.vs caps)] h (I (fidx q T 0)) h:=by
  obtain ⟨E,hE⟩ : ∃ E,E = fidx q T 0:=⟨_,rfl⟩
  rw [← hE]
  refine VC.body Tryz.func82 rfl Tryz.ntmps82 Tryz.call82 (h.grows_refl) rfl ?_;conv=>whnf
  rw [rens_dvs,rens_dvs]
  repeat' (first|((first|refine zs1 ?_|refine zs2 ?_|refine zs3 ?_|refine zs4 ?_|refine zs5 ?_|refine zs6 [] ?_);conv=>whnf)|((first|apply zi1|apply zi2|apply zi3|apply zi4|apply zi5) <;> intro _ <;> conv=>whnf))
  refine VCode.lp (fun k : Nat=>[(0,intss T),(1,.func (.func g) (D.vs f) (D.vs caps)),(7,I T.length),(8,I k)]) (fun _=>[]) (fun k=>k ≤ T.length ∧ E = fidx q (T.drop k) k) (fun k=>T.length - k) 0 ⟨Nat.zero_le _,hE⟩ ?_ ?_
  · conv=>whnf
    refine Retell.turn ⟨[],0,[],[]⟩ (TurnOk.mk' _ _ [] [] (OutOk.lift _) rfl (by decide) zb trivial trivial rfl) zw zm
  · rintro k ⟨h1,h2⟩
    conv=>whnf
    refine VIte.dec (fun h3=>?_) (fun h3=>?_)
    · have ha : T[k]? = some T[k]:=List.getElem?_eq_getElem (by omega)
      have hm:=hso T[k] (List.getElem_mem (by omega))
      generalize T[k] = a at ha hm
      rw [fidx_at ha] at h2
      conv=>whnf
      repeat' (first|((first|refine zs1 ?_|refine zs2 ?_|refine zs3 ?_|refine zs4 ?_|refine zs5 ?_|refine zs6 [] ?_);conv=>whnf)|((first|apply zi1|apply zi2|apply zi3|apply zi4|apply zi5) <;> intro _ <;> conv=>whnf)|(refine VAny.ix encL_len k (by omega) rfl ha ?_;conv=>whnf))
      refine VCall.intro (hm _) ?_
      conv=>whnf
      cases hq : q a
      · rw [hq] at h2
        conv=>whnf
        repeat (first|((first|refine zs1 ?_|refine zs2 ?_|refine zs3 ?_|refine zs4 ?_|refine zs5 ?_|refine zs6 [] ?_);conv=>whnf))
        refine LEnd.intro (k + 1) ⟨by omega,h2⟩ (by omega) ?_
        conv=>whnf
        refine Retell.turn ⟨[],0,[],[]⟩ (TurnOk.mk' _ _ [] [] (OutOk.lift _) rfl (by decide) zb trivial trivial rfl) zw zm
      · rw [hq] at h2
        rw [h2]
        conv=>whnf
        repeat (first|((first|refine zs1 ?_|refine zs2 ?_|refine zs3 ?_|refine zs4 ?_|refine zs5 ?_|refine zs6 [] ?_);conv=>whnf))
        exact VOut.same rfl
    · rw [List.drop_of_length_le (by omega),fidx] at h2
      rw [h2]
      conv=>whnf
      repeat (first|((first|refine zs1 ?_|refine zs2 ?_|refine zs3 ?_|refine zs4 ?_|refine zs5 ?_|refine zs6 [] ?_);conv=>whnf))
      exact VOut.same rfl
theorem vc_allL1 (q : List Int → Bool) (g : FuncId) (x : List Int) (hso : ∀ h : Hp,VC Tryz.prog g (D.vs [] ++ [ints x] ++ D.vs []) h (B (q x)) h) (h : Hp) : VC Tryz.prog 83 ([ints x] ++ D.vs [.pt [.func (.func g) [] []]]) h (B (!q x)) h:=by
  have c:=fun h=>hso h
  refine VC.body Tryz.func83 rfl Tryz.ntmps83 Tryz.call83 (h.grows_refl) rfl ?_;conv=>whnf
  repeat' (first|((first|refine zs1 ?_|refine zs2 ?_|refine zs3 ?_|refine zs4 ?_|refine zs5 ?_|refine zs6 [] ?_);conv=>whnf)|((first|apply zi1|apply zi2|apply zi3|apply zi4|apply zi5) <;> intro _ <;> conv=>whnf)|(refine VCall.intro (c _) ?_;conv=>whnf))
  exact VOut.same rfl
theorem vc_allL (T : List (List Int)) (q : List Int → Bool) (g : FuncId) (hl : T.length ≤ 4000000) (hso : ∀ e ∈ T,∀ h : Hp,VC Tryz.prog g (D.vs [] ++ [ints e] ++ D.vs []) h (B (q e)) h) (h : Hp) : VC Tryz.prog 60 [intss T,.func (.func g) (D.vs []) (D.vs [])] h (B (T.all q)) h:=by
  have c:=fun h=>vc_IndexFL T (fun p=>!q p) 83 [] [.pt [.func (.func g) [] []]] hl (fun p hp h=>vc_allL1 q g p (hso p hp) h) h
  have e : decide (fidx (fun p=>!q p) T 0 = -1) = T.all q:=by
    rw [fidx_no _ _ (Int.le_refl _)]
    simp
  rw [← e]
  generalize fidx (fun p=>!q p) T 0 = E at c
  refine VC.body Tryz.func60 rfl Tryz.ntmps60 Tryz.call60 (h.grows_refl) rfl ?_;conv=>whnf
  repeat' (first|((first|refine zs1 ?_|refine zs2 ?_|refine zs3 ?_|refine zs4 ?_|refine zs5 ?_|refine zs6 [] ?_);conv=>whnf)|((first|apply zi1|apply zi2|apply zi3|apply zi4|apply zi5) <;> intro _ <;> conv=>whnf))
  refine VCall.intro (VC.give (args':=[intss T,.func (.func 83) [] [.fp [.func (.func g) [] []]]]) (loc':=[.dead]) [(0,[.func (.func g) [] []])] [] (OutOk.lift _) zb zf (by exact FmAll.nil) rfl zv (c _)) ?_
  conv=>whnf
  repeat (first|((first|refine zs1 ?_|refine zs2 ?_|refine zs3 ?_|refine zs4 ?_|refine zs5 ?_|refine zs6 [] ?_);conv=>whnf))
  exact VOut.same rfl
theorem vc_prv1 (r : List Int) (h : Hp) : VC Tryz.prog 61 (D.vs [] ++ [ints r] ++ D.vs []) h (B (decide (r.length = 16))) h:=by
  refine VC.body Tryz.func61 rfl Tryz.ntmps61 Tryz.call61 (h.grows_refl) rfl ?_;conv=>whnf
  repeat' (first|((first|refine zs1 ?_|refine zs2 ?_|refine zs3 ?_|refine zs4 ?_|refine zs5 ?_|refine zs6 [] ?_);conv=>whnf)|((first|apply zi1|apply zi2|apply zi3|apply zi4|apply zi5) <;> intro _ <;> conv=>whnf))
  refine VOut.same ?_
  have : ((r.length : Int) == 16) = decide (r.length = 16):=by
    rw [Bool.eq_iff_iff,decide_eq_true_eq,beq_iff_eq];omega
  simp only [V.ren,this]
theorem vc_prv3 (d : Int) (h : Hp) : VC Tryz.prog 63 (D.vs [] ++ [I d] ++ D.vs []) h (B (inB d 0 1001)) h:=by
  have e : inB d 0 1001 = decide (0 ≤ d ∧ d ≤ 1001):=by
    rw [Bool.eq_iff_iff,inB_iff,decide_eq_true_eq]
  rw [e]
  have c:=fun h=>vc_from d 0 1001 h
  generalize decide (0 ≤ d ∧ d ≤ 1001) = b at c
  refine VC.body Tryz.func63 rfl Tryz.ntmps63 Tryz.call63 (h.grows_refl) rfl ?_;conv=>whnf
  repeat' (first|((first|refine zs1 ?_|refine zs2 ?_|refine zs3 ?_|refine zs4 ?_|refine zs5 ?_|refine zs6 [] ?_);conv=>whnf)|((first|apply zi1|apply zi2|apply zi3|apply zi4|apply zi5) <;> intro _ <;> conv=>whnf)|(refine VCall.intro (c _) ?_;conv=>whnf))
  exact VOut.same rfl
theorem vc_prv2 (r : List Int) (h : Hp) (hr : r.length ≤ 4000000) : VC Tryz.prog 62 (D.vs [] ++ [ints r] ++ D.vs []) h (B (r.all fun d=>inB d 0 1001)) h:=by
  have c:=fun h=>vc_allN r (fun d=>inB d 0 1001) 63 hr (fun e _ h=>vc_prv3 e h) h
  generalize (r.all fun d=>inB d 0 1001) = b at c
  refine VC.body Tryz.func62 rfl Tryz.ntmps62 Tryz.call62 (h.grows_refl) rfl ?_;conv=>whnf
  repeat' (first|((first|refine zs1 ?_|refine zs2 ?_|refine zs3 ?_|refine zs4 ?_|refine zs5 ?_|refine zs6 [] ?_);conv=>whnf)|((first|apply zi1|apply zi2|apply zi3|apply zi4|apply zi5) <;> intro _ <;> conv=>whnf)|(refine VCall.intro (c _) ?_;conv=>whnf))
  exact VOut.same rfl
def dRw (R : Rw) : D:=.sl 1 R.length (R.flatMap encL)
theorem okW_gn {R : Rw} {p s : Nat} {w : Wy} : okW R p s w = bif gnB w ⟨p,atR R p s,s⟩ then decide (atR R (gnV w ⟨p,atR R p s,s⟩).p (gnV w ⟨p,atR R p s,s⟩).s ≤ (gnV w ⟨p,atR R p s,s⟩).d) else true:=by
  unfold okW
  rw [gone_eq]
  cases gnB w ⟨p,atR R p s,s⟩ <;> rfl
structure PJ (o : Vm.Id → Option Blk) (e : Int) (g : Hp) : Prop where
  o : g.outer = o
  b0 : g.get (.loc 0) = some (.flat true [DI 0])
  b1 : g.get (.loc 1) = some (.flat true [DI e])
  b2 : g.get (.loc 2) = some .mark
structure PJ2 (o : Vm.Id → Option Blk) (g : Hp) : Prop where
  o : g.outer = o
  b0 : g.get (.loc 0) = some (.flat true [DI 0])
  b1 : g.get (.loc 1) = some (.flat true [DI 9])
  b2 : g.get (.loc 2) = some .mark
theorem vc_Proves (N : Nt) (x : Hd) (R : Rw) (to : Int) (h : Hp) (hn : N.ws.length ≤ 4000000) (hR : R.length ≤ 4000000) : VC Tryz.prog 29 [vN N,vHd x,intss R,I to] h (.tuple [I (prV N x R to),I (prE N x R to)]) h:=by
  obtain ⟨E,hE⟩ : ∃ E,E = prE N x R to:=⟨_,rfl⟩
  obtain ⟨V,hV⟩ : ∃ V,V = prV N x R to:=⟨_,rfl⟩
  rw [← hE,← hV]
  unfold prV at hV
  rw [← hE] at hV
  unfold prE at hE
  have cH:=fun h=>vc_herded N x h hn
  by_cases h0 : hrd N x = 0
  · obtain ⟨n,hN,hx⟩:=hrd_ok h0
    rw [h0] at cH
    rw [if_pos h0] at hE
    have hp:=hN.p
    have hn1:=hN.n1
    have hwl:=hN.len
    have hxp:=hx.p
    have hxs:=hx.s
    have hxd:=hx.d
    unfold Pp at hxs
    rw [show N.p.toNat = n by omega] at hE
    have cA:=fun h=>vc_allL R (fun r=>decide (r.length = 16)) 61 hR (fun e _ h=>vc_prv1 e h) h
    have hsz : szR N.p R = (decide ((R.length : Int) = N.p) && R.all fun r=>decide (r.length = 16)):=rfl
    refine VC.bodyC 1 Tryz.func29 rfl Tryz.ntmps29 Tryz.call29 (h.grows_refl) rfl ?_;conv=>whnf
    refine VCut.at' (outer:=h.lift) (marks:=[]) 99 [(3,I to),(4,.fp (encN N)),(5,.fp (encHd x)),(6,.fp [dRw R]),(8,.ptr (.loc 0) 0),(9,.ptr (.loc 1) 0)] [.flat true [DI 0],.flat true [DI 0]] ?_ ?_
    · conv=>whnf
      refine Retell.turn ⟨[3,4],5,[(0,encN N),(1,encHd x),(2,[dRw R])],[]⟩ (TurnOk.mk' _ _ [(0,encN N),(1,encHd x),(2,[dRw R])] [] (OutOk.lift _) rfl (by decide) zb zf trivial rfl) zw zm
    by_cases h1 : szR N.p R = true
    · have hS:=Sz.of hp h1
      have hrow:=szR_iff.1 h1
      have hRl:=hS.len
      rw [hsz,Bool.and_eq_true] at h1
      rw [h1.2] at cA
      rw [if_pos (by rw [hsz,Bool.and_eq_true];exact h1)] at hE
      clear hsz
      have cV:=fun h=>vc_allL R (fun r=>r.all fun d=>inB d 0 1001) 62 hR (fun e he h=>vc_prv2 e h (by have:=hrow.2 e he;omega)) h
      have hvd : valR R = R.all fun r=>r.all fun d=>inB d 0 1001:=rfl
      rw [← hvd] at cV
      clear hvd
      by_cases h2 : valR R = true
      · rw [h2] at cV
        rw [if_pos h2] at hE
        obtain ⟨r0,k1,k2,k3⟩:=atR_mem hS (p:=x.p.toNat) (s:=x.s.toNat) (by omega) (by omega)
        rw [Int.toNat_of_nonneg hxp.1,Int.toNat_of_nonneg hxs.1] at k3
        by_cases h3 : atR R x.p x.s ≤ x.d
        · conv=>whnf
          repeat' (first|((first|refine zs1 ?_|refine zs2 ?_|refine zs3 ?_|refine zs4 ?_|refine zs5 ?_);conv=>whnf)|((first|apply zi1|apply zi2|apply zi3|apply zi4|apply zi5) <;> intro _ <;> conv=>whnf)|(refine VCall.intro (cH _) ?_;conv=>whnf)|(refine VCall.intro (cA _) ?_;conv=>whnf)|(refine VCall.intro (cV _) ?_;conv=>whnf))
          all_goals try contradiction
          all_goals try (exfalso;omega)
          refine zs6 [] ?_
          conv=>whnf
          repeat' (first|((first|refine zs1 ?_|refine zs2 ?_|refine zs3 ?_|refine zs4 ?_|refine zs5 ?_);conv=>whnf)|((first|apply zi1|apply zi2|apply zi3|apply zi4|apply zi5) <;> intro _ <;> conv=>whnf)|(refine VAny.ix encL_len x.p.toNat (by omega) rfl k1 ?_;conv=>whnf)|(refine VAny.ix encI_len x.s.toNat (by omega) rfl k3 ?_;conv=>whnf))
          all_goals try contradiction
          all_goals try (exfalso;omega)
          have hown:=h3
          refine VCode.lp (outer:=h.lift) (marks:=[]) (fun p : Nat=>[(3,I to),(4,.fp (encN N)),(6,.fp [dRw R]),(8,.ptr (.loc 0) 0),(9,.ptr (.loc 1) 0),(54,intss R),(55,I R.length),(56,I p)]) (fun _=>[.flat true [DI 0],.flat true [DI 0]]) (fun p=>p ≤ n ∧ OkTo N.ws R (16 * p)) (fun p=>n - p) 0 ⟨Nat.zero_le _,OkTo.zero _ _⟩ ?_ ?_
          · conv=>whnf
            refine Retell.turn ⟨[0,1],2,[],[]⟩ (TurnOk.mk' _ _ [] [] (OutOk.lift _) rfl (by decide) zb trivial trivial rfl) zw zm
          · rintro p ⟨p1,p2⟩
            rcases Nat.lt_or_ge p n with q1|q1
            · obtain ⟨r,r1,r2,_⟩:=atR_mem hS (p:=p) (s:=0) q1 (by omega)
              have hrs : ∀ s : Nat,s < 16 → r[s]? = some (atR R p s):=fun s hs=>by
                obtain ⟨r',g1,_,g3⟩:=atR_mem hS (p:=p) (s:=s) q1 hs
                rw [r1] at g1;injection g1 with g1;subst g1;exact g3
              conv=>whnf
              repeat' (first|((first|refine zs1 ?_|refine zs2 ?_|refine zs3 ?_|refine zs4 ?_|refine zs5 ?_);conv=>whnf)|((first|apply zi1|apply zi2|apply zi3|apply zi4|apply zi5) <;> intro _ <;> conv=>whnf)|(refine VAny.ix encL_len p rfl rfl r1 ?_;conv=>whnf))
              all_goals try (exfalso;omega)
              refine VCode.lp (outer:=h.lift) (marks:=[]) (fun s : Nat=>[(3,I to),(4,.fp (encN N)),(6,.fp [dRw R]),(8,.ptr (.loc 0) 0),(9,.ptr (.loc 1) 0),(11,.fp [DI p]),(54,intss R),(55,I R.length),(56,I p),(61,ints r),(62,I r.length),(63,I s)]) (fun _=>[.flat true [DI 0],.flat true [DI 0]]) (fun s=>s ≤ 16 ∧ OkTo N.ws R (16 * p + s)) (fun s=>16 - s) 0 ⟨Nat.zero_le _,p2⟩ ?_ ?_
              · conv=>whnf
                refine Retell.turn ⟨[0,1],3,[(2,[DI p])],[]⟩ (TurnOk.mk' _ _ [(2,[DI p])] [] (OutOk.lift _) rfl (by decide) zb zf trivial rfl) zw zm
              · rintro s ⟨s1,s2⟩
                rcases Nat.lt_or_ge s 16 with q2|q2
                · have hd:=hrs s q2
                  have hdb:=atR_bd hS h2 q1 q2
                  have hokg:=fun w=>okW_gn (R:=R) (p:=p) (s:=s) (w:=w)
                  have hstep:=fun h=>OkTo.step (R:=R) (ws:=N.ws) (p:=p) (s:=s) s2 q2 h
                  have hbad:=fun w hw=>holds_no (n:=n) (ws:=N.ws) (x:=x) (R:=R) (p:=p) (s:=s) (w:=w) q1 q2 hw
                  generalize atR R p s = d at hd hdb hokg
                  conv=>whnf
                  repeat' (first|((first|refine zs1 ?_|refine zs2 ?_|refine zs3 ?_|refine zs4 ?_|refine zs5 ?_);conv=>whnf)|((first|apply zi1|apply zi2|apply zi3|apply zi4|apply zi5) <;> intro _ <;> conv=>whnf)|(refine VAny.ix encI_len s rfl rfl hd ?_;conv=>whnf)|(refine VCall.intro (vc_leading N p _) ?_;conv=>whnf))
                  all_goals try (exfalso;omega)
                  refine VCode.tell [(3,I to),(4,.fp (encN N)),(6,.fp [dRw R]),(8,.ptr (.loc 0) 0),(9,.ptr (.loc 1) 0),(11,.fp [DI p]),(13,.fp [DI s]),(14,.fp [DI d]),(54,intss R),(55,I R.length),(56,I p),(61,ints r),(62,I r.length),(63,I s),(70,vLead N p)] [.flat true [DI 0],.flat true [DI 0]] (marks':=[]) ?_ ?_
                  · conv=>whnf
                    refine Retell.turn ⟨[0,1],4,[(2,[DI s]),(3,[DI d])],[]⟩ (TurnOk.mk' _ _ [(2,[DI s]),(3,[DI d])] [] (OutOk.lift _) rfl (by decide) zb zf trivial rfl) zw zm
                  · conv=>whnf
                    refine VCode.iterN N.ws.length (ldY N p) (fun k g=>PJ h.lift 0 g ∧ ∀ w ∈ N.ws.take k,okW R p s w = true) (fun e g=>e = .ret ∧ PJ2 h.lift g ∧ holds n N.ws x R = false) _ (.loc 3) rfl (iter_lead N p hn) rfl rfl ⟨⟨rfl,rfl,rfl,rfl⟩,by simp⟩ ?_ ?_ ?_ ?_
                    · rintro k g hk hy ⟨hJ,ha⟩
                      refine ⟨hJ,fun v hv=>?_⟩
                      have hw : N.ws[k]? = some N.ws[k]:=List.getElem?_eq_getElem hk
                      rw [List.take_add_one,hw] at hv
                      rcases List.mem_append.1 hv with hv|hv
                      · exact ha v hv
                      · rw [ldY_eq hw] at hy
                        have hf : ¬ N.ws[k].f = p:=fun e=>by rw [decide_eq_true e] at hy;cases hy
                        have hv : v = N.ws[k]:=by simpa using hv
                        subst hv
                        rw [hokg]
                        have : gnB N.ws[k] ⟨p,d,s⟩ = false:=by
                          unfold gnB
                          rw [decide_eq_false_iff_not]
                          exact fun h=>hf h.1.symm
                        rw [this];rfl
                    · rintro k g vs hk hy ⟨hJ,ha⟩ hlp
                      have hw : N.ws[k]? = some N.ws[k]:=List.getElem?_eq_getElem hk
                      have hwm : N.ws[k] ∈ N.ws:=List.getElem_mem hk
                      have hwo:=hN.ws N.ws[k] hwm
                      have htk : N.ws.take (k + 1) = N.ws.take k ++ [N.ws[k]]:=by rw [List.take_add_one,hw];rfl
                      rw [ldY_eq hw] at hy
                      have hf : N.ws[k].f = p:=Decidable.byContradiction fun e=>by rw [decide_eq_false e] at hy;cases hy
                      rw [decide_eq_true hf] at hy
                      have hok:=hokg N.ws[k]
                      have hbk:=hbad N.ws[k] hwm
                      generalize N.ws[k] = w at *
                      cases hy
                      have cG:=fun h=>vc_gone w ⟨p,d,s⟩ h hwo (by dsimp only;omega) ⟨by dsimp only;omega,by dsimp only;omega⟩
                      have hgo : gnB w ⟨p,d,s⟩ = true → InR n ((gnV w ⟨p,d,s⟩).p,(gnV w ⟨p,d,s⟩).s):=fun hg=>by
                        have h1 : gone w ⟨p,d,s⟩ = some (gnV w ⟨p,d,s⟩):=by rw [gone_eq,hg];rfl
                        have h2:=gone_ok hwo ⟨by dsimp only;omega,by dsimp only;omega⟩ h1
                        exact ⟨h2.2.2.1,h2.2.2.2.2.2.2⟩
                      obtain ⟨j0,j1,j2,j3⟩:=hJ
                      generalize gnV w ⟨p,d,s⟩ = y at cG hgo hok
                      have hall : okW R p s w = true → ∀ v ∈ N.ws.take (k + 1),okW R p s v = true:=fun h v hv=>by
                        rw [htk] at hv
                        rcases List.mem_append.1 hv with hv|hv
                        · exact ha v hv
                        · rw [List.mem_singleton.1 hv];exact h
                      cases hg : gnB w ⟨p,d,s⟩
                      · rw [hg] at cG hok
                        left
                        refine ⟨g,VRound.vy' hlp rfl rfl rfl g.grows_refl fun l0=>?_,⟨⟨j0,j1,j2,j3⟩,hall hok⟩,hlp⟩
                        refine VRound.tell [(4,.fp (encN N)),(6,.fp [dRw R]),(8,.ptr (.out (.loc 0)) 0),(9,.ptr (.out (.loc 1)) 0),(11,.fp [DI p]),(13,.fp [DI s]),(14,.fp [DI d]),(71,I k),(72,vWy w)] ?_ ?_
                        · conv=>whnf
                          refine Retell.turn ⟨[],0,[],[]⟩ (TurnOk.mk' _ _ [] [] (OutOk.lift _) rfl (by decide) zb trivial trivial rfl) zw zm
                        · conv=>whnf
                          repeat (first|((first|refine zs1 ?_|refine zs2 ?_|refine zs3 ?_|refine zs4 ?_|refine zs5 ?_|refine zs6 [] ?_);conv=>whnf))
                          refine VBegin.intro (get_out hlp _) rfl ?_
                          conv=>whnf
                          repeat' (first|((first|refine zs1 ?_|refine zs2 ?_|refine zs3 ?_|refine zs4 ?_|refine zs5 ?_);conv=>whnf)|((first|apply zi1|apply zi2|apply zi3|apply zi4|apply zi5) <;> intro _ <;> conv=>whnf)|(refine VCall.intro (cG _) ?_;conv=>whnf))
                          refine zs6 [] ?_
                          conv=>whnf
                          repeat' (first|((first|refine zs1 ?_|refine zs2 ?_|refine zs3 ?_|refine zs4 ?_|refine zs5 ?_);conv=>whnf)|((first|apply zi1|apply zi2|apply zi3|apply zi4|apply zi5) <;> intro _ <;> conv=>whnf))
                          all_goals first|exact RFin.on (outW_get _ _ _ _) (VOut.back (get_out hlp []) rfl)|contradiction|(exfalso;omega)
                      · rw [hg] at cG hok
                        have hy:=hgo hg
                        have hyp:=hy.1
                        have hys:=hy.2
                        unfold Pp at hys
                        dsimp only at hyp hys
                        obtain ⟨r3,g1,g2,g3⟩:=atR_mem hS (p:=y.p.toNat) (s:=y.s.toNat) (by omega) (by omega)
                        rw [Int.toNat_of_nonneg hyp.1,Int.toNat_of_nonneg hys.1] at g3
                        generalize atR R y.p y.s = e at g3 hok
                        by_cases hle : e ≤ y.d
                        · rw [decide_eq_true hle] at hok
                          left
                          refine ⟨g,VRound.vy' hlp rfl rfl rfl g.grows_refl fun l0=>?_,⟨⟨j0,j1,j2,j3⟩,hall hok⟩,hlp⟩
                          refine VRound.tell [(4,.fp (encN N)),(6,.fp [dRw R]),(8,.ptr (.out (.loc 0)) 0),(9,.ptr (.out (.loc 1)) 0),(11,.fp [DI p]),(13,.fp [DI s]),(14,.fp [DI d]),(71,I k),(72,vWy w)] ?_ ?_
                          · conv=>whnf
                            refine Retell.turn ⟨[],0,[],[]⟩ (TurnOk.mk' _ _ [] [] (OutOk.lift _) rfl (by decide) zb trivial trivial rfl) zw zm
                          · conv=>whnf
                            repeat (first|((first|refine zs1 ?_|refine zs2 ?_|refine zs3 ?_|refine zs4 ?_|refine zs5 ?_|refine zs6 [] ?_);conv=>whnf))
                            refine VBegin.intro (get_out hlp _) rfl ?_
                            conv=>whnf
                            repeat' (first|((first|refine zs1 ?_|refine zs2 ?_|refine zs3 ?_|refine zs4 ?_|refine zs5 ?_);conv=>whnf)|((first|apply zi1|apply zi2|apply zi3|apply zi4|apply zi5) <;> intro _ <;> conv=>whnf)|(refine VCall.intro (cG _) ?_;conv=>whnf))
                            refine zs6 [] ?_
                            conv=>whnf
                            repeat' (first|((first|refine zs1 ?_|refine zs2 ?_|refine zs3 ?_|refine zs4 ?_|refine zs5 ?_);conv=>whnf)|((first|apply zi1|apply zi2|apply zi3|apply zi4|apply zi5) <;> intro _ <;> conv=>whnf)|(refine VAny.ix encL_len y.p.toNat (by omega) rfl g1 ?_;conv=>whnf)|(refine VAny.ix encI_len y.s.toNat (by omega) (by omega) g3 ?_;conv=>whnf))
                            all_goals first|exact RFin.on (outW_get _ _ _ _) (VOut.back (get_out hlp []) rfl)|contradiction|(exfalso;omega)
                        · rw [decide_eq_false hle] at hok
                          have n0 : g.get (.loc 0) ≠ none:=by rw [j1];simp
                          have n1 : (g.set (.loc 0) (.flat true [DI 0])).get (.loc 1) ≠ none:=by rw [Hp.get_set g _ _ _ n0,if_neg (by decide),j2];simp
                          have n2 : ((g.set (.loc 0) (.flat true [DI 0])).set (.loc 1) (.flat true [DI 9])).get (.loc 3) ≠ none:=by rw [Hp.get_set _ _ _ _ n1,if_neg (by decide),Hp.get_set g _ _ _ n0,if_neg (by decide),hlp];simp
                          refine Rnd.stop .ret rfl hlp ((g.set (.loc 0) (.flat true [DI 0])).set (.loc 1) (.flat true [DI 9])) n2 ?_ ⟨rfl,⟨j0,?_,?_,?_⟩,hbk hok⟩
                          · refine VRound.vy' hlp rfl rfl rfl ?_ fun l0=>?_
                            · exact grows_set3
                            refine VRound.tell [(4,.fp (encN N)),(6,.fp [dRw R]),(8,.ptr (.out (.loc 0)) 0),(9,.ptr (.out (.loc 1)) 0),(11,.fp [DI p]),(13,.fp [DI s]),(14,.fp [DI d]),(71,I k),(72,vWy w)] ?_ ?_
                            · conv=>whnf
                              refine Retell.turn ⟨[],0,[],[]⟩ (TurnOk.mk' _ _ [] [] (OutOk.lift _) rfl (by decide) zb trivial trivial rfl) zw zm
                            · conv=>whnf
                              repeat (first|((first|refine zs1 ?_|refine zs2 ?_|refine zs3 ?_|refine zs4 ?_|refine zs5 ?_|refine zs6 [] ?_);conv=>whnf))
                              refine VBegin.intro (get_out hlp _) rfl ?_
                              conv=>whnf
                              repeat' (first|((first|refine zs1 ?_|refine zs2 ?_|refine zs3 ?_|refine zs4 ?_|refine zs5 ?_);conv=>whnf)|((first|apply zi1|apply zi2|apply zi3|apply zi4|apply zi5) <;> intro _ <;> conv=>whnf)|(refine VCall.intro (cG _) ?_;conv=>whnf))
                              refine zs6 [] ?_
                              conv=>whnf
                              repeat' (first|((first|refine zs1 ?_|refine zs2 ?_|refine zs3 ?_|refine zs4 ?_|refine zs5 ?_);conv=>whnf)|((first|apply zi1|apply zi2|apply zi3|apply zi4|apply zi5) <;> intro _ <;> conv=>whnf)|(refine VAny.ix encL_len y.p.toNat (by omega) rfl g1 ?_;conv=>whnf)|(refine VAny.ix encI_len y.s.toNat (by omega) (by omega) g3 ?_;conv=>whnf)|(refine VMem.st1 rfl rfl rfl (get_outNe (by decide) (get_out j1 _)) rfl ?_;conv=>whnf)|(refine VMem.st1 rfl rfl rfl (get_outNe (by decide) (get_outNe (by decide) (get_out j2 _))) rfl ?_;conv=>whnf))
                              all_goals try contradiction
                              all_goals try (exfalso;omega)
                              refine RFin.off rfl (get_outNe (by decide) (get_outNe (by decide) (outW_get _ _ _ _))) (VOut.liftS ?_ ?_)
                              · rw [lift_set n2,lift_set n1,lift_set n0];exact outW_two (by decide) (by decide)
                              · exact grows_set3
                          · rw [Hp.get_set _ _ _ _ n2,if_neg (by decide),Hp.get_set _ _ _ _ n1,if_neg (by decide),Hp.get_set _ _ _ _ n0,if_pos rfl]
                          · rw [Hp.get_set _ _ _ _ n2,if_neg (by decide),Hp.get_set _ _ _ _ n1,if_pos rfl]
                          · rw [Hp.get_set _ _ _ _ n2,if_neg (by decide),Hp.get_set _ _ _ _ n1,if_neg (by decide),Hp.get_set _ _ _ _ n0,if_neg (by decide)];exact j3
                    · rintro g ⟨⟨j0,j1,j2,j3⟩,ha⟩ hlp
                      rw [List.take_of_length_le (Nat.le_refl _)] at ha
                      obtain ⟨go,gl⟩:=g
                      dsimp only at j0
                      subst j0
                      have j1 : gl[0]? = some _:=j1
                      have j2 : gl[1]? = some _:=j2
                      have j3 : gl[2]? = some _:=j3
                      have l0:=(List.getElem?_eq_some_iff.1 j1).1
                      have l1:=(List.getElem?_eq_some_iff.1 j2).1
                      have key : ∀ (x : Nat) (A : Blk),x ≠ 3 → (gl.set 3 A)[x]? = gl[x]?:=fun x A hx=>List.getElem?_set_ne (Ne.symm hx)
                      refine Told.mk [(3,I to),(4,.fp (encN N)),(6,.fp [dRw R]),(8,.ptr (.loc 0) 0),(9,.ptr (.loc 1) 0),(11,.fp [DI p]),(54,intss R),(55,I R.length),(56,I p),(61,ints r),(62,I r.length),(63,I s)] [.flat true [DI 0],.flat true [DI 0]] (marks':=[]) ?_ ?_
                      · conv=>whnf
                        refine Retell.turn ⟨[0,1],gl.length,[],[]⟩ (TurnOk.mk' _ _ [] [] (OutOk.lift _) (Nat.ble_eq_true_of_le (by simp)) (by decide)
                          (BTos.flat (blt_of l0) ((key 0 _ (by omega)).trans j1) rfl (BTos.flat (blt_of l1) ((key 1 _ (by omega)).trans j2) rfl BTos.nil)) trivial trivial rfl) zw
                          (MkTo.drop (show 2 ∉ ([0,1] : List Nat) by decide) ((key 2 _ (by omega)).trans j3) MkTo.nil)
                      · conv=>whnf
                        repeat' (first|((first|refine zs1 ?_|refine zs2 ?_|refine zs3 ?_|refine zs4 ?_|refine zs5 ?_);conv=>whnf)|((first|apply zi1|apply zi2|apply zi3|apply zi4|apply zi5) <;> intro _ <;> conv=>whnf))
                        refine LEnd.intro (s + 1) ⟨by omega,hstep ha⟩ (by omega) ?_
                        conv=>whnf
                        refine Retell.turn ⟨[0,1],2,[],[]⟩ (TurnOk.mk' _ _ [] [] (OutOk.lift _) rfl (by decide) zb trivial trivial rfl) zw zm
                    · rintro e g hne ⟨rfl,⟨j0,j1,j2,j3⟩,hno⟩ hlp
                      rw [hno,if_neg (by decide)] at hE
                      subst hE
                      rw [if_neg (by decide)] at hV
                      subst hV
                      obtain ⟨go,gl⟩:=g
                      dsimp only at j0
                      subst j0
                      have j1 : gl[0]? = some _:=j1
                      have j2 : gl[1]? = some _:=j2
                      have j3 : gl[2]? = some _:=j3
                      have l0:=(List.getElem?_eq_some_iff.1 j1).1
                      have l1:=(List.getElem?_eq_some_iff.1 j2).1
                      have key : ∀ (x : Nat) (A : Blk),x ≠ 3 → (gl.set 3 A)[x]? = gl[x]?:=fun x A hx=>List.getElem?_set_ne (Ne.symm hx)
                      refine Told.mk [(8,.ptr (.loc 0) 0),(9,.ptr (.loc 1) 0)] [.flat true [DI 0],.flat true [DI 9]] (marks':=[]) ?_ ?_
                      · conv=>whnf
                        refine Retell.turn ⟨[0,1],gl.length,[],[]⟩ (TurnOk.mk' _ _ [] [] (OutOk.lift _) (Nat.ble_eq_true_of_le (by simp)) (by decide)
                          (BTos.flat (blt_of l0) ((key 0 _ (by omega)).trans j1) rfl (BTos.flat (blt_of l1) ((key 1 _ (by omega)).trans j2) rfl BTos.nil)) trivial trivial rfl) zw
                          (MkTo.drop (show 2 ∉ ([0,1] : List Nat) by decide) ((key 2 _ (by omega)).trans j3) MkTo.nil)
                      · conv=>whnf
                        repeat' (first|((first|refine zs1 ?_|refine zs2 ?_|refine zs3 ?_|refine zs4 ?_|refine zs5 ?_|refine zs6 [] ?_);conv=>whnf)|((first|apply zi1|apply zi2|apply zi3|apply zi4|apply zi5) <;> intro _ <;> conv=>whnf))
                        exact VOut.same rfl
                · obtain rfl : s = 16:=by omega
                  conv=>whnf
                  repeat' (first|((first|refine zs1 ?_|refine zs2 ?_|refine zs3 ?_|refine zs4 ?_|refine zs5 ?_);conv=>whnf)|((first|apply zi1|apply zi2|apply zi3|apply zi4|apply zi5) <;> intro _ <;> conv=>whnf))
                  all_goals try (exfalso;omega)
                  refine LEnd.intro (p + 1) ⟨by omega,by rw [show 16 * (p + 1) = 16 * p + 16 by omega];exact s2⟩ (by omega) ?_
                  conv=>whnf
                  refine Retell.turn ⟨[0,1],2,[],[]⟩ (TurnOk.mk' _ _ [] [] (OutOk.lift _) rfl (by decide) zb trivial trivial rfl) zw zm
            · obtain rfl : p = n:=by omega
              have hyes:=holds_yes hown p2
              rw [hyes,if_pos rfl] at hE
              by_cases ht : 0 ≤ to ∧ to ≤ N.p - 1
              · rw [if_pos ht] at hE
                subst hE
                rw [if_pos rfl] at hV
                obtain ⟨t,rfl⟩ : ∃ t : Nat,to = t:=⟨to.toNat,by omega⟩
                obtain ⟨r,r1,r2,_⟩:=atR_mem hS (p:=t) (s:=0) (by omega) (by omega)
                rw [dayOf_row r1] at hV
                have cM:=fun h=>vc_Min r h (by omega) (by omega)
                rw [show r.length - 1 = 15 by omega,← hV] at cM
                conv=>whnf
                repeat' (first|((first|refine zs1 ?_|refine zs2 ?_|refine zs3 ?_|refine zs4 ?_|refine zs5 ?_);conv=>whnf)|((first|apply zi1|apply zi2|apply zi3|apply zi4|apply zi5) <;> intro _ <;> conv=>whnf)|(refine VCall.intro (vc_posted N t _ (by omega)) ?_;conv=>whnf)|(refine VAny.ix encL_len t rfl rfl r1 ?_;conv=>whnf)|(refine VCall.intro (cM _) ?_;conv=>whnf))
                all_goals try contradiction
                all_goals try (exfalso;omega)
                exact VOut.same rfl
              · rw [if_neg ht] at hE
                subst hE
                rw [if_neg (by decide)] at hV
                subst hV
                conv=>whnf
                repeat' (first|((first|refine zs1 ?_|refine zs2 ?_|refine zs3 ?_|refine zs4 ?_|refine zs5 ?_);conv=>whnf)|((first|apply zi1|apply zi2|apply zi3|apply zi4|apply zi5) <;> intro _ <;> conv=>whnf)|(refine VCall.intro (vc_posted N to _ (by omega)) ?_;conv=>whnf))
                all_goals try contradiction
                all_goals try (exfalso;omega)
                exact VOut.same rfl
        · have hno:=holds_own (n:=n) (ws:=N.ws) h3
          rw [hno,if_neg (by decide)] at hE
          subst hE
          rw [if_neg (by decide)] at hV
          subst hV
          conv=>whnf
          repeat' (first|((first|refine zs1 ?_|refine zs2 ?_|refine zs3 ?_|refine zs4 ?_|refine zs5 ?_);conv=>whnf)|((first|apply zi1|apply zi2|apply zi3|apply zi4|apply zi5) <;> intro _ <;> conv=>whnf)|(refine VCall.intro (cH _) ?_;conv=>whnf)|(refine VCall.intro (cA _) ?_;conv=>whnf)|(refine VCall.intro (cV _) ?_;conv=>whnf))
          all_goals try contradiction
          all_goals try (exfalso;omega)
          refine zs6 [] ?_
          conv=>whnf
          repeat' (first|((first|refine zs1 ?_|refine zs2 ?_|refine zs3 ?_|refine zs4 ?_|refine zs5 ?_);conv=>whnf)|((first|apply zi1|apply zi2|apply zi3|apply zi4|apply zi5) <;> intro _ <;> conv=>whnf)|(refine VAny.ix encL_len x.p.toNat (by omega) rfl k1 ?_;conv=>whnf)|(refine VAny.ix encI_len x.s.toNat (by omega) rfl k3 ?_;conv=>whnf))
          all_goals try contradiction
          all_goals try (exfalso;omega)
          exact VOut.same rfl
      · rw [if_neg h2] at hE
        rw [Bool.not_eq_true] at h2
        rw [h2] at cV
        subst hE
        rw [if_neg (by decide)] at hV
        subst hV
        conv=>whnf
        repeat' (first|((first|refine zs1 ?_|refine zs2 ?_|refine zs3 ?_|refine zs4 ?_|refine zs5 ?_);conv=>whnf)|((first|apply zi1|apply zi2|apply zi3|apply zi4|apply zi5) <;> intro _ <;> conv=>whnf)|(refine VCall.intro (cH _) ?_;conv=>whnf)|(refine VCall.intro (cA _) ?_;conv=>whnf)|(refine VCall.intro (cV _) ?_;conv=>whnf))
        all_goals try contradiction
        all_goals try (exfalso;omega)
        exact VOut.same rfl
    · rw [if_neg h1] at hE
      subst hE
      rw [if_neg (by decide)] at hV
      subst hV
      rw [hsz,Bool.and_eq_true,decide_eq_true_eq] at h1
      by_cases h2 : (R.length : Int) = N.p
      · have h3 : (R.all fun r=>decide (r.length = 16)) = false:=by
          rw [Bool.eq_false_iff];exact fun h=>h1 ⟨h2,h⟩
        rw [h3] at cA
        conv=>whnf
        repeat' (first|((first|refine zs1 ?_|refine zs2 ?_|refine zs3 ?_|refine zs4 ?_|refine zs5 ?_);conv=>whnf)|((first|apply zi1|apply zi2|apply zi3|apply zi4|apply zi5) <;> intro _ <;> conv=>whnf)|(refine VCall.intro (cH _) ?_;conv=>whnf)|(refine VCall.intro (cA _) ?_;conv=>whnf))
        all_goals try contradiction
        all_goals try (exfalso;omega)
        exact VOut.same rfl
      · conv=>whnf
        repeat' (first|((first|refine zs1 ?_|refine zs2 ?_|refine zs3 ?_|refine zs4 ?_|refine zs5 ?_);conv=>whnf)|((first|apply zi1|apply zi2|apply zi3|apply zi4|apply zi5) <;> intro _ <;> conv=>whnf)|(refine VCall.intro (cH _) ?_;conv=>whnf))
        all_goals try contradiction
        all_goals try (exfalso;omega)
        exact VOut.same rfl
  · rw [if_neg h0] at hE
    rw [← hE] at cH h0
    rw [if_neg h0] at hV
    subst hV
    refine VC.body Tryz.func29 rfl Tryz.ntmps29 Tryz.call29 (h.grows_refl) rfl ?_;conv=>whnf
    repeat' (first|((first|refine zs1 ?_|refine zs2 ?_|refine zs3 ?_|refine zs4 ?_|refine zs5 ?_|refine zs6 [] ?_);conv=>whnf)|((first|apply zi1|apply zi2|apply zi3|apply zi4|apply zi5) <;> intro _ <;> conv=>whnf)|(refine VCall.intro (cH _) ?_;conv=>whnf))
    · exact VOut.same rfl
    all_goals (rename_i hh;exact absurd (by omega) h0)
end Go.Proofs.YtoeendggmalcpaaGreat


/- Part 6 of the proof that answers about rivers are as the given statement says. No condition. -/
import Derived.Test.YtkbbfeljlepgoaaGreatBs5
set_option linter.unusedVariables false
set_option linter.unusedSimpArgs false
open Go.Vm
open Riv
namespace Go.Vm
theorem wrap_u64 {n : Int} (h : 0 ≤ n ∧ n < 18446744073709551616) : IntKind.u64.wrap n = n:=by
  unfold IntKind.wrap
  simp [IntKind.bits,IntKind.signed]
  omega
theorem VArith.u64 {n : Int} {K : Int → Prop} (h : 0 ≤ n ∧ n < 18446744073709551616) (hk : K n) : VArith .u64 n K:=VArith.wr (by rw [wrap_u64 h];exact hk)
theorem VArith.mask {n : Nat} {K : Int → Prop} (h : n < 4294967296) (hk : K n) : VArith .u64 (((BitVec.ofInt IntKind.u64.bits (n : Int) &&& BitVec.ofInt IntKind.u64.bits 4294967295).toNat : Nat) : Int) K:=by
  have e : (BitVec.ofInt IntKind.u64.bits (n : Int) &&& BitVec.ofInt IntKind.u64.bits 4294967295).toNat = n:=by
    rw [BitVec.toNat_and]
    have e1 : (BitVec.ofInt IntKind.u64.bits 4294967295).toNat = 2 ^ 32 - 1:=by decide
    have e2 : (BitVec.ofInt IntKind.u64.bits (n : Int)).toNat = n:=by
      rw [BitVec.toNat_ofInt]
      simp only [IntKind.bits]
      omega
    rw [e1,e2,Nat.and_two_pow_sub_one_eq_mod]
    omega
  rw [e]
  exact VArith.u64 (by omega) hk
theorem shr32 {n : Nat} (h : n < 4294967296) : (n : Int).fdiv (2 ^ (min (32 : Int).toNat IntKind.u64.bits)) = 0:=by
  rw [show (2 : Int) ^ (min (32 : Int).toNat IntKind.u64.bits) = 4294967296 by decide]
  rw [Int.fdiv_eq_ediv_of_nonneg _ (by decide)]
  omega
end Go.Vm
namespace Go.Proofs.YtkbbfeljlepgoaaGreat
set_option maxRecDepth 20000
set_option maxHeartbeats 4000000
abbrev U (n : Int) : V:=.s (.int .u64 n)
theorem vc_Mul64 (n : Nat) (hn : n < 4294967296) (h : Hp) : VC Tryz.prog 166 [U 1,U n] h (.tuple [U 0,U n]) h:=by
  have e:=shr32 hn
  have e1 : Int.fdiv 1 (2 ^ (min (32 : Int).toNat IntKind.u64.bits)) = 0:=by decide
  have e0 : Int.fdiv 0 (2 ^ (min (32 : Int).toNat IntKind.u64.bits)) = 0:=by decide
  refine VC.body Tryz.func166 rfl Tryz.ntmps166 Tryz.call166 (h.grows_refl) rfl ?_;conv=>whnf
  repeat' (first|((first|refine zs1 ?_|refine zs2 ?_|refine zs3 ?_|refine zs4 ?_|refine zs5 ?_|refine zs6 [] ?_);conv=>whnf)|((first|apply zi1|apply zi2|apply zi3|apply zi4|apply zi5) <;> intro _ <;> conv=>whnf)|(refine VArith.mask hn ?_;conv=>whnf)|(refine VArith.mask (n:=1) (by decide) ?_;simp only [Int.natCast_one];conv=>whnf)|(refine VArith.mask (n:=0) (by decide) ?_;simp only [Int.natCast_zero];conv=>whnf)|(simp only [e,e1,e0,Int.one_mul,Int.zero_mul,Int.zero_add,Int.add_zero];conv=>whnf)|(refine VArith.u64 (by omega) ?_;conv=>whnf))
  exact VOut.same rfl
theorem vc_Mul (n : Nat) (hn : n < 4294967296) (h : Hp) : VC Tryz.prog 146 [U 1,U n] h (.tuple [U 0,U n]) h:=by
  refine VC.body Tryz.func146 rfl Tryz.ntmps146 Tryz.call146 (h.grows_refl) rfl ?_;conv=>whnf
  repeat' (first|((first|refine zs1 ?_|refine zs2 ?_|refine zs3 ?_|refine zs4 ?_|refine zs5 ?_|refine zs6 [] ?_);conv=>whnf)|((first|apply zi1|apply zi2|apply zi3|apply zi4|apply zi5) <;> intro _ <;> conv=>whnf)|(refine VCall.intro (vc_Mul64 n hn _) ?_;conv=>whnf))
  exact VOut.same rfl
end Go.Proofs.YtkbbfeljlepgoaaGreat
namespace Go.Vm
theorem flatI (l : List Int) : l.flatMap encI = l.map DI:=by
  induction l with
  | nil=>rfl
  | cons a l ih=>rw [List.flatMap_cons,ih];rfl
theorem VOut.own1 {h : Hp} {loc : List Blk} {esz n : Nat} {ds : List D} (j L : Nat) (hL : Nat.ble loc.length L = true) (hj : loc[j]? = some (.flat true ds)) : VOut h ⟨h.lift,loc⟩ (.gl (.loc j) esz n) (.gl h.fresh esz n) (h.push (.flat true ds)):=by
  refine VOut.upd [] [.flat true ds] [j] L hL (by intro p hp;cases hp) (by simp) rfl ?_ ?_ rfl
  · intro k b hk
    cases k with
    | zero=>rw [List.getElem?_cons_zero,Option.some.injEq] at hk;subst hk;exact ⟨j,rfl,hj⟩
    | succ k=>simp at hk
  · intro σ x hx
    have : (V.gl h.fresh esz n).ren (backR h.loc.length [j] L) = .gl (.loc j) esz n:=by simp [V.ren,backR,Hp.fresh]
    rw [this];exact hx
def repL (a z : Int) (n k : Nat) : List Int:=List.replicate k a ++ List.replicate (n - k) z
theorem repL_len (a z : Int) {n k : Nat} (h : k ≤ n) : (repL a z n k).length = n:=by unfold repL;simp;omega
theorem VMem.copyRep {P : Program} {t ty : TypeId} {e bytes : Nat} {zero : List V} {s_ : Nat} {a_ : Bool} {z_ : V} {h : Hp} {i : Id} {a z : Int} {n k o1 n1 n2 : Nat} {K : V → Hp → Prop} (hTt : tiOf P t = some ⟨.slice e 1 bytes zero,s_,a_,z_⟩)
    (hb : h.get i = some (.flat true ((repL a z n k).flatMap encI))) (hk : k ≤ n) (h1 : o1 = k) (h2 : n1 = n - k) (h3 : n2 = k)
    (hK : K (.s (.int .i64 (min k (n - k) : Nat))) (h.set i (.flat true ((repL a z n (k + min k (n - k))).flatMap encI)))) : VMem P (opCopy #[t,t] ty) [.slice i o1 1 n1 none,.gl i 1 n2] h K:=by
  subst h1 h2 h3
  refine VMem.intro (does_copy (n:=n2) (m:=min n2 (n - n2)) (news:=((List.replicate n2 a).map DI).map D.v) (l:=((repL a z n n2).flatMap encI).map D.v) (tiOf_ok P) hTt hb rfl ?_ ?_ rfl ?_) hK
  · simp only [SegOf]
    refine ⟨trivial,trivial,_,true,_,hb,rfl,by rw [List.length_map,flat_len encI_len,repL_len a z hk];omega,?_⟩
    rw [flatI,← List.map_take,← List.map_take,repL,List.take_append_of_le_length (by simp),List.take_of_length_le (by simp)]
  · rw [List.length_map,flat_len encI_len,repL_len a z hk];omega
  · simp only [Blk.row,flatI,← List.map_take,← List.map_drop]
    rw [← List.map_append,← List.map_append,← List.map_append,← List.map_append]
    congr 3
    rw [Nat.mul_one]
    generalize hm : min n2 (n - n2) = m
    unfold repL
    rw [List.take_append_of_le_length (by simp),List.take_of_length_le (by simp),List.take_replicate,List.drop_append,List.drop_of_length_le (by simp),List.nil_append,List.length_replicate,List.drop_replicate,Nat.min_eq_left (by omega),← List.replicate_append_replicate]
    congr 2
    rw [show n - (n2 + m) = n - n2 - (n2 + m - n2) by omega]
theorem VMem.copyOne {P : Program} {t ty : TypeId} {e bytes : Nat} {zero : List V} {s_ : Nat} {a_ : Bool} {z_ : V} {h : Hp} {i : Id} {a z : Int} {n : Nat} {K : V → Hp → Prop} (hTt : tiOf P t = some ⟨.slice e 1 bytes zero,s_,a_,z_⟩)
    (hb : h.get i = some (.flat true ((List.replicate n z).flatMap encI)))
    (hK : K (.s (.int .i64 (min 1 n : Nat))) (h.set i (.flat true ((repL a z n (min 1 n)).flatMap encI)))) : VMem P (opCopy #[t,t] ty) [.gl i 1 n,.fs 1 1 [DI a]] h K:=by
  refine VMem.intro (does_copy_gl (k:=1) (m:=min 1 n) (news:=([a].map DI).map D.v) (l:=((List.replicate n z).flatMap encI).map D.v) (tiOf_ok P) hTt hb rfl ?_ ?_ rfl ?_) hK
  · simp only [SegOf]
    exact ⟨trivial,trivial,by simp,rfl⟩
  · rw [List.length_map,flat_len encI_len,List.length_replicate];omega
  · simp only [Blk.row,flatI,← List.map_take,← List.map_drop]
    rw [← List.map_append,← List.map_append]
    congr 3
    rw [Nat.mul_one]
    unfold repL
    cases n with
    | zero=>rfl
    | succ n =>
      rw [show min 1 (n + 1) = 1 by omega,List.drop_replicate]
      rfl
end Go.Vm
namespace Go.Proofs.YtkbbfeljlepgoaaGreat
set_option maxRecDepth 20000
set_option maxHeartbeats 4000000
theorem vc_Repeat (a : Int) (n : Nat) (h : Hp) (hn : n ≤ 1000000) : VC Tryz.prog 109 [ints [a],I n] h (.gl h.fresh 1 n) (h.push (.flat true ((List.replicate n a).flatMap encI))):=by
  show VC Tryz.prog 109 [.fs 1 1 [DI a],I n] h _ _
  refine VC.body Tryz.func109 rfl Tryz.ntmps109 Tryz.call109 (h.grows_push _) rfl ?_
  conv=>whnf
  repeat' (first|((first|refine zs1 ?_|refine zs2 ?_|refine zs3 ?_|refine zs4 ?_|refine zs5 ?_);conv=>whnf)|((first|apply zi1|apply zi2|apply zi3|apply zi4|apply zi5) <;> intro _ <;> first|(exfalso;omega)|contradiction|(conv=>whnf))|(refine VArith.u64 (by omega) ?_;conv=>whnf)|(refine VCall.intro (vc_Mul n (by omega) _) ?_;conv=>whnf)|(refine VMem.make (0 : Int) encI_len rfl rfl rfl rfl rfl rfl (by omega) ?_;conv=>whnf)|(refine VMem.copyOne (a:=a) (z:=0) (n:=n) rfl rfl ?_;conv=>whnf))
  refine VCode.lp (outer:=h.lift) (marks:=[]) (fun k : Nat=>[(7,.gl (.loc 0) 1 n),(8,I k)]) (fun k=>[.flat true ((repL a 0 n k).flatMap encI)]) (fun k=>k ≤ n ∧ (k = 0 → n = 0)) (fun k=>n - k) (min 1 n) ⟨by omega,by omega⟩ ?_ ?_
  · generalize hm : min 1 n = m
    conv=>whnf
    refine Retell.turn ⟨[0],1,[],[]⟩ (TurnOk.mk' _ _ [] [] (OutOk.lift _) rfl (by decide) zb trivial trivial rfl) zw zm
  · rintro k ⟨h1,h2⟩
    conv=>whnf
    repeat (first|((first|refine zs1 ?_|refine zs2 ?_|refine zs3 ?_|refine zs4 ?_|refine zs5 ?_|refine zs6 [] ?_);conv=>whnf))
    refine VIte.dec (fun h3=>?_) (fun h3=>?_)
    · conv=>whnf
      refine zs6 [] ?_
      conv=>whnf
      repeat (first|((first|refine zs1 ?_|refine zs2 ?_|refine zs3 ?_|refine zs4 ?_|refine zs5 ?_|refine zs6 [] ?_);conv=>whnf))
      refine VAny.intro (v:=.slice (.loc 0) (k * 1) 1 (n - k) none) ⟨by omega,n - k,by omega,.inr ⟨by omega,rfl⟩⟩ ?_
      conv=>whnf
      repeat (first|((first|refine zs1 ?_|refine zs2 ?_|refine zs3 ?_|refine zs4 ?_|refine zs5 ?_|refine zs6 [] ?_);conv=>whnf))
      refine VAny.intro (v:=.gl (.loc 0) 1 k) ⟨by omega,k,by omega,.inl ⟨rfl,rfl⟩⟩ ?_
      conv=>whnf
      repeat (first|((first|refine zs1 ?_|refine zs2 ?_|refine zs3 ?_|refine zs4 ?_|refine zs5 ?_|refine zs6 [] ?_);conv=>whnf))
      refine VMem.copyRep (a:=a) (z:=0) (n:=n) (k:=k) rfl rfl h1 (by omega) rfl rfl ?_
      generalize hm : min k (n - k) = m
      conv=>whnf
      repeat (first|((first|refine zs1 ?_|refine zs2 ?_|refine zs3 ?_|refine zs4 ?_|refine zs5 ?_|refine zs6 [] ?_);conv=>whnf))
      refine LEnd.intro (k + m) ⟨by omega,by omega⟩ (by omega) ?_
      conv=>whnf
      refine Retell.turn ⟨[0],1,[],[]⟩ (TurnOk.mk' _ _ [] [] (OutOk.lift _) rfl (by decide) zb trivial trivial rfl) zw zm
    · obtain rfl : k = n:=by omega
      rw [show repL a 0 k k = List.replicate k a by unfold repL;rw [Nat.sub_self];simp]
      conv=>whnf
      repeat' (first|((first|refine zs1 ?_|refine zs2 ?_|refine zs3 ?_|refine zs4 ?_|refine zs5 ?_|refine zs6 [] ?_);conv=>whnf)|((first|apply zi1|apply zi2|apply zi3|apply zi4|apply zi5) <;> intro _ <;> conv=>whnf))
      exact VOut.own1 0 1 rfl rfl
end Go.Proofs.YtkbbfeljlepgoaaGreat

open Go.Vm
open Riv
namespace Go.Proofs.YtkbbfeljlepgoaaGreat
set_option maxRecDepth 20000
set_option maxHeartbeats 4000000

def lkE (m : Mp) (s : Int) : Int:=if chkM m = 0 then (if s = 1 ∨ s = 2 then 0 else 4) else chkM m
theorem vc_looked (m : Mp) (s : Int) (h : Hp) (hl : m.c.length ≤ 4000000) : VC Tryz.prog 75 [vM m,I s] h (.tuple [vSd m s,I (lkE m s)]) h:=by
  have c:=fun h=>vc_check m h hl
  unfold lkE
  generalize chkM m = E at c
  obtain ⟨mw,mh,mc⟩:=m
  by_cases h0 : E = 0
  · subst h0
    rw [if_pos rfl]
    by_cases h1 : s = 1 ∨ s = 2
    · rw [if_pos h1]
      refine VC.body Tryz.func75 rfl Tryz.ntmps75 Tryz.call75 (h.grows_refl) rfl ?_;conv=>whnf
      repeat' (first|((first|refine zs1 ?_|refine zs2 ?_|refine zs3 ?_|refine zs4 ?_|refine zs5 ?_);conv=>whnf)|((first|apply zi1|apply zi2|apply zi3|apply zi4|apply zi5) <;> intro _ <;> first|(exfalso;omega)|contradiction|(conv=>whnf))|(refine VCall.intro (c _) ?_;conv=>whnf))
      all_goals exact VOut.same rfl
    · rw [if_neg h1]
      refine VC.body Tryz.func75 rfl Tryz.ntmps75 Tryz.call75 (h.grows_refl) rfl ?_;conv=>whnf
      repeat' (first|((first|refine zs1 ?_|refine zs2 ?_|refine zs3 ?_|refine zs4 ?_|refine zs5 ?_);conv=>whnf)|((first|apply zi1|apply zi2|apply zi3|apply zi4|apply zi5) <;> intro _ <;> first|(exfalso;omega)|contradiction|(conv=>whnf))|(refine VCall.intro (c _) ?_;conv=>whnf))
      all_goals exact VOut.same rfl
  · rw [if_neg h0]
    refine VC.body Tryz.func75 rfl Tryz.ntmps75 Tryz.call75 (h.grows_refl) rfl ?_;conv=>whnf
    repeat' (first|((first|refine zs1 ?_|refine zs2 ?_|refine zs3 ?_|refine zs4 ?_|refine zs5 ?_);conv=>whnf)|((first|apply zi1|apply zi2|apply zi3|apply zi4|apply zi5) <;> intro _ <;> first|(exfalso;omega)|contradiction|(conv=>whnf))|(refine VCall.intro (c _) ?_;conv=>whnf))
    all_goals exact VOut.same rfl
theorem vc_Shore (m : Mp) (s : Int) (h : Hp) (hl : m.c.length ≤ 4000000) : VC Tryz.prog 104 [vM m,I s] h (I (lkE m s)) h:=by
  have c:=fun h=>vc_rcheck m h hl
  unfold lkE
  generalize chkM m = E at c
  obtain ⟨mw,mh,mc⟩:=m
  by_cases h0 : E = 0
  · subst h0
    rw [if_pos rfl]
    by_cases h1 : s = 1 ∨ s = 2
    · rw [if_pos h1]
      refine VC.body Tryz.func104 rfl Tryz.ntmps104 Tryz.call104 (h.grows_refl) rfl ?_;conv=>whnf
      repeat' (first|((first|refine zs1 ?_|refine zs2 ?_|refine zs3 ?_|refine zs4 ?_|refine zs5 ?_);conv=>whnf)|((first|apply zi1|apply zi2|apply zi3|apply zi4|apply zi5) <;> intro _ <;> first|(exfalso;omega)|contradiction|(conv=>whnf))|(refine VCall.intro (c _) ?_;conv=>whnf))
      all_goals exact VOut.same rfl
    · rw [if_neg h1]
      refine VC.body Tryz.func104 rfl Tryz.ntmps104 Tryz.call104 (h.grows_refl) rfl ?_;conv=>whnf
      repeat' (first|((first|refine zs1 ?_|refine zs2 ?_|refine zs3 ?_|refine zs4 ?_|refine zs5 ?_);conv=>whnf)|((first|apply zi1|apply zi2|apply zi3|apply zi4|apply zi5) <;> intro _ <;> first|(exfalso;omega)|contradiction|(conv=>whnf))|(refine VCall.intro (c _) ?_;conv=>whnf))
      all_goals exact VOut.same rfl
  · rw [if_neg h0]
    refine VC.body Tryz.func104 rfl Tryz.ntmps104 Tryz.call104 (h.grows_refl) rfl ?_;conv=>whnf
    repeat' (first|((first|refine zs1 ?_|refine zs2 ?_|refine zs3 ?_|refine zs4 ?_|refine zs5 ?_);conv=>whnf)|((first|apply zi1|apply zi2|apply zi3|apply zi4|apply zi5) <;> intro _ <;> first|(exfalso;omega)|contradiction|(conv=>whnf))|(refine VCall.intro (c _) ?_;conv=>whnf))
    all_goals exact VOut.same rfl
end Go.Proofs.YtkbbfeljlepgoaaGreat

open Go.Vm
open Riv
namespace Go.Proofs.YtkbbfeljlepgoaaGreat
set_option maxRecDepth 20000
set_option maxHeartbeats 4000000

/-! ### Lists that are written place by place -/
theorem at0_get {l : List Int} {n : Nat} (hn : n < l.length) : l[n]? = some (at0 l n):=by
  unfold at0;rw [List.getD_eq_getElem?_getD,List.getElem?_eq_getElem hn];rfl
def t0k (c : List Int) (s : Int) (k : Nat) : List Int:=t0 (c.take k) s ++ List.replicate (c.length - k) (-1)
theorem t0_len (c : List Int) (s : Int) : (t0 c s).length = c.length:=by unfold t0;rw [List.length_map]
theorem t0k_len {c : List Int} {s : Int} {k : Nat} (h : k ≤ c.length) : (t0k c s k).length = c.length:=by
  unfold t0k;rw [List.length_append,t0_len,List.length_take,List.length_replicate];omega
theorem t0k_zero (c : List Int) (s : Int) : t0k c s 0 = List.replicate c.length (-1):=rfl
theorem t0k_all (c : List Int) (s : Int) : t0k c s c.length = t0 c s:=by
  unfold t0k;rw [List.take_of_length_le (Nat.le_refl _),Nat.sub_self];simp
theorem t0k_step {c : List Int} {s x : Int} {k : Nat} (h : c[k]? = some x) : t0k c s (k + 1) = if x = s then (t0k c s k).set k 0 else t0k c s k:=by
  obtain ⟨hlt,rfl⟩:=List.getElem?_eq_some_iff.1 h
  have e : List.replicate (c.length - k) (-1 : Int) = -1 :: List.replicate (c.length - (k + 1)) (-1):=by
    rw [show c.length - k = (c.length - (k + 1)) + 1 by omega];rfl
  have hl : (t0 (c.take k) s).length = k:=by rw [t0_len,List.length_take];omega
  have e2 : t0 (c.take (k + 1)) s = t0 (c.take k) s ++ [if c[k] = s then 0 else -1]:=by
    unfold t0
    rw [List.take_add_one,List.getElem?_eq_getElem hlt,List.map_append];rfl
  unfold t0k
  rw [e2,e]
  split
  · rw [List.set_append_right _ _ (by omega),hl,Nat.sub_self,List.set_cons_zero];simp
  · simp
theorem putB_len (c : List Int) (st : Int) (T : List Int) (k : Nat) : (putB c st T k).length = T.length:=by
  unfold putB;split <;> simp
theorem nbF_len {f : List Int → Nat → List Int} (hf : ∀ T k,(f T k).length = T.length) (W L n : Nat) (T : List Int) (k : Nat) : (nbF f W L n T k).length = T.length:=by
  unfold nbF
  generalize (List.range k).filterMap (nbO W L n) = l
  induction l generalizing T with
  | nil=>rfl
  | cons a l ih=>rw [List.foldl_cons,ih,hf]
theorem fold_len {f : List Int → Nat → List Int} (hf : ∀ T k,(f T k).length = T.length) : ∀ (l : List Nat) (T : List Int),(l.foldl f T).length = T.length
  | [],_=>rfl
  | a :: l,T=>by rw [List.foldl_cons,fold_len hf l,hf]
theorem cellB_len (c : List Int) (W : Nat) (s st : Int) (T : List Int) (n : Nat) : (cellB c W s st T n).length = T.length:=by
  unfold cellB
  split
  · exact fold_len (putB_len c st) _ T
  · rfl
theorem stepB_len (c : List Int) (W : Nat) (s : Int) (T : List Int) (st : Nat) : (stepB c W s T st).length = T.length:=fold_len (cellB_len c W s st) _ T
def bfsK (c : List Int) (W : Nat) (s : Int) (k : Nat) : List Int:=(List.range k).foldl (stepB c W s) (t0 c s)
theorem bfsK_len (c : List Int) (W : Nat) (s : Int) (k : Nat) : (bfsK c W s k).length = c.length:=by unfold bfsK;rw [fold_len (stepB_len c W s),t0_len]
theorem bfsK_step (c : List Int) (W : Nat) (s : Int) (k : Nat) : bfsK c W s (k + 1) = stepB c W s (bfsK c W s k) k:=by unfold bfsK;rw [List.range_succ,List.foldl_append];rfl
def stepK (c : List Int) (W : Nat) (s : Int) (T : List Int) (st k : Nat) : List Int:=(List.range k).foldl (cellB c W s st) T
theorem stepK_len (c : List Int) (W : Nat) (s : Int) (T : List Int) (st k : Nat) : (stepK c W s T st k).length = T.length:=fold_len (cellB_len c W s st) _ T
theorem stepK_step (c : List Int) (W : Nat) (s : Int) (T : List Int) (st k : Nat) : stepK c W s T st (k + 1) = cellB c W s st (stepK c W s T st k) k:=by unfold stepK;rw [List.range_succ,List.foldl_append];rfl
structure TJ (o : Vm.Id → Option Blk) (L : Nat) (T : List Int) (g : Hp) : Prop where
  o : g.outer = o
  b0 : g.get (.loc 0) = some (.cells true [.gl (.loc 1) 1 L])
  b1 : g.get (.loc 1) = some (.flat true (T.flatMap encI))
  b2 : g.get (.loc 2) = some .mark
theorem vc_table {W H : Nat} (m : Mp) (s : Int) (h : Hp) (o : MOk W H m.c) (hw : m.w = W) (hs : s = 1 ∨ s = 2) : VC Tryz.prog 76 [vSd m s] h (ints (bfs m.c W s)) h:=by
  have hWb:=o.w
  have hHb:=o.h
  have hL:=o.len
  have hlen : m.c.length ≤ 144:=by
    rw [hL]
    exact Nat.le_trans (Nat.mul_le_mul hWb.2 hHb.2) (by decide)
  obtain ⟨R,hR⟩ : ∃ R,R = bfs m.c W s:=⟨_,rfl⟩
  have hRl : R.length = m.c.length:=by rw [hR];exact bfsK_len _ _ _ _
  rw [← hR]
  have cT:=fun k x hk h=>vc_through m s x k h hk
  have cB:=fun n h=>vc_beside m n h
  have itB:=fun n hn=>iter_beside m W n (by omega) hw hn (by omega)
  obtain ⟨mw,mh,c⟩:=m
  dsimp only at hw o hL hlen hR hRl cT itB
  subst hw
  show VC Tryz.prog 76 [.agg [I W,I mh,ints c,I s]] h (ints R) h
  obtain ⟨mapD,hmapD⟩ : ∃ l,l = [DI W,DI mh,dints c,DI s]:=⟨_,rfl⟩
  refine VC.bodyC 2 Tryz.func76 rfl Tryz.ntmps76 Tryz.call76 (h.grows_refl) rfl ?_
  conv=>whnf
  repeat' (first|((first|refine zs1 ?_|refine zs2 ?_|refine zs3 ?_|refine zs4 ?_|refine zs5 ?_);conv=>whnf)|((first|apply zi1|apply zi2|apply zi3|apply zi4|apply zi5) <;> intro _ <;> conv=>whnf))
  refine VCut.at' (outer:=h.lift) (marks:=[]) 99 [(1,.fp [DI W,DI mh,dints c,DI s]),(3,.func (.func 78) [.agg [I W,I mh,ints c,I s]] [])] [] ?_ ?_
  · conv=>whnf
    refine Retell.turn ⟨[],1,[(0,[DI W,DI mh,dints c,DI s])],[]⟩ (TurnOk.mk' _ _ [(0,[DI W,DI mh,dints c,DI s])] [] (OutOk.lift _) rfl (by decide) zb zf trivial rfl) zw zm
  conv=>whnf
  repeat' (first|((first|refine zs1 ?_|refine zs2 ?_|refine zs3 ?_|refine zs4 ?_|refine zs5 ?_);conv=>whnf)|((first|apply zi1|apply zi2|apply zi3|apply zi4|apply zi5) <;> intro _ <;> conv=>whnf))
  refine VCall.intro (VC.give (args':=[ints [-1],I c.length]) (loc':=[.dead]) [(0,[DI (-1)])] [] (OutOk.lift _) zb zf (by exact FmAll.nil) rfl zw (vc_Repeat (-1) c.length _ (by omega))) ?_
  conv=>whnf
  repeat' (first|((first|refine zs1 ?_|refine zs2 ?_|refine zs3 ?_|refine zs4 ?_|refine zs5 ?_);conv=>whnf)|((first|apply zi1|apply zi2|apply zi3|apply zi4|apply zi5) <;> intro _ <;> conv=>whnf))
  refine VCode.lpC (outer:=h.lift) (marks:=[]) 99 (fun k : Nat=>[(1,.fp [DI W,DI mh,dints c,DI s]),(3,.func (.func 78) [.agg [I W,I mh,ints c,I s]] []),(4,.ptr (.loc 0) 0),(20,ints c),(21,I c.length),(22,I k)]) (fun k=>[.cells true [.gl (.loc 1) 1 c.length],.flat true ((t0k c s k).flatMap encI)]) (fun k=>k ≤ c.length) (fun k=>c.length - k) 0 (Nat.zero_le _) ?_ ?_
  · rw [t0k_zero]
    conv=>whnf
    refine Retell.turn ⟨[2,1],3,[],[]⟩ (TurnOk.mk' _ _ [] [] (OutOk.lift _) rfl (by decide) zb trivial trivial rfl) zw zm
  · rintro k hk
    rcases Nat.lt_or_ge k c.length with h3|h3
    · have hx:=at0_get h3
      have hst:=t0k_step (s:=s) hx
      have hkl : (t0k c s k)[k]? = some (at0 (t0k c s k) k):=at0_get (by rw [t0k_len hk];exact h3)
      generalize at0 c k = x at hx hst
      generalize t0k c s k = T at hst hkl
      by_cases hxs : x = s
      · rw [if_pos hxs] at hst
        conv=>whnf
        repeat' (first|((first|refine zs1 ?_|refine zs2 ?_|refine zs3 ?_|refine zs4 ?_|refine zs5 ?_);conv=>whnf)|((first|apply zi1|apply zi2|apply zi3|apply zi4|apply zi5) <;> intro _ <;> first|(exfalso;omega)|contradiction|(conv=>whnf))|(refine VAny.ix encI_len k rfl rfl hx ?_;conv=>whnf)|(refine VMem.setRec encI_len k 0 (0 : Int) rfl rfl rfl hkl (by decide) rfl (by simp) ?_;conv=>whnf))
        refine LEnd.intro (k + 1) (by omega) (by omega) ?_
        rw [hst]
        conv=>whnf
        refine Retell.turn ⟨[0,1],2,[],[]⟩ (TurnOk.mk' _ _ [] [] (OutOk.lift _) rfl (by decide) zb trivial trivial rfl) zw zm
      · rw [if_neg hxs] at hst
        conv=>whnf
        repeat' (first|((first|refine zs1 ?_|refine zs2 ?_|refine zs3 ?_|refine zs4 ?_|refine zs5 ?_);conv=>whnf)|((first|apply zi1|apply zi2|apply zi3|apply zi4|apply zi5) <;> intro _ <;> first|(exfalso;omega)|contradiction|(conv=>whnf))|(refine VAny.ix encI_len k rfl rfl hx ?_;conv=>whnf))
        refine LEnd.intro (k + 1) (by omega) (by omega) ?_
        rw [hst]
        conv=>whnf
        refine Retell.turn ⟨[0,1],2,[],[]⟩ (TurnOk.mk' _ _ [] [] (OutOk.lift _) rfl (by decide) zb trivial trivial rfl) zw zm
    · obtain rfl : k = c.length:=by omega
      rw [t0k_all]
      conv=>whnf
      repeat' (first|((first|refine zs1 ?_|refine zs2 ?_|refine zs3 ?_|refine zs4 ?_|refine zs5 ?_);conv=>whnf)|((first|apply zi1|apply zi2|apply zi3|apply zi4|apply zi5) <;> intro _ <;> first|(exfalso;omega)|contradiction|(conv=>whnf)))
      refine VCode.lpC (outer:=h.lift) (marks:=[]) 99 (fun st : Nat=>[(1,.fp [DI W,DI mh,dints c,DI s]),(3,.func (.func 78) [.agg [I W,I mh,ints c,I s]] []),(4,.ptr (.loc 0) 0),(38,I c.length),(39,I st)]) (fun st=>[.cells true [.gl (.loc 1) 1 c.length],.flat true ((bfsK c W s st).flatMap encI)]) (fun st=>st ≤ c.length) (fun st=>c.length - st) 0 (Nat.zero_le _) ?_ ?_
      · rw [show bfsK c W s 0 = t0 c s from rfl]
        conv=>whnf
        refine Retell.turn ⟨[0,1],2,[],[]⟩ (TurnOk.mk' _ _ [] [] (OutOk.lift _) rfl (by decide) zb trivial trivial rfl) zw zm
      · rintro st hst
        rcases Nat.lt_or_ge st c.length with h5|h5
        · have hB:=bfsK_step c W s st
          have hBl:=bfsK_len c W s st
          have hst2 : stepB c W s (bfsK c W s st) st = stepK c W s (bfsK c W s st) st c.length:=rfl
          rw [hst2] at hB
          have hSl:=fun n=>stepK_len c W s (bfsK c W s st) st n
          have hSt:=fun n=>stepK_step c W s (bfsK c W s st) st n
          have hS0 : stepK c W s (bfsK c W s st) st 0 = bfsK c W s st:=rfl
          rw [← hS0]
          generalize bfsK c W s st = T0 at *
          conv=>whnf
          repeat' (first|((first|refine zs1 ?_|refine zs2 ?_|refine zs3 ?_|refine zs4 ?_|refine zs5 ?_);conv=>whnf)|((first|apply zi1|apply zi2|apply zi3|apply zi4|apply zi5) <;> intro _ <;> first|(exfalso;omega)|contradiction|(conv=>whnf)))
          refine VCode.lpC (outer:=h.lift) (marks:=[]) 99 (fun n : Nat=>[(1,.fp [DI W,DI mh,dints c,DI s]),(3,.func (.func 78) [.agg [I W,I mh,ints c,I s]] []),(4,.ptr (.loc 0) 0),(38,I c.length),(39,I st),(7,.fp [DI st]),(45,I c.length),(46,I n)]) (fun n=>[.cells true [.gl (.loc 1) 1 c.length],.flat true ((stepK c W s T0 st n).flatMap encI)]) (fun n=>n ≤ c.length) (fun n=>c.length - n) 0 (Nat.zero_le _) ?_ ?_
          · generalize stepK c W s T0 st 0 = T
            conv=>whnf
            refine Retell.turn ⟨[0,1],3,[(2,[DI st])],[]⟩ (TurnOk.mk' _ _ [(2,[DI st])] [] (OutOk.lift _) rfl (by decide) zb zf trivial rfl) zw zm
          · rintro n hn
            rcases Nat.lt_or_ge n c.length with h6|h6
            · have hx:=at0_get h6
              have hSn:=hSt n
              have hTl:=hSl n
              rw [hBl] at hTl
              generalize stepK c W s T0 st n = T at hSn hTl
              have ha : T[n]? = some (at0 T n):=at0_get (by omega)
              have cTn:=cT n _ hx
              unfold cellB at hSn
              obtain ⟨x,hxe⟩ : ∃ x,x = at0 c n:=⟨_,rfl⟩
              obtain ⟨a,hae⟩ : ∃ a,a = at0 T n:=⟨_,rfl⟩
              rw [← hxe] at hx cTn
              rw [← hae] at ha
              have hthr : Thr c s n ↔ x = 0 ∨ x = s:=by unfold Thr;rw [← hxe]
              by_cases hcond : at0 T n = st ∧ Thr c s n
              · rw [if_pos hcond] at hSn
                rw [decide_eq_true (hthr.1 hcond.2)] at cTn
                have hast : a = st:=by rw [hae];exact hcond.1
                clear hcond hthr hxe hae
                conv=>whnf
                repeat' (first|((first|refine zs1 ?_|refine zs2 ?_|refine zs3 ?_|refine zs4 ?_|refine zs5 ?_);conv=>whnf)|((first|apply zi1|apply zi2|apply zi3|apply zi4|apply zi5) <;> intro _ <;> conv=>whnf))
                all_goals try (exfalso;omega)
                refine zs6 [] ?_
                conv=>whnf
                repeat' (first|((first|refine zs1 ?_|refine zs2 ?_|refine zs3 ?_|refine zs4 ?_|refine zs5 ?_);conv=>whnf)|((first|apply zi1|apply zi2|apply zi3|apply zi4|apply zi5) <;> intro _ <;> first|(exfalso;omega)|contradiction|(conv=>whnf))|(refine VLd.recc encI_len n 0 rfl rfl rfl ha (by decide) rfl (by simp) ?_;conv=>whnf)|(refine VCall.intro (cTn _) ?_;conv=>whnf)|(refine VCall.intro (cB n _) ?_;conv=>whnf))
                refine VCode.tell [(1,.fp [DI W,DI mh,dints c,DI s]),(3,.func (.func 78) [.agg [I W,I mh,ints c,I s]] []),(4,.ptr (.loc 0) 0),(38,I c.length),(39,I st),(7,.fp [DI st]),(45,I c.length),(46,I n),(64,vBes ⟨W,mh,c⟩ n)] [.cells true [.gl (.loc 1) 1 c.length],.flat true (T.flatMap encI)] (marks':=[]) ?_ ?_
                · conv=>whnf
                  refine Retell.turn ⟨[0,1],2,[],[]⟩ (TurnOk.mk' _ _ [] [] (OutOk.lift _) rfl (by decide) zb trivial trivial rfl) zw zm
                · conv=>whnf
                  refine VCode.iterS 4 (nbY W c.length n) (fun k g=>TJ h.lift c.length (nbF (putB c st) W c.length n T k) g) _ (.loc 3) rfl (itB n h6) rfl rfl ⟨rfl,rfl,rfl,rfl⟩ ?_ ?_ ?_
                  · rintro k g hk hy hJ
                    rw [nbF_none (nbY_none hy)];exact hJ
                  · rintro k g vs hk hy ⟨j0,j1,j2,j3⟩ hlp
                    obtain ⟨q,hq,rfl⟩:=nbY_some hy
                    rw [nbF_some hq]
                    have hqL:=((nbs_iff (by omega) hL h6).1 (nbO_mem hk hq)).1
                    have hUl:=nbF_len (putB_len c st) W c.length n T k
                    rw [hTl] at hUl
                    generalize nbF (putB c st) W c.length n T k = U at j2 hUl
                    have hb : U[q]? = some (at0 U q):=at0_get (by omega)
                    have hy:=at0_get hqL
                    unfold putB
                    obtain ⟨y,hye⟩ : ∃ y,y = at0 c q:=⟨_,rfl⟩
                    obtain ⟨b,hbe⟩ : ∃ b,b = at0 U q:=⟨_,rfl⟩
                    rw [← hye] at hy
                    rw [← hbe] at hb
                    have hopn : Opn c q ↔ y = 0 ∨ y = 3:=by unfold Opn;rw [← hye]
                    by_cases hput : at0 U q = -1 ∧ Opn c q
                    · rw [if_pos hput]
                      have h8 : b = -1:=by rw [hbe];exact hput.1
                      have h9:=hopn.1 hput.2
                      clear hput hopn hye hbe
                      have n1 : g.get (.loc 1) ≠ none:=by rw [j2];simp
                      refine ⟨g.set (.loc 1) (.flat true ((U.set q ((st : Int) + 1)).flatMap encI)),?_,⟨j0,?_,?_,?_⟩,?_⟩
                      · refine VRound.vy' hlp rfl rfl rfl (Hp.grows_set _ _ _) fun l0=>?_
                        refine VRound.tell [(1,.fp [DI W,DI mh,dints c,DI s]),(4,.ptr (.out (.loc 0)) 0),(7,.fp [DI st]),(65,I q)] ?_ ?_
                        · conv=>whnf
                          refine Retell.turn ⟨[],0,[],[]⟩ (TurnOk.mk' _ _ [] [] (OutOk.lift _) rfl (by decide) zb trivial trivial rfl) zw zm
                        · conv=>whnf
                          repeat (first|((first|refine zs1 ?_|refine zs2 ?_|refine zs3 ?_|refine zs4 ?_|refine zs5 ?_|refine zs6 [] ?_);conv=>whnf))
                          refine VBegin.intro (get_out hlp _) rfl ?_
                          conv=>whnf
                          repeat' (first|((first|refine zs1 ?_|refine zs2 ?_|refine zs3 ?_|refine zs4 ?_|refine zs5 ?_);conv=>whnf)|((first|apply zi1|apply zi2|apply zi3|apply zi4|apply zi5) <;> intro _ <;> first|(exfalso;omega)|contradiction|(conv=>whnf))|(refine VLd.cell rfl rfl (get_setO (by decide) j1 _) rfl ?_;conv=>whnf)|(refine VLd.recc encI_len q 0 rfl rfl (get_setO (by decide) j2 _) hb (by decide) rfl (by simp) ?_;conv=>whnf)|(refine VAny.ix encI_len q rfl rfl hy ?_;conv=>whnf)|(refine VMem.setRec encI_len q 0 ((st : Int) + 1) rfl rfl (get_setO (by decide) j2 _) hb (by decide) rfl (by simp) ?_;conv=>whnf))
                          all_goals (
                            refine RFin.on (get_outNe (by decide) (outW_get _ _ _ _)) (VOut.liftS ?_ (Hp.grows_set _ _ _))
                            rw [lift_set n1]
                            exact outer_fix1 (get_out hlp []) (by decide))
                      · rw [Hp.get_set _ _ _ _ n1,if_neg (by decide)];exact j1
                      · rw [Hp.get_set _ _ _ _ n1,if_pos rfl]
                      · rw [Hp.get_set _ _ _ _ n1,if_neg (by decide)];exact j3
                      · rw [Hp.get_set _ _ _ _ n1,if_neg (by decide)];exact hlp
                    · rw [if_neg hput]
                      have h8 : ¬ (b = -1 ∧ (y = 0 ∨ y = 3)):=fun hh=>hput ⟨by rw [← hbe];exact hh.1,hopn.2 hh.2⟩
                      clear hput hopn hye hbe
                      refine ⟨g,?_,⟨j0,j1,j2,j3⟩,hlp⟩
                      · refine VRound.vy' hlp rfl rfl rfl g.grows_refl fun l0=>?_
                        refine VRound.tell [(1,.fp [DI W,DI mh,dints c,DI s]),(4,.ptr (.out (.loc 0)) 0),(7,.fp [DI st]),(65,I q)] ?_ ?_
                        · conv=>whnf
                          refine Retell.turn ⟨[],0,[],[]⟩ (TurnOk.mk' _ _ [] [] (OutOk.lift _) rfl (by decide) zb trivial trivial rfl) zw zm
                        · conv=>whnf
                          repeat (first|((first|refine zs1 ?_|refine zs2 ?_|refine zs3 ?_|refine zs4 ?_|refine zs5 ?_|refine zs6 [] ?_);conv=>whnf))
                          refine VBegin.intro (get_out hlp _) rfl ?_
                          conv=>whnf
                          repeat' (first|((first|refine zs1 ?_|refine zs2 ?_|refine zs3 ?_|refine zs4 ?_|refine zs5 ?_);conv=>whnf)|((first|apply zi1|apply zi2|apply zi3|apply zi4|apply zi5) <;> intro _ <;> first|(exfalso;omega)|contradiction|(conv=>whnf))|(refine VLd.cell rfl rfl (get_setO (by decide) j1 _) rfl ?_;conv=>whnf)|(refine VLd.recc encI_len q 0 rfl rfl (get_setO (by decide) j2 _) hb (by decide) rfl (by simp) ?_;conv=>whnf)|(refine VAny.ix encI_len q rfl rfl hy ?_;conv=>whnf))
                          all_goals first
                            | exact RFin.on (outW_get _ _ _ _) (VOut.back (get_out hlp []) rfl)
                            | (exfalso;omega)
                  · rintro ⟨go,gl⟩ ⟨j0,j1,j2,j3⟩ hlp
                    dsimp only at j0
                    subst j0
                    rw [nbF_all,← hSn] at j2
                    obtain ⟨U,hU⟩ : ∃ U,U = stepK c W s T0 st (n + 1):=⟨_,rfl⟩
                    rw [← hU] at j2
                    have j1 : gl[0]? = some _:=j1
                    have j2 : gl[1]? = some _:=j2
                    have j3 : gl[2]? = some _:=j3
                    have l0:=(List.getElem?_eq_some_iff.1 j1).1
                    have l1:=(List.getElem?_eq_some_iff.1 j2).1
                    have key : ∀ (x : Nat) (A : Blk),x ≠ 3 → (gl.set 3 A)[x]? = gl[x]?:=fun x A hx=>List.getElem?_set_ne (Ne.symm hx)
                    refine Told.mk [(1,.fp [DI W,DI mh,dints c,DI s]),(3,.func (.func 78) [.agg [I W,I mh,ints c,I s]] []),(4,.ptr (.loc 0) 0),(38,I c.length),(39,I st),(7,.fp [DI st]),(45,I c.length),(46,I n)] [.cells true [.gl (.loc 1) 1 c.length],.flat true (U.flatMap encI)] (marks':=[]) ?_ ?_
                    · conv=>whnf
                      refine Retell.turn ⟨[0,1],gl.length,[],[]⟩ (TurnOk.mk' _ _ [] [] (OutOk.lift _) (Nat.ble_eq_true_of_le (by simp)) (by simp) (BTos.cells (blt_of l0) ((key 0 _ (by decide)).trans j1) rfl zw (BTos.flat (blt_of l1) ((key 1 _ (by decide)).trans j2) rfl BTos.nil)) trivial trivial rfl) zw (MkTo.drop (show 2 ∉ ([0,1] : List Nat) by decide) ((key 2 _ (by decide)).trans j3) MkTo.nil)
                    · conv=>whnf
                      repeat' (first|((first|refine zs1 ?_|refine zs2 ?_|refine zs3 ?_|refine zs4 ?_|refine zs5 ?_|refine zs6 [] ?_);conv=>whnf)|((first|apply zi1|apply zi2|apply zi3|apply zi4|apply zi5) <;> intro _ <;> conv=>whnf))
                      refine LEnd.intro (n + 1) (by omega) (by omega) ?_
                      rw [← hU]
                      conv=>whnf
                      refine Retell.turn ⟨[0,1],2,[],[]⟩ (TurnOk.mk' _ _ [] [] (OutOk.lift _) rfl (by decide) zb trivial trivial rfl) zw zm
              · rw [if_neg hcond] at hSn
                have hno : ¬ (a = st ∧ (x = 0 ∨ x = s)):=fun hh=>hcond ⟨by rw [← hae];exact hh.1,hthr.2 hh.2⟩
                clear hcond hxe hae
                by_cases hth : x = 0 ∨ x = s
                · rw [decide_eq_true hth] at cTn
                  conv=>whnf
                  repeat' (first|((first|refine zs1 ?_|refine zs2 ?_|refine zs3 ?_|refine zs4 ?_|refine zs5 ?_);conv=>whnf)|((first|apply zi1|apply zi2|apply zi3|apply zi4|apply zi5) <;> intro _ <;> conv=>whnf))
                  all_goals try (exfalso;omega)
                  refine zs6 [] ?_
                  conv=>whnf
                  repeat' (first|((first|refine zs1 ?_|refine zs2 ?_|refine zs3 ?_|refine zs4 ?_|refine zs5 ?_);conv=>whnf)|((first|apply zi1|apply zi2|apply zi3|apply zi4|apply zi5) <;> intro _ <;> first|(exfalso;omega)|contradiction|(conv=>whnf))|(refine VLd.recc encI_len n 0 rfl rfl rfl ha (by decide) rfl (by simp) ?_;conv=>whnf)|(refine VCall.intro (cTn _) ?_;conv=>whnf)|(refine VCall.intro (cB n _) ?_;conv=>whnf))
                  all_goals first
                    | (exfalso;omega)
                    | (refine LEnd.intro (n + 1) (by omega) (by omega) ?_
                       rw [hSn]
                       conv=>whnf
                       refine Retell.turn ⟨[0,1],2,[],[]⟩ (TurnOk.mk' _ _ [] [] (OutOk.lift _) rfl (by decide) zb trivial trivial rfl) zw zm)
                · rw [decide_eq_false hth] at cTn
                  conv=>whnf
                  repeat' (first|((first|refine zs1 ?_|refine zs2 ?_|refine zs3 ?_|refine zs4 ?_|refine zs5 ?_);conv=>whnf)|((first|apply zi1|apply zi2|apply zi3|apply zi4|apply zi5) <;> intro _ <;> conv=>whnf))
                  all_goals try (exfalso;omega)
                  refine zs6 [] ?_
                  conv=>whnf
                  repeat' (first|((first|refine zs1 ?_|refine zs2 ?_|refine zs3 ?_|refine zs4 ?_|refine zs5 ?_);conv=>whnf)|((first|apply zi1|apply zi2|apply zi3|apply zi4|apply zi5) <;> intro _ <;> first|(exfalso;omega)|contradiction|(conv=>whnf))|(refine VLd.recc encI_len n 0 rfl rfl rfl ha (by decide) rfl (by simp) ?_;conv=>whnf)|(refine VCall.intro (cTn _) ?_;conv=>whnf)|(refine VCall.intro (cB n _) ?_;conv=>whnf))
                  all_goals first
                    | (exfalso;omega)
                    | (refine LEnd.intro (n + 1) (by omega) (by omega) ?_
                       rw [hSn]
                       conv=>whnf
                       refine Retell.turn ⟨[0,1],2,[],[]⟩ (TurnOk.mk' _ _ [] [] (OutOk.lift _) rfl (by decide) zb trivial trivial rfl) zw zm)
            · obtain rfl : n = c.length:=by omega
              rw [← hB]
              conv=>whnf
              repeat' (first|((first|refine zs1 ?_|refine zs2 ?_|refine zs3 ?_|refine zs4 ?_|refine zs5 ?_);conv=>whnf)|((first|apply zi1|apply zi2|apply zi3|apply zi4|apply zi5) <;> intro _ <;> first|(exfalso;omega)|contradiction|(conv=>whnf)))
              refine LEnd.intro (st + 1) (by omega) (by omega) ?_
              generalize bfsK c W s (st + 1) = T
              conv=>whnf
              refine Retell.turn ⟨[0,1],2,[],[]⟩ (TurnOk.mk' _ _ [] [] (OutOk.lift _) rfl (by decide) zb trivial trivial rfl) zw zm
        · obtain rfl : st = c.length:=by omega
          rw [show bfsK c W s c.length = R by rw [hR];rfl]
          conv=>whnf
          repeat' (first|((first|refine zs1 ?_|refine zs2 ?_|refine zs3 ?_|refine zs4 ?_|refine zs5 ?_);conv=>whnf)|((first|apply zi1|apply zi2|apply zi3|apply zi4|apply zi5) <;> intro _ <;> first|(exfalso;omega)|contradiction|(conv=>whnf)))
          rw [show ints R = .fs 1 c.length (R.flatMap encI) by unfold ints;rw [hRl]]
          have hRf : (R.flatMap encI).length = c.length * 1:=by rw [flat_len encI_len,hRl]
          refine VOut.data 2 [(1,R.flatMap encI)] [] rfl zf (by exact FmAll.nil) zw
end Go.Proofs.YtkbbfeljlepgoaaGreat

open Go.Vm
open Riv
namespace Go.Proofs.YtkbbfeljlepgoaaGreat
set_option maxRecDepth 20000
set_option maxHeartbeats 4000000

theorem ofs (k : Nat) : ((k : Nat) : Int).toNat * (0 + 1) = k * 1 + 0:=by simp
def t0z (c : List Int) (s z : Int) (k : Nat) : List Int:=t0 (c.take k) s ++ List.replicate (c.length - k) z
theorem t0z_len {c : List Int} {s z : Int} {k : Nat} (h : k ≤ c.length) : (t0z c s z k).length = c.length:=by
  unfold t0z;rw [List.length_append,t0_len,List.length_take,List.length_replicate];omega
theorem t0z_all (c : List Int) (s z : Int) : t0z c s z c.length = t0 c s:=by
  unfold t0z;rw [List.take_of_length_le (Nat.le_refl _),Nat.sub_self];simp
theorem t0z_step {c : List Int} {s x z : Int} {k : Nat} (h : c[k]? = some x) : t0z c s z (k + 1) = (t0z c s z k).set k (if x = s then 0 else -1):=by
  obtain ⟨hlt,rfl⟩:=List.getElem?_eq_some_iff.1 h
  have e : List.replicate (c.length - k) z = z :: List.replicate (c.length - (k + 1)) z:=by
    rw [show c.length - k = (c.length - (k + 1)) + 1 by omega];rfl
  have hl : (t0 (c.take k) s).length = k:=by rw [t0_len,List.length_take];omega
  have e2 : t0 (c.take (k + 1)) s = t0 (c.take k) s ++ [if c[k] = s then 0 else -1]:=by
    unfold t0
    rw [List.take_add_one,List.getElem?_eq_getElem hlt,List.map_append];rfl
  unfold t0z
  rw [e2,e,List.set_append_right _ _ (by omega),hl,Nat.sub_self,List.set_cons_zero];simp
theorem _root_.Riv.RI.bd {c : List Int} {W : Nat} {s : Int} {T : List Int} (h : RI c W s T) (hL : c.length ≤ 160) (n : Nat) : -1 ≤ at0 T n ∧ at0 T n ≤ 160:=by
  refine ⟨h.low n,?_⟩
  by_cases h0 : at0 T n = -1
  · omega
  · have h1:=h.cn n h0
    have h2:=cnt_le T
    rw [h.len] at h2
    omega
def rcK (c : List Int) (W : Nat) (T : List Int) (a : Nat) : TB:=(List.range a).foldl (rcell c W) (T,false)
def rpK (c : List Int) (W a : Nat) (x : TB) (b : Nat) : TB:=(List.range b).foldl (rput c W a) x
theorem rcK_step (c : List Int) (W : Nat) (T : List Int) (a : Nat) : rcK c W T (a + 1) = rcell c W (rcK c W T a) a:=by unfold rcK;rw [List.range_succ,List.foldl_append];rfl
theorem rpK_step (c : List Int) (W a : Nat) (x : TB) (b : Nat) : rpK c W a x (b + 1) = rput c W a (rpK c W a x b) b:=by unfold rpK;rw [List.range_succ,List.foldl_append];rfl
theorem vc_rfar {W H : Nat} (m : Mp) (s : Int) (h : Hp) (o : MOk W H m.c) (hw : m.w = W) (hs : s = 1 ∨ s = 2) : VC Tryz.prog 99 [vM m,I s] h (ints (bfs m.c W s)) h:=by
  have hWb:=o.w
  have hHb:=o.h
  have hL:=o.len
  have hlen : m.c.length ≤ 144:=by
    rw [hL]
    exact Nat.le_trans (Nat.mul_le_mul hWb.2 hHb.2) (by decide)
  rw [← rfar_eq (by omega) (by omega) hL (by omega)]
  obtain ⟨R,hR⟩ : ∃ R,R = rfar m.c W s:=⟨_,rfl⟩
  have hRl : R.length = m.c.length:=by rw [hR];exact (rfar_hld (by omega) (by omega) (by omega)).len
  have hW0 : wgt (t0 m.c s) < 40000:=by
    have h:=bi0 (c:=m.c) (W:=W) (s:=s)
    have:=wgt_le (T:=t0 m.c s) fun n=>by have:=(h.rng n).2;omega
    rw [h.len] at this
    omega
  have hI0 : RI m.c W s (t0 m.c s):=ri0
  rw [← hR]
  unfold rfar at hR
  have cN:=fun a b h ha hb=>vc_rnext m W a b h (by omega) hw ha hb (by omega)
  obtain ⟨mw,mh,c⟩:=m
  dsimp only at hw o hL hlen hR hRl hW0 hI0 cN
  subst hw
  show VC Tryz.prog 99 [.agg [I W,I mh,ints c],I s] h (ints R) h
  refine VC.bodyC 1 Tryz.func99 rfl Tryz.ntmps99 Tryz.call99 (h.grows_refl) rfl ?_
  conv=>whnf
  repeat' (first|((first|refine zs1 ?_|refine zs2 ?_|refine zs3 ?_|refine zs4 ?_|refine zs5 ?_);conv=>whnf)|((first|apply zi1|apply zi2|apply zi3|apply zi4|apply zi5) <;> intro _ <;> conv=>whnf))
  refine VCut.at' (outer:=h.lift) (marks:=[]) 99 [(1,I s),(2,.fp [DI W,DI mh,dints c])] [] ?_ ?_
  · conv=>whnf
    refine Retell.turn ⟨[],1,[(0,[DI W,DI mh,dints c])],[]⟩ (TurnOk.mk' _ _ [(0,[DI W,DI mh,dints c])] [] (OutOk.lift _) rfl (by decide) zb zf trivial rfl) zw zm
  conv=>whnf
  repeat' (first|((first|refine zs1 ?_|refine zs2 ?_|refine zs3 ?_|refine zs4 ?_|refine zs5 ?_);conv=>whnf)|((first|apply zi1|apply zi2|apply zi3|apply zi4|apply zi5) <;> intro _ <;> conv=>whnf)|(refine VMem.make (0 : Int) encI_len rfl rfl rfl rfl rfl rfl (by omega) ?_;conv=>whnf))
  refine VCode.lpC (outer:=h.lift) (marks:=[]) 99 (fun k : Nat=>[(1,I s),(2,.fp [DI W,DI mh,dints c]),(5,.gl (.loc 0) 1 c.length),(6,I k)]) (fun k=>[.flat true ((t0z c s 0 k).flatMap encI)]) (fun k=>k ≤ c.length) (fun k=>c.length - k) 0 (Nat.zero_le _) ?_ ?_
  · rw [show t0z c s 0 0 = List.replicate c.length 0 from rfl]
    conv=>whnf
    refine Retell.turn ⟨[0],1,[],[]⟩ (TurnOk.mk' _ _ [] [] (OutOk.lift _) rfl (by decide) zb trivial trivial rfl) zw zm
  · rintro k hk
    rcases Nat.lt_or_ge k c.length with h3|h3
    · have hx:=at0_get h3
      have hst:=t0z_step (s:=s) (z:=0) hx
      have hkl : (t0z c s 0 k)[k]? = some (at0 (t0z c s 0 k) k):=at0_get (by rw [t0z_len hk];exact h3)
      have hTl:=t0z_len (c:=c) (s:=s) (z:=0) hk
      generalize at0 c k = x at hx hst
      generalize t0z c s 0 k = T at hst hkl hTl
      have hk2 : (T.set k (-1))[k]? = some (-1):=List.getElem?_set_self (by omega)
      by_cases hxs : x = s
      · rw [if_pos hxs] at hst
        conv=>whnf
        repeat' (first|((first|refine zs1 ?_|refine zs2 ?_|refine zs3 ?_|refine zs4 ?_|refine zs5 ?_);conv=>whnf)|((first|apply zi1|apply zi2|apply zi3|apply zi4|apply zi5) <;> intro _ <;> first|(exfalso;omega)|contradiction|(conv=>whnf))|(refine VAny.ix encI_len k rfl rfl hx ?_;conv=>whnf)|(refine VMem.setRec encI_len k 0 (-1 : Int) rfl rfl rfl hkl (by decide) rfl (ofs _) ?_;conv=>whnf)|(refine VMem.setRec encI_len k 0 (0 : Int) rfl rfl rfl hk2 (by decide) rfl (ofs _) ?_;conv=>whnf))
        refine LEnd.intro (k + 1) (by omega) (by omega) ?_
        rw [hst,← List.set_set (a:=(-1 : Int))]
        conv=>whnf
        refine Retell.turn ⟨[0],1,[],[]⟩ (TurnOk.mk' _ _ [] [] (OutOk.lift _) rfl (by decide) zb trivial trivial rfl) zw zm
      · rw [if_neg hxs] at hst
        conv=>whnf
        repeat' (first|((first|refine zs1 ?_|refine zs2 ?_|refine zs3 ?_|refine zs4 ?_|refine zs5 ?_);conv=>whnf)|((first|apply zi1|apply zi2|apply zi3|apply zi4|apply zi5) <;> intro _ <;> first|(exfalso;omega)|contradiction|(conv=>whnf))|(refine VAny.ix encI_len k rfl rfl hx ?_;conv=>whnf)|(refine VMem.setRec encI_len k 0 (-1 : Int) rfl rfl rfl hkl (by decide) rfl (ofs _) ?_;conv=>whnf))
        refine LEnd.intro (k + 1) (by omega) (by omega) ?_
        rw [hst]
        conv=>whnf
        refine Retell.turn ⟨[0],1,[],[]⟩ (TurnOk.mk' _ _ [] [] (OutOk.lift _) rfl (by decide) zb trivial trivial rfl) zw zm
    · obtain rfl : k = c.length:=by omega
      rw [t0z_all]
      conv=>whnf
      repeat' (first|((first|refine zs1 ?_|refine zs2 ?_|refine zs3 ?_|refine zs4 ?_|refine zs5 ?_);conv=>whnf)|((first|apply zi1|apply zi2|apply zi3|apply zi4|apply zi5) <;> intro _ <;> first|(exfalso;omega)|contradiction|(conv=>whnf)))
      refine VCode.lpC (outer:=h.lift) (marks:=[]) 99 (fun y : TB=>[(2,.fp [DI W,DI mh,dints c]),(5,.gl (.loc 0) 1 c.length),(7,B y.2)]) (fun y=>[.flat true (y.1.flatMap encI)]) (fun y=>RI c W s y.1 ∧ ∃ N,wgt y.1 < N ∧ R = bif y.2 then rgo c W N y.1 else y.1) (fun y=>2 * wgt y.1 + (bif y.2 then 1 else 0)) (t0 c s,true) ⟨hI0,40000,hW0,hR⟩ ?_ ?_
      · conv=>whnf
        refine Retell.turn ⟨[0],1,[],[]⟩ (TurnOk.mk' _ _ [] [] (OutOk.lift _) rfl (by decide) zb trivial trivial rfl) zw zm
      · rintro ⟨T,ch⟩ ⟨y1,N,y2,y3⟩
        dsimp only at y1 y2 y3
        cases ch with
        | false =>
          rw [cond_false] at y3
          subst y3
          rw [show ints R = .fs 1 c.length (R.flatMap encI) by unfold ints;rw [hRl]]
          have hRf : (R.flatMap encI).length = c.length * 1:=by rw [flat_len encI_len,hRl]
          conv=>whnf
          repeat' (first|((first|refine zs1 ?_|refine zs2 ?_|refine zs3 ?_|refine zs4 ?_|refine zs5 ?_|refine zs6 [] ?_);conv=>whnf)|((first|apply zi1|apply zi2|apply zi3|apply zi4|apply zi5) <;> intro _ <;> conv=>whnf))
          refine VOut.data 1 [(0,R.flatMap encI)] [] rfl zf (by exact FmAll.nil) zw
        | true =>
          rw [cond_true] at y3
          have hrr:=fun a ha=>rround_ok (s:=s) (by omega) (by omega) y1 (W:=W) a ha
          have hst:=rcK_step c W T
          have hro : rround c W T = rcK c W T c.length:=rfl
          have hrp : ∀ a P,a < c.length → at0 c a ≠ 3 → ∀ x : TB,RJ c W s T x.1 x.2 P → at0 x.1 a ≠ -1 → ∀ b,b ≤ c.length → RI c W s (rpK c W a x b).1:=fun a P ha h3 x hx h0 b hb=>(rputL_ok (by omega) (by omega) ha h3 hx h0 b hb).1.ri
          have hrk : ∀ a,a ≤ c.length → RJ c W s T (rcK c W T a).1 (rcK c W T a).2 (fun i _=>i < a):=hrr
          clear hrr
          have hN : ∀ y : TB,y = rcK c W T c.length → (RI c W s y.1 ∧ ∃ N,wgt y.1 < N ∧ R = bif y.2 then rgo c W N y.1 else y.1) ∧ 2 * wgt y.1 + (bif y.2 then 1 else 0) < 2 * wgt T + 1:=by
            rintro y rfl
            have h1:=hrk c.length (Nat.le_refl _)
            cases N with
            | zero=>omega
            | succ N =>
              rw [rgo,hro] at y3
              cases hc : (rcK c W T c.length).2 with
              | true =>
                have h2:=h1.yes hc
                rw [hc] at y3
                exact ⟨⟨h1.ri,N,by omega,y3⟩,by rw [cond_true];omega⟩
              | false =>
                have h2:=(h1.no hc).1
                rw [hc] at y3
                rw [h2] at y3 ⊢
                exact ⟨⟨y1,N + 1,by omega,y3⟩,by rw [cond_false];omega⟩
          clear y3 y2 hro
          conv=>whnf
          repeat' (first|((first|refine zs1 ?_|refine zs2 ?_|refine zs3 ?_|refine zs4 ?_|refine zs5 ?_|refine zs6 [] ?_);conv=>whnf)|((first|apply zi1|apply zi2|apply zi3|apply zi4|apply zi5) <;> intro _ <;> conv=>whnf))
          refine VCode.lpC (outer:=h.lift) (marks:=[]) 99 (fun a : Nat=>[(2,.fp [DI W,DI mh,dints c]),(5,.gl (.loc 0) 1 c.length),(7,B (rcK c W T a).2),(8,I a)]) (fun a=>[.flat true ((rcK c W T a).1.flatMap encI)]) (fun a=>a ≤ c.length) (fun a=>c.length - a) 0 (Nat.zero_le _) ?_ ?_
          · rw [show rcK c W T 0 = (T,false) from rfl]
            conv=>whnf
            refine Retell.turn ⟨[0],1,[],[]⟩ (TurnOk.mk' _ _ [] [] (OutOk.lift _) rfl (by decide) zb trivial trivial rfl) zw zm
          · rintro a ha
            rcases Nat.lt_or_ge a c.length with h5|h5
            · have hJ:=hrk a ha
              have hsa:=hst a
              have hx:=at0_get h5
              generalize rcK c W T a = x0 at hJ hsa
              obtain ⟨U,cu⟩:=x0
              dsimp only at hJ
              have hUl:=hJ.ri.len
              have hb:=at0_get (l:=U) (n:=a) (by omega)
              have hbd:=hJ.ri.bd (by omega) a
              unfold rcell at hsa
              obtain ⟨x,hxe⟩ : ∃ x,x = at0 c a:=⟨_,rfl⟩
              obtain ⟨v,hve⟩ : ∃ v,v = at0 U a:=⟨_,rfl⟩
              rw [← hxe] at hx hsa
              rw [← hve] at hb hbd
              by_cases hskip : v = -1 ∨ x = 3
              · rw [if_pos (by rw [← hve];exact hskip)] at hsa
                clear hxe hve
                conv=>whnf
                repeat' (first|((first|refine zs1 ?_|refine zs2 ?_|refine zs3 ?_|refine zs4 ?_|refine zs5 ?_);conv=>whnf)|((first|apply zi1|apply zi2|apply zi3|apply zi4|apply zi5) <;> intro _ <;> first|(exfalso;omega)|contradiction|(conv=>whnf))|(refine VAny.ix encI_len a rfl rfl hx ?_;conv=>whnf)|(refine VLd.recc encI_len a 0 rfl rfl rfl hb (by decide) rfl (ofs _) ?_;conv=>whnf))
                all_goals first
                  | (exfalso;omega)
                  | (refine LEnd.intro (a + 1) (by omega) (by omega) ?_
                     rw [hsa]
                     conv=>whnf
                     refine Retell.turn ⟨[0],1,[],[]⟩ (TurnOk.mk' _ _ [] [] (OutOk.lift _) rfl (by decide) zb trivial trivial rfl) zw zm)
              · rw [if_neg (by rw [← hve];exact hskip)] at hsa
                have hrb:=hrp a _ h5 (by rw [← hxe];omega) (U,cu) hJ (by dsimp only;rw [← hve];omega)
                have hrl:=fun b hb=>(rputL_ok (by omega) (by omega) h5 (by rw [← hxe];omega) (x:=(U,cu)) hJ (by dsimp only;rw [← hve];omega) b hb).2
                dsimp only at hrl
                have hsb:=rpK_step c W a (U,cu)
                have hse : (List.range c.length).foldl (rput c W a) (U,cu) = rpK c W a (U,cu) c.length:=rfl
                rw [hse] at hsa
                have hra : ∀ b,b ≤ c.length → at0 (rpK c W a (U,cu) b).1 a = v:=fun b hb=>by rw [hve];exact hrl b hb
                clear hrl hJ hse
                conv=>whnf
                repeat' (first|((first|refine zs1 ?_|refine zs2 ?_|refine zs3 ?_|refine zs4 ?_|refine zs5 ?_);conv=>whnf)|((first|apply zi1|apply zi2|apply zi3|apply zi4|apply zi5) <;> intro _ <;> first|(exfalso;omega)|contradiction|(conv=>whnf))|(refine VAny.ix encI_len a rfl rfl hx ?_;conv=>whnf)|(refine VLd.recc encI_len a 0 rfl rfl rfl hb (by decide) rfl (ofs _) ?_;conv=>whnf))
                refine VCode.lpC (outer:=h.lift) (marks:=[]) 99 (fun b : Nat=>[(2,.fp [DI W,DI mh,dints c]),(5,.gl (.loc 0) 1 c.length),(7,B (rpK c W a (U,cu) b).2),(8,I a),(9,I b)]) (fun b=>[.flat true ((rpK c W a (U,cu) b).1.flatMap encI)]) (fun b=>b ≤ c.length) (fun b=>c.length - b) 0 (Nat.zero_le _) ?_ ?_
                · rw [show rpK c W a (U,cu) 0 = (U,cu) from rfl]
                  conv=>whnf
                  refine Retell.turn ⟨[0],1,[],[]⟩ (TurnOk.mk' _ _ [] [] (OutOk.lift _) rfl (by decide) zb trivial trivial rfl) zw zm
                · rintro b hb'
                  rcases Nat.lt_or_ge b c.length with h6|h6
                  · have hI:=hrb b hb'
                    have hsb:=hsb b
                    have hva:=hra b hb'
                    have hy:=at0_get h6
                    have cNb:=fun h=>cN a b h (by omega) (by omega)
                    generalize rpK c W a (U,cu) b = z at hI hsb hva
                    obtain ⟨Z,cz⟩:=z
                    dsimp only at hI hva
                    have hZl:=hI.len
                    have hbdZ:=hI.bd (by omega) b
                    have hzb:=at0_get (l:=Z) (n:=b) (by omega)
                    have hza:=at0_get (l:=Z) (n:=a) (by omega)
                    unfold rput at hsb
                    dsimp only at hsb
                    rw [hva] at hsb hza
                    obtain ⟨y,hye⟩ : ∃ y,y = at0 c b:=⟨_,rfl⟩
                    obtain ⟨w,hwe⟩ : ∃ w,w = at0 Z b:=⟨_,rfl⟩
                    rw [← hye] at hy
                    rw [← hwe] at hzb hbdZ hsb
                    have hopn : Opn c b ↔ y = 0 ∨ y = 3:=by unfold Opn;rw [← hye]
                    by_cases hput : Nb W a b ∧ Opn c b ∧ (w = -1 ∨ v + 1 < w)
                    · rw [if_pos hput] at hsb
                      rw [decide_eq_true hput.1] at cNb
                      have h7:=hopn.1 hput.2.1
                      have h8:=hput.2.2
                      clear hput hopn hye hwe hxe hve
                      conv=>whnf
                      repeat' (first|((first|refine zs1 ?_|refine zs2 ?_|refine zs3 ?_|refine zs4 ?_|refine zs5 ?_);conv=>whnf)|((first|apply zi1|apply zi2|apply zi3|apply zi4|apply zi5) <;> intro _ <;> conv=>whnf))
                      all_goals try (exfalso;omega)
                      refine zs6 [] ?_
                      conv=>whnf
                      repeat' (first|((first|refine zs1 ?_|refine zs2 ?_|refine zs3 ?_|refine zs4 ?_|refine zs5 ?_);conv=>whnf)|((first|apply zi1|apply zi2|apply zi3|apply zi4|apply zi5) <;> intro _ <;> first|(exfalso;omega)|contradiction|(conv=>whnf))|(refine VCall.intro (cNb _) ?_;conv=>whnf)|(refine VAny.ix encI_len b rfl rfl hy ?_;conv=>whnf)|(refine VLd.recc encI_len a 0 rfl rfl rfl hza (by decide) rfl (ofs _) ?_;conv=>whnf)|(refine VLd.recc encI_len b 0 rfl rfl rfl hzb (by decide) rfl (ofs _) ?_;conv=>whnf)|(refine VMem.setRec encI_len b 0 (v + 1) rfl rfl rfl hzb (by decide) rfl (ofs _) ?_;conv=>whnf))
                      all_goals (
                        refine LEnd.intro (b + 1) (by omega) (by omega) ?_
                        rw [hsb]
                        conv=>whnf
                        refine Retell.turn ⟨[0],1,[],[]⟩ (TurnOk.mk' _ _ [] [] (OutOk.lift _) rfl (by decide) zb trivial trivial rfl) zw zm)
                    · rw [if_neg hput] at hsb
                      have h7 : ¬ (Nb W a b ∧ (y = 0 ∨ y = 3) ∧ (w = -1 ∨ v + 1 < w)):=fun hh=>hput ⟨hh.1,hopn.2 hh.2.1,hh.2.2⟩
                      clear hput hopn hye hwe hxe hve
                      by_cases hnb : Nb W a b
                      · rw [decide_eq_true hnb] at cNb
                        have h8 : ¬ ((y = 0 ∨ y = 3) ∧ (w = -1 ∨ v + 1 < w)):=fun hh=>h7 ⟨hnb,hh⟩
                        clear h7
                        conv=>whnf
                        repeat' (first|((first|refine zs1 ?_|refine zs2 ?_|refine zs3 ?_|refine zs4 ?_|refine zs5 ?_);conv=>whnf)|((first|apply zi1|apply zi2|apply zi3|apply zi4|apply zi5) <;> intro _ <;> conv=>whnf))
                        all_goals try (exfalso;omega)
                        refine zs6 [] ?_
                        conv=>whnf
                        repeat' (first|((first|refine zs1 ?_|refine zs2 ?_|refine zs3 ?_|refine zs4 ?_|refine zs5 ?_);conv=>whnf)|((first|apply zi1|apply zi2|apply zi3|apply zi4|apply zi5) <;> intro _ <;> first|(exfalso;omega)|contradiction|(conv=>whnf))|(refine VCall.intro (cNb _) ?_;conv=>whnf)|(refine VAny.ix encI_len b rfl rfl hy ?_;conv=>whnf)|(refine VLd.recc encI_len a 0 rfl rfl rfl hza (by decide) rfl (ofs _) ?_;conv=>whnf)|(refine VLd.recc encI_len b 0 rfl rfl rfl hzb (by decide) rfl (ofs _) ?_;conv=>whnf))
                        all_goals first
                          | (exfalso;omega)
                          | (refine LEnd.intro (b + 1) (by omega) (by omega) ?_
                             rw [hsb]
                             conv=>whnf
                             refine Retell.turn ⟨[0],1,[],[]⟩ (TurnOk.mk' _ _ [] [] (OutOk.lift _) rfl (by decide) zb trivial trivial rfl) zw zm)
                      · rw [decide_eq_false hnb] at cNb
                        clear h7
                        conv=>whnf
                        repeat' (first|((first|refine zs1 ?_|refine zs2 ?_|refine zs3 ?_|refine zs4 ?_|refine zs5 ?_);conv=>whnf)|((first|apply zi1|apply zi2|apply zi3|apply zi4|apply zi5) <;> intro _ <;> conv=>whnf))
                        all_goals try (exfalso;omega)
                        refine zs6 [] ?_
                        conv=>whnf
                        repeat' (first|((first|refine zs1 ?_|refine zs2 ?_|refine zs3 ?_|refine zs4 ?_|refine zs5 ?_);conv=>whnf)|((first|apply zi1|apply zi2|apply zi3|apply zi4|apply zi5) <;> intro _ <;> first|(exfalso;omega)|contradiction|(conv=>whnf))|(refine VCall.intro (cNb _) ?_;conv=>whnf))
                        refine LEnd.intro (b + 1) (by omega) (by omega) ?_
                        rw [hsb]
                        conv=>whnf
                        refine Retell.turn ⟨[0],1,[],[]⟩ (TurnOk.mk' _ _ [] [] (OutOk.lift _) rfl (by decide) zb trivial trivial rfl) zw zm
                  · obtain rfl : b = c.length:=by omega
                    rw [← hsa]
                    conv=>whnf
                    repeat' (first|((first|refine zs1 ?_|refine zs2 ?_|refine zs3 ?_|refine zs4 ?_|refine zs5 ?_);conv=>whnf)|((first|apply zi1|apply zi2|apply zi3|apply zi4|apply zi5) <;> intro _ <;> first|(exfalso;omega)|contradiction|(conv=>whnf)))
                    refine LEnd.intro (a + 1) (by omega) (by omega) ?_
                    generalize rcK c W T (a + 1) = z
                    obtain ⟨Z,cz⟩:=z
                    conv=>whnf
                    refine Retell.turn ⟨[0],1,[],[]⟩ (TurnOk.mk' _ _ [] [] (OutOk.lift _) rfl (by decide) zb trivial trivial rfl) zw zm
            · obtain rfl : a = c.length:=by omega
              have hN:=hN _ rfl
              generalize rcK c W T c.length = z at hN
              obtain ⟨Z,cz⟩:=z
              conv=>whnf
              repeat' (first|((first|refine zs1 ?_|refine zs2 ?_|refine zs3 ?_|refine zs4 ?_|refine zs5 ?_);conv=>whnf)|((first|apply zi1|apply zi2|apply zi3|apply zi4|apply zi5) <;> intro _ <;> first|(exfalso;omega)|contradiction|(conv=>whnf)))
              refine LEnd.intro (Z,cz) hN.1 hN.2 ?_
              conv=>whnf
              refine Retell.turn ⟨[0],1,[],[]⟩ (TurnOk.mk' _ _ [] [] (OutOk.lift _) rfl (by decide) zb trivial trivial rfl) zw zm
end Go.Proofs.YtkbbfeljlepgoaaGreat

open Go.Vm
open Riv
namespace Go.Proofs.YtkbbfeljlepgoaaGreat
set_option maxRecDepth 20000
set_option maxHeartbeats 4000000

theorem lkE_ok {m : Mp} {s : Int} (h : lkE m s = 0) : ∃ W H : Nat,m.w = W ∧ m.h = H ∧ MOk W H m.c ∧ (s = 1 ∨ s = 2):=by
  unfold lkE at h
  by_cases h0 : chkM m = 0
  · rw [if_pos h0] at h
    obtain ⟨W,H,e1,e2,o⟩:=chkM_ok h0
    refine ⟨W,H,e1,e2,o,Decidable.byContradiction fun h1=>?_⟩
    rw [if_neg h1] at h;simp at h
  · rw [if_neg h0] at h;exact absurd h h0
theorem MOk.le {W H : Nat} {c : List Int} (o : MOk W H c) : c.length ≤ 144:=by
  rw [o.len]
  exact Nat.le_trans (Nat.mul_le_mul o.w.2 o.h.2) (by decide)
def frL (m : Mp) (s : Int) : List Int:=if lkE m s = 0 then bfs m.c m.w.toNat s else []
theorem frL_ok {m : Mp} {s : Int} {W : Nat} (h : lkE m s = 0) (hw : m.w = W) : frL m s = bfs m.c W s:=by unfold frL;rw [if_pos h,hw,Int.toNat_natCast]
theorem vc_Far (m : Mp) (s : Int) (h : Hp) (hl : m.c.length ≤ 4000000) : VC Tryz.prog 32 [vM m,I s] h (.tuple [ints (frL m s),I (lkE m s)]) h:=by
  have c:=fun h=>vc_looked m s h hl
  by_cases h0 : lkE m s = 0
  · obtain ⟨W,H,e1,_,o,hs⟩:=lkE_ok h0
    rw [frL_ok h0 e1]
    have cT:=fun h=>vc_table m s h o e1 hs
    rw [h0] at c ⊢
    generalize bfs m.c W s = T at cT
    obtain ⟨mw,mh,mc⟩:=m
    refine VC.body Tryz.func32 rfl Tryz.ntmps32 Tryz.call32 (h.grows_refl) rfl ?_;conv=>whnf
    repeat' (first|((first|refine zs1 ?_|refine zs2 ?_|refine zs3 ?_|refine zs4 ?_|refine zs5 ?_);conv=>whnf)|((first|apply zi1|apply zi2|apply zi3|apply zi4|apply zi5) <;> intro _ <;> first|(exfalso;omega)|contradiction|(conv=>whnf))|(refine VCall.intro (c _) ?_;conv=>whnf)|(refine VCall.intro (cT _) ?_;conv=>whnf))
    exact VOut.same rfl
  · have e : frL m s = []:=if_neg h0
    rw [e]
    generalize lkE m s = E at c h0
    obtain ⟨mw,mh,mc⟩:=m
    refine VC.body Tryz.func32 rfl Tryz.ntmps32 Tryz.call32 (h.grows_refl) rfl ?_;conv=>whnf
    repeat' (first|((first|refine zs1 ?_|refine zs2 ?_|refine zs3 ?_|refine zs4 ?_|refine zs5 ?_);conv=>whnf)|((first|apply zi1|apply zi2|apply zi3|apply zi4|apply zi5) <;> intro _ <;> first|(exfalso;omega)|contradiction|(conv=>whnf))|(refine VCall.intro (c _) ?_;conv=>whnf))
    refine VOut.data 2 [] [] rfl zf (by exact FmAll.nil) zw
theorem vc_rFar (m : Mp) (s : Int) (h : Hp) (hl : m.c.length ≤ 4000000) : VC Tryz.prog 65 [vM m,I s] h (.tuple [ints (frL m s),I (lkE m s)]) h:=by
  have c:=fun h=>vc_Shore m s h hl
  by_cases h0 : lkE m s = 0
  · obtain ⟨W,H,e1,_,o,hs⟩:=lkE_ok h0
    rw [frL_ok h0 e1]
    have cT:=fun h=>vc_rfar m s h o e1 hs
    rw [h0] at c ⊢
    generalize bfs m.c W s = T at cT
    obtain ⟨mw,mh,mc⟩:=m
    refine VC.body Tryz.func65 rfl Tryz.ntmps65 Tryz.call65 (h.grows_refl) rfl ?_;conv=>whnf
    repeat' (first|((first|refine zs1 ?_|refine zs2 ?_|refine zs3 ?_|refine zs4 ?_|refine zs5 ?_);conv=>whnf)|((first|apply zi1|apply zi2|apply zi3|apply zi4|apply zi5) <;> intro _ <;> first|(exfalso;omega)|contradiction|(conv=>whnf))|(refine VCall.intro (c _) ?_;conv=>whnf)|(refine VCall.intro (cT _) ?_;conv=>whnf))
    exact VOut.same rfl
  · have e : frL m s = []:=if_neg h0
    rw [e]
    generalize lkE m s = E at c h0
    obtain ⟨mw,mh,mc⟩:=m
    refine VC.body Tryz.func65 rfl Tryz.ntmps65 Tryz.call65 (h.grows_refl) rfl ?_;conv=>whnf
    repeat' (first|((first|refine zs1 ?_|refine zs2 ?_|refine zs3 ?_|refine zs4 ?_|refine zs5 ?_);conv=>whnf)|((first|apply zi1|apply zi2|apply zi3|apply zi4|apply zi5) <;> intro _ <;> first|(exfalso;omega)|contradiction|(conv=>whnf))|(refine VCall.intro (c _) ?_;conv=>whnf))
    refine VOut.data 1 [] [] rfl zf (by exact FmAll.nil) zw
end Go.Proofs.YtkbbfeljlepgoaaGreat

open Go.Vm
open Riv
namespace Go.Proofs.YtkbbfeljlepgoaaGreat
set_option maxRecDepth 20000
set_option maxHeartbeats 4000000

def hdE (m : Mp) (s : Int) (T : List Int) : Int:=if lkE m s = 0 then (if T.length = m.c.length then 0 else 3) else lkE m s
def hdB (m : Mp) (s : Int) (T : List Int) : Bool:=decide (hdE m s T = 0) && decide (T = frL m s)
theorem vc_rHolds (m : Mp) (s : Int) (T : List Int) (h : Hp) (hl : m.c.length ≤ 4000000) (hT : T.length ≤ 4000000) : VC Tryz.prog 66 [vM m,I s,ints T] h (.tuple [B (hdB m s T),I (hdE m s T)]) h:=by
  have c:=fun h=>vc_Shore m s h hl
  obtain ⟨E,hE⟩ : ∃ E,E = hdE m s T:=⟨_,rfl⟩
  obtain ⟨R,hR⟩ : ∃ R,R = hdB m s T:=⟨_,rfl⟩
  rw [← hE,← hR]
  unfold hdB at hR
  rw [← hE] at hR
  unfold hdE at hE
  by_cases h0 : lkE m s = 0
  · obtain ⟨W,H,e1,_,o,hs⟩:=lkE_ok h0
    rw [frL_ok h0 e1] at hR
    rw [if_pos h0] at hE
    have cT:=fun h=>vc_rfar m s h o e1 hs
    have hb : (bfs m.c W s).length = m.c.length:=bfsK_len _ _ _ _
    rw [h0] at c
    have hm144:=MOk.le o
    generalize bfs m.c W s = F at cT hb hR
    obtain ⟨mw,mh,mc⟩:=m
    dsimp only at hE hb hm144
    by_cases hlen : T.length = mc.length
    · rw [if_pos hlen] at hE
      subst hE
      rw [decide_eq_true rfl,Bool.true_and] at hR
      refine VC.bodyC 3 Tryz.func66 rfl Tryz.ntmps66 Tryz.call66 (h.grows_refl) rfl ?_;conv=>whnf
      repeat' (first|((first|refine zs1 ?_|refine zs2 ?_|refine zs3 ?_|refine zs4 ?_|refine zs5 ?_);conv=>whnf)|((first|apply zi1|apply zi2|apply zi3|apply zi4|apply zi5) <;> intro _ <;> first|(exfalso;omega)|contradiction|(conv=>whnf))|(refine VCall.intro (c _) ?_;conv=>whnf))
      all_goals try (exfalso;simp at *;omega)
      refine VCut.at' (outer:=h.lift) (marks:=[]) 99 [(1,I s),(2,ints T),(3,.fp [DI mw,DI mh,dints mc])] [] ?_ ?_
      · conv=>whnf
        refine Retell.turn ⟨[],1,[(0,[DI mw,DI mh,dints mc])],[]⟩ (TurnOk.mk' _ _ [(0,[DI mw,DI mh,dints mc])] [] (OutOk.lift _) rfl (by decide) zb zf trivial rfl) zw zm
      conv=>whnf
      repeat' (first|((first|refine zs1 ?_|refine zs2 ?_|refine zs3 ?_|refine zs4 ?_|refine zs5 ?_);conv=>whnf)|((first|apply zi1|apply zi2|apply zi3|apply zi4|apply zi5) <;> intro _ <;> first|(exfalso;omega)|contradiction|(conv=>whnf))|(refine VCall.intro (cT _) ?_;conv=>whnf))
      refine VCode.lpC (outer:=h.lift) (marks:=[]) 99 (fun k : Nat=>[(2,ints T),(9,ints F),(10,I k)]) (fun _=>[]) (fun k=>k ≤ mc.length ∧ ∀ z,z < k → at0 F z = at0 T z) (fun k=>mc.length - k) 0 ⟨Nat.zero_le _,fun z hz=>by omega⟩ ?_ ?_
      · conv=>whnf
        refine Retell.turn ⟨[],0,[],[]⟩ (TurnOk.mk' _ _ [] [] (OutOk.lift _) rfl (by decide) zb trivial trivial rfl) zw zm
      · rintro k ⟨k1,k2⟩
        rcases Nat.lt_or_ge k mc.length with k3|k3
        · have ha:=at0_get (l:=F) (n:=k) (by omega)
          have hb2:=at0_get (l:=T) (n:=k) (by omega)
          obtain ⟨a,hae⟩ : ∃ a,a = at0 F k:=⟨_,rfl⟩
          obtain ⟨b,hbe⟩ : ∃ b,b = at0 T k:=⟨_,rfl⟩
          rw [← hae] at ha
          rw [← hbe] at hb2
          by_cases he : a = b
          · conv=>whnf
            repeat' (first|((first|refine zs1 ?_|refine zs2 ?_|refine zs3 ?_|refine zs4 ?_|refine zs5 ?_);conv=>whnf)|((first|apply zi1|apply zi2|apply zi3|apply zi4|apply zi5) <;> intro _ <;> conv=>whnf))
            all_goals try (exfalso;omega)
            refine zs6 [] ?_
            conv=>whnf
            repeat' (first|((first|refine zs1 ?_|refine zs2 ?_|refine zs3 ?_|refine zs4 ?_|refine zs5 ?_);conv=>whnf)|((first|apply zi1|apply zi2|apply zi3|apply zi4|apply zi5) <;> intro _ <;> first|(exfalso;omega)|contradiction|(conv=>whnf))|(refine VAny.ix encI_len k (by omega) rfl ha ?_;conv=>whnf)|(refine VAny.ix encI_len k (by omega) rfl hb2 ?_;conv=>whnf))
            refine LEnd.intro (k + 1) ⟨by omega,fun z hz=>?_⟩ (by omega) ?_
            · rcases Nat.lt_or_ge z k with h5|h5
              · exact k2 z h5
              · obtain rfl : z = k:=by omega
                rw [← hae,← hbe,he]
            · conv=>whnf
              refine Retell.turn ⟨[],0,[],[]⟩ (TurnOk.mk' _ _ [] [] (OutOk.lift _) rfl (by decide) zb trivial trivial rfl) zw zm
          · have hR2 : R = false:=by
              rw [hR]
              refine decide_eq_false fun e=>he ?_
              rw [hae,hbe,e]
            subst hR2
            conv=>whnf
            repeat' (first|((first|refine zs1 ?_|refine zs2 ?_|refine zs3 ?_|refine zs4 ?_|refine zs5 ?_);conv=>whnf)|((first|apply zi1|apply zi2|apply zi3|apply zi4|apply zi5) <;> intro _ <;> conv=>whnf))
            all_goals try (exfalso;omega)
            refine zs6 [] ?_
            conv=>whnf
            repeat' (first|((first|refine zs1 ?_|refine zs2 ?_|refine zs3 ?_|refine zs4 ?_|refine zs5 ?_);conv=>whnf)|((first|apply zi1|apply zi2|apply zi3|apply zi4|apply zi5) <;> intro _ <;> first|(exfalso;omega)|contradiction|(conv=>whnf))|(refine VAny.ix encI_len k (by omega) rfl ha ?_;conv=>whnf)|(refine VAny.ix encI_len k (by omega) rfl hb2 ?_;conv=>whnf))
            exact VOut.same rfl
        · have hR2 : R = true:=by
            rw [hR]
            refine decide_eq_true (ext0 (by rw [hlen,hb]) fun z hz=>?_)
            exact (k2 z (by omega)).symm
          subst hR2
          conv=>whnf
          repeat' (first|((first|refine zs1 ?_|refine zs2 ?_|refine zs3 ?_|refine zs4 ?_|refine zs5 ?_);conv=>whnf)|((first|apply zi1|apply zi2|apply zi3|apply zi4|apply zi5) <;> intro _ <;> first|(exfalso;omega)|contradiction|(conv=>whnf)))
          exact VOut.same rfl
    · rw [if_neg hlen] at hE
      subst hE
      rw [show decide ((3 : Int) = 0) = false from rfl,Bool.false_and] at hR
      subst hR
      refine VC.body Tryz.func66 rfl Tryz.ntmps66 Tryz.call66 (h.grows_refl) rfl ?_;conv=>whnf
      repeat' (first|((first|refine zs1 ?_|refine zs2 ?_|refine zs3 ?_|refine zs4 ?_|refine zs5 ?_);conv=>whnf)|((first|apply zi1|apply zi2|apply zi3|apply zi4|apply zi5) <;> intro _ <;> first|(exfalso;omega)|contradiction|(conv=>whnf))|(refine VCall.intro (c _) ?_;conv=>whnf))
      all_goals first|exact VOut.same rfl|(exfalso;dsimp only at *;omega)
  · rw [if_neg h0] at hE
    rw [hE,decide_eq_false h0,Bool.false_and] at hR
    rw [← hE] at c h0
    subst hR
    clear hE
    obtain ⟨mw,mh,mc⟩:=m
    refine VC.body Tryz.func66 rfl Tryz.ntmps66 Tryz.call66 (h.grows_refl) rfl ?_;conv=>whnf
    repeat' (first|((first|refine zs1 ?_|refine zs2 ?_|refine zs3 ?_|refine zs4 ?_|refine zs5 ?_);conv=>whnf)|((first|apply zi1|apply zi2|apply zi3|apply zi4|apply zi5) <;> intro _ <;> first|(exfalso;omega)|contradiction|(conv=>whnf))|(refine VCall.intro (c _) ?_;conv=>whnf))
    all_goals exact VOut.same rfl
end Go.Proofs.YtkbbfeljlepgoaaGreat

open Go.Vm
open Riv
namespace Go.Proofs.YtkbbfeljlepgoaaGreat
set_option maxRecDepth 20000
set_option maxHeartbeats 4000000

/-! ### Tables of any numbers: a sum that wraps never helps one to hold -/
abbrev wr (n : Int) : Int:=IntKind.i64.wrap n
theorem wr_bd (n : Int) : -9223372036854775808 ≤ wr n ∧ wr n ≤ 9223372036854775807:=by
  unfold wr IntKind.wrap;simp [IntKind.bits,IntKind.signed];omega
theorem wr_id {n : Int} (h : -9223372036854775808 ≤ n ∧ n ≤ 9223372036854775807) : wr n = n:=by
  unfold wr IntKind.wrap;simp [IntKind.bits,IntKind.signed];omega
theorem wr_top {n : Int} (h : n = 9223372036854775808) : wr n = -9223372036854775808:=by
  subst h;decide
def lowN (c : List Int) (W : Nat) (s : Int) (T : List Int) (n : Nat) : Int:=leastL (((nbs W c.length n).filter fun k=>decide (Thr c s k)).map (at0 T))
def wantW (c : List Int) (W : Nat) (s : Int) (T : List Int) (n : Nat) : Int:=if at0 c n = s then 0 else if Opn c n then (if lowN c W s T n = -1 then -1 else wr (lowN c W s T n + 1)) else -1
def hldW (c : List Int) (W : Nat) (s : Int) (T : List Int) : Bool:=(List.range c.length).all fun n=>decide (at0 T n = wantW c W s T n)
theorem wantW_bd (c : List Int) (W : Nat) (s : Int) (T : List Int) (n : Nat) : -9223372036854775808 ≤ wantW c W s T n ∧ wantW c W s T n ≤ 9223372036854775807:=by
  unfold wantW
  split
  · omega
  · split
    · split
      · omega
      · exact wr_bd _
    · omega
theorem lowN_mem {c : List Int} {W H : Nat} {s : Int} {T : List Int} {n : Nat} (hW : 2 ≤ W) (hL : c.length = W * H) (hn : n < c.length) (h : lowN c W s T n ≠ -1) : ∃ k,k < c.length ∧ Nb W n k ∧ Thr c s k ∧ at0 T k = lowN c W s T n:=by
  have h1:=(leastL_some h).1
  obtain ⟨k,hk,e⟩:=List.mem_map.1 h1
  have h2:=List.mem_filter.1 hk
  have h3:=(nbs_iff hW hL hn).1 h2.1
  exact ⟨k,h3.1,h3.2,by simpa using h2.2,e⟩
theorem no_top {c : List Int} {W H : Nat} {s : Int} {T : List Int} (hW : 2 ≤ W) (hL : c.length = W * H) (hc : c.length ≤ 144) (h3 : s ≠ 3) (h : ∀ n,n < c.length → at0 T n = wantW c W s T n) {k : Nat} (hk : k < c.length) (ht : Thr c s k) : at0 T k ≠ 9223372036854775807:=by
  intro e
  have hall : ∀ j : Nat,j ≤ 200 → ∃ q,q < c.length ∧ Thr c s q ∧ at0 T q = 9223372036854775807 - j:=by
    intro j
    induction j with
    | zero=>intro _;exact ⟨k,hk,ht,by rw [e];rfl⟩
    | succ j ih =>
      intro hj
      obtain ⟨q,hq,htq,eq⟩:=ih (by omega)
      have h1:=h q hq
      rw [eq] at h1
      unfold wantW at h1
      split at h1
      · omega
      · rename_i hs
        split at h1
        · split at h1
          · omega
          · rename_i hl
            obtain ⟨i,hi,_,hti,ei⟩:=lowN_mem hW hL hq hl
            refine ⟨i,hi,hti,?_⟩
            rw [ei]
            have hb:=wantW_bd c W s T i
            rw [← h i hi,ei] at hb
            by_cases h9 : lowN c W s T q = 9223372036854775807
            · rw [wr_top (by omega)] at h1;omega
            · rw [wr_id (by omega)] at h1;omega
        · omega
  have hex : ∃ f : Nat → Nat,∀ j,j ≤ 200 → f j < c.length ∧ at0 T (f j) = 9223372036854775807 - j:=by
    refine ⟨fun j=>if hj : j ≤ 200 then (hall j hj).choose else 0,fun j hj=>?_⟩
    have hsp:=(hall j hj).choose_spec
    simp only [dif_pos hj]
    exact ⟨hsp.1,hsp.2.2⟩
  obtain ⟨f,hf⟩:=hex
  have hnd : ((List.range 200).map f).Nodup:=by
    rw [List.nodup_iff_pairwise_ne,List.pairwise_map]
    refine List.Pairwise.imp_of_mem ?_ (List.nodup_iff_pairwise_ne.1 List.nodup_range)
    intro a b ha hb hab e
    have h1:=hf a (by have:=List.mem_range.1 ha;omega)
    have h2:=hf b (by have:=List.mem_range.1 hb;omega)
    rw [e] at h1
    omega
  have:=nodup_len c.length _ hnd fun x hx=>by
    obtain ⟨j,hj,rfl⟩:=List.mem_map.1 hx
    exact (hf j (by have:=List.mem_range.1 hj;omega)).1
  rw [List.length_map,List.length_range] at this
  omega
theorem want_eq (c : List Int) (W : Nat) (s : Int) (T : List Int) (n : Nat) : want c W s T n = if at0 c n = s then 0 else if Opn c n then (if lowN c W s T n = -1 then -1 else lowN c W s T n + 1) else -1:=rfl
theorem hldW_eq {c : List Int} {W H : Nat} {s : Int} {T : List Int} (hW : 2 ≤ W) (hL : c.length = W * H) (hc : c.length ≤ 144) (h3 : s ≠ 3) (hl : T.length = c.length) : hldW c W s T = decide (T = bfs c W s):=by
  rw [Bool.eq_iff_iff,decide_eq_true_eq,← hldB_iff hW hL hl]
  unfold hldW hldB
  rw [List.all_eq_true,List.all_eq_true]
  constructor
  · intro h
    have h : ∀ n,n < c.length → at0 T n = wantW c W s T n:=fun n hn=>of_decide_eq_true (h n (List.mem_range.2 hn))
    intro n hn
    have hn:=List.mem_range.1 hn
    refine decide_eq_true ?_
    rw [h n hn,want_eq]
    unfold wantW
    by_cases hl : lowN c W s T n = -1
    · rw [if_pos hl,if_pos hl]
    · rw [if_neg hl,if_neg hl]
      obtain ⟨k,a1,a2,a3,a4⟩:=lowN_mem hW hL hn hl
      have h5:=no_top hW hL hc h3 h a1 a3
      have h6:=wantW_bd c W s T k
      rw [← h k a1] at h6
      rw [wr_id (by omega)]
  · intro h
    have hT:=(hldB_iff hW hL hl).1 (by unfold hldB;rw [List.all_eq_true];exact h)
    have h : ∀ n,n < c.length → at0 T n = want c W s T n:=fun n hn=>of_decide_eq_true (h n (List.mem_range.2 hn))
    intro n hn
    have hn:=List.mem_range.1 hn
    refine decide_eq_true ?_
    rw [h n hn,want_eq]
    unfold wantW
    by_cases hl : lowN c W s T n = -1
    · rw [if_pos hl,if_pos hl]
    · rw [if_neg hl,if_neg hl]
      obtain ⟨k,a1,a2,a3,a4⟩:=lowN_mem hW hL hn hl
      have h5:=bfs_lt (s:=s) hW hL k
      have h7:=(bfs_hld (s:=s) hW hL).low k
      rw [← hT] at h5 h7
      rw [wr_id (by omega)]
end Go.Proofs.YtkbbfeljlepgoaaGreat

open Go.Vm
open Riv
namespace Go.Proofs.YtkbbfeljlepgoaaGreat
set_option maxRecDepth 20000
set_option maxHeartbeats 4000000

structure GJ (o : Vm.Id → Option Blk) (l : List Int) (g : Hp) : Prop where
  o : g.outer = o
  li : ∃ m,(m = 1 ∨ 4 ≤ m) ∧ g.get (.loc 0) = some (.cells true [.gl (.loc m) 1 l.length]) ∧ g.get (.loc m) = some (.flat true (l.flatMap encI))
  b2 : g.get (.loc 2) = some .mark
def upG (m : Nat) (b : Blk) : List (Vm.Id × Blk):=[(.loc m,.dead),(.loc 0,b)]
theorem upG_ok {m : Nat} {b b' b2 : Blk} {g : Hp} (jm : g.get (.loc m) = some b2) (j0 : g.get (.loc 0) = some b') : ∀ p ∈ upG m b,g.get p.1 ≠ none:=by
  intro p hp
  simp only [upG,List.mem_cons,List.not_mem_nil,or_false] at hp
  rcases hp with rfl|rfl <;> simp only
  · rw [jm];simp
  · rw [j0];simp
theorem GJ.step {o : Vm.Id → Option Blk} {l : List Int} {e : Int} {g : Hp} {m : Nat} (jo : g.outer = o) (j0 : g.get (.loc 0) = some (.cells true [.gl (.loc m) 1 l.length])) (jm : g.get (.loc m) = some (.flat true (l.flatMap encI))) (j2 : g.get (.loc 2) = some .mark) (hm : m = 1 ∨ 4 ≤ m) {b6 : Blk} (j3 : g.get (.loc 3) = some b6) :
    g.grows ((g.sets (upG m (.cells true [.gl g.fresh 1 (l.length + 1)]))).pushes [.flat true ((l ++ [e]).flatMap encI)]) ∧
    GJ o (l ++ [e]) ((g.sets (upG m (.cells true [.gl g.fresh 1 (l.length + 1)]))).pushes [.flat true ((l ++ [e]).flatMap encI)]) ∧
    ((g.sets (upG m (.cells true [.gl g.fresh 1 (l.length + 1)]))).pushes [.flat true ((l ++ [e]).flatMap encI)]).get (.loc 3) = some b6:=by
  have hgr:=Hp.grows_sets (news:=[.flat true ((l ++ [e]).flatMap encI)]) (upG_ok (b:=.cells true [.gl g.fresh 1 (l.length + 1)]) jm j0)
  obtain ⟨go,gl⟩:=g
  simp only [Hp.get] at j0 j2 jm j3
  have l0:=(List.getElem?_eq_some_iff.1 j0).1
  have l2:=(List.getElem?_eq_some_iff.1 j2).1
  have l3:=(List.getElem?_eq_some_iff.1 j3).1
  have key : ∀ y,y < gl.length → y ≠ m → y ≠ 0 → ∀ (A B G : Blk),(((gl.set m A).set 0 B) ++ [G])[y]? = gl[y]?:=by
    intro y hy h1 h2 A B G
    rw [List.getElem?_append_left (by simpa using hy),List.getElem?_set_ne (Ne.symm h2),List.getElem?_set_ne (Ne.symm h1)]
  refine ⟨hgr,⟨jo,⟨gl.length,.inr (by omega),?_,?_⟩,?_⟩,?_⟩
  · show (((gl.set m _).set 0 _) ++ [_])[0]? = _
    rw [List.getElem?_append_left (by simpa using l0),List.getElem?_set_self (by simpa using l0)]
    simp [Hp.fresh]
  · show (((gl.set m _).set 0 _) ++ [_])[gl.length]? = _
    rw [List.getElem?_append_right (by simp)]
    simp
  · exact (key 2 l2 (by omega) (by omega) _ _ _).trans j2
  · exact (key 3 l3 (by omega) (by omega) _ _ _).trans j3
def wtL (c : List Int) (s : Int) (T : List Int) (l : List Int) (k : Nat) : List Int:=if Thr c s k then l ++ [at0 T k] else l
theorem wtL_fold (c : List Int) (s : Int) (T : List Int) : ∀ (ks : List Nat) (l : List Int),ks.foldl (wtL c s T) l = l ++ ((ks.filter fun k=>decide (Thr c s k)).map (at0 T))
  | [],l=>by simp
  | k :: ks,l=>by
    rw [List.foldl_cons,wtL_fold c s T ks]
    unfold wtL
    by_cases h : Thr c s k
    · rw [if_pos h,List.filter_cons_of_pos (by simpa using h)];simp
    · rw [if_neg h,List.filter_cons_of_neg (by simpa using h)]
theorem wtL_bd (c : List Int) (s : Int) (T : List Int) (W L n : Nat) : ∀ k,(nbF (wtL c s T) W L n [] k).length ≤ k
  | 0=>Nat.le_refl _
  | k + 1=>by
    have h:=wtL_bd c s T W L n k
    cases hq : nbO W L n k with
    | none=>rw [nbF_none hq];omega
    | some q =>
      rw [nbF_some hq]
      generalize nbF (wtL c s T) W L n [] k = l at h
      unfold wtL
      split
      · rw [List.length_append,List.length_singleton];omega
      · omega
theorem vc_Holds (m : Mp) (s : Int) (T : List Int) (h : Hp) (hl : m.c.length ≤ 4000000) (hT : T.length ≤ 4000000) : VC Tryz.prog 33 [vM m,I s,ints T] h (.tuple [B (hdB m s T),I (hdE m s T)]) h:=by
  have c:=fun h=>vc_looked m s h hl
  obtain ⟨E,hE⟩ : ∃ E,E = hdE m s T:=⟨_,rfl⟩
  obtain ⟨R,hR⟩ : ∃ R,R = hdB m s T:=⟨_,rfl⟩
  rw [← hE,← hR]
  unfold hdB at hR
  rw [← hE] at hR
  unfold hdE at hE
  by_cases h0 : lkE m s = 0
  · obtain ⟨W,H,e1,_,o,hs⟩:=lkE_ok h0
    rw [frL_ok h0 e1] at hR
    rw [if_pos h0] at hE
    rw [h0] at c
    have hm144:=MOk.le o
    have hWb:=o.w
    have hHb:=o.h
    have hL:=o.len
    have hiff:=fun hl=>hldW_eq (s:=s) (T:=T) (by omega) hL hm144 (by omega) hl
    have cT:=fun k x hk h=>vc_through m s x k h hk
    have cB:=fun n h=>vc_beside m n h
    have itB:=fun n hn=>iter_beside m W n (by omega) e1 hn (by omega)
    obtain ⟨mw,mh,mc⟩:=m
    dsimp only at hE hR hm144 hL hiff o e1 cT cB itB
    subst e1
    by_cases hlen : T.length = mc.length
    · rw [if_pos hlen] at hE
      subst hE
      rw [decide_eq_true rfl,Bool.true_and] at hR
      have hiff:=hiff hlen
      rw [← hiff] at hR
      clear hiff
      refine VC.bodyC 2 Tryz.func33 rfl Tryz.ntmps33 Tryz.call33 (h.grows_refl) rfl ?_;conv=>whnf
      repeat' (first|((first|refine zs1 ?_|refine zs2 ?_|refine zs3 ?_|refine zs4 ?_|refine zs5 ?_);conv=>whnf)|((first|apply zi1|apply zi2|apply zi3|apply zi4|apply zi5) <;> intro _ <;> first|(exfalso;omega)|contradiction|(conv=>whnf))|(refine VCall.intro (c _) ?_;conv=>whnf))
      all_goals try (exfalso;simp at *;omega)
      refine VCut.at' (outer:=h.lift) (marks:=[]) 99 [(1,I s),(3,.fp [DI W,DI mh,dints mc]),(5,.fp [dints T]),(8,.fp [DI W,DI mh,dints mc,DI s]),(9,I 0)] [] ?_ ?_
      · conv=>whnf
        refine Retell.turn ⟨[],4,[(0,[DI W,DI mh,dints mc]),(1,[dints T]),(2,[DI W,DI mh,dints mc,DI s])],[]⟩ (TurnOk.mk' _ _ [(0,[DI W,DI mh,dints mc]),(1,[dints T]),(2,[DI W,DI mh,dints mc,DI s])] [] (OutOk.lift _) rfl (by decide) zb zf trivial rfl) zw zm
      conv=>whnf
      repeat' (first|((first|refine zs1 ?_|refine zs2 ?_|refine zs3 ?_|refine zs4 ?_|refine zs5 ?_);conv=>whnf)|((first|apply zi1|apply zi2|apply zi3|apply zi4|apply zi5) <;> intro _ <;> first|(exfalso;omega)|contradiction|(conv=>whnf)))
      all_goals try (exfalso;simp at *;omega)
      refine VCode.lpC (outer:=h.lift) (marks:=[]) 99 (fun n : Nat=>[(1,I s),(3,.fp [DI W,DI mh,dints mc]),(5,.fp [dints T]),(8,.fp [DI W,DI mh,dints mc,DI s]),(33,ints mc),(34,I mc.length),(35,I n)]) (fun _=>[]) (fun n=>n ≤ mc.length ∧ ∀ z,z < n → at0 T z = wantW mc W s T z) (fun n=>mc.length - n) 0 ⟨Nat.zero_le _,fun z hz=>by omega⟩ ?_ ?_
      · conv=>whnf
        refine Retell.turn ⟨[],0,[],[]⟩ (TurnOk.mk' _ _ [] [] (OutOk.lift _) rfl (by decide) zb trivial trivial rfl) zw zm
      · rintro n ⟨n1,n2⟩
        rcases Nat.lt_or_ge n mc.length with n3|n3
        · have hx:=at0_get n3
          have ha:=at0_get (l:=T) (n:=n) (by omega)
          have hwd : wantW mc W s T n = if at0 mc n = s then 0 else if Opn mc n then (if lowN mc W s T n = -1 then -1 else wr (lowN mc W s T n + 1)) else -1:=rfl
          obtain ⟨wv,hwv⟩ : ∃ w,w = wantW mc W s T n:=⟨_,rfl⟩
          rw [← hwv] at hwd
          have hgo : at0 T n = wv → ∀ z,z < n + 1 → at0 T z = wantW mc W s T z:=fun e z hz=>by
            rcases Nat.lt_or_ge z n with h5|h5
            · exact n2 z h5
            · obtain rfl : z = n:=by omega
              rw [e,hwv]
          have hno : at0 T n ≠ wv → R = false:=fun e=>by
            rw [hR]
            cases hx : hldW mc W s T with
            | false=>rfl
            | true =>
              unfold hldW at hx
              rw [List.all_eq_true] at hx
              have:=of_decide_eq_true (hx n (List.mem_range.2 n3))
              exact absurd (this.trans hwv.symm) e
          clear hwv
          obtain ⟨x,hxe⟩ : ∃ x,x = at0 mc n:=⟨_,rfl⟩
          obtain ⟨a,hae⟩ : ∃ a,a = at0 T n:=⟨_,rfl⟩
          have hopn : Opn mc n ↔ x = 0 ∨ x = 3:=by unfold Opn;rw [← hxe]
          rw [← hxe] at hx hwd
          rw [← hae] at ha hgo hno
          by_cases hxs : x = s
          · rw [if_pos hxs] at hwd
            subst hwd
            clear hopn hxe hae
            conv=>whnf
            repeat' (first|((first|refine zs1 ?_|refine zs2 ?_|refine zs3 ?_|refine zs4 ?_|refine zs5 ?_);conv=>whnf)|((first|apply zi1|apply zi2|apply zi3|apply zi4|apply zi5) <;> intro _ <;> first|(exfalso;omega)|contradiction|(conv=>whnf))|(refine VAny.ix encI_len n rfl rfl hx ?_;conv=>whnf)|(refine VAny.ix encI_len n rfl (by omega) ha ?_;conv=>whnf))
            all_goals first
              | (refine LEnd.intro (n + 1) ⟨by omega,hgo (by omega)⟩ (by omega) ?_
                 conv=>whnf
                 refine Retell.turn ⟨[],0,[],[]⟩ (TurnOk.mk' _ _ [] [] (OutOk.lift _) rfl (by decide) zb trivial trivial rfl) zw zm)
              | (rw [hno (by omega)];exact VOut.same rfl)
          · rw [if_neg hxs] at hwd
            by_cases ho : x = 0 ∨ x = 3
            · rw [if_pos (hopn.2 ho)] at hwd
              clear hopn hxe hae
              have hrest : True:=trivial
              conv=>whnf
              repeat' (first|((first|refine zs1 ?_|refine zs2 ?_|refine zs3 ?_|refine zs4 ?_|refine zs5 ?_);conv=>whnf)|((first|apply zi1|apply zi2|apply zi3|apply zi4|apply zi5) <;> intro _ <;> first|(exfalso;omega)|contradiction|(conv=>whnf))|(refine VAny.ix encI_len n rfl rfl hx ?_;conv=>whnf)|(refine VCall.intro (cB n _) ?_;conv=>whnf))
              all_goals try (exfalso;omega)
              all_goals (
                refine VCode.tell [(1,I s),(3,.fp [DI W,DI mh,dints mc]),(5,.fp [dints T]),(8,.fp [DI W,DI mh,dints mc,DI s]),(33,ints mc),(34,I mc.length),(35,I n),(10,I n),(13,.ptr (.loc 0) 0),(49,vBes ⟨W,mh,mc⟩ n)] [.cells true [.gl (.loc 1) 1 0],.flat true []] (marks':=[]) ?_ ?_
                · conv=>whnf
                  refine Retell.turn ⟨[0,1],1,[],[]⟩ (TurnOk.mk' _ _ [] [] (OutOk.lift _) rfl (by decide) zb trivial trivial rfl) zw zm
                · conv=>whnf
                  refine VCode.iterS 4 (nbY W mc.length n) (fun k g=>GJ h.lift (nbF (wtL mc s T) W mc.length n [] k) g) _ (.loc 3) rfl (itB n n3) rfl rfl ⟨rfl,⟨1,.inl rfl,rfl,rfl⟩,rfl⟩ ?_ ?_ ?_
                  · rintro k g hk hy hJ
                    rw [nbF_none (nbY_none hy)];exact hJ
                  · rintro k g vs hk hy hJ hlp
                    obtain ⟨q,hq,rfl⟩:=nbY_some hy
                    rw [nbF_some hq]
                    have hqL:=((nbs_iff (by omega) hL n3).1 (nbO_mem hk hq)).1
                    have hlb:=wtL_bd mc s T W mc.length n k
                    generalize nbF (wtL mc s T) W mc.length n [] k = l at hJ hlb
                    obtain ⟨jo,⟨m,hm,j0,jm⟩,j2⟩:=hJ
                    have hy:=at0_get hqL
                    have hb:=at0_get (l:=T) (n:=q) (by omega)
                    have cTq:=cT q _ hy
                    unfold wtL
                    have hthr : Thr mc s q ↔ (at0 mc q = 0 ∨ at0 mc q = s):=by unfold Thr;exact Iff.rfl
                    by_cases hth : Thr mc s q
                    · rw [if_pos hth]
                      rw [decide_eq_true (hthr.1 hth)] at cTq
                      clear hthr hth hy
                      generalize at0 T q = b at hb
                      obtain ⟨s1,s2,s3⟩:=GJ.step (e:=b) jo j0 jm j2 hm hlp
                      have hm0 : Vm.Id.loc m ≠ .loc 0:=by intro h0;injection h0;omega
                      have hm3 : Vm.Id.loc m ≠ .loc 3:=by intro h0;injection h0;omega
                      have hm0' : Vm.Id.loc 0 ≠ .loc m:=fun h0=>hm0 h0.symm
                      have hm3' : Vm.Id.loc 3 ≠ .loc m:=fun h0=>hm3 h0.symm
                      refine ⟨_,?_,s2,s3⟩
                      refine VRound.vy' hlp rfl rfl rfl s1 fun l0=>?_
                      refine VRound.tell [(5,.fp [dints T]),(8,.fp [DI W,DI mh,dints mc,DI s]),(13,.ptr (.out (.loc 0)) 0),(50,I q)] ?_ ?_
                      · conv=>whnf
                        refine Retell.turn ⟨[],0,[],[]⟩ (TurnOk.mk' _ _ [] [] (OutOk.lift _) rfl (by decide) zb trivial trivial rfl) zw zm
                      · conv=>whnf
                        repeat (first|((first|refine zs1 ?_|refine zs2 ?_|refine zs3 ?_|refine zs4 ?_|refine zs5 ?_|refine zs6 [] ?_);conv=>whnf))
                        refine VBegin.intro (get_out hlp _) rfl ?_
                        conv=>whnf
                        repeat' (first|((first|refine zs1 ?_|refine zs2 ?_|refine zs3 ?_|refine zs4 ?_|refine zs5 ?_);conv=>whnf)|((first|apply zi1|apply zi2|apply zi3|apply zi4|apply zi5) <;> intro _ <;> conv=>whnf)|(refine VCall.intro (cTq _) ?_;conv=>whnf))
                        refine zs6 [] ?_
                        conv=>whnf
                        repeat' (first|((first|refine zs1 ?_|refine zs2 ?_|refine zs3 ?_|refine zs4 ?_|refine zs5 ?_);conv=>whnf)|((first|apply zi1|apply zi2|apply zi3|apply zi4|apply zi5) <;> intro _ <;> conv=>whnf)|(refine VLd.cell rfl rfl (get_setO (by decide) j0 _) rfl ?_;conv=>whnf)|(refine VAny.ix encI_len q rfl (by omega) hb ?_;conv=>whnf))
                        refine VMem.app1B (α:=Int) (l:=l) b encI_len rfl (get_setO hm3 jm _) rfl rfl rfl (by omega) ?_
                        conv=>whnf
                        repeat' (first|((first|refine zs1 ?_|refine zs2 ?_|refine zs3 ?_|refine zs4 ?_|refine zs5 ?_);conv=>whnf)|((first|apply zi1|apply zi2|apply zi3|apply zi4|apply zi5) <;> intro _ <;> conv=>whnf))
                        refine VMem.st1 rfl rfl rfl (b:=.cells true [.gl (.out (.loc m)) 1 l.length]) (get_outNe hm0' (get_setO (by decide) j0 _)) rfl ?_
                        conv=>whnf
                        repeat' (first|((first|refine zs1 ?_|refine zs2 ?_|refine zs3 ?_|refine zs4 ?_|refine zs5 ?_);conv=>whnf)|((first|apply zi1|apply zi2|apply zi3|apply zi4|apply zi5) <;> intro _ <;> conv=>whnf))
                        refine RFin.on (get_outNe (by decide) (get_outNe hm3' (outW_get _ _ _ _))) ?_
                        refine VOut.upd (upG m (.cells true [.gl g.fresh 1 (l.length + 1)])) [.flat true ((l ++ [b]).flatMap encI)] [1] 2 ?_ (upG_ok jm j0) ?_ ?_ ?_ ?_ ?_
                        · rfl
                        · decide
                        · rfl
                        · intro k' b' hk'
                          cases k' with
                          | zero=>rw [List.getElem?_cons_zero,Option.some.injEq] at hk';subst hk';exact ⟨1,rfl,rfl⟩
                          | succ k'=>simp at hk'
                        · intro σ x hx;exact hx
                        · have e1 : (Blk.cells true [V.gl g.fresh 1 (l.length + 1)]).ren (backR g.loc.length [1] 2) = .cells true [.gl (.loc 1) 1 (l.length + 1)]:=by simp [Blk.ren,V.ren,backR,Hp.fresh]
                          simp only [upG,List.map_cons,List.map_nil,e1]
                          exact outer_fix2 (get_out hlp []) hm3' (by decide)
                    · rw [if_neg hth]
                      rw [decide_eq_false (fun h=>hth (hthr.2 h))] at cTq
                      refine ⟨g,?_,⟨jo,⟨m,hm,j0,jm⟩,j2⟩,hlp⟩
                      refine VRound.vy' hlp rfl rfl rfl g.grows_refl fun l0=>?_
                      refine VRound.tell [(5,.fp [dints T]),(8,.fp [DI W,DI mh,dints mc,DI s]),(13,.ptr (.out (.loc 0)) 0),(50,I q)] ?_ ?_
                      · conv=>whnf
                        refine Retell.turn ⟨[],0,[],[]⟩ (TurnOk.mk' _ _ [] [] (OutOk.lift _) rfl (by decide) zb trivial trivial rfl) zw zm
                      · conv=>whnf
                        repeat (first|((first|refine zs1 ?_|refine zs2 ?_|refine zs3 ?_|refine zs4 ?_|refine zs5 ?_|refine zs6 [] ?_);conv=>whnf))
                        refine VBegin.intro (get_out hlp _) rfl ?_
                        conv=>whnf
                        repeat' (first|((first|refine zs1 ?_|refine zs2 ?_|refine zs3 ?_|refine zs4 ?_|refine zs5 ?_);conv=>whnf)|((first|apply zi1|apply zi2|apply zi3|apply zi4|apply zi5) <;> intro _ <;> conv=>whnf)|(refine VCall.intro (cTq _) ?_;conv=>whnf))
                        exact RFin.on (outW_get _ _ _ _) (VOut.back (get_out hlp []) rfl)
                  · rintro ⟨go,gl⟩ ⟨jo,⟨m,hm,j0,jm⟩,j2⟩ hlp
                    dsimp only at jo
                    subst jo
                    have hlb:=wtL_bd mc s T W mc.length n 4
                    have hlw : leastL (nbF (wtL mc s T) W mc.length n [] 4) = lowN mc W s T n:=by rw [nbF_all,wtL_fold];rfl
                    generalize nbF (wtL mc s T) W mc.length n [] 4 = l at j0 jm hlb hlw
                    have j0 : gl[0]? = some _:=j0
                    have jm : gl[m]? = some _:=jm
                    have j2 : gl[2]? = some _:=j2
                    have l0:=(List.getElem?_eq_some_iff.1 j0).1
                    have lm:=(List.getElem?_eq_some_iff.1 jm).1
                    have key : ∀ (x : Nat) (A : Blk),x ≠ 3 → (gl.set 3 A)[x]? = gl[x]?:=fun x A hx=>List.getElem?_set_ne (Ne.symm hx)
                    have hmn : ([0,m] : List Nat).Nodup:=by simp;omega
                    have hm4 : 2 ∉ ([0,m] : List Nat):=by simp;omega
                    have cLs:=fun h=>vc_least l h (by omega)
                    rw [hlw] at cLs
                    have hwd : wv = if lowN mc W s T n = -1 then -1 else IntKind.i64.wrap (lowN mc W s T n + 1):=hwd
                    generalize lowN mc W s T n = lo at hwd cLs
                    refine Told.mk [(1,I s),(3,.fp [DI W,DI mh,dints mc]),(5,.fp [dints T]),(8,.fp [DI W,DI mh,dints mc,DI s]),(33,ints mc),(34,I mc.length),(35,I n),(10,I n),(13,.ptr (.loc 0) 0)] [.cells true [.gl (.loc 1) 1 l.length],.flat true (l.flatMap encI)] (marks':=[]) ?_ ?_
                    · conv=>whnf
                      refine Retell.turn ⟨[0,m],gl.length,[],[]⟩ (TurnOk.mk' _ _ [] [] (OutOk.lift _) (Nat.ble_eq_true_of_le (by simp)) hmn (BTos.cells (blt_of l0) ((key 0 _ (by decide)).trans j0) rfl zw (BTos.flat (blt_of lm) ((key m _ (by omega)).trans jm) rfl BTos.nil)) trivial trivial rfl) zw (MkTo.drop hm4 ((key 2 _ (by decide)).trans j2) MkTo.nil)
                    · conv=>whnf
                      repeat' (first|((first|refine zs1 ?_|refine zs2 ?_|refine zs3 ?_|refine zs4 ?_|refine zs5 ?_);conv=>whnf)|((first|apply zi1|apply zi2|apply zi3|apply zi4|apply zi5) <;> intro _ <;> conv=>whnf))
                      refine VCall.intro (VC.give (args':=[ints l]) (loc':=[.dead,.dead]) [(1,l.flatMap Vm.encI)] [] (OutOk.lift _) zb zf (by exact FmAll.nil) rfl zw (cLs _)) ?_
                      conv=>whnf
                      by_cases hlo : lo = -1
                      · rw [if_pos hlo] at hwd
                        subst hwd
                        repeat' (first|((first|refine zs1 ?_|refine zs2 ?_|refine zs3 ?_|refine zs4 ?_|refine zs5 ?_);conv=>whnf)|((first|apply zi1|apply zi2|apply zi3|apply zi4|apply zi5) <;> intro _ <;> first|(exfalso;omega)|contradiction|(conv=>whnf))|(refine VAny.ix encI_len n rfl (by omega) ha ?_;conv=>whnf))
                        all_goals first
                          | (refine LEnd.intro (n + 1) ⟨by omega,hgo (by omega)⟩ (by omega) ?_
                             conv=>whnf
                             refine Retell.turn ⟨[],2,[],[]⟩ (TurnOk.mk' _ _ [] [] (OutOk.lift _) rfl (by decide) zb trivial trivial rfl) zw zm)
                          | (rw [hno (by omega)];exact VOut.same rfl)
                      · rw [if_neg hlo] at hwd
                        repeat' (first|((first|refine zs1 ?_|refine zs2 ?_|refine zs3 ?_|refine zs4 ?_|refine zs5 ?_);conv=>whnf)|((first|apply zi1|apply zi2|apply zi3|apply zi4|apply zi5) <;> intro _ <;> first|(exfalso;omega)|contradiction|(conv=>whnf))|(refine VArith.wr ?_;rw [← hwd];conv=>whnf)|(refine VAny.ix encI_len n rfl (by omega) ha ?_;conv=>whnf))
                        all_goals first
                          | (refine LEnd.intro (n + 1) ⟨by omega,hgo (by omega)⟩ (by omega) ?_
                             conv=>whnf
                             refine Retell.turn ⟨[],2,[],[]⟩ (TurnOk.mk' _ _ [] [] (OutOk.lift _) rfl (by decide) zb trivial trivial rfl) zw zm)
                          | (rw [hno (by omega)];exact VOut.same rfl))
            · rw [if_neg (fun h=>ho (hopn.1 h))] at hwd
              subst hwd
              clear hopn hxe hae
              conv=>whnf
              repeat' (first|((first|refine zs1 ?_|refine zs2 ?_|refine zs3 ?_|refine zs4 ?_|refine zs5 ?_);conv=>whnf)|((first|apply zi1|apply zi2|apply zi3|apply zi4|apply zi5) <;> intro _ <;> first|(exfalso;omega)|contradiction|(conv=>whnf))|(refine VAny.ix encI_len n rfl rfl hx ?_;conv=>whnf)|(refine VAny.ix encI_len n rfl (by omega) ha ?_;conv=>whnf))
              all_goals first
                | (exfalso;omega)
                | (refine LEnd.intro (n + 1) ⟨by omega,hgo (by omega)⟩ (by omega) ?_
                   conv=>whnf
                   refine Retell.turn ⟨[],0,[],[]⟩ (TurnOk.mk' _ _ [] [] (OutOk.lift _) rfl (by decide) zb trivial trivial rfl) zw zm)
                | (rw [hno (by omega)];exact VOut.same rfl)
        · have hR2 : R = true:=by
            rw [hR]
            unfold hldW
            rw [List.all_eq_true]
            exact fun z hz=>decide_eq_true (n2 z (by have:=List.mem_range.1 hz;omega))
          subst hR2
          conv=>whnf
          repeat' (first|((first|refine zs1 ?_|refine zs2 ?_|refine zs3 ?_|refine zs4 ?_|refine zs5 ?_);conv=>whnf)|((first|apply zi1|apply zi2|apply zi3|apply zi4|apply zi5) <;> intro _ <;> first|(exfalso;omega)|contradiction|(conv=>whnf)))
          exact VOut.same rfl
    · rw [if_neg hlen] at hE
      subst hE
      rw [show decide ((3 : Int) = 0) = false from rfl,Bool.false_and] at hR
      subst hR
      refine VC.body Tryz.func33 rfl Tryz.ntmps33 Tryz.call33 (h.grows_refl) rfl ?_;conv=>whnf
      repeat' (first|((first|refine zs1 ?_|refine zs2 ?_|refine zs3 ?_|refine zs4 ?_|refine zs5 ?_);conv=>whnf)|((first|apply zi1|apply zi2|apply zi3|apply zi4|apply zi5) <;> intro _ <;> first|(exfalso;omega)|contradiction|(conv=>whnf))|(refine VCall.intro (c _) ?_;conv=>whnf))
      all_goals first|exact VOut.same rfl|(exfalso;dsimp only at *;omega)
  · rw [if_neg h0] at hE
    rw [hE,decide_eq_false h0,Bool.false_and] at hR
    rw [← hE] at c h0
    subst hR
    clear hE
    obtain ⟨mw,mh,mc⟩:=m
    refine VC.body Tryz.func33 rfl Tryz.ntmps33 Tryz.call33 (h.grows_refl) rfl ?_;conv=>whnf
    repeat' (first|((first|refine zs1 ?_|refine zs2 ?_|refine zs3 ?_|refine zs4 ?_|refine zs5 ?_);conv=>whnf)|((first|apply zi1|apply zi2|apply zi3|apply zi4|apply zi5) <;> intro _ <;> first|(exfalso;omega)|contradiction|(conv=>whnf))|(refine VCall.intro (c _) ?_;conv=>whnf))
    all_goals exact VOut.same rfl
end Go.Proofs.YtkbbfeljlepgoaaGreat

open Go.Vm
open Riv
namespace Go.Proofs.YtkbbfeljlepgoaaGreat
set_option maxRecDepth 20000
set_option maxHeartbeats 4000000

structure Rvd (l : List Int) (k : Nat) (m : List Int) : Prop where
  len : m.length = l.length
  le : 2 * k ≤ l.length + 1
  at' : ∀ j,j < l.length → m[j]? = if j < k ∨ l.length - k ≤ j then l[l.length - 1 - j]? else l[j]?
theorem Rvd.step {l m : List Int} {k : Nat} {a b : Int} (h : Rvd l k m) (hk : 2 * k + 1 < l.length) (ha : m[k]? = some a) (hb : m[l.length - 1 - k]? = some b) : Rvd l (k + 1) ((m.set k b).set (l.length - 1 - k) a) where
  len:=by simp [h.len]
  le:=by omega
  at':=fun j hj=>by
    have hl:=h.len
    have e1:=h.at' k (by omega)
    have e2:=h.at' (l.length - 1 - k) (by omega)
    rw [ha,if_neg (by omega)] at e1
    rw [hb,if_neg (by omega)] at e2
    rw [List.getElem?_set,List.length_set]
    by_cases h1 : l.length - 1 - k = j
    · rw [if_pos h1,if_pos (by omega),if_pos (by omega),e1]
      congr 1;omega
    · rw [if_neg h1,List.getElem?_set]
      by_cases h2 : k = j
      · rw [if_pos h2,if_pos (by omega),if_pos (by omega),e2]
        subst h2;rfl
      · rw [if_neg h2,h.at' j hj]
        have : (j < k ∨ l.length - k ≤ j) ↔ (j < k + 1 ∨ l.length - (k + 1) ≤ j):=by omega
        simp only [this]
theorem Rvd.done {l m : List Int} {k : Nat} (h : Rvd l k m) (hk : l.length ≤ 2 * k + 1) : m = l.reverse:=by
  apply List.ext_getElem?
  intro j
  have hl:=h.len
  rcases Nat.lt_or_ge j l.length with h1|h1
  · rw [h.at' j h1,List.getElem?_reverse h1]
    split
    · rfl
    · congr 1;omega
  · rw [List.getElem?_eq_none (by omega),List.getElem?_eq_none (by simpa using h1)]
theorem vc_reverse (l : List Int) (i : Vm.Id) (h : Hp) (hb : h.get i = some (.flat true (l.flatMap encI))) (hn : l.length ≤ 4000000) :
    VC Tryz.prog 93 [.gl i 1 l.length] h (.tuple []) (h.set i (.flat true (l.reverse.flatMap encI))):=by
  have hd : ∀ p ∈ [(i,Blk.flat true (l.reverse.flatMap encI))],h.get p.1 ≠ none:=by
    intro p hp
    simp only [List.mem_cons,List.not_mem_nil,or_false] at hp
    subst hp;simp only;rw [hb];simp
  have hgr : h.grows (h.set i (.flat true (l.reverse.flatMap encI))):=h.grows_set _ _
  refine VC.body Tryz.func93 rfl Tryz.ntmps93 Tryz.call93 hgr rfl ?_;conv=>whnf
  repeat (first|((first|refine zs1 ?_|refine zs2 ?_|refine zs3 ?_|refine zs4 ?_|refine zs5 ?_|refine zs6 [] ?_);conv=>whnf))
  have hlift : h.lift i = some (.flat true (l.flatMap encI)):=get_out hb []
  refine VCode.lpo (fun x : Nat × List Int=>[(0,.gl (.out i) 1 l.length),(2,I x.1),(3,I ((l.length : Int) - 1 - x.1))]) (fun x=>outW h.lift i (.flat true (x.2.flatMap encI))) (fun _=>[]) (fun x=>Rvd l x.1 x.2) (fun x=>l.length - x.1) (0,l) ⟨rfl,by omega,fun j hj=>?_⟩ (outW_id hlift) ?_ ?_
  · rw [if_neg (by omega)]
  · conv=>whnf
    refine Retell.turn ⟨[],0,[],[]⟩ (TurnOk.mk' _ _ [] [] (OutOk.outW (OutOk.lift _) rfl) rfl (by decide) zb trivial trivial rfl) zw zm
  · rintro ⟨k,m⟩ hr
    simp only at hr ⊢
    have hl:=hr.len
    conv=>whnf
    refine VIte.dec (fun h3=>?_) (fun h3=>?_)
    · have ha : m[k]? = some m[k]:=List.getElem?_eq_getElem (by omega)
      have hc : m[l.length - 1 - k]? = some m[l.length - 1 - k]:=List.getElem?_eq_getElem (by omega)
      generalize m[k] = a at ha
      generalize m[l.length - 1 - k] = c at hc
      have hst:=hr.step (by omega) ha hc
      have hc2 : (m.set k c)[l.length - 1 - k]? = some c:=by rw [List.getElem?_set,if_neg (by omega)];exact hc
      conv=>whnf
      repeat' (first|((first|refine zs1 ?_|refine zs2 ?_|refine zs3 ?_|refine zs4 ?_|refine zs5 ?_|refine zs6 [] ?_);conv=>whnf)|((first|apply zi1|apply zi2|apply zi3|apply zi4|apply zi5) <;> intro _ <;> conv=>whnf)|(refine VLd.recc encI_len (l.length - 1 - k) 0 rfl rfl (outW_get _ _ _ _) hc (by decide) rfl (by simp only [Nat.zero_add,Nat.mul_one];omega) ?_;conv=>whnf)|(refine VLd.recc encI_len k 0 rfl rfl (outW_get _ _ _ _) ha (by decide) rfl (by simp only [Nat.zero_add,Nat.mul_one];omega) ?_;conv=>whnf))
      refine VMem.setRec encI_len k 0 c rfl rfl (outW_get _ _ _ _) ha (by decide) rfl (by simp only [Nat.zero_add,Nat.mul_one];omega) ?_
      conv=>whnf
      repeat (first|((first|refine zs1 ?_|refine zs2 ?_|refine zs3 ?_|refine zs4 ?_|refine zs5 ?_|refine zs6 [] ?_);conv=>whnf))
      refine VMem.setRec encI_len (l.length - 1 - k) 0 a rfl rfl (outW_get _ _ _ _) hc2 (by decide) rfl (by simp only [Nat.zero_add,Nat.mul_one];omega) ?_
      conv=>whnf
      repeat (first|((first|refine zs1 ?_|refine zs2 ?_|refine zs3 ?_|refine zs4 ?_|refine zs5 ?_|refine zs6 [] ?_);conv=>whnf))
      refine LEndO.intro (k + 1,(m.set k c).set (l.length - 1 - k) a) hst (by simp only;omega) ((outW_same (outW _ _ _) _ _ _).trans (outW_same _ _ _ _)) ?_
      conv=>whnf
      refine Retell.turn ⟨[],0,[],[]⟩ (TurnOk.mk' _ _ [] [] (OutOk.outW (OutOk.lift _) rfl) rfl (by decide) zb trivial trivial rfl) zw zm
    · conv=>whnf
      have hm:=hr.done (by omega)
      subst hm
      have:=VOut.upd (loc:=[]) (r1:=.tuple []) (r:=.tuple []) [(i,.flat true (l.reverse.flatMap encI))] [] [] 0 rfl hd (by simp) rfl (by intro k b hk;simp at hk) (fun σ x hx=>hx) (outer:=outW h.lift i (.flat true (l.reverse.flatMap encI))) rfl
      have he : (h.sets [(i,Blk.flat true (l.reverse.flatMap encI))]).pushes [] = h.set i (.flat true (l.reverse.flatMap encI)):=by simp [Hp.sets,Hp.pushes]
      rw [he] at this
      exact this
/-! ### Ways -/
def natI (l : List Nat) : List Int:=l.map fun n : Nat=>(n : Int)
def wyE (m : Mp) (s cell : Int) : Int:=if lkE m s = 0 then (if 0 ≤ cell ∧ cell ≤ (m.c.length : Int) - 1 then (if at0 (frL m s) cell.toNat < 1 then 7 else 0) else 2) else lkE m s
def wyN (m : Mp) (s cell : Int) : List Nat:=cell.toNat :: wback m.c m.w.toNat s (frL m s) m.c.length cell.toNat
def wyL (m : Mp) (s cell : Int) : List Int:=if wyE m s cell = 0 then natI (wyN m s cell).reverse else []
theorem vc_Long (m : Mp) (s cell : Int) (h : Hp) (hl : m.c.length ≤ 4000000) : VC Tryz.prog 67 [vM m,I s,I cell] h (.tuple [I (if wyE m s cell = 0 then at0 (frL m s) cell.toNat else 0),I (wyE m s cell)]) h:=by
  have c:=fun h=>vc_Shore m s h hl
  obtain ⟨E,hE⟩ : ∃ E,E = wyE m s cell:=⟨_,rfl⟩
  rw [← hE]
  unfold wyE at hE
  by_cases h0 : lkE m s = 0
  · obtain ⟨W,H,e1,_,o,hs⟩:=lkE_ok h0
    rw [frL_ok h0 e1] at hE ⊢
    rw [if_pos h0] at hE
    have cT:=fun h=>vc_rfar m s h o e1 hs
    have hb : (bfs m.c W s).length = m.c.length:=bfsK_len _ _ _ _
    rw [h0] at c
    generalize bfs m.c W s = F at cT hb hE
    obtain ⟨mw,mh,mc⟩:=m
    dsimp only at hE hb hl
    have cb:=fun h=>vc_rbeside cell 0 ((mc.length : Int) - 1) h
    by_cases h1 : 0 ≤ cell ∧ cell ≤ (mc.length : Int) - 1
    · rw [if_pos h1] at hE
      rw [decide_eq_false (show ¬ (cell < 0 ∨ (mc.length : Int) - 1 < cell) by omega)] at cb
      obtain ⟨k,rfl⟩ : ∃ k : Nat,cell = k:=⟨cell.toNat,by omega⟩
      rw [Int.toNat_natCast] at hE ⊢
      have ha:=at0_get (l:=F) (n:=k) (by omega)
      generalize at0 F k = a at ha hE
      by_cases h2 : a < 1
      · rw [if_pos h2] at hE
        subst hE
        refine VC.body Tryz.func67 rfl Tryz.ntmps67 Tryz.call67 (h.grows_refl) rfl ?_;conv=>whnf
        repeat' (first|((first|refine zs1 ?_|refine zs2 ?_|refine zs3 ?_|refine zs4 ?_|refine zs5 ?_);conv=>whnf)|((first|apply zi1|apply zi2|apply zi3|apply zi4|apply zi5) <;> intro _ <;> first|(exfalso;omega)|contradiction|(conv=>whnf))|(refine VCall.intro (c _) ?_;conv=>whnf)|(refine VCall.intro (cb _) ?_;conv=>whnf)|(refine VCall.intro (cT _) ?_;conv=>whnf)|(refine VAny.ix encI_len k (by omega) rfl ha ?_;conv=>whnf))
        exact VOut.same rfl
      · rw [if_neg h2] at hE
        subst hE
        refine VC.body Tryz.func67 rfl Tryz.ntmps67 Tryz.call67 (h.grows_refl) rfl ?_;conv=>whnf
        repeat' (first|((first|refine zs1 ?_|refine zs2 ?_|refine zs3 ?_|refine zs4 ?_|refine zs5 ?_);conv=>whnf)|((first|apply zi1|apply zi2|apply zi3|apply zi4|apply zi5) <;> intro _ <;> first|(exfalso;omega)|contradiction|(conv=>whnf))|(refine VCall.intro (c _) ?_;conv=>whnf)|(refine VCall.intro (cb _) ?_;conv=>whnf)|(refine VCall.intro (cT _) ?_;conv=>whnf)|(refine VAny.ix encI_len k (by omega) rfl ha ?_;conv=>whnf))
        exact VOut.same rfl
    · rw [if_neg h1] at hE
      rw [decide_eq_true (show (cell < 0 ∨ (mc.length : Int) - 1 < cell) by omega)] at cb
      subst hE
      refine VC.body Tryz.func67 rfl Tryz.ntmps67 Tryz.call67 (h.grows_refl) rfl ?_;conv=>whnf
      repeat' (first|((first|refine zs1 ?_|refine zs2 ?_|refine zs3 ?_|refine zs4 ?_|refine zs5 ?_);conv=>whnf)|((first|apply zi1|apply zi2|apply zi3|apply zi4|apply zi5) <;> intro _ <;> first|(exfalso;omega)|contradiction|(conv=>whnf))|(refine VCall.intro (c _) ?_;conv=>whnf)|(refine VCall.intro (cb _) ?_;conv=>whnf))
      exact VOut.same rfl
  · rw [if_neg h0] at hE
    rw [← hE] at c h0
    rw [if_neg h0]
    clear hE
    obtain ⟨mw,mh,mc⟩:=m
    refine VC.body Tryz.func67 rfl Tryz.ntmps67 Tryz.call67 (h.grows_refl) rfl ?_;conv=>whnf
    repeat' (first|((first|refine zs1 ?_|refine zs2 ?_|refine zs3 ?_|refine zs4 ?_|refine zs5 ?_);conv=>whnf)|((first|apply zi1|apply zi2|apply zi3|apply zi4|apply zi5) <;> intro _ <;> first|(exfalso;omega)|contradiction|(conv=>whnf))|(refine VCall.intro (c _) ?_;conv=>whnf))
    exact VOut.same rfl
end Go.Proofs.YtkbbfeljlepgoaaGreat

open Go.Vm
open Riv
namespace Go.Proofs.YtkbbfeljlepgoaaGreat
set_option maxRecDepth 20000
set_option maxHeartbeats 4000000

structure WJ (o : Vm.Id → Option Blk) (n : Nat) (out : List Int) (p : Nat) (g : Hp) : Prop where
  o : g.outer = o
  b0 : g.get (.loc 0) = some (.flat true [DI n])
  b1 : g.get (.loc 1) = some (.flat true (out.flatMap encI))
  b2 : g.get (.loc 2) = some (.flat true [DI p])
  b3 : g.get (.loc 3) = some .mark
def prS (c : List Int) (s : Int) (T : List Int) (n o k : Nat) : Nat:=if at0 T k = at0 T n - 1 ∧ Thr c s k then k else o
theorem prS_lt {c : List Int} {s : Int} {T : List Int} {W L n : Nat} (h : ∀ k ∈ nbs W L n,k < L) (hn : n < L) : ∀ k,k ≤ 4 → nbF (prS c s T n) W L n n k < L
  | 0,_=>hn
  | k + 1,hk=>by
    have ih:=prS_lt (c:=c) (s:=s) (T:=T) h hn k (by omega)
    cases hq : nbO W L n k with
    | none=>rw [nbF_none hq];exact ih
    | some q =>
      rw [nbF_some hq]
      unfold prS
      split
      · exact h q (nbO_mem (by omega) hq)
      · exact ih
theorem vc_Way (m : Mp) (s cell : Int) (h : Hp) (hl : m.c.length ≤ 4000000) : VC Tryz.prog 45 [vM m,I s,I cell] h (.tuple [ints (wyL m s cell),I (wyE m s cell)]) h:=by
  have c:=fun h=>vc_looked m s h hl
  have cc:=fun h=>vc_cell m cell h hl
  obtain ⟨E,hE⟩ : ∃ E,E = wyE m s cell:=⟨_,rfl⟩
  obtain ⟨R,hR⟩ : ∃ R,R = wyL m s cell:=⟨_,rfl⟩
  rw [← hE,← hR]
  unfold wyL at hR
  rw [← hE] at hR
  unfold wyE at hE
  by_cases h0 : lkE m s = 0
  · obtain ⟨W,H,e1,_,o,hs⟩:=lkE_ok h0
    have hm144:=MOk.le o
    have hWb:=o.w
    have hHb:=o.h
    have hL:=o.len
    unfold wyN at hR
    rw [frL_ok h0 e1] at hE hR
    rw [e1,Int.toNat_natCast] at hR
    rw [if_pos h0] at hE
    have cT:=fun h=>vc_table m s h o e1 hs
    have hb : (bfs m.c W s).length = m.c.length:=bfsK_len _ _ _ _
    have hH:=bfs_hld (s:=s) (show 2 ≤ W by omega) hL
    have hlt:=fun n=>bfs_lt (s:=s) (show 2 ≤ W by omega) hL n
    rw [h0] at c
    have cTh:=fun k x hk h=>vc_through m s x k h hk
    have cB:=fun n h=>vc_beside m n h
    have itB:=fun n hn=>iter_beside m W n (by omega) e1 hn (by omega)
    have hprev:=fun n hn h0=>prev_ok (s:=s) (T:=bfs m.c W s) (n:=n) (show 2 ≤ W by omega) hL hH hn h0
    have hnb:=fun n hn k=>nbs_iff (k:=k) (show 2 ≤ W by omega) hL (n:=n) hn
    generalize bfs m.c W s = F at cT hb hE hR hH hlt hprev
    obtain ⟨mw,mh,mc⟩:=m
    dsimp only at hE hb hl hR hH hlt e1 cTh cB itB hprev hnb cc hm144
    subst e1
    by_cases h1 : 0 ≤ cell ∧ cell ≤ (mc.length : Int) - 1
    · rw [if_pos h1] at hE
      rw [decide_eq_true h1] at cc
      obtain ⟨k,rfl⟩ : ∃ k : Nat,cell = k:=⟨cell.toNat,by omega⟩
      rw [Int.toNat_natCast] at hE hR
      have ha:=at0_get (l:=F) (n:=k) (by omega)
      obtain ⟨a,hae⟩ : ∃ a,a = at0 F k:=⟨_,rfl⟩
      rw [← hae] at ha hE
      by_cases h2 : a < 1
      · rw [if_pos h2] at hE
        subst hE
        rw [if_neg (by decide)] at hR
        subst hR
        clear hae
        refine VC.bodyC 2 Tryz.func45 rfl Tryz.ntmps45 Tryz.call45 (h.grows_refl) rfl ?_;conv=>whnf
        repeat' (first|((first|refine zs1 ?_|refine zs2 ?_|refine zs3 ?_|refine zs4 ?_|refine zs5 ?_);conv=>whnf)|((first|apply zi1|apply zi2|apply zi3|apply zi4|apply zi5) <;> intro _ <;> first|(exfalso;omega)|contradiction|(conv=>whnf))|(refine VCall.intro (c _) ?_;conv=>whnf)|(refine VCall.intro (cc _) ?_;conv=>whnf))
        refine VCut.at' (outer:=h.lift) (marks:=[]) 99 [(3,.fp [DI W,DI mh,dints mc]),(5,.fp [DI k]),(8,.fp [DI W,DI mh,dints mc,DI s]),(9,I 0)] [] ?_ ?_
        · conv=>whnf
          refine Retell.turn ⟨[],4,[(0,[DI W,DI mh,dints mc]),(1,[DI k]),(2,[DI W,DI mh,dints mc,DI s])],[]⟩ (TurnOk.mk' _ _ [(0,[DI W,DI mh,dints mc]),(1,[DI k]),(2,[DI W,DI mh,dints mc,DI s])] [] (OutOk.lift _) rfl (by decide) zb zf trivial rfl) zw zm
        conv=>whnf
        repeat' (first|((first|refine zs1 ?_|refine zs2 ?_|refine zs3 ?_|refine zs4 ?_|refine zs5 ?_);conv=>whnf)|((first|apply zi1|apply zi2|apply zi3|apply zi4|apply zi5) <;> intro _ <;> first|(exfalso;omega)|contradiction|(conv=>whnf))|(refine VCall.intro (cc _) ?_;conv=>whnf)|(refine VCall.intro (cT _) ?_;conv=>whnf)|(refine VAny.ix encI_len k (by omega) (by omega) ha ?_;conv=>whnf))
        refine VOut.data 1 [] [] rfl zf (by exact FmAll.nil) zw
      · rw [if_neg h2] at hE
        subst hE
        rw [if_pos rfl] at hR
        refine VC.bodyC 2 Tryz.func45 rfl Tryz.ntmps45 Tryz.call45 (h.grows_refl) rfl ?_;conv=>whnf
        repeat' (first|((first|refine zs1 ?_|refine zs2 ?_|refine zs3 ?_|refine zs4 ?_|refine zs5 ?_);conv=>whnf)|((first|apply zi1|apply zi2|apply zi3|apply zi4|apply zi5) <;> intro _ <;> first|(exfalso;omega)|contradiction|(conv=>whnf))|(refine VCall.intro (c _) ?_;conv=>whnf)|(refine VCall.intro (cc _) ?_;conv=>whnf))
        refine VCut.at' (outer:=h.lift) (marks:=[]) 99 [(3,.fp [DI W,DI mh,dints mc]),(5,.ptr (.loc 0) 0),(8,.fp [DI W,DI mh,dints mc,DI s]),(9,I 0)] [.flat true [DI k]] ?_ ?_
        · conv=>whnf
          refine Retell.turn ⟨[1],4,[(0,[DI W,DI mh,dints mc]),(2,[DI W,DI mh,dints mc,DI s])],[]⟩ (TurnOk.mk' _ _ [(0,[DI W,DI mh,dints mc]),(2,[DI W,DI mh,dints mc,DI s])] [] (OutOk.lift _) rfl (by decide) zb zf trivial rfl) zw zm
        conv=>whnf
        repeat' (first|((first|refine zs1 ?_|refine zs2 ?_|refine zs3 ?_|refine zs4 ?_|refine zs5 ?_);conv=>whnf)|((first|apply zi1|apply zi2|apply zi3|apply zi4|apply zi5) <;> intro _ <;> first|(exfalso;omega)|contradiction|(conv=>whnf))|(refine VCall.intro (cc _) ?_;conv=>whnf)|(refine VCall.intro (cT _) ?_;conv=>whnf)|(refine VAny.ix encI_len k (by omega) (by omega) ha ?_;conv=>whnf))
        refine VCode.lpC (outer:=h.lift) (marks:=[]) 99 (fun y : Nat × List Int=>[(3,.fp [DI W,DI mh,dints mc]),(5,.ptr (.loc 0) 0),(8,.fp [DI W,DI mh,dints mc,DI s]),(10,.fp [dints F]),(11,.gl (.loc 1) 1 y.2.length)]) (fun y=>[.flat true [DI y.1],.flat true (y.2.flatMap encI)]) (fun y=>y.1 < mc.length ∧ y.2.length ≤ 1000 ∧ ∃ N : Nat,at0 F y.1 < N ∧ y.2.length + N ≤ 1000 ∧ R = (y.2 ++ natI (wback mc W s F N y.1)).reverse) (fun y=>(at0 F y.1).toNat) (k,[(k : Int)]) ⟨by omega,by simp,mc.length,?_,by simp;omega,?_⟩ ?_ ?_
        · have:=hlt k;dsimp only;omega
        · rw [hR,natI,natI,List.map_reverse];rfl
        · conv=>whnf
          refine Retell.turn ⟨[0,2],3,[(1,[dints F])],[]⟩ (TurnOk.mk' _ _ [(1,[dints F])] [] (OutOk.lift _) rfl (by decide) zb zf trivial rfl) zw zm
        · rintro ⟨n,out⟩ ⟨y1,y2,N,y3,y4,y5⟩
          dsimp only at y1 y2 y3 y4 y5
          clear hae ha hR
          have ha:=at0_get (l:=F) (n:=n) (by omega)
          have hlow:=hH.low n
          by_cases hpos : 0 < at0 F n
          · have hpv:=hprev n y1 hpos
            obtain ⟨N,rfl⟩ : ∃ M,N = M + 1:=⟨N - 1,by omega⟩
            rw [wback,if_pos hpos] at y5
            have hpr : prevW mc W s F n = nbF (prS mc s F n) W mc.length n n 4:=by rw [nbF_all];rfl
            have hplt:=prS_lt (c:=mc) (s:=s) (T:=F) (W:=W) (L:=mc.length) (n:=n) (fun k hk=>((hnb n y1 k).1 hk).1) y1
            have hp0 : nbF (prS mc s F n) W mc.length n n 0 = n:=rfl
            obtain ⟨a,hae⟩ : ∃ a,a = at0 F n:=⟨_,rfl⟩
            rw [← hae] at ha
            have hab : -1 ≤ a ∧ a ≤ 1000:=by have:=hlt n;omega
            conv=>whnf
            repeat' (first|((first|refine zs1 ?_|refine zs2 ?_|refine zs3 ?_|refine zs4 ?_|refine zs5 ?_);conv=>whnf)|((first|apply zi1|apply zi2|apply zi3|apply zi4|apply zi5) <;> intro _ <;> first|(exfalso;omega)|contradiction|(conv=>whnf))|(refine VAny.ix encI_len n (by omega) (by omega) ha ?_;conv=>whnf)|(refine VCall.intro (cB n _) ?_;conv=>whnf))
            refine VCode.tell [(3,.fp [DI W,DI mh,dints mc]),(5,.ptr (.loc 0) 0),(8,.fp [DI W,DI mh,dints mc,DI s]),(10,.fp [dints F]),(11,.gl (.loc 1) 1 out.length),(12,.ptr (.loc 2) 0),(48,vBes ⟨W,mh,mc⟩ n)] [.flat true [DI n],.flat true (out.flatMap encI),.flat true [DI n]] (marks':=[]) ?_ ?_
            · conv=>whnf
              refine Retell.turn ⟨[0,1,2],3,[],[]⟩ (TurnOk.mk' _ _ [] [] (OutOk.lift _) rfl (by decide) zb trivial trivial rfl) zw zm
            · conv=>whnf
              refine VCode.iterS 4 (nbY W mc.length n) (fun j g=>WJ h.lift n out (nbF (prS mc s F n) W mc.length n n j) g) _ (.loc 4) rfl (itB n y1) rfl rfl ⟨rfl,rfl,rfl,rfl,rfl⟩ ?_ ?_ ?_
              · rintro j g hj hy hJ
                rw [nbF_none (nbY_none hy)];exact hJ
              · rintro j g vs hj hy ⟨j0,j1,j2,j3,j4⟩ hlp
                obtain ⟨q,hq,rfl⟩:=nbY_some hy
                rw [nbF_some hq]
                have hqL:=((hnb n y1 q).1 (nbO_mem hj hq)).1
                generalize nbF (prS mc s F n) W mc.length n n j = p at j3
                have hx:=at0_get hqL
                have hb2:=at0_get (l:=F) (n:=q) (by omega)
                have cTq:=cTh q _ hx
                unfold prS
                have hthr : Thr mc s q ↔ (at0 mc q = 0 ∨ at0 mc q = s):=by unfold Thr;exact Iff.rfl
                rw [← hae]
                by_cases hc : at0 F q = a - 1 ∧ Thr mc s q
                · rw [if_pos hc]
                  rw [decide_eq_true (hthr.1 hc.2)] at cTq
                  have h9:=hc.1
                  clear hthr hc hae
                  generalize at0 F q = b at hb2 h9
                  have n1 : g.get (.loc 2) ≠ none:=by rw [j3];simp
                  refine ⟨g.set (.loc 2) (.flat true [DI q]),?_,⟨j0,?_,?_,?_,?_⟩,?_⟩
                  · refine VRound.vy' hlp rfl rfl rfl (Hp.grows_set _ _ _) fun l0=>?_
                    refine VRound.tell [(5,.ptr (.out (.loc 0)) 0),(8,.fp [DI W,DI mh,dints mc,DI s]),(10,.fp [dints F]),(12,.ptr (.out (.loc 2)) 0),(49,I q)] ?_ ?_
                    · conv=>whnf
                      refine Retell.turn ⟨[],0,[],[]⟩ (TurnOk.mk' _ _ [] [] (OutOk.lift _) rfl (by decide) zb trivial trivial rfl) zw zm
                    · conv=>whnf
                      repeat (first|((first|refine zs1 ?_|refine zs2 ?_|refine zs3 ?_|refine zs4 ?_|refine zs5 ?_|refine zs6 [] ?_);conv=>whnf))
                      refine VBegin.intro (get_out hlp _) rfl ?_
                      conv=>whnf
                      repeat' (first|((first|refine zs1 ?_|refine zs2 ?_|refine zs3 ?_|refine zs4 ?_|refine zs5 ?_);conv=>whnf)|((first|apply zi1|apply zi2|apply zi3|apply zi4|apply zi5) <;> intro _ <;> conv=>whnf))
                      refine zs6 [] ?_
                      conv=>whnf
                      repeat' (first|((first|refine zs1 ?_|refine zs2 ?_|refine zs3 ?_|refine zs4 ?_|refine zs5 ?_);conv=>whnf)|((first|apply zi1|apply zi2|apply zi3|apply zi4|apply zi5) <;> intro _ <;> first|(exfalso;omega)|contradiction|(conv=>whnf))|(refine VCall.intro (cTq _) ?_;conv=>whnf)|(refine VAny.ix encI_len q (by omega) (by omega) hb2 ?_;conv=>whnf)|(refine VAny.ix encI_len n (by omega) (by omega) ha ?_;conv=>whnf)|(refine VLd.flat rfl rfl (get_setO (by decide) j1 _) rfl ?_;conv=>whnf)|(refine VMem.st1 rfl rfl rfl (get_setO (by decide) j3 _) rfl ?_;conv=>whnf))
                      all_goals (
                        refine RFin.on (get_outNe (by decide) (outW_get _ _ _ _)) (VOut.liftS ?_ (Hp.grows_set _ _ _))
                        rw [lift_set n1]
                        exact outer_fix1 (get_out hlp []) (by decide))
                  · rw [Hp.get_set _ _ _ _ n1,if_neg (by decide)];exact j1
                  · rw [Hp.get_set _ _ _ _ n1,if_neg (by decide)];exact j2
                  · rw [Hp.get_set _ _ _ _ n1,if_pos rfl]
                  · rw [Hp.get_set _ _ _ _ n1,if_neg (by decide)];exact j4
                  · rw [Hp.get_set _ _ _ _ n1,if_neg (by decide)];exact hlp
                · rw [if_neg hc]
                  have h9 : ¬ (at0 F q = a - 1 ∧ (at0 mc q = 0 ∨ at0 mc q = s)):=fun h=>hc ⟨h.1,hthr.2 h.2⟩
                  clear hthr hc hae
                  generalize at0 F q = b at hb2 h9
                  refine ⟨g,?_,⟨j0,j1,j2,j3,j4⟩,hlp⟩
                  by_cases h8 : at0 mc q = 0 ∨ at0 mc q = s
                  · rw [decide_eq_true h8] at cTq
                    refine VRound.vy' hlp rfl rfl rfl g.grows_refl fun l0=>?_
                    refine VRound.tell [(5,.ptr (.out (.loc 0)) 0),(8,.fp [DI W,DI mh,dints mc,DI s]),(10,.fp [dints F]),(12,.ptr (.out (.loc 2)) 0),(49,I q)] ?_ ?_
                    · conv=>whnf
                      refine Retell.turn ⟨[],0,[],[]⟩ (TurnOk.mk' _ _ [] [] (OutOk.lift _) rfl (by decide) zb trivial trivial rfl) zw zm
                    · conv=>whnf
                      repeat (first|((first|refine zs1 ?_|refine zs2 ?_|refine zs3 ?_|refine zs4 ?_|refine zs5 ?_|refine zs6 [] ?_);conv=>whnf))
                      refine VBegin.intro (get_out hlp _) rfl ?_
                      conv=>whnf
                      repeat' (first|((first|refine zs1 ?_|refine zs2 ?_|refine zs3 ?_|refine zs4 ?_|refine zs5 ?_);conv=>whnf)|((first|apply zi1|apply zi2|apply zi3|apply zi4|apply zi5) <;> intro _ <;> conv=>whnf))
                      refine zs6 [] ?_
                      conv=>whnf
                      repeat' (first|((first|refine zs1 ?_|refine zs2 ?_|refine zs3 ?_|refine zs4 ?_|refine zs5 ?_);conv=>whnf)|((first|apply zi1|apply zi2|apply zi3|apply zi4|apply zi5) <;> intro _ <;> first|(exfalso;omega)|contradiction|(conv=>whnf))|(refine VCall.intro (cTq _) ?_;conv=>whnf)|(refine VAny.ix encI_len q (by omega) (by omega) hb2 ?_;conv=>whnf)|(refine VAny.ix encI_len n (by omega) (by omega) ha ?_;conv=>whnf)|(refine VLd.flat rfl rfl (get_setO (by decide) j1 _) rfl ?_;conv=>whnf))
                      all_goals first
                        | exact RFin.on (outW_get _ _ _ _) (VOut.back (get_out hlp []) rfl)
                        | (exfalso;omega)
                  · rw [decide_eq_false h8] at cTq
                    refine VRound.vy' hlp rfl rfl rfl g.grows_refl fun l0=>?_
                    refine VRound.tell [(5,.ptr (.out (.loc 0)) 0),(8,.fp [DI W,DI mh,dints mc,DI s]),(10,.fp [dints F]),(12,.ptr (.out (.loc 2)) 0),(49,I q)] ?_ ?_
                    · conv=>whnf
                      refine Retell.turn ⟨[],0,[],[]⟩ (TurnOk.mk' _ _ [] [] (OutOk.lift _) rfl (by decide) zb trivial trivial rfl) zw zm
                    · conv=>whnf
                      repeat (first|((first|refine zs1 ?_|refine zs2 ?_|refine zs3 ?_|refine zs4 ?_|refine zs5 ?_|refine zs6 [] ?_);conv=>whnf))
                      refine VBegin.intro (get_out hlp _) rfl ?_
                      conv=>whnf
                      repeat' (first|((first|refine zs1 ?_|refine zs2 ?_|refine zs3 ?_|refine zs4 ?_|refine zs5 ?_);conv=>whnf)|((first|apply zi1|apply zi2|apply zi3|apply zi4|apply zi5) <;> intro _ <;> conv=>whnf))
                      refine zs6 [] ?_
                      conv=>whnf
                      repeat' (first|((first|refine zs1 ?_|refine zs2 ?_|refine zs3 ?_|refine zs4 ?_|refine zs5 ?_);conv=>whnf)|((first|apply zi1|apply zi2|apply zi3|apply zi4|apply zi5) <;> intro _ <;> first|(exfalso;omega)|contradiction|(conv=>whnf))|(refine VCall.intro (cTq _) ?_;conv=>whnf)|(refine VAny.ix encI_len q (by omega) (by omega) hb2 ?_;conv=>whnf)|(refine VAny.ix encI_len n (by omega) (by omega) ha ?_;conv=>whnf)|(refine VLd.flat rfl rfl (get_setO (by decide) j1 _) rfl ?_;conv=>whnf))
                      all_goals first
                        | exact RFin.on (outW_get _ _ _ _) (VOut.back (get_out hlp []) rfl)
                        | (exfalso;omega)
              · rintro ⟨go,gl⟩ ⟨j0,j1,j2,j3,j4⟩ hlp
                dsimp only at j0
                subst j0
                rw [← hpr] at j3
                generalize prevW mc W s F n = p at j3 hpv y5
                have j1 : gl[0]? = some _:=j1
                have j2 : gl[1]? = some _:=j2
                have j3 : gl[2]? = some _:=j3
                have j4 : gl[3]? = some _:=j4
                have l0:=(List.getElem?_eq_some_iff.1 j1).1
                have l1:=(List.getElem?_eq_some_iff.1 j2).1
                have l2:=(List.getElem?_eq_some_iff.1 j3).1
                have key : ∀ (x : Nat) (A : Blk),x ≠ 4 → (gl.set 4 A)[x]? = gl[x]?:=fun x A hx=>List.getElem?_set_ne (Ne.symm hx)
                refine Told.mk [(3,.fp [DI W,DI mh,dints mc]),(5,.ptr (.loc 0) 0),(8,.fp [DI W,DI mh,dints mc,DI s]),(10,.fp [dints F]),(11,.gl (.loc 1) 1 out.length),(12,.ptr (.loc 2) 0)] [.flat true [DI n],.flat true (out.flatMap encI),.flat true [DI p]] (marks':=[]) ?_ ?_
                · conv=>whnf
                  refine Retell.turn ⟨[0,1,2],gl.length,[],[]⟩ (TurnOk.mk' _ _ [] [] (OutOk.lift _) (Nat.ble_eq_true_of_le (by simp)) (by simp) (BTos.flat (blt_of l0) ((key 0 _ (by decide)).trans j1) rfl (BTos.flat (blt_of l1) ((key 1 _ (by decide)).trans j2) rfl (BTos.flat (blt_of l2) ((key 2 _ (by decide)).trans j3) rfl BTos.nil))) trivial trivial rfl) zw (MkTo.drop (show 3 ∉ ([0,1,2] : List Nat) by decide) ((key 3 _ (by decide)).trans j4) MkTo.nil)
                · conv=>whnf
                  repeat' (first|((first|refine zs1 ?_|refine zs2 ?_|refine zs3 ?_|refine zs4 ?_|refine zs5 ?_|refine zs6 [] ?_);conv=>whnf)|((first|apply zi1|apply zi2|apply zi3|apply zi4|apply zi5) <;> intro _ <;> conv=>whnf)|(refine VMem.app1 (l:=out) (p : Int) encI_len rfl rfl rfl rfl rfl (by omega) ?_;conv=>whnf))
                  refine LEnd.intro (p,out ++ [(p : Int)]) ⟨hpv.1,by simp;omega,N,?_,by simp;omega,?_⟩ ?_ ?_
                  · have:=hpv.2.2.2
                    dsimp only
                    omega
                  · rw [y5]
                    unfold natI
                    simp
                  · have:=hpv.2.2.2
                    dsimp only
                    omega
                  · rw [List.length_append,List.length_singleton]
                    generalize out ++ [(p : Int)] = out2
                    conv=>whnf
                    refine Retell.turn ⟨[0,4],5,[],[]⟩ (TurnOk.mk' _ _ [] [] (OutOk.lift _) rfl (by decide) zb trivial trivial rfl) zw zm
          · have hz : N = 0 ∨ wback mc W s F N n = []:=by
              cases N with
              | zero=>exact .inl rfl
              | succ N=>right;rw [wback,if_neg hpos]
            have hw : wback mc W s F N n = []:=by
              rcases hz with rfl|h
              · rfl
              · exact h
            rw [hw,show natI [] = [] from rfl,List.append_nil] at y5
            subst y5
            rw [show ints out.reverse = .fs 1 out.length (out.reverse.flatMap encI) by unfold ints;rw [List.length_reverse]]
            generalize at0 F n = a at ha hpos
            conv=>whnf
            repeat' (first|((first|refine zs1 ?_|refine zs2 ?_|refine zs3 ?_|refine zs4 ?_|refine zs5 ?_);conv=>whnf)|((first|apply zi1|apply zi2|apply zi3|apply zi4|apply zi5) <;> intro _ <;> first|(exfalso;omega)|contradiction|(conv=>whnf))|(refine VAny.ix encI_len n (by omega) (by omega) ha ?_;conv=>whnf))
            refine VCall.intro (vc_reverse out (.loc 1) _ rfl (by omega)) ?_
            have hRf : (out.reverse.flatMap encI).length = out.length * 1:=by rw [flat_len encI_len,List.length_reverse]
            conv=>whnf
            repeat' (first|((first|refine zs1 ?_|refine zs2 ?_|refine zs3 ?_|refine zs4 ?_|refine zs5 ?_|refine zs6 [] ?_);conv=>whnf)|((first|apply zi1|apply zi2|apply zi3|apply zi4|apply zi5) <;> intro _ <;> conv=>whnf))
            refine VOut.data 2 [(1,out.reverse.flatMap encI)] [] rfl zf (by exact FmAll.nil) zw
    · rw [if_neg h1] at hE
      rw [decide_eq_false h1] at cc
      subst hE
      rw [if_neg (by decide)] at hR
      subst hR
      refine VC.body Tryz.func45 rfl Tryz.ntmps45 Tryz.call45 (h.grows_refl) rfl ?_;conv=>whnf
      repeat' (first|((first|refine zs1 ?_|refine zs2 ?_|refine zs3 ?_|refine zs4 ?_|refine zs5 ?_);conv=>whnf)|((first|apply zi1|apply zi2|apply zi3|apply zi4|apply zi5) <;> intro _ <;> first|(exfalso;omega)|contradiction|(conv=>whnf))|(refine VCall.intro (c _) ?_;conv=>whnf)|(refine VCall.intro (cc _) ?_;conv=>whnf))
      refine VOut.data 3 [] [] rfl zf (by exact FmAll.nil) zw
  · rw [if_neg h0] at hE
    rw [← hE] at c h0
    rw [if_neg h0] at hR
    subst hR
    clear hE cc
    obtain ⟨mw,mh,mc⟩:=m
    refine VC.body Tryz.func45 rfl Tryz.ntmps45 Tryz.call45 (h.grows_refl) rfl ?_;conv=>whnf
    repeat' (first|((first|refine zs1 ?_|refine zs2 ?_|refine zs3 ?_|refine zs4 ?_|refine zs5 ?_);conv=>whnf)|((first|apply zi1|apply zi2|apply zi3|apply zi4|apply zi5) <;> intro _ <;> first|(exfalso;omega)|contradiction|(conv=>whnf))|(refine VCall.intro (c _) ?_;conv=>whnf))
    refine VOut.data 3 [] [] rfl zf (by exact FmAll.nil) zw
end Go.Proofs.YtkbbfeljlepgoaaGreat

open Go.Vm
open Riv
namespace Go.Proofs.YtkbbfeljlepgoaaGreat
set_option maxRecDepth 20000
set_option maxHeartbeats 4000000

structure IsW (c : List Int) (W : Nat) (s : Int) (ks : List Nat) (cell : Nat) : Prop where
  len : 2 ≤ ks.length ∧ ks.length ≤ 1000
  last : ks.getD (ks.length - 1) 0 = cell
  at' : ∀ i,i < ks.length → ks.getD i 0 < c.length ∧ (i = 0 → at0 c (ks.getD i 0) = s) ∧ (0 < i → Nb W (ks.getD (i - 1) 0) (ks.getD i 0) ∧ Opn c (ks.getD i 0) ∧ (i + 1 < ks.length → at0 c (ks.getD i 0) = 0))
theorem natI_at {ks : List Nat} {i : Nat} (hi : i < ks.length) : (natI ks)[i]? = some ((ks.getD i 0 : Nat) : Int):=by
  unfold natI
  rw [List.getElem?_map,List.getD_eq_getElem?_getD,List.getElem?_eq_getElem hi];rfl
theorem natI_len (ks : List Nat) : (natI ks).length = ks.length:=by unfold natI;rw [List.length_map]
theorem vc_IsWay {W H : Nat} (m : Mp) (s : Int) (cell : Nat) (ks : List Nat) (h : Hp) (o : MOk W H m.c) (hw : m.w = W) (hk : IsW m.c W s ks cell) : VC Tryz.prog 68 [vM m,I s,I cell,ints (natI ks)] h (B true) h:=by
  have hWb:=o.w
  have hm144:=MOk.le o
  have cN:=fun a b h ha hb=>vc_rnext m W a b h (by omega) hw ha hb (by omega)
  have hl:=natI_len ks
  have hat:=fun i hi=>natI_at (ks:=ks) (i:=i) hi
  generalize natI ks = l at hl hat
  have hlen:=hk.len
  have hA:=hk.at'
  have hfirst:=hA 0 (by omega)
  have hlast:=hat (ks.length - 1) (by omega)
  rw [hk.last] at hlast
  obtain ⟨mw,mh,mc⟩:=m
  dsimp only at hw cN hA hfirst hm144
  subst hw
  have cb:=fun (k : Nat) (hk : k < mc.length) h=>vc_rbeside k 0 ((mc.length : Int) - 1) h
  have hf0:=hat 0 (by omega)
  have hx0:=at0_get hfirst.1
  rw [hfirst.2.1 rfl] at hx0
  have cb0:=cb _ hfirst.1
  rw [decide_eq_false (by omega)] at cb0
  have hfl:=hfirst.1
  clear hfirst
  generalize ks.getD 0 0 = k0 at hf0 hx0 cb0 hfl
  refine VC.bodyC 2 Tryz.func68 rfl Tryz.ntmps68 Tryz.call68 (h.grows_refl) rfl ?_;conv=>whnf
  repeat' (first|((first|refine zs1 ?_|refine zs2 ?_|refine zs3 ?_|refine zs4 ?_|refine zs5 ?_);conv=>whnf)|((first|apply zi1|apply zi2|apply zi3|apply zi4|apply zi5) <;> intro _ <;> conv=>whnf))
  refine zs6 [] ?_
  conv=>whnf
  repeat' (first|((first|refine zs1 ?_|refine zs2 ?_|refine zs3 ?_|refine zs4 ?_|refine zs5 ?_);conv=>whnf)|((first|apply zi1|apply zi2|apply zi3|apply zi4|apply zi5) <;> intro _ <;> first|(exfalso;omega)|contradiction|(conv=>whnf))|(refine VAny.ix encI_len (ks.length - 1) (by omega) rfl hlast ?_;conv=>whnf)|(refine VAny.ix encI_len 0 (by omega) rfl hf0 ?_;conv=>whnf)|(refine VCall.intro (cb0 _) ?_;conv=>whnf)|(refine VAny.ix encI_len k0 (by omega) rfl hx0 ?_;conv=>whnf))
  refine VCut.at' (outer:=h.lift) (marks:=[]) 99 [(1,I s),(3,ints l),(4,.fp [DI W,DI mh,dints mc])] [] ?_ ?_
  · conv=>whnf
    refine Retell.turn ⟨[],1,[(0,[DI W,DI mh,dints mc])],[]⟩ (TurnOk.mk' _ _ [(0,[DI W,DI mh,dints mc])] [] (OutOk.lift _) rfl (by decide) zb zf trivial rfl) zw zm
  conv=>whnf
  repeat' (first|((first|refine zs1 ?_|refine zs2 ?_|refine zs3 ?_|refine zs4 ?_|refine zs5 ?_);conv=>whnf)|((first|apply zi1|apply zi2|apply zi3|apply zi4|apply zi5) <;> intro _ <;> first|(exfalso;omega)|contradiction|(conv=>whnf)))
  refine VCode.lpC (outer:=h.lift) (marks:=[]) 99 (fun i : Nat=>[(1,I s),(3,ints l),(4,.fp [DI W,DI mh,dints mc]),(9,I i)]) (fun _=>[]) (fun i=>1 ≤ i ∧ i ≤ l.length) (fun i=>l.length - i) 1 ⟨Nat.le_refl _,by omega⟩ ?_ ?_
  · conv=>whnf
    refine Retell.turn ⟨[],0,[],[]⟩ (TurnOk.mk' _ _ [] [] (OutOk.lift _) rfl (by decide) zb trivial trivial rfl) zw zm
  · rintro i ⟨i1,i2⟩
    rcases Nat.lt_or_ge i l.length with i3|i3
    · have hAi:=hA i (by omega)
      have hAp:=(hA (i - 1) (by omega)).1
      obtain ⟨hq1,_,hq3⟩:=hAi
      obtain ⟨hnb,hop,hmid⟩:=hq3 (by omega)
      have hq:=hat i (by omega)
      have hp:=hat (i - 1) (by omega)
      have hx:=at0_get hq1
      have cbq:=cb _ hq1
      rw [decide_eq_false (by omega)] at cbq
      have cNq:=fun h=>cN (ks.getD (i - 1) 0) (ks.getD i 0) h (by omega) (by omega)
      rw [decide_eq_true hnb] at cNq
      unfold Opn at hop
      generalize ks.getD (i - 1) 0 = p at hp cNq hAp
      generalize ks.getD i 0 = q at hq cNq hq1 hop hmid hx cbq
      generalize at0 mc q = x at hx hop hmid
      conv=>whnf
      repeat' (first|((first|refine zs1 ?_|refine zs2 ?_|refine zs3 ?_|refine zs4 ?_|refine zs5 ?_);conv=>whnf)|((first|apply zi1|apply zi2|apply zi3|apply zi4|apply zi5) <;> intro _ <;> conv=>whnf))
      all_goals try (exfalso;omega)
      refine zs6 [] ?_
      conv=>whnf
      repeat' (first|((first|refine zs1 ?_|refine zs2 ?_|refine zs3 ?_|refine zs4 ?_|refine zs5 ?_);conv=>whnf)|((first|apply zi1|apply zi2|apply zi3|apply zi4|apply zi5) <;> intro _ <;> first|(exfalso;omega)|contradiction|(conv=>whnf))|(refine VAny.ix encI_len i (by omega) rfl hq ?_;conv=>whnf)|(refine VAny.ix encI_len (i - 1) (by omega) rfl hp ?_;conv=>whnf)|(refine VCall.intro (cbq _) ?_;conv=>whnf)|(refine VCall.intro (cNq _) ?_;conv=>whnf))
      refine zs6 [] ?_
      conv=>whnf
      repeat' (first|((first|refine zs1 ?_|refine zs2 ?_|refine zs3 ?_|refine zs4 ?_|refine zs5 ?_);conv=>whnf)|((first|apply zi1|apply zi2|apply zi3|apply zi4|apply zi5) <;> intro _ <;> first|(exfalso;omega)|contradiction|(conv=>whnf))|(refine VAny.ix encI_len i (by omega) rfl hq ?_;conv=>whnf)|(refine VAny.ix encI_len q (by omega) rfl hx ?_;conv=>whnf))
      all_goals first
        | (exfalso;omega)
        | (refine LEnd.intro (i + 1) ⟨by omega,by omega⟩ (by omega) ?_
           conv=>whnf
           refine Retell.turn ⟨[],0,[],[]⟩ (TurnOk.mk' _ _ [] [] (OutOk.lift _) rfl (by decide) zb trivial trivial rfl) zw zm)
    · conv=>whnf
      repeat' (first|((first|refine zs1 ?_|refine zs2 ?_|refine zs3 ?_|refine zs4 ?_|refine zs5 ?_);conv=>whnf)|((first|apply zi1|apply zi2|apply zi3|apply zi4|apply zi5) <;> intro _ <;> first|(exfalso;omega)|contradiction|(conv=>whnf)))
      exact VOut.same rfl
end Go.Proofs.YtkbbfeljlepgoaaGreat

open Go.Vm
open Riv
namespace Go.Vm
theorem VCut.atO {P : Program} {ro : Option Nat} {c : Code} {n : Nat} {fr : Fr} {outer0 : Id → Option Blk} {loc0 : List Blk} {marks : List Id} {Q : X → St → Prop} (m : Nat) (slots : List (Nat × V)) (outer : Id → Option Blk) (loc : List Blk) (ho : outer0 = outer)
    (hst : frSK slots .leaf fun fr'=>Retell isOut ⟨n,fr,⟨outer,loc0⟩,marks⟩ ⟨n,fr',⟨outer,loc⟩,marks⟩)
    (hb : frSK slots .leaf fun fr'=>vcut P ro isOut m c ⟨n,fr',⟨outer,loc⟩,marks⟩ Q) : VCut P ro isOut c ⟨n,fr,⟨outer0,loc0⟩,marks⟩ Q:=by
  subst ho
  exact VCut.at' m slots loc hst hb
end Go.Vm
namespace Go.Proofs.YtkbbfeljlepgoaaGreat
set_option maxRecDepth 20000
set_option maxHeartbeats 4000000

def encB (b : Bool) : List D:=[DB b]
theorem encB_len (b : Bool) : (encB b).length = 1:=rfl
def bools (l : List Bool) : V:=.fs 1 l.length (l.flatMap encB)
def dbools (l : List Bool) : D:=.sl 1 l.length (l.flatMap encB)
def metB (L : Nat) (M : List Nat) : List Bool:=(List.range L).map fun k=>decide (k ∈ M)
theorem metB_len (L : Nat) (M : List Nat) : (metB L M).length = L:=by simp [metB]
theorem metB_at {L k : Nat} (M : List Nat) (hk : k < L) : (metB L M)[k]? = some (decide (k ∈ M)):=by
  unfold metB;rw [List.getElem?_map,List.getElem?_range hk];rfl
theorem metB_nil (L : Nat) : metB L [] = List.replicate L false:=by
  apply List.ext_getElem?
  intro k
  rcases Nat.lt_or_ge k L with h|h
  · rw [metB_at [] h,List.getElem?_replicate,if_pos h];simp
  · rw [List.getElem?_eq_none (by rw [metB_len];exact h),List.getElem?_eq_none (by simpa using h)]
theorem metB_set {L n : Nat} (M : List Nat) (hn : n < L) : (metB L M).set n true = metB L (M ++ [n]):=by
  apply List.ext_getElem?
  intro k
  rcases Nat.lt_or_ge k L with h|h
  · rw [metB_at _ h]
    by_cases e : n = k
    · subst e
      rw [List.getElem?_set_self (by rw [metB_len];exact h)];simp
    · rw [List.getElem?_set_ne e,metB_at _ h]
      have : (k ∈ M ++ [n]) ↔ k ∈ M:=by simp;exact fun e2=>absurd e2.symm e
      simp only [this]
  · rw [List.getElem?_eq_none (by rw [List.length_set,metB_len];exact h),List.getElem?_eq_none (by rw [metB_len];exact h)]
def folS (mk : List Bool) (rec : Nat → List Nat → List Nat) (M : List Nat) (k : Nat) : List Nat:=if k ∉ M ∧ bat mk k = true then rec k M else M
theorem folL_fold (mk : List Bool) (rec : Nat → List Nat → List Nat) : ∀ (ks M : List Nat),ks.foldl (folS mk rec) M = folL mk rec ks M
  | [],_=>rfl
  | k :: ks,M=>by
    rw [List.foldl_cons,folL_fold mk rec ks,folL]
    unfold folS
    split <;> rfl
structure MI (L : Nat) (M1 M : List Nat) : Prop where
  pre : M1 <+: M
  nd : M.Nodup
  lt : ∀ x ∈ M,x < L
theorem MI.len {L : Nat} {M1 M : List Nat} (h : MI L M1 M) : M1.length ≤ M.length ∧ M.length ≤ L:=⟨h.pre.length_le,nodup_len L M h.nd h.lt⟩
theorem folW_mi {mk : List Bool} {W H N n : Nat} {M : List Nat} (hW : 2 ≤ W) (hL : mk.length = W * H) (h1 : bat mk n = true) (h2 : n ∉ M) (h3 : M.Nodup) (h4 : ∀ x ∈ M,x < mk.length) (h5 : mk.length ≤ N + M.length) : MI mk.length M (folW mk W N n M) ∧ n ∈ folW mk W N n M:=by
  have h:=folW_ok hW hL N n M h1 h2 h3 h4 h5
  refine ⟨⟨h.pre,h.nd,fun x hx=>?_⟩,h.own⟩
  by_cases hm : x ∈ M
  · exact h4 x hm
  · exact bat_lt (h.mrk x hx hm).1
theorem nbM_ok {mk : List Bool} {W H N n : Nat} {M1 : List Nat} (hW : 2 ≤ W) (hL : mk.length = W * H) (h0 : MI mk.length M1 M1) (h5 : mk.length ≤ N + M1.length) : ∀ k,k ≤ 4 → MI mk.length M1 (nbF (folS mk (folW mk W N)) W mk.length n M1 k)
  | 0,_=>h0
  | k + 1,hk=>by
    have ih:=nbM_ok (n:=n) hW hL h0 h5 k (by omega)
    cases hq : nbO W mk.length n k with
    | none=>rw [nbF_none hq];exact ih
    | some q =>
      rw [nbF_some hq]
      generalize nbF (folS mk (folW mk W N)) W mk.length n M1 k = U at ih
      unfold folS
      split
      · rename_i hc
        have h:=(folW_mi hW hL (N:=N) hc.2 hc.1 ih.nd ih.lt (by have:=ih.len.1;omega)).1
        exact ⟨ih.pre.trans h.pre,h.nd,h.lt⟩
      · exact ih
def ownF (own : List Int) (M R : List Nat) : List Int:=own ++ natI (R.drop M.length)
theorem ownF_len (own : List Int) {M R : List Nat} (h : M.length ≤ R.length) : (ownF own M R).length = own.length + (R.length - M.length):=by
  unfold ownF;rw [List.length_append,natI_len,List.length_drop]
theorem ownF_one (own : List Int) (M : List Nat) (n : Nat) : ownF own M (M ++ [n]) = own ++ [(n : Int)]:=by
  unfold ownF
  rw [List.drop_append_of_le_length (Nat.le_refl _),List.drop_of_length_le (Nat.le_refl _)];rfl
theorem ownF_ownF (own : List Int) {M R S : List Nat} (h1 : M <+: R) (h2 : R <+: S) : ownF (ownF own M R) R S = ownF own M S:=by
  obtain ⟨a,rfl⟩:=h1
  obtain ⟨b,rfl⟩:=h2
  unfold ownF natI
  simp
def oF (o : Vm.Id → Option Blk) (mI oI : Vm.Id) (L : Nat) (M : List Nat) : Vm.Id → Option Blk:=outW (outW o mI (.flat true ((metB L M).flatMap encB))) oI .dead
theorem oF_set {o : Vm.Id → Option Blk} {mI oI : Vm.Id} {L : Nat} {M R : List Nat} (hne : mI ≠ oI) : outW (oF o mI oI L M) mI (.flat true ((metB L R).flatMap encB)) = oF o mI oI L R:=by
  unfold oF
  rw [outW_comm (o:=outW o mI _) (i:=oI) (j:=mI) (fun e=>hne e.symm),outW_same]
theorem oF_met {o : Vm.Id → Option Blk} {mI oI : Vm.Id} {L : Nat} {M : List Nat} (hne : mI ≠ oI) (loc : List Blk) : (⟨oF o mI oI L M,loc⟩ : Hp).get (.out mI) = some (.flat true ((metB L M).flatMap encB)):=by
  show oF o mI oI L M mI = _
  unfold oF outW
  rw [if_neg hne,if_pos rfl]
theorem oF_oth {o : Vm.Id → Option Blk} {mI oI i : Vm.Id} {L : Nat} {M : List Nat} {r : Option Blk} (h1 : i ≠ mI) (h2 : i ≠ oI) (loc : List Blk) (h : o i = r) : (⟨oF o mI oI L M,loc⟩ : Hp).get (.out i) = r:=by
  show oF o mI oI L M i = _
  unfold oF outW
  rw [if_neg h2,if_neg h1];exact h
theorem OutOk.oF {h : Hp} {mI oI : Vm.Id} {L : Nat} {M : List Nat} : OutOk (oF h.lift mI oI L M):=OutOk.outW (OutOk.outW (OutOk.lift _) rfl) rfl
def upF (mI : Vm.Id) (L : Nat) (R : List Nat) (m : Nat) (b : Blk) : List (Vm.Id × Blk):=[(.out mI,.flat true ((metB L R).flatMap encB)),(.loc m,.dead),(.loc 0,b)]
theorem upF_ok {mI : Vm.Id} {L m : Nat} {R : List Nat} {b b0 b' b2 : Blk} {g : Hp} (jI : g.get (.out mI) = some b0) (jm : g.get (.loc m) = some b2) (j0 : g.get (.loc 0) = some b') : ∀ p ∈ upF mI L R m b,g.get p.1 ≠ none:=by
  intro p hp
  simp only [upF,List.mem_cons,List.not_mem_nil,or_false] at hp
  rcases hp with rfl|rfl|rfl <;> simp only
  · rw [jI];simp
  · rw [jm];simp
  · rw [j0];simp
theorem FJ.step {o : Vm.Id → Option Blk} {mI oI : Vm.Id} {L : Nat} {M R : List Nat} {l l' : List Int} {g : Hp} {m : Nat} (hne : mI ≠ oI) (jo : g.outer = oF o mI oI L M) (j0 : g.get (.loc 0) = some (.cells true [.gl (.loc m) 1 l.length])) (jm : g.get (.loc m) = some (.flat true (l.flatMap encI))) (j2 : g.get (.loc 2) = some .mark) (hm : m = 1 ∨ 4 ≤ m) {b6 : Blk} (j3 : g.get (.loc 3) = some b6) :
    g.grows ((g.sets (upF mI L R m (.cells true [.gl g.fresh 1 l'.length]))).pushes [.flat true (l'.flatMap encI)]) ∧
    GJ (oF o mI oI L R) l' ((g.sets (upF mI L R m (.cells true [.gl g.fresh 1 l'.length]))).pushes [.flat true (l'.flatMap encI)]) ∧
    ((g.sets (upF mI L R m (.cells true [.gl g.fresh 1 l'.length]))).pushes [.flat true (l'.flatMap encI)]).get (.loc 3) = some b6:=by
  obtain ⟨go,gl⟩:=g
  dsimp only at jo
  subst jo
  have jI:=oF_met (o:=o) (L:=L) (M:=M) hne gl
  have hgr:=Hp.grows_sets (news:=[.flat true (l'.flatMap encI)]) (upF_ok (L:=L) (R:=R) (b:=.cells true [.gl (Hp.fresh ⟨oF o mI oI L M,gl⟩) 1 l'.length]) jI jm j0)
  simp only [Hp.get] at j0 j2 jm j3
  have l0:=(List.getElem?_eq_some_iff.1 j0).1
  have l2:=(List.getElem?_eq_some_iff.1 j2).1
  have l3:=(List.getElem?_eq_some_iff.1 j3).1
  have key : ∀ y,y < gl.length → y ≠ m → y ≠ 0 → ∀ (A B G : Blk),(((gl.set m A).set 0 B) ++ [G])[y]? = gl[y]?:=by
    intro y hy h1 h2 A B G
    rw [List.getElem?_append_left (by simpa using hy),List.getElem?_set_ne (Ne.symm h2),List.getElem?_set_ne (Ne.symm h1)]
  refine ⟨hgr,⟨?_,⟨gl.length,.inr (by omega),?_,?_⟩,?_⟩,?_⟩
  · exact oF_set hne
  · show (((gl.set m _).set 0 _) ++ [_])[0]? = _
    rw [List.getElem?_append_left (by simpa using l0),List.getElem?_set_self (by simpa using l0)]
    simp [Hp.fresh]
  · show (((gl.set m _).set 0 _) ++ [_])[gl.length]? = _
    rw [List.getElem?_append_right (by simp)]
    simp
  · exact (key 2 l2 (by omega) (by omega) _ _ _).trans j2
  · exact (key 3 l3 (by omega) (by omega) _ _ _).trans j3
end Go.Proofs.YtkbbfeljlepgoaaGreat

open Go.Vm
open Riv
namespace Go.Proofs.YtkbbfeljlepgoaaGreat
set_option maxRecDepth 20000
set_option maxHeartbeats 4000000

theorem vc_isl1 (x : Int) (h : Hp) : VC Tryz.prog 130 [I x] h (B (decide (x = 3))) h:=by
  refine VC.body Tryz.func130 rfl Tryz.ntmps130 Tryz.call130 (h.grows_refl) rfl ?_;conv=>whnf
  repeat' (first|((first|refine zs1 ?_|refine zs2 ?_|refine zs3 ?_|refine zs4 ?_|refine zs5 ?_|refine zs6 [] ?_);conv=>whnf)|((first|apply zi1|apply zi2|apply zi3|apply zi4|apply zi5) <;> intro _ <;> conv=>whnf))
  refine VOut.same ?_
  have : (x == 3) = decide (x = 3):=by rw [Bool.eq_iff_iff,decide_eq_true_eq,beq_iff_eq]
  simp only [V.ren,this]
def vFolI (w hh : Int) (c : List Int) (mC fC : Vm.Id) : V:=.func (.func 158) [] [.ptr mC 0,.fp [DI w,DI hh,dints c],.fp [.func (.func 130) [] []],.fp [dints c],.ptr fC 0]
structure MemI (w hh : Int) (c : List Int) (mC mI fC : Vm.Id) (M : List Nat) (h : Hp) : Prop where
  mc : h.get mC = some (.cells true [.gl mI 1 c.length])
  mi : h.get mI = some (.flat true ((metB c.length M).flatMap encB))
  fc : h.get fC = some (.cells true [vFolI w hh c mC fC])
structure DjtI (mC mI fC oI : Vm.Id) : Prop where
  cI : mC ≠ mI
  co : mC ≠ oI
  fI : fC ≠ mI
  fo : fC ≠ oI
  Io : mI ≠ oI
def effI (h : Hp) (mI oI : Vm.Id) (L : Nat) (R : List Nat) (l : List Int) : Hp:=(h.sets [(mI,.flat true ((metB L R).flatMap encB)),(oI,.dead)]).pushes [.flat true (l.flatMap encI)]
theorem vc_folI {W H : Nat} (m : Mp) (o : MOk W H m.c) (hw : m.w = W) : ∀ (N n : Nat) (M : List Nat) (own : List Int) (mC mI fC oI : Vm.Id) (h : Hp),bat (marks m.c) n = true → n ∉ M → M.Nodup → (∀ x ∈ M,x < m.c.length) → m.c.length ≤ N + M.length → own.length ≤ M.length →
    MemI m.w m.h m.c mC mI fC M h → h.get oI = some (.flat true (own.flatMap encI)) → DjtI mC mI fC oI →
    VC Tryz.prog 158 [I n,.gl oI 1 own.length,.ptr mC 0,.fp (encM m),.fp [.func (.func 130) [] []],.fp [dints m.c],.ptr fC 0] h (.gl h.fresh 1 (ownF own M (folW (marks m.c) W N n M)).length) (effI h mI oI m.c.length (folW (marks m.c) W N n M) (ownF own M (folW (marks m.c) W N n M)))
  | 0,n,M,own,mC,mI,fC,oI,h,h1,h2,h3,h4,h5,h6,h7,h8,h9=>by
    have h10:=nodup_len m.c.length (M ++ [n]) (by
      rw [List.nodup_append]
      exact ⟨h3,by simp,fun a ha b hb=>by simp at hb;subst hb;intro e;subst e;exact h2 ha⟩) fun x hx=>by
      rcases List.mem_append.1 hx with hx|hx
      · exact h4 x hx
      · simp at hx;subst hx;have:=bat_lt h1;rw [marks_len] at this;exact this
    rw [List.length_append,List.length_singleton] at h10
    omega
  | N + 1,n,M,own,mC,mI,fC,oI,h,h1,h2,h3,h4,h5,h6,h7,h8,h9=>by
    have IH:=fun n M own mC mI fC oI h=>vc_folI m o hw N n M own mC mI fC oI h
    have hWb:=o.w
    have hHb:=o.h
    have hL:=o.len
    have hm144:=MOk.le o
    have cB:=fun n h=>vc_beside m n h
    have itB:=fun n hn=>iter_beside m W n (by omega) hw hn (by omega)
    have hmkl:=marks_len m.c
    have hnl:=bat_lt h1
    have hR : folW (marks m.c) W (N + 1) n M = folL (marks m.c) (folW (marks m.c) W N) (nbs W (marks m.c).length n) (M ++ [n]):=rfl
    rw [← folL_fold,← nbF_all] at hR
    have hmi0 : MI (marks m.c).length (M ++ [n]) (M ++ [n]):=by
      refine ⟨List.prefix_refl _,?_,fun x hx=>?_⟩
      · rw [List.nodup_append]
        exact ⟨h3,by simp,fun a ha b hb=>by simp at hb;subst hb;intro e;subst e;exact h2 ha⟩
      · rcases List.mem_append.1 hx with hx|hx
        · rw [hmkl];exact h4 x hx
        · simp at hx;subst hx;exact hnl
    have hMI:=fun j hj=>nbM_ok (mk:=(marks m.c)) (N:=N) (n:=n) (W:=W) (H:=H) (by omega) (by rw [hmkl];exact hL) hmi0 (by rw [List.length_append,List.length_singleton,hmkl];omega) j hj
    have hMl : (M ++ [n]).length = M.length + 1:=by simp
    have hfo : ∀ k M,bat (marks m.c) k = true → k ∉ M → M.Nodup → (∀ x ∈ M,x < (marks m.c).length) → (marks m.c).length ≤ N + M.length → M <+: folW (marks m.c) W N k M:=fun k M a1 a2 a3 a4 a5=>(folW_mi (by omega) (by rw [hmkl];exact hL) a1 a2 a3 a4 a5).1.pre
    have hpre0 : M <+: M ++ [n]:=List.prefix_append _ _
    obtain ⟨R,hRe⟩ : ∃ R,R = folW (marks m.c) W (N + 1) n M:=⟨_,rfl⟩
    rw [← hRe] at hR ⊢
    clear hRe
    have hset:=metB_set (L:=m.c.length) M (n:=n) (by omega)
    have hmat:=metB_at (L:=m.c.length) (k:=n) M (by omega)
    have hown1:=ownF_one own M n
    have hgrow : h.grows (effI h mI oI m.c.length R (ownF own M R)):=by
      refine Hp.grows_sets fun e he=>?_
      simp only [List.mem_cons,List.not_mem_nil,or_false] at he
      rcases he with rfl|rfl <;> simp only
      · rw [h7.mi];simp
      · rw [h8];simp
    obtain ⟨mw,mh,c⟩:=m
    dsimp only at *
    subst hw
    show VC Tryz.prog 158 [I n,.gl oI 1 own.length,.ptr mC 0,.fp [DI W,DI mh,dints c],.fp [.func (.func 130) [] []],.fp [dints c],.ptr fC 0] h _ _
    refine VC.bodyC 3 Tryz.func158 rfl Tryz.ntmps158 Tryz.call158 hgrow rfl ?_
    conv=>whnf
    have hno : ∀ (i : Vm.Id) (j : Nat),Vm.Id.out i ≠ .loc j:=fun _ _ e=>by cases e
    have hMle:=hmi0.len.2
    repeat' (first|((first|refine zs1 ?_|refine zs2 ?_|refine zs3 ?_|refine zs4 ?_|refine zs5 ?_);conv=>whnf)|((first|apply zi1|apply zi2|apply zi3|apply zi4|apply zi5) <;> intro _ <;> conv=>whnf)|(refine VLd.cell rfl rfl (get_out h7.mc _) rfl ?_;conv=>whnf))
    refine VMem.setRec encB_len n 0 true rfl rfl (get_out h7.mi _) hmat (by decide) rfl (ofs _) ?_
    rw [hset]
    conv=>whnf
    repeat' (first|((first|refine zs1 ?_|refine zs2 ?_|refine zs3 ?_|refine zs4 ?_|refine zs5 ?_);conv=>whnf)|((first|apply zi1|apply zi2|apply zi3|apply zi4|apply zi5) <;> intro _ <;> conv=>whnf))
    refine VMem.app1B (α:=Int) (l:=own) (n : Int) encI_len rfl (get_outNe (fun e=>h9.Io e.symm) (get_out h8 _)) rfl rfl rfl (by omega) ?_
    rw [← hown1]
    conv=>whnf
    repeat' (first|((first|refine zs1 ?_|refine zs2 ?_|refine zs3 ?_|refine zs4 ?_|refine zs5 ?_);conv=>whnf)|((first|apply zi1|apply zi2|apply zi3|apply zi4|apply zi5) <;> intro _ <;> conv=>whnf))
    have hol : own.length + 1 = (ownF own M (M ++ [n])).length:=by rw [hown1,List.length_append,List.length_singleton]
    refine VCut.atO (outer:=oF h.lift mI oI c.length (M ++ [n])) (marks:=[]) 99 [(0,I n),(2,.ptr (.out mC) 0),(3,.fp [DI W,DI mh,dints c]),(4,.fp [.func (.func 130) [] []]),(5,.fp [dints c]),(6,.ptr (.out fC) 0),(8,.ptr (.loc 0) 0)] [.cells true [.gl (.loc 1) 1 (own.length + 1)],.flat true ((ownF own M (M ++ [n])).flatMap encI)] rfl ?_ ?_
    · generalize ownF own M (M ++ [n]) = o1
      conv=>whnf
      refine Retell.turn ⟨[0,2],3,[],[]⟩ (TurnOk.mk' _ _ [] [] OutOk.oF rfl (by decide) zb trivial trivial rfl) zw zm
    · conv=>whnf
      repeat' (first|((first|refine zs1 ?_|refine zs2 ?_|refine zs3 ?_|refine zs4 ?_|refine zs5 ?_);conv=>whnf)|((first|apply zi1|apply zi2|apply zi3|apply zi4|apply zi5) <;> intro _ <;> conv=>whnf)|(refine VCall.intro (cB n _) ?_;conv=>whnf))
      refine VCode.tell [(2,.ptr (.out mC) 0),(4,.fp [.func (.func 130) [] []]),(5,.fp [dints c]),(6,.ptr (.out fC) 0),(8,.ptr (.loc 0) 0),(20,vBes ⟨W,mh,c⟩ n)] [.cells true [.gl (.loc 1) 1 (own.length + 1)],.flat true ((ownF own M (M ++ [n])).flatMap encI)] (marks':=[]) ?_ ?_
      · generalize ownF own M (M ++ [n]) = o1
        conv=>whnf
        refine Retell.turn ⟨[0,1],2,[],[]⟩ (TurnOk.mk' _ _ [] [] OutOk.oF rfl (by decide) zb trivial trivial rfl) zw zm
      · conv=>whnf
        refine VCode.iterS 4 (nbY W c.length n) (fun j g=>GJ (oF h.lift mI oI c.length (nbF (folS (marks c) (folW (marks c) W N)) W (marks c).length n (M ++ [n]) j)) (ownF own M (nbF (folS (marks c) (folW (marks c) W N)) W (marks c).length n (M ++ [n]) j)) g) _ (.loc 3) rfl (itB n (by omega)) rfl rfl ⟨rfl,⟨1,.inl rfl,by rw [nbF_zero,← hol];rfl,rfl⟩,rfl⟩ ?_ ?_ ?_
        · rintro j g hj hy hJ
          rw [nbF_none (by rw [hmkl];exact nbY_none hy)];exact hJ
        · rintro j g vs hj hy hJ hlp
          obtain ⟨q,hq,rfl⟩:=nbY_some hy
          have hqc : q < c.length:=by
            have:=((nbs_iff (by omega) hL (by omega)).1 (nbO_mem hj hq)).1
            exact this
          rw [← hmkl] at hq
          rw [nbF_some hq]
          have hI:=hMI j (by omega)
          generalize nbF (folS (marks c) (folW (marks c) W N)) W (marks c).length n (M ++ [n]) j = Mk at hJ hI
          have hpreM : M <+: Mk:=hpre0.trans hI.pre
          have hlenM:=hI.len
          have hlown:=ownF_len own hpreM.length_le
          have hpp:=fun S (hS : Mk <+: S)=>ownF_ownF own hpreM hS
          obtain ⟨jo,⟨m,hm,j0,jm⟩,j2⟩:=hJ
          obtain ⟨l,hl0⟩ : ∃ l,l = ownF own M Mk:=⟨_,rfl⟩
          rw [← hl0] at j0 jm hlown
          simp only [← hl0] at hpp
          have kmc : g.get (.out mC) = some ((Blk.cells true [.gl mI 1 c.length]).ren .out):=by
            show g.outer mC = _
            rw [jo];exact oF_oth h9.cI h9.co [] (get_out h7.mc [])
          have kfc : g.get (.out fC) = some ((Blk.cells true [vFolI W mh c mC fC]).ren .out):=by
            show g.outer fC = _
            rw [jo];exact oF_oth h9.fI h9.fo [] (get_out h7.fc [])
          have kmi : g.get (.out mI) = some (.flat true ((metB c.length Mk).flatMap encB)):=by
            show g.outer mI = _
            rw [jo];exact oF_met h9.Io []
          have hqm:=metB_at Mk hqc
          have hx:=at0_get hqc
          have cSq:=fun h=>vc_isl1 (at0 c q) h
          rw [← bat_marks] at cSq
          unfold folS
          have hm0 : Vm.Id.loc m ≠ .loc 0:=by intro h0;injection h0;omega
          have hm3 : Vm.Id.loc m ≠ .loc 3:=by intro h0;injection h0;omega
          by_cases hgo : q ∉ Mk ∧ bat (marks c) q = true
          · rw [if_pos hgo]
            rw [decide_eq_false hgo.1] at hqm
            rw [hgo.2] at cSq
            have hfp:=hfo q Mk hgo.2 hgo.1 hI.nd hI.lt (by omega)
            have IHq:=fun H hM hb=>IH q Mk l (.out (.out mC)) (.out (.out mI)) (.out (.out fC)) (.out (.loc m)) H hgo.2 hgo.1 hI.nd (fun x hx=>by have:=hI.lt x hx;omega) (by omega) (by omega) hM hb ⟨fun e=>h9.cI (by injection e with e;injection e),(fun e=>by injection e with e;cases e),fun e=>h9.fI (by injection e with e;injection e),(fun e=>by injection e with e;cases e),(fun e=>by injection e with e;cases e)⟩
            have hown2:=hpp _ hfp
            have hfl:=hfp.length_le
            have hl2:=ownF_len l hfl
            generalize folW (marks c) W N q Mk = S at IHq hown2 hfl hl2
            rw [← hown2]
            generalize ownF l Mk S = l' at IHq hl2
            obtain ⟨s1,s2,s3⟩:=FJ.step (R:=S) (l':=l') h9.Io jo j0 jm j2 hm hlp
            refine ⟨_,?_,s2,s3⟩
            refine VRound.vy' hlp rfl rfl rfl s1 fun l0=>?_
            refine VRound.tell [(2,.ptr (.out (.out mC)) 0),(4,.fp [.func (.func 130) [] []]),(5,.fp [dints c]),(6,.ptr (.out (.out fC)) 0),(8,.ptr (.out (.loc 0)) 0),(21,I q)] ?_ ?_
            · conv=>whnf
              refine Retell.turn ⟨[],0,[],[]⟩ (TurnOk.mk' _ _ [] [] (OutOk.lift _) rfl (by decide) zb trivial trivial rfl) zw zm
            · conv=>whnf
              repeat (first|((first|refine zs1 ?_|refine zs2 ?_|refine zs3 ?_|refine zs4 ?_|refine zs5 ?_|refine zs6 [] ?_);conv=>whnf))
              refine VBegin.intro (get_out hlp _) rfl ?_
              conv=>whnf
              refine zs6 [] ?_
              conv=>whnf
              repeat' (first|((first|refine zs1 ?_|refine zs2 ?_|refine zs3 ?_|refine zs4 ?_|refine zs5 ?_);conv=>whnf)|((first|apply zi1|apply zi2|apply zi3|apply zi4|apply zi5) <;> intro _ <;> conv=>whnf)|(refine VLd.cell rfl rfl (get_setO (hno _ _) kmc _) rfl ?_;conv=>whnf)|(refine VLd.recc encB_len q 0 rfl rfl (get_setO (hno _ _) kmi _) hqm (by decide) rfl (ofs _) ?_;conv=>whnf)|(refine VAny.ix encI_len q rfl rfl hx ?_;conv=>whnf)|(refine VCall.intro (cSq _) ?_;conv=>whnf))
              repeat' (first|((first|refine zs1 ?_|refine zs2 ?_|refine zs3 ?_|refine zs4 ?_|refine zs5 ?_);conv=>whnf)|((first|apply zi1|apply zi2|apply zi3|apply zi4|apply zi5) <;> intro _ <;> conv=>whnf)|(refine VLd.cell rfl rfl (get_setO (hno _ _) kfc _) rfl ?_;conv=>whnf)|(refine VLd.cell rfl rfl (get_setO (by decide) j0 _) rfl ?_;conv=>whnf))
              refine VCall.intro (IHq _ ⟨get_setO (hno _ _) kmc _,get_setO (hno _ _) kmi _,get_setO (hno _ _) kfc _⟩ (get_setO hm3 jm _)) ?_
              conv=>whnf
              repeat' (first|((first|refine zs1 ?_|refine zs2 ?_|refine zs3 ?_|refine zs4 ?_|refine zs5 ?_);conv=>whnf)|((first|apply zi1|apply zi2|apply zi3|apply zi4|apply zi5) <;> intro _ <;> conv=>whnf))
              refine VMem.st1 rfl rfl rfl (b:=.cells true [.gl (.out (.loc m)) 1 l.length]) (get_outNe (fun e=>hm0 e.symm) (get_outNe (fun e=>by cases e) (get_setO (by decide) j0 _))) rfl ?_
              conv=>whnf
              repeat' (first|((first|refine zs1 ?_|refine zs2 ?_|refine zs3 ?_|refine zs4 ?_|refine zs5 ?_);conv=>whnf)|((first|apply zi1|apply zi2|apply zi3|apply zi4|apply zi5) <;> intro _ <;> conv=>whnf))
              refine RFin.on (get_outNe (by decide) (get_outNe (fun e=>hm3 e.symm) (get_outNe (fun e=>by cases e) (outW_get _ _ _ _)))) ?_
              refine VOut.upd (upF mI c.length S m (.cells true [.gl g.fresh 1 l'.length])) [.flat true (l'.flatMap encI)] [0] 1 ?_ (upF_ok kmi jm j0) ?_ ?_ ?_ ?_ ?_
              · rfl
              · decide
              · rfl
              · intro k' b' hk'
                cases k' with
                | zero=>rw [List.getElem?_cons_zero,Option.some.injEq] at hk';subst hk';exact ⟨0,rfl,rfl⟩
                | succ k'=>simp at hk'
              · intro σ x hx;exact hx
              · have e1 : (Blk.cells true [V.gl g.fresh 1 l'.length]).ren (backR g.loc.length [0] 1) = .cells true [.gl (.loc 0) 1 l'.length]:=by simp [Blk.ren,V.ren,backR,Hp.fresh]
                simp only [upF,List.map_cons,List.map_nil,e1]
                exact outer_fix3 (get_out hlp []) (fun e=>by cases e) (fun e=>hm3 e.symm) (by decide)
          · rw [if_neg hgo,← hl0]
            refine ⟨g,?_,⟨jo,⟨m,hm,j0,jm⟩,j2⟩,hlp⟩
            have hgo2 : q ∈ Mk ∨ bat (marks c) q = false:=by
              by_cases hqM : q ∈ Mk
              · exact .inl hqM
              · right
                cases hb : bat (marks c) q with
                | false=>rfl
                | true=>exact absurd ⟨hqM,hb⟩ hgo
            rcases hgo2 with hb|hb
            all_goals (
              first|rw [decide_eq_true hb] at hqm|rw [hb] at cSq
              refine VRound.vy' hlp rfl rfl rfl g.grows_refl fun l0=>?_
              refine VRound.tell [(2,.ptr (.out (.out mC)) 0),(4,.fp [.func (.func 130) [] []]),(5,.fp [dints c]),(21,I q)] ?_ ?_
              · conv=>whnf
                refine Retell.turn ⟨[],0,[],[]⟩ (TurnOk.mk' _ _ [] [] (OutOk.lift _) rfl (by decide) zb trivial trivial rfl) zw zm
              · conv=>whnf
                repeat (first|((first|refine zs1 ?_|refine zs2 ?_|refine zs3 ?_|refine zs4 ?_|refine zs5 ?_|refine zs6 [] ?_);conv=>whnf))
                refine VBegin.intro (get_out hlp _) rfl ?_
                conv=>whnf
                refine zs6 [] ?_
                conv=>whnf
                repeat' (first|((first|refine zs1 ?_|refine zs2 ?_|refine zs3 ?_|refine zs4 ?_|refine zs5 ?_);conv=>whnf)|((first|apply zi1|apply zi2|apply zi3|apply zi4|apply zi5) <;> intro _ <;> conv=>whnf)|(refine VLd.cell rfl rfl (get_setO (hno _ _) kmc _) rfl ?_;conv=>whnf)|(refine VLd.recc encB_len q 0 rfl rfl (get_setO (hno _ _) kmi _) hqm (by decide) rfl (ofs _) ?_;conv=>whnf)|(refine VAny.ix encI_len q rfl rfl hx ?_;conv=>whnf)|(refine VCall.intro (cSq _) ?_;conv=>whnf))
                all_goals first
                  | exact RFin.on (outW_get _ _ _ _) (VOut.back (get_out hlp []) rfl)
                  | contradiction
                  | skip)
        · rintro ⟨go,gl⟩ ⟨jo,⟨m,hm,j0,jm⟩,j2⟩ hlp
          dsimp only at jo
          subst jo
          rw [← hR] at j0 jm ⊢
          have hlR : M.length ≤ R.length:=by
            have:=hMI 4 (by omega)
            rw [← hR] at this
            have:=this.len
            omega
          have hol2:=ownF_len own hlR
          generalize ownF own M R = l at j0 jm hol2 hgrow ⊢
          have j0 : gl[0]? = some _:=j0
          have jm : gl[m]? = some _:=jm
          have j2 : gl[2]? = some _:=j2
          have l0:=(List.getElem?_eq_some_iff.1 j0).1
          have lm:=(List.getElem?_eq_some_iff.1 jm).1
          have key : ∀ (x : Nat) (A : Blk),x ≠ 3 → (gl.set 3 A)[x]? = gl[x]?:=fun x A hx=>List.getElem?_set_ne (Ne.symm hx)
          have hmn : ([0,m] : List Nat).Nodup:=by simp;omega
          have hm4 : 2 ∉ ([0,m] : List Nat):=by simp;omega
          refine Told.mk [(8,.ptr (.loc 0) 0)] [.cells true [.gl (.loc 1) 1 l.length],.flat true (l.flatMap encI)] (marks':=[]) ?_ ?_
          · conv=>whnf
            refine Retell.turn ⟨[0,m],gl.length,[],[]⟩ (TurnOk.mk' _ _ [] [] OutOk.oF (Nat.ble_eq_true_of_le (by simp)) hmn (BTos.cells (blt_of l0) ((key 0 _ (by decide)).trans j0) rfl zw (BTos.flat (blt_of lm) ((key m _ (by omega)).trans jm) rfl BTos.nil)) trivial trivial rfl) zw (MkTo.drop hm4 ((key 2 _ (by decide)).trans j2) MkTo.nil)
          · conv=>whnf
            repeat' (first|((first|refine zs1 ?_|refine zs2 ?_|refine zs3 ?_|refine zs4 ?_|refine zs5 ?_);conv=>whnf)|((first|apply zi1|apply zi2|apply zi3|apply zi4|apply zi5) <;> intro _ <;> conv=>whnf))
            refine VOut.upd [(mI,.flat true ((metB c.length R).flatMap encB)),(oI,.dead)] [.flat true (l.flatMap encI)] [1] 2 ?_ ?_ ?_ ?_ ?_ ?_ ?_
            · rfl
            · intro e he
              simp only [List.mem_cons,List.not_mem_nil,or_false] at he
              rcases he with rfl|rfl <;> simp only
              · rw [h7.mi];simp
              · rw [h8];simp
            · decide
            · rfl
            · intro k' b' hk'
              cases k' with
              | zero=>rw [List.getElem?_cons_zero,Option.some.injEq] at hk';subst hk';exact ⟨1,rfl,rfl⟩
              | succ k'=>simp at hk'
            · intro σ x hx
              have : (V.gl h.fresh 1 l.length).ren (backR h.loc.length [1] 2) = .gl (.loc 1) 1 l.length:=by simp [V.ren,backR,Hp.fresh]
              rw [this];exact hx
            · rfl
end Go.Proofs.YtkbbfeljlepgoaaGreat

